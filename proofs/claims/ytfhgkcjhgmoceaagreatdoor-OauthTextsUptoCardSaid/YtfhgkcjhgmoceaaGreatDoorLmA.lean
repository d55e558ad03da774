import Derived.WalkKit
import Derived.WalkSpells
import Derived.WalkLawsBesides
import Derived.Recover
import Derived.Lib.Strings
import Derived.Lib.AppendStr
import Derived.Lib.ConvBytes
import Derived.Orders
import Derived.Lib.UnsafeStr
import Derived.Lib.Builder
import Derived.Laws.Externs
import Derived.Laws.IdiomRangeMap
import Derived.Lib.FrozenHead
set_option linter.all false
namespace Go.Lk
open Go.RowKit
section
/-- The number of the nil function. -/
def NF : Nat := 4294967295
/-- A function by its number, or nil. -/
def fnV (f : Nat) (us vs : List Value) : Value := match Nat.beq f NF with
  | true => .nilFunc
  | false => .func (.func f) (List.toArray us) (List.toArray vs)
theorem fnV_one (f : Nat) (us vs : List Value) : (fnV f us vs).oneCell' = true := by unfold fnV; split <;> rfl
theorem fnV_f {f : Nat} (h : Nat.beq f NF = false) (us vs : List Value) : fnV f us vs = .func (.func f) (List.toArray us) (List.toArray vs) := by unfold fnV; rw [h]
inductive D where
  | int (k : IntKind) (n : Int)
  | bool (b : Bool)
  | str (s : List UInt8)
  | sl (T n : Nat) (l : List (List D))
  | val (v : Value)
  | fn (n : Nat)

/-- The value v reads, in the world w, as_ the datum d; no block of its reading is in O. -/
def RD (w : World) (O : Nat → Prop) : D → Value → Prop
  | .int k n, v => v = .int k n
  | .bool b, v => v = .bool b
  | .str s, v => v = .string ⟨s.toArray⟩
  | .val u, v => v = u ∧ u.oneCell' = true
  | .fn n, v => v = fnV n [] []
  | .sl T n l, v => ((∃ p : Option Addr, v = .slice p 0 0) ∧ l = []) ∨ ∃ b off cap cs, ∃ fr : TypeId × (Nat × Nat), v = .slice (some ⟨b, off, none⟩) l.length cap ∧ l.length ≤ cap ∧ cap ≤ maxLen ∧
      ¬ O b ∧ w.heap[b]? = some (.cells cs fr.1 fr.2) ∧ off + cap * n ≤ cs.size ∧ RDl n l (cs.toList.drop off)
where
  RDs : List D → List Value → Prop
  | [], vs => vs = []
  | d :: ds, vs => ∃ v vs', vs = v :: vs' ∧ RD w O d v ∧ RDs ds vs'
  RDl (n : Nat) : List (List D) → List Value → Prop
  | [], _ => True
  | x :: xs, cs => RDs x (cs.take n) ∧ RDl n xs (cs.drop n)

abbrev RDs (w : World) (O : Nat → Prop) (ds : List D) (vs : List Value) : Prop := RD.RDs w O ds vs
abbrev RDl (w : World) (O : Nat → Prop) (n : Nat) (l : List (List D)) (vs : List Value) : Prop := RD.RDl w O n l vs

section
variable {w w' : World} {O O' : Nat → Prop}
mutual
theorem RD.keep (h : ∀ b, b < w.heap.size → ¬ O b → w'.heap[b]? = w.heap[b]? ∧ ¬ O' b) : ∀ (d : D) (v : Value), RD w O d v → RD w' O' d v
  | .int k n, v, r => by simpa [RD] using r
  | .bool b, v, r => by simpa [RD] using r
  | .str s, v, r => by simpa [RD] using r
  | .val u, v, r => by simpa [RD] using r
  | .fn n, v, r => by simpa [RD] using r
  | .sl T n l, v, r => by
    rw [RD] at r ⊢
    rcases r with r | ⟨b, off, cap, cs, fr, h1, h2, h3, h4, h5, h6, h7⟩
    · exact .inl r
    · have hb : b < w.heap.size := by
        rcases Nat.lt_or_ge b w.heap.size with hb | hb
        · exact hb
        · simp [Array.getElem?_eq_none hb] at h5
      obtain ⟨k1, k2⟩ := h b hb h4
      exact .inr ⟨b, off, cap, cs, fr, h1, h2, h3, k2, k1.trans h5, h6, RDl.keep h n l _ h7⟩
theorem RDs.keep (h : ∀ b, b < w.heap.size → ¬ O b → w'.heap[b]? = w.heap[b]? ∧ ¬ O' b) : ∀ (ds : List D) (vs : List Value), RDs w O ds vs → RDs w' O' ds vs
  | [], vs, r => r
  | d :: ds, vs, r => by
    obtain ⟨v, vs', h1, h2, h3⟩ := r
    exact ⟨v, vs', h1, RD.keep h d v h2, RDs.keep h ds vs' h3⟩
theorem RDl.keep (h : ∀ b, b < w.heap.size → ¬ O b → w'.heap[b]? = w.heap[b]? ∧ ¬ O' b) : ∀ (n : Nat) (l : List (List D)) (vs : List Value), RDl w O n l vs → RDl w' O' n l vs
  | _, [], _, _ => trivial
  | n, x :: xs, _, r => ⟨RDs.keep h x _ r.1, RDl.keep h n xs _ r.2⟩
end
end

mutual
theorem RD.one {w : World} {O : Nat → Prop} : ∀ (d : D) (v : Value), RD w O d v → v.oneCell' = true
  | .int k n, v, r => by simp only [RD] at r; subst r; rfl
  | .bool b, v, r => by simp only [RD] at r; subst r; rfl
  | .str s, v, r => by simp only [RD] at r; subst r; rfl
  | .val u, v, r => by simp only [RD] at r; rw [r.1]; exact r.2
  | .fn n, v, r => by simp only [RD] at r; rw [r]; exact fnV_one _ _ _
  | .sl T n l, v, r => by
    rw [RD] at r
    rcases r with ⟨⟨_, r⟩, _⟩ | ⟨b, off, cap, cs, fr, h1, _⟩ <;> simp_all [Value.oneCell']
theorem RDs.one {w : World} {O : Nat → Prop} : ∀ (ds : List D) (vs : List Value), RDs w O ds vs → ∀ v ∈ vs, v.oneCell' = true
  | [], vs, r => by simp only [RDs, RD.RDs] at r; subst r; simp
  | d :: ds, vs, r => by
    obtain ⟨v, vs', h1, h2, h3⟩ := r
    subst h1
    intro u hu
    rcases List.mem_cons.1 hu with rfl | hu
    · exact RD.one d _ h2
    · exact RDs.one ds vs' h3 u hu
end
/-- What was there and is not in F stands as_ it stood. -/
structure Ext (F : Nat → Prop) (w w' : World) : Prop where
  os : w'.os = w.os
  tape : w'.tape = w.tape
  output : w'.output = w.output
  size : w.heap.size ≤ w'.heap.size
  block : ∀ b, b < w.heap.size → ¬ F b → w'.heap[b]? = w.heap[b]?
def Nowhere : Nat → Prop := fun _ => False
def At (b : Nat) : Nat → Prop := fun x => x = b
/-- O and b besides. -/
def Ins (O : Nat → Prop) (b : Nat) : Nat → Prop := fun x => x = b ∨ O x

theorem World.heap_alloc_old' (w : World) (o : Obj) (i : Nat) (h : i < w.heap.size) : (w.alloc o).heap[i]? = w.heap[i]? := by
  show (w.heap.push o)[i]? = _
  rw [Array.getElem?_push, if_neg (by omega)]
theorem Ext.refl (F : Nat → Prop) (w : World) : Ext F w w := ⟨rfl, rfl, rfl, Nat.le_refl _, fun _ _ _ => rfl⟩
theorem Ext.mono {F G : Nat → Prop} {w w' : World} (h : Ext F w w') (hf : ∀ x, x < w.heap.size → F x → G x) : Ext G w w' :=
  ⟨h.os, h.tape, h.output, h.size, fun b hb hg => h.block b hb fun hx => hg (hf b hb hx)⟩
theorem Ext.trans {F : Nat → Prop} {a b c : World} (h : Ext F a b) (k : Ext F b c) : Ext F a c :=
  ⟨k.os.trans h.os, k.tape.trans h.tape, k.output.trans h.output, Nat.le_trans h.size k.size, fun i hi hf =>
    (k.block i (Nat.lt_of_lt_of_le hi h.size) hf).trans (h.block i hi hf)⟩
/-- One step more, which turns G: what of G was there at the beginning is in F. -/
theorem Ext.step {F G : Nat → Prop} {a b c : World} (h : Ext F a b) (k : Ext G b c) (hg : ∀ x, x < a.heap.size → G x → F x) : Ext F a c :=
  ⟨k.os.trans h.os, k.tape.trans h.tape, k.output.trans h.output, Nat.le_trans h.size k.size, fun i hi hf =>
    (k.block i (Nat.lt_of_lt_of_le hi h.size) fun hx => hf (hg i hi hx)).trans (h.block i hi hf)⟩
theorem Ext.of_below {w w' : World} (h : Below w.heap.size w w') : Ext Nowhere w w' := ⟨h.os, h.tape, h.output, h.size, fun k hk _ => h.block k hk⟩
theorem Ext.drew (F : Nat → Prop) (w : World) : Ext F w w.drew := ⟨rfl, rfl, rfl, Nat.le_refl _, fun _ _ _ => rfl⟩
theorem Ext.alloc (F : Nat → Prop) (w : World) (o : Obj) : Ext F w (w.alloc o) := ⟨rfl, rfl, rfl, by simp, fun k hk _ => World.heap_alloc_old' w o k hk⟩
theorem Ext.setCell (w : World) (a : Addr) (v : Value) : Ext (At a.block) w (w.setCell a v) :=
  ⟨rfl, rfl, rfl, by simp, fun k _ hf => heap_setCell_other w a k v (fun e => hf e)⟩

/-- From (w, O) to (w', O'): what is read apart from O reads as_ it did, apart from O'; what is new in O' was not there. -/
structure Tr (O : Nat → Prop) (w : World) (O' : Nat → Prop) (w' : World) : Prop where
  size : w.heap.size ≤ w'.heap.size
  block : ∀ b, b < w.heap.size → ¬ O b → w'.heap[b]? = w.heap[b]?
  owned : ∀ b, b < w.heap.size → ¬ O b → ¬ O' b

theorem Tr.refl (O : Nat → Prop) (w : World) : Tr O w O w := ⟨Nat.le_refl _, fun _ _ _ => rfl, fun _ _ h => h⟩
theorem Tr.trans {O1 O2 O3 : Nat → Prop} {a b c : World} (h : Tr O1 a O2 b) (k : Tr O2 b O3 c) : Tr O1 a O3 c :=
  ⟨Nat.le_trans h.size k.size, fun i hi ho => (k.block i (Nat.lt_of_lt_of_le hi h.size) (h.owned i hi ho)).trans (h.block i hi ho),
    fun i hi ho => k.owned i (Nat.lt_of_lt_of_le hi h.size) (h.owned i hi ho)⟩
theorem Tr.of_ext {F O : Nat → Prop} {w w' : World} (h : Ext F w w') (hf : ∀ x, x < w.heap.size → F x → O x) : Tr O w O w' :=
  ⟨h.size, fun b hb ho => h.block b hb fun hx => ho (hf b hb hx), fun _ _ ho => ho⟩
/-- A step that turns F, which is O's, and makes a block that is O's from now on. -/
theorem Tr.of_new {F O : Nat → Prop} {w w' : World} {b : Nat} (h : Ext F w w') (hf : ∀ x, x < w.heap.size → F x → O x) (hb : w.heap.size ≤ b) : Tr O w (Ins O b) w' :=
  ⟨h.size, fun c hc ho => h.block c hc fun hx => ho (hf c hc hx), fun c hc ho => by rintro (rfl | h') <;> first | omega | exact ho h'⟩
/-- What is owned no longer is data. -/
theorem Tr.drop {O O' : Nat → Prop} (w : World) (h : ∀ x, O' x → O x) : Tr O w O' w := ⟨Nat.le_refl _, fun _ _ _ => rfl, fun b _ ho h' => ho (h b h')⟩
theorem RD.tr {O O' : Nat → Prop} {w w' : World} {d : D} {v : Value} (h : RD w O d v) (t : Tr O w O' w') : RD w' O' d v :=
  RD.keep (fun b hb ho => ⟨t.block b hb ho, t.owned b hb ho⟩) d v h
theorem RDs.tr {O O' : Nat → Prop} {w w' : World} {d : List D} {v : List Value} (h : RDs w O d v) (t : Tr O w O' w') : RDs w' O' d v :=
  RDs.keep (fun b hb ho => ⟨t.block b hb ho, t.owned b hb ho⟩) d v h

/-- Block b holds these cells, of element type T, none of them frozen. -/
def BoxAt (w : World) (b : Nat) (T : TypeId) (cs : List Value) : Prop := w.heap[b]? = some (.cells cs.toArray T (0, 0))
theorem BoxAt.lt {w : World} {b : Nat} {T : TypeId} {cs : List Value} (h : BoxAt w b T cs) : b < w.heap.size := by
  rcases Nat.lt_or_ge b w.heap.size with hb | hb
  · exact hb
  · simp [BoxAt, Array.getElem?_eq_none hb] at h
theorem BoxAt.keep {F : Nat → Prop} {w w' : World} {b : Nat} {T : TypeId} {cs : List Value} (h : BoxAt w b T cs) (k : Ext F w w') (hf : ¬ F b) : BoxAt w' b T cs :=
  (k.block b h.lt hf).trans h
theorem BoxAt.cell {w : World} {b : Nat} {T : TypeId} {cs : List Value} (h : BoxAt w b T cs) (j : Nat) : w.cell? ⟨b, j, none⟩ = cs[j]? := by
  rw [cell_of_row w b j cs.toArray T (0, 0) h]; simp
theorem BoxAt.new (w : World) (T : TypeId) (cs : List Value) : BoxAt (w.alloc (.cells cs.toArray T)) w.heap.size T cs := heap_alloc_new w _
end
section
abbrev Env := List (Nat × Value)
def Env.get : Env → Nat → Option Value
  | [], _ => none
  | (s, v) :: r, t => match Nat.beq s t with
    | true => some v
    | false => Env.get r t

/-- The slots that L names hold what L says. -/
structure Has (n : Nat) (L : Env) (a : Act) : Prop where
  size : a.tmps.size = n
  get : ∀ t v, Env.get L t = some v → a.tmps[t]? = some v

theorem Has.put {n d : Nat} {L : Env} {a : Act} {v : Value} (h : Has n L a) (hd : d < n) : Has n ((d, v) :: L) (a.put (some d) v) := by
  refine ⟨by simp [Act.put, h.size], fun t u hu => ?_⟩
  simp only [Act.put]
  unfold Env.get at hu
  split at hu
  · rename_i e
    have e := Nat.eq_of_beq_eq_true e
    subst e
    cases hu
    simp [h.size, hd]
  · rename_i e
    have e := Nat.ne_of_beq_eq_false e
    rw [Array.getElem?_setIfInBounds_ne e]
    exact h.get t u hu
theorem Has.same {n : Nat} {L : Env} {a : Act} {v : Value} (h : Has n L a) : Has n L (a.put none v) := h
def ev (L : Env) : Operand → Option Value
  | .tmp t => Env.get L t
  | .const v => some v
  | .global g => some (.pointer (some ⟨g, 0, none⟩))
  | .func f => some (.func (.func f) #[] #[])
def evs (L : Env) : List Operand → Option (List Value)
  | [] => some []
  | x :: xs => match ev L x, evs L xs with
    | some v, some vs => some (v :: vs)
    | _, _ => none
theorem Has.ev {n : Nat} {L : Env} {a : Act} (h : Has n L a) {x : Operand} {v : Value} (e : ev L x = some v) : a.eval x = v := by
  cases x with
  | tmp t => simp only [Lk.ev] at e; simp [Act.eval, h.get t v e]
  | const u => simpa [Lk.ev, Act.eval] using e
  | global g => simpa [Lk.ev, Act.eval] using e
  | func f => simpa [Lk.ev, Act.eval] using e
theorem Has.evs {n : Nat} {L : Env} {a : Act} (h : Has n L a) : ∀ {xs : List Operand} {vs : List Value}, evs L xs = some vs → xs.map a.eval = vs
  | [], vs, e => by simp [Lk.evs] at e; subst e; rfl
  | x :: xs, vs, e => by
    simp only [Lk.evs] at e
    split at e
    · rename_i v vs' h1 h2
      cases e
      simp [h.ev h1, h.evs h2]
    · cases e

/-- What a walk is about: the program, the function's number, its row, and what is to be shown of its end. -/
structure Cx where
  P : Program
  f : FuncId
  fn : Func
  R : Ending → World → Prop
  hf : P.funcs[f]? = some fn
  dfr : Bool := false     -- a deferred call
  lv : Bool := false      -- what it has deferred is run behind a panic

def base (C : Cx) : Frame := { (default : Frame) with fn := C.f, kind := match C.dfr with | true => .deferred | false => .normal }
def leave (C : Cx) (fr : Frame) (w : World) (e : Ending) : Prop := match C.dfr with
  | true => fr.kind = .deferred ∧ fr.going C.P w e
  | false => fr.leaving C.P w e
theorem leave_ret {C : Cx} {fr : Frame} {w : World} {v : Value} (hk : fr.kind = (base C).kind) (h1 : fr.mode = .returning) (h2 : fr.defers = []) (hf : fr.fn = C.f) (hr : (results C.fn fr.tmps).run C.P w = .ok v w) : leave C fr w (.returned v) := by
  unfold leave
  unfold base at hk
  cases hd : C.dfr <;> simp only [hd] at hk ⊢
  · exact ⟨h1, h2, hk, C.fn, hf ▸ C.hf, hr⟩
  · exact ⟨hk, h1, h2, C.fn, hf ▸ C.hf, hr⟩
theorem leave_pan {C : Cx} {fr : Frame} {w : World} {ch : List PanicEntry} (hk : fr.kind = (base C).kind) (h1 : fr.mode = .panicking ch) (h2 : fr.defers = []) (hf : fr.fn = C.f) : leave C fr w (.panicked ch) := by
  unfold leave
  unfold base at hk
  cases hd : C.dfr <;> simp only [hd] at hk ⊢
  · exact ⟨h1, h2, C.fn, hf ▸ C.hf⟩
  · exact ⟨hk, h1, h2, C.fn, hf ▸ C.hf⟩

/-- From this machine the function comes to an end as_ it should. -/
def Goes (C : Cx) (cs : List Frame) (m : Machine) : Prop :=
  ∃ e w' fr, C.R e w' ∧ Comes C.P m (lone fr cs w') e ∧ fr.fn = C.f ∧ leave C fr w' e
theorem Goes.of_steps {C : Cx} {cs : List Frame} {m m' : Machine} (s : Steps C.P m m') (h : Goes C cs m') : Goes C cs m := by
  obtain ⟨e, w', fr, h1, h2, h3⟩ := h
  exact ⟨e, w', fr, h1, h2.of_steps s, h3⟩

def TWa (C : Cx) (todo : List Item) (a : Act) (w : World) : Prop := ∀ cs, Goes C cs (lone ((base C).at a todo) cs w)
def TW (C : Cx) (n : Nat) (ds : List Deferred) (todo : List Item) (L : Env) (w : World) : Prop := ∀ a, Has n L a → a.defers = ds → TWa C todo a w

section
variable {C : Cx} {n : Nat} {ds : List Deferred} {k : List Item} {L : Env} {w : World}
theorem TW.skip (h : TW C n ds k L w) : TW C n ds (.code .skip :: k) L w := fun a ha hd cs => (h a ha hd cs).of_steps (.one step_skip)
theorem TW.label {l : Nat} (h : TW C n ds k L w) : TW C n ds (.code (.label l) :: k) L w := fun a ha hd cs => (h a ha hd cs).of_steps (.one step_label)
theorem TW.inBlock {i : Nat} (h : TW C n ds k L w) : TW C n ds (.inBlock i :: k) L w := fun a ha hd cs => (h a ha hd cs).of_steps (.one step_inBlock)
theorem TW.seq {x y : Code} (h : TW C n ds (.code x :: .code y :: k) L w) : TW C n ds (.code (.seq x y) :: k) L w := fun a ha hd cs => (h a ha hd cs).of_steps (.one step_seq)
theorem TW.block {i : Nat} {x : Code} (h : TW C n ds (.code x :: .inBlock i :: k) L w) : TW C n ds (.code (.block i x) :: k) L w := fun a ha hd cs => (h a ha hd cs).of_steps (.one step_block)
theorem TW.loop {x : Code} (h : TW C n ds (.code x :: .inLoop x :: k) L w) : TW C n ds (.code (.loop x) :: k) L w := fun a ha hd cs => (h a ha hd cs).of_steps (.one step_loop)
theorem TW.inLoop {x : Code} (h : TW C n ds (.code x :: .inLoop x :: k) L w) : TW C n ds (.inLoop x :: k) L w := fun a ha hd cs => (h a ha hd cs).of_steps (.one step_inLoop)
theorem TW.exit {i : Nat} {k' : List Item} (he : exitTo i k = some k') (h : TW C n ds k' L w) : TW C n ds (.code (.exit i) :: k) L w := fun a ha hd cs => (h a ha hd cs).of_steps (.one (step_exit he))
theorem TW.cond {c : Operand} {x y : Code} {b : Bool} (hc : ev L c = some (.bool b)) (ht : b = true → TW C n ds (.code x :: k) L w) (hf : b = false → TW C n ds (.code y :: k) L w) :
    TW C n ds (.code (.cond c x y) :: k) L w := fun a ha hd cs => by
  have s := step_cond (P := C.P) (b := base C) (a := a) (k := k) (cs := cs) (w := w) (x := x) (y := y) (ha.ev hc)
  cases b with
  | true => exact (ht rfl a ha hd cs).of_steps (.one s)
  | false => exact (hf rfl a ha hd cs).of_steps (.one s)
/-- The function's results, read. -/
def Out (C : Cx) (n : Nat) (L : Env) (w : World) (v : Value) : Prop := ∀ a, Has n L a → (results C.fn a.tmps).run C.P w = .ok v w
theorem TW.ret {v : Value} (hr : Out C n L w v) (h : C.R (.returned v) w) : TW C n [] (.code .ret :: k) L w := fun a ha hd _ =>
  ⟨.returned v, w, _, h, .one step_ret, rfl, leave_ret rfl rfl hd rfl (hr a ha)⟩
theorem TW.fin {v : Value} (hr : Out C n L w v) (h : C.R (.returned v) w) : TW C n [] [] L w := fun a ha hd _ =>
  ⟨.returned v, w, _, h, .one step_end, rfl, leave_ret rfl rfl hd rfl (hr a ha)⟩
/-- What is to be shown where a panic goes through. -/
def PN (C : Cx) (a : Act) (ch : List PanicEntry) (w : World) : Prop := match C.lv, C.dfr with
  | true, false => Leaves C.P C.fn a.tmps C.R a.defers (.panicking ch) w
  | _, _ => a.defers = [] ∧ C.R (.panicked ch) w
theorem PN.nil {C : Cx} {a : Act} {ch : List PanicEntry} {w : World} (hd : a.defers = []) (h : C.R (.panicked ch) w) : PN C a ch w := by
  unfold PN
  split
  · rw [hd]; exact h
  · exact ⟨hd, h⟩
/-- What a region's operations lead to. -/
def QT (C : Cx) (ds : List Deferred) (K : Act → World → Prop) : Exit → Act → World → Prop
  | .normal, a, w => a.defers = ds ∧ K a w
  | .panic ch, a, w => PN C a ch w
  | _, _, _ => False
/-- The operations 'rest' of a region are still to be done. -/
def OW (C : Cx) (n : Nat) (ds : List Deferred) (ops : Array Oper) (rest : List Oper) (k : Act → World → Prop) (L : Env) (w : World) : Prop :=
  ∀ a, Has n L a → a.defers = ds → wpList C.P ops (QT C ds k) rest a w

theorem twa_of_ops {ops : Array Oper} {l : List Nat} {a : Act} (h : wpOps C.P ops (QT C ds (TWa C k)) l a w) (cs : List Frame) :
    Goes C cs (lone ((base C).at a (.inRegion ops l :: k)) cs w) := by
  obtain ⟨e, a', w', hq, harr⟩ := wp_ops l a w h (base C) k cs
  cases e with
  | normal => exact (hq.2 cs).of_steps harr
  | panic ch =>
    obtain ⟨todo, hs⟩ := harr
    have hq : PN C a' ch w' := hq
    unfold PN at hq
    split at hq
    · rename_i hl hN
      obtain ⟨e, w2, fr, h1, h2, h3, h4⟩ := leaves_steps a'.defers (.panicking ch) w' { (base C).at a' todo with mode := .panicking ch } cs rfl rfl rfl C.hf (by simp [base, hN, Frame.at]) hq
      exact ⟨e, w2, fr, h1, Comes.of_steps hs h2, h3, by unfold leave; rw [hN]; exact h4⟩
    · exact ⟨.panicked ch, w', _, hq.2, hs, rfl, leave_pan rfl rfl hq.1 rfl⟩
  | exit _ => exact hq.elim
  | goto _ => exact hq.elim
  | ret => exact hq.elim
  | outgrown => exact hq.elim
theorem TW.region {id : Nat} {l : List Oper} (h : OW C n ds l.toArray l (TWa C k) L w) : TW C n ds (.code (.region id l.toArray false) :: k) L w := fun a ha hd cs => by
  have h' := h a ha hd
  have h2 : wpOps C.P l.toArray (QT C ds (TWa C k)) (List.range l.toArray.size) a w := by
    rw [List.range_eq_range', ← Array.length_toList, wpOps_eq_wpList l.toArray.toList 0 (by simp)]; exact h'
  exact (twa_of_ops h2 cs).of_steps (.one step_region)
theorem OW.done {ops : Array Oper} (h : TW C n ds k L w) : OW C n ds ops [] (TWa C k) L w := fun a ha hd => ⟨hd, h a ha hd⟩
end
section
variable {C : Cx} {n : Nat} {ds : List Deferred} {k : Act → World → Prop} {L : Env} {w : World}
theorem OW.fin {ops : Array Oper} (h : ∀ a, Has n L a → a.defers = ds → k a w) : OW C n ds ops [] k L w := fun a ha hd => ⟨hd, h a ha hd⟩
/-- The operation gives the value v, and turns nothing. -/
def EX (C : Cx) (n : Nat) (L : Env) (w : World) (o : Oper) (v : Value) : Prop := ∀ a, Has n L a → (execOp a.eval o).run C.P w = .ok (.value v) w

/-- An operation that gives a value. -/
theorem OW.val {ops : Array Oper} {o : Oper} {rest : List Oper} {d : Nat} {v : Value} {w' : World} (hg : o.guard = none) (hd : o.dst = some d) (hn : Nat.blt d n = true)
    (hr : ∀ a, Has n L a → (execOp a.eval o).run C.P w = .ok (.value v) w') (h : OW C n ds ops rest k ((d, v) :: L) w') : OW C n ds ops (o :: rest) k L w := fun a ha hds =>
  wpList_plain hg fun K hK => by
    unfold Oper.wp
    rw [hr a ha, Oper.upon_value, hd]
    exact hK _ _ (h _ (ha.put (by simpa [Nat.blt_eq] using hn)) (by simpa [Act.put] using hds))
/-- An operation that gives none (a store). -/
theorem OW.unit {ops : Array Oper} {o : Oper} {rest : List Oper} {w' : World} (hg : o.guard = none) (hd : o.dst = none)
    (hr : ∀ a, Has n L a → (execOp a.eval o).run C.P w = .ok .skip w') (h : OW C n ds ops rest k L w') : OW C n ds ops (o :: rest) k L w := fun a ha hds =>
  wpList_plain hg fun K hK => by
    unfold Oper.wp
    rw [hr a ha, Oper.upon_skip, hd]
    exact hK _ _ (h _ ha.same (by simpa [Act.put] using hds))
/-- A panic of the text's own. -/
theorem OW.pan {ops : Array Oper} {o : Oper} {rest : List Oper} {v : Value} {w' : World} (hg : o.guard = none)
    (hr : ∀ a, Has n L a → (execOp a.eval o).run C.P w = .halt (.panic v) w') (h : C.R (.panicked [{ v, recovered := false }]) w') : OW C n [] ops (o :: rest) k L w := fun a ha hds =>
  wpList_plain hg fun K hK => by
    unfold Oper.wp
    rw [hr a ha, Oper.upon_panic]
    exact PN.nil hds h
/-- An operation whose guard says yes: as_ if it had none. -/
theorem OW.yes {ops : Array Oper} {o : Oper} {rest : List Oper} {j s : Nat} {b : Bool} (hg : o.guard = some (j, b)) (hj : (ops[j]?).bind (·.dst) = some s) (hs : Env.get L s = some (.bool b))
    (h : OW C n ds ops ({ o with guard := none } :: rest) k L w) : OW C n ds ops (o :: rest) k L w := fun a ha hds => by
  have h' := h a ha hds
  have hw : Region.wanted o (yielded ops a.tmps) = true := by
    simp [Region.wanted, hg, yielded, hj, ha.get s _ hs]
  unfold wpList at h' ⊢
  rw [if_pos (by simp [Region.wanted])] at h'
  rw [if_pos hw]
  exact h'
def dOk (n : Nat) : Option Nat → Bool
  | some d => Nat.blt d n
  | none => true
/-- What a call leads to. -/
def CallK (C : Cx) (n : Nat) (ds : List Deferred) (ops : Array Oper) (rest : List Oper) (k : Act → World → Prop) (L : Env) (d : Option Nat) : Ending → World → Prop
  | .returned v, w => OW C n ds ops rest k (match d with | some d => (d, v) :: L | none => L) w
  | .panicked ch, w => ∀ a, Has n L a → a.defers = ds → PN C a ch w
  | .outgrown, _ => False
theorem OW.enter {ops : Array Oper} {o : Oper} {rest : List Oper} {d : Option Nat} {g : FuncId} {args : Array Value} {w' : World} (hg : o.guard = none) (hd : o.dst = d) (hn : dOk n d = true)
    (hr : ∀ a, Has n L a → (execOp a.eval o).run C.P w = .ok (.enter g args) w') (h : Calls C.P g args w' (CallK C n ds ops rest k L d)) : OW C n ds ops (o :: rest) k L w := fun a ha hds =>
  wpList_plain hg fun K hK => by
    unfold Oper.wp
    rw [hr a ha, Oper.upon_enter]
    refine h.mono fun e w2 he => ?_
    cases e with
    | returned v =>
      refine hK _ _ ?_
      subst hd
      cases hdst : o.dst with
      | none => rw [hdst] at he; exact he _ ha.same (by simpa [Act.put] using hds)
      | some d => rw [hdst] at he hn; exact he _ (ha.put (by simpa [dOk, Nat.blt_eq] using hn)) (by simpa [Act.put] using hds)
    | panicked ch => exact he a ha hds
    | outgrown => exact he.elim
end

theorem calls_of_twD {P : Program} {f : FuncId} {fn : Func} {c : Code} {args : List Value} {w : World} {R : Ending → World → Prop} (lv : Bool) (hf : P.funcs[f]? = some fn) (hb : fn.body = some c)
    (L : Env) (n : Nat) (hn : fn.ntmps = n) (hl : Nat.ble args.length n = true) (hL : ∀ t v, Env.get L t = some v → args[t]? = some v)
    (h : TW { P := P, f := f, fn := fn, R := R, hf := hf, lv := lv } n [] [.code c] L w) : Calls P f args.toArray w R := by
  intro cs
  have hl' := Nat.le_of_ble_eq_true hl
  have henter : Frame.enter P f args.toArray .normal = (base { P := P, f := f, fn := fn, R := R, hf := hf, lv := lv }).at { tmps := args.toArray ++ Array.replicate (fn.ntmps - args.toArray.size) undef, defers := [] } [.code c] := by
    simp [Frame.enter, Frame.at, hf, hb, base]
  have := h { tmps := args.toArray ++ Array.replicate (fn.ntmps - args.toArray.size) undef, defers := [] }
    ⟨by simp [hn]; omega, fun t v e => by
      have h1 := hL t v e
      have h2 : t < args.length := by
        rcases Nat.lt_or_ge t args.length with h2 | h2
        · exact h2
        · simp [List.getElem?_eq_none h2] at h1
      simp [Array.getElem?_append, h2]
      simpa [List.getElem?_eq_getElem h2] using h1⟩ rfl cs
  rw [← henter] at this
  exact this
theorem calls_of_tw {P : Program} {f : FuncId} {fn : Func} {c : Code} {args : List Value} {w : World} {R : Ending → World → Prop} (hf : P.funcs[f]? = some fn) (hb : fn.body = some c)
    (L : Env) (n : Nat) (hn : fn.ntmps = n) (hl : Nat.ble args.length n = true) (hL : ∀ t v, Env.get L t = some v → args[t]? = some v)
    (h : TW { P := P, f := f, fn := fn, R := R, hf := hf } n [] [.code c] L w) : Calls P f args.toArray w R := calls_of_twD false hf hb L n hn hl hL h
end
section
def aggD : TypeDesc → Bool
  | .struct _ | .array _ _ => true
  | _ => false
/-- Is the type one of several cells, and how many has it? -/
def shp (P : Program) (T : TypeId) : Option (Bool × Nat) :=
  match P.underlying T, P.info? T with
  | some d, some i => some (aggD d, i.size)
  | _, _ => none
/-- A field's place, and its type's form. -/
def fld (P : Program) (T : TypeId) (i : Nat) : Option (Nat × Bool × Nat) :=
  match P.underlying T with
  | some (.struct fs) => match fs[i]? with
    | some f => match shp P f.type with
      | some (b, n) => if n = 0 then none else some (f.offset, b, n)
      | none => none
    | none => none
  | _ => none
/-- A type's zero value. -/
def zer (P : Program) (T : TypeId) : Option Value := (P.info? T).bind (·.zero)

section
variable {P : Program} {w : World}
theorem run_isAgg {T : TypeId} {b : Bool} {n : Nat} (h : shp P T = some (b, n)) : (isAgg T).run P w = .ok b w ∧ (sizeOf T).run P w = .ok n w := by
  unfold shp at h
  split at h
  · rename_i d i h1 h2
    simp only [Option.some.injEq, Prod.mk.injEq] at h
    obtain ⟨rfl, rfl⟩ := h
    constructor
    · simp only [isAgg, Sem.run_bind, run_underlying h1, Result.andThen_ok]
      cases d <;> rfl
    · simp [sizeOf, typeInfo, h2]
  · cases h
theorem shp_info {T : TypeId} {b : Bool} {n : Nat} (h : shp P T = some (b, n)) : ∃ i, P.info? T = some i ∧ i.size = n := by
  unfold shp at h
  split at h
  · rename_i d i h1 h2
    simp only [Option.some.injEq, Prod.mk.injEq] at h
    exact ⟨i, h2, h.2⟩
  · cases h
theorem run_loadVar1 {T : TypeId} {n : Nat} {a : Addr} {v : Value} (h : shp P T = some (false, n)) (hc : w.cell? a = some v) : (loadVar T a).run P w = .ok v w := by
  simp only [loadVar, Sem.run_bind, (run_isAgg h).1, Result.andThen_ok]
  simp [hc]
theorem run_loadVarN {T : TypeId} {n : Nat} {b o : Nat} {cs : List Value} (h : shp P T = some (true, n)) (hn : cs.length = n) (hc : ∀ j v, cs[j]? = some v → w.cell? ⟨b, o + j, none⟩ = some v) :
    (loadVar T ⟨b, o, none⟩).run P w = .ok (.agg cs.toArray) w := by
  have hl := run_loadCells_list (P := P) (w := w) ⟨b, o, none⟩ cs (fun j v e => by rw [Addr.add_lit]; exact hc j v e)
  subst hn
  simp only [loadVar, Sem.run_bind, (run_isAgg h).1, Result.andThen_ok, (run_isAgg h).2, hl, if_true]
  rfl
theorem run_fieldAt {T : TypeId} {i k n : Nat} {g : Bool} {b o : Nat} (h : fld P T i = some (k, g, n)) : (Instr.fieldAt T (.pointer (some ⟨b, o, none⟩)) i).run P w = .ok (.pointer (some ⟨b, o + k, none⟩)) w := by
  unfold fld at h
  split at h
  · rename_i fs h1
    split at h
    · rename_i f h2
      split at h
      · rename_i g' n' h3
        split at h
        · cases h
        · rename_i hn
          simp only [Option.some.injEq, Prod.mk.injEq] at h
          obtain ⟨rfl, rfl, rfl⟩ := h
          simp only [Instr.fieldAt, Sem.run_bind, run_underlying h1, Result.andThen_ok, h2, Instr.sureAddr, Sem.run_pure, fieldPlace, (run_isAgg h3).2, if_neg hn, Addr.add_lit]
      · cases h
    · cases h
  · cases h
theorem run_field {T : TypeId} {i k n : Nat} {cs : List Value} (h : fld P T i = some (k, false, n)) {v : Value} (hv : cs[k]? = some v) : (Instr.field T (.agg cs.toArray) i).run P w = .ok v w := by
  unfold fld at h
  split at h
  · rename_i fs h1
    split at h
    · rename_i f h2
      split at h
      · rename_i g' n' h3
        split at h
        · cases h
        · rename_i hn
          simp only [Option.some.injEq, Prod.mk.injEq] at h
          obtain ⟨rfl, rfl, rfl⟩ := h
          simp only [Instr.field, Sem.run_bind, run_underlying h1, Result.andThen_ok, h2, asAgg, Sem.run_pure, part, (run_isAgg h3).1, List.getElem?_toArray, hv]
          rfl
      · cases h
    · cases h
  · cases h
theorem run_fieldN {T : TypeId} {i k n : Nat} {cs : List Value} (h : fld P T i = some (k, true, n)) : (Instr.field T (.agg cs.toArray) i).run P w = .ok (.agg ((cs.drop k).take n).toArray) w := by
  unfold fld at h
  split at h
  · rename_i fs h1
    split at h
    · rename_i f h2
      split at h
      · rename_i g' n' h3
        split at h
        · cases h
        · rename_i hn
          simp only [Option.some.injEq, Prod.mk.injEq] at h
          obtain ⟨rfl, rfl, rfl⟩ := h
          simp only [Instr.field, Sem.run_bind, run_underlying h1, Result.andThen_ok, h2, asAgg, Sem.run_pure, part, (run_isAgg h3).1, (run_isAgg h3).2, if_true]
          rw [List.extract_toArray, List.extract_eq_take_drop]
          simp
      · cases h
    · cases h
  · cases h
end

def andI (k : IntKind) (a b : Int) : Int := k.wrap (BitVec.ofInt k.bits a &&& BitVec.ofInt k.bits b).toNat
def orI (k : IntKind) (a b : Int) : Int := k.wrap (BitVec.ofInt k.bits a ||| BitVec.ofInt k.bits b).toNat
def xorI (k : IntKind) (a b : Int) : Int := k.wrap (BitVec.ofInt k.bits a ^^^ BitVec.ofInt k.bits b).toNat
def andNotI (k : IntKind) (a b : Int) : Int := k.wrap (BitVec.ofInt k.bits a &&& ~~~ BitVec.ofInt k.bits b).toNat
def shlI (k : IntKind) (a b : Int) : Int := k.wrap (a * 2 ^ (min b.toNat k.bits))
def shrI (k : IntKind) (a b : Int) : Int := a.fdiv (2 ^ (min b.toNat k.bits))
def notI (k : IntKind) (a : Int) : Int := k.wrap (BitVec.ofInt k.bits (if k.signed then -1 else k.max) ^^^ BitVec.ofInt k.bits a).toNat
/-- The operators on two integers of one kind (division apart). -/
def ibin (op : BinOp) (k : IntKind) (a b : Int) : Option Value :=
  match op with
  | .add => some (.int k (k.wrap (a + b)))
  | .sub => some (.int k (k.wrap (a - b)))
  | .mul => some (.int k (k.wrap (a * b)))
  | .and => some (.int k (andI k a b))
  | .or => some (.int k (orI k a b))
  | .xor => some (.int k (xorI k a b))
  | .andNot => some (.int k (andNotI k a b))
  | .eql => some (.bool (decide (a = b)))
  | .neq => some (.bool (!decide (a = b)))
  | .lss => some (.bool (decide (a < b)))
  | .leq => some (.bool (decide (a ≤ b)))
  | .gtr => some (.bool (decide (b < a)))
  | .geq => some (.bool (decide (b ≤ a)))
  | _ => none
def iquo (op : BinOp) (k : IntKind) (a b : Int) : Option Value :=
  match op with
  | .quo => some (.int k (k.wrap (a.tdiv b)))
  | .rem => some (.int k (a.tmod b))
  | _ => none
def ishift (op : BinOp) (k : IntKind) (a b : Int) : Option Value :=
  match op with
  | .shl => some (.int k (shlI k a b))
  | .shr => some (.int k (shrI k a b))
  | _ => none
/-- Go's order of strings. -/
def slt (a b : List UInt8) : Bool := Op.bytesLess a b
def sbin (op : BinOp) (a b : List UInt8) : Option Value :=
  match op with
  | .eql => some (.bool (decide (a = b)))
  | .neq => some (.bool (!decide (a = b)))
  | .lss => some (.bool (slt a b))
  | .leq => some (.bool (slt a b || decide (a = b)))
  | .gtr => some (.bool (!(slt a b || decide (a = b))))
  | .geq => some (.bool (!slt a b))
  | _ => none
def iun (op : UnOp) (k : IntKind) (a : Int) : Option Value :=
  match op with
  | .neg => some (.int k (k.wrap (0 - a)))
  | .xor => some (.int k (notI k a))
  | _ => none

/-- A bound of a slice expression: the number a; where there is none, e. -/
def Lo (L : Env) (lo : Option Operand) (a e : Nat) : Prop :=
  match lo with
  | none => a = e
  | some y => ∃ kd i, ev L y = some (.int kd i) ∧ i = (a : Nat)
def LoV (lo : Option Value) (a e : Nat) : Prop :=
  match lo with
  | none => a = e
  | some y => ∃ kd, y = .int kd (a : Nat)
theorem Lo.val {n : Nat} {L : Env} {ac : Act} (ha : Has n L ac) {lo : Option Operand} {a e : Nat} (h : Lo L lo a e) : LoV (lo.map ac.eval) a e := by
  cases lo with
  | none => exact h
  | some y => obtain ⟨kd, i, h1, h2⟩ := h; exact ⟨kd, by rw [ha.ev h1, h2]⟩
section
variable {C : Cx} {n : Nat} {ds : List Deferred} {k : Act → World → Prop} {L : Env} {w : World} {ops : Array Oper} {o : Oper} {rest : List Oper} {d : Nat} {v : Value}

theorem EX.move {x : Operand} (ho : o.op = .move x) (hx : ev L x = some v) : EX C n L w o (v) :=
  fun a ha => by simp [execOp, ho, ha.ev hx]
theorem EX.assign {x : Operand} (ho : o.op = .assign x) (hx : ev L x = some v) : EX C n L w o (v) :=
  fun a ha => by simp [execOp, ho, ha.ev hx]
theorem EX.pick_t {c x y : Operand} (ho : o.op = .pick c x y) (hc : ev L c = some (.bool true)) (hx : ev L x = some v) : EX C n L w o (v) :=
  fun a ha => by simp [execOp, ho, ha.ev hc, ha.ev hx, asBool]
theorem EX.pick_f {c x y : Operand} (ho : o.op = .pick c x y) (hc : ev L c = some (.bool false)) (hx : ev L y = some v) : EX C n L w o (v) :=
  fun a ha => by simp [execOp, ho, ha.ev hc, ha.ev hx, asBool]
theorem EX.binI {op : BinOp} {t u : TypeId} {x y : Operand} {kd : IntKind} {p q : Int} (ho : o.op = .binOp op t x y u)
    (hx : ev L x = some (.int kd p)) (hy : ev L y = some (.int kd q)) (hv : ibin op kd p q = some v) : EX C n L w o (v) :=
  fun a ha => by
    simp only [execOp, ho, ha.ev hx, ha.ev hy, eqGuard_at_int]
    cases op <;> simp only [ibin, Option.some.injEq, reduceCtorEq] at hv <;> subst hv <;> simp [binOp, Op.intArith, Op.intBits, Op.intCmp, bne, BEq.beq, andI, orI, xorI, andNotI]
theorem EX.quoI {op : BinOp} {t u : TypeId} {x y : Operand} {kd : IntKind} {p q : Int} (ho : o.op = .binOp op t x y u)
    (hx : ev L x = some (.int kd p)) (hy : ev L y = some (.int kd q)) (hq : q ≠ 0) (hv : iquo op kd p q = some v) : EX C n L w o (v) :=
  fun a ha => by
    simp only [execOp, ho, ha.ev hx, ha.ev hy, eqGuard_at_int]
    cases op <;> simp only [iquo, Option.some.injEq, reduceCtorEq] at hv <;> subst hv <;> simp [binOp, Op.intDiv, hq]
theorem EX.shiftI {op : BinOp} {t u : TypeId} {x y : Operand} {kd kq : IntKind} {p q : Int} (ho : o.op = .binOp op t x y u)
    (hx : ev L x = some (.int kd p)) (hy : ev L y = some (.int kq q)) (hq : 0 ≤ q) (hv : ishift op kd p q = some v) : EX C n L w o (v) :=
  fun a ha => by
    have hq' : ¬ q < 0 := by omega
    simp only [execOp, ho, ha.ev hx, ha.ev hy, eqGuard_at_int]
    cases op <;> simp only [ishift, Option.some.injEq, reduceCtorEq] at hv <;> subst hv <;> simp [binOp, Op.shift, hq', shlI, shrI]
theorem EX.binS {op : BinOp} {t u : TypeId} {x y : Operand} {p q : List UInt8} (ho : o.op = .binOp op t x y u)
    (hx : ev L x = some (.string ⟨p.toArray⟩)) (hy : ev L y = some (.string ⟨q.toArray⟩)) (hv : sbin op p q = some v) : EX C n L w o (v) :=
  fun a ha => by
    have e : (p == q) = decide (p = q) := by rw [Bool.eq_iff_iff]; simp
    simp only [execOp, ho, ha.ev hx, ha.ev hy, eqGuard_at_string]
    cases op <;> simp only [sbin, Option.some.injEq, reduceCtorEq] at hv <;> subst hv <;> simp [binOp, Op.stringOp, slt, e]
theorem EX.catS {t u : TypeId} {x y : Operand} {p q : List UInt8} (ho : o.op = .binOp .add t x y u)
    (hx : ev L x = some (.string ⟨p.toArray⟩)) (hy : ev L y = some (.string ⟨q.toArray⟩)) (hl : p.length + q.length ≤ 9223372036854775807) : EX C n L w o (.string ⟨(p ++ q).toArray⟩) :=
  fun a ha => by
    have e : (⟨p.toArray⟩ ++ ⟨q.toArray⟩ : ByteArray) = ⟨(p ++ q).toArray⟩ := by
      apply Go.WideShapes.bytes_inj
      simp
    simp only [execOp, ho, ha.ev hx, ha.ev hy, eqGuard_at_string, binOp, Sem.run_bind, Sem.run_pure, Result.andThen_ok]
    rw [run_string_add_sum _ _ _ (by simpa [ByteArray.size] using hl), e]
    rfl
theorem EX.binB {op : BinOp} {t u : TypeId} {x y : Operand} {p q : Bool} (ho : o.op = .binOp op t x y u) (ht : C.P.underlying t = some .bool)
    (hx : ev L x = some (.bool p)) (hy : ev L y = some (.bool q)) (hv : (match op with | .eql => some (Value.bool (p == q)) | .neq => some (.bool (!(p == q))) | _ => none) = some v) : EX C n L w o (v) :=
  fun a ha => by
    simp only [execOp, ho, ha.ev hx, ha.ev hy, eqGuard_at_bool]
    cases op <;> simp only [Option.some.injEq, reduceCtorEq] at hv <;> subst hv
    · simp [run_eql_bool _ _ _ _ ht]
    · simp [run_neq_bool _ _ _ _ ht]
theorem EX.unI {op : UnOp} {t : TypeId} {x : Operand} {kd : IntKind} {p : Int} (ho : o.op = .unOp op t x)
    (hx : ev L x = some (.int kd p)) (hv : iun op kd p = some v) : EX C n L w o (v) :=
  fun a ha => by
    simp only [execOp, ho, ha.ev hx]
    cases op <;> simp only [iun, Option.some.injEq, reduceCtorEq] at hv <;> subst hv <;> simp [Op.unary, Op.intArith, Op.intBits, notI]
theorem EX.notB {t : TypeId} {x : Operand} {p : Bool} (ho : o.op = .unOp .not t x)
    (hx : ev L x = some (.bool p)) : EX C n L w o (.bool (!p)) :=
  fun a ha => by simp [execOp, ho, ha.ev hx, Op.unary]
/-- Between integer kinds. -/
theorem EX.convI {s t : TypeId} {sd : TypeDesc} {x : Operand} {kd kt : IntKind} {p : Int} (ho : o.op = .convert s t x)
    (hs : C.P.underlying s = some sd) (ht : C.P.underlying t = some (.int kt)) (hx : ev L x = some (.int kd p)) : EX C n L w o (.int kt (kt.wrap p)) :=
  fun a ha => by
    simp only [execOp, ho, ha.ev hx, convert, Sem.run_bind, run_underlying hs, run_underlying ht, Result.andThen_ok, Conv.intToInt]
    rfl
/-- A string to another string type. -/
theorem EX.convS {s t : TypeId} {x : Operand} {p : ByteArray} (ho : o.op = .convert s t x)
    (hs : C.P.underlying s = some .string) (ht : C.P.underlying t = some .string) (hx : ev L x = some (.string p)) : EX C n L w o (.string p) :=
  fun a ha => by
    simp only [execOp, ho, ha.ev hx, convert, Sem.run_bind, run_underlying hs, run_underlying ht, Result.andThen_ok]
    rfl
theorem EX.lenS {t : TypeId} {x : Operand} {p : List UInt8} (ho : o.op = .call { callee := .builtin .len, args := #[x], argTypes := #[t] })
    (ht : C.P.underlying t = some .string) (hx : ev L x = some (.string ⟨p.toArray⟩)) : EX C n L w o (.int .i64 (p.length : Nat)) :=
  fun a ha => by
    have e : (⟨p.toArray⟩ : ByteArray).size = p.length := by simp [ByteArray.size]
    simp [execOp, ho, resolve, invoke, builtin, Builtin.len_, ha.ev hx, run_underlying ht, goInt, e]
theorem EX.lenL {t e : TypeId} {x : Operand} {p : Option Addr} {l c : Nat} (ho : o.op = .call { callee := .builtin .len, args := #[x], argTypes := #[t] })
    (ht : C.P.underlying t = some (.slice e)) (hx : ev L x = some (.slice p l c)) : EX C n L w o (.int .i64 (l : Nat)) :=
  fun a ha => by
    simp [execOp, ho, resolve, invoke, builtin, Builtin.len_, ha.ev hx, run_underlying ht, goInt]
theorem EX.indexS {t : TypeId} {x y : Operand} {p : List UInt8} {kd : IntKind} {i : Int} {j : Nat} {c : UInt8} (ho : o.op = .index t x y)
    (ht : C.P.underlying t = some .string) (hx : ev L x = some (.string ⟨p.toArray⟩)) (hy : ev L y = some (.int kd i)) (hi : i = (j : Nat)) (hc : p[j]? = some c) : EX C n L w o (.int .u8 (c.toNat : Nat)) :=
  fun a ha => by
    subst hi
    have hj : j < p.length := by
      rcases Nat.lt_or_ge j p.length with hj | hj
      · exact hj
      · simp [List.getElem?_eq_none hj] at hc
    have hc' : p[j] = c := by simpa [List.getElem?_eq_getElem hj] using hc
    have e : (⟨p.toArray⟩ : ByteArray)[j]? = some c := by
      rw [getElem?_pos (⟨p.toArray⟩ : ByteArray) j (by simpa [ByteArray.size] using hj)]
      simp [← hc']
      rfl
    simp [execOp, ho, Instr.index, ha.ev hx, ha.ev hy, asIntOf, run_underlying ht, e]
theorem EX.sliceS {t : TypeId} {x : Operand} {lo hi : Option Operand} {p : List UInt8} {a b : Nat} (ho : o.op = .slice t x lo hi none)
    (ht : C.P.underlying t = some .string) (hx : ev L x = some (.string ⟨p.toArray⟩))
    (hlo : Lo L lo a 0) (hhi : Lo L hi b p.length) (hab : a ≤ b) (hb : b ≤ p.length) : EX C n L w o (.string ⟨((p.take b).drop a).toArray⟩) :=
  fun ac ha => by
    have e : (⟨p.toArray⟩ : ByteArray).extract a b = ⟨((p.take b).drop a).toArray⟩ := by
      apply Go.WideShapes.bytes_inj
      rw [Go.Lib.extract_data]
      simp [List.drop_take]
    have hp : (⟨p.toArray⟩ : ByteArray).size = p.length := by simp [ByteArray.size]
    have i1 : (0 : Int) ≤ (a : Int) := Int.natCast_nonneg _
    have i2 : (0 : Int) ≤ (b : Int) := Int.natCast_nonneg _
    have i3 : (a : Int) ≤ (b : Int) := Int.ofNat_le.2 hab
    have i4 : (b : Int) ≤ (p.length : Int) := Int.ofNat_le.2 hb
    have hlo := hlo.val ha
    have hhi := hhi.val ha
    simp only [execOp, ho, Instr.sliceAt, Sem.run_bind, run_underlying ht, Result.andThen_ok, ha.ev hx, Instr.slice]
    revert hlo hhi
    generalize lo.map ac.eval = lo'
    generalize hi.map ac.eval = hi'
    intro hlo hhi
    cases lo' with
    | none =>
      simp only [LoV] at hlo
      subst hlo
      cases hi' with
      | none => simp only [LoV] at hhi; subst hhi; simp [Instr.sliceBounds, hp, e]
      | some y => obtain ⟨kd, rfl⟩ := hhi; simp [Instr.sliceBounds, Instr.sliceBound, hp, e, asIntOf, hb]
    | some z =>
      obtain ⟨kz, rfl⟩ := hlo
      cases hi' with
      | none => simp only [LoV] at hhi; subst hhi; simp [Instr.sliceBounds, Instr.sliceBound, hp, e, asIntOf, hab]
      | some y => obtain ⟨kd, rfl⟩ := hhi; simp [Instr.sliceBounds, Instr.sliceBound, hp, e, asIntOf, hb, hab]
theorem EX.mkIface {t : TypeId} {td : TypeDesc} {x : Operand} {u : Value} (ho : o.op = .makeInterface t x) (ht : C.P.underlying t = some td)
    (hc : (match td with | .interface _ => false | _ => true) = true) (hx : ev L x = some u) : EX C n L w o (.iface t u) :=
  fun a ha => by
    simp only [execOp, ho, ha.ev hx, Instr.makeInterface, Sem.run_bind, run_underlying ht, Result.andThen_ok]
    cases td <;> first | rfl | cases hc
theorem EX.extract {x : Operand} {i : Nat} {vs : Array Value} (ho : o.op = .extract x i) (hx : ev L x = some (.tuple vs)) (hv : vs[i]? = some v) : EX C n L w o (v) :=
  fun a ha => by simp [execOp, ho, ha.ev hx, Instr.extract, hv]
theorem EX.nilCheck {x : Operand} {p : Addr} (ho : o.op = .nilCheck x) (hx : ev L x = some (.pointer (some p))) : EX C n L w o (.pointer (some p)) :=
  fun a ha => by simp [execOp, ho, ha.ev hx]
theorem EX.mkFunc {fn : Fn} {first cap : Array Operand} {vs us : List Value} (ho : o.op = .makeFunc fn first cap) (hf : evs L first.toList = some us) (hc : evs L cap.toList = some vs) : EX C n L w o (.func fn us.toArray vs.toArray) :=
  fun a ha => by
    have e1 : first.map a.eval = us.toArray := by apply Array.toList_inj.1; simpa using ha.evs hf
    have e2 : cap.map a.eval = vs.toArray := by apply Array.toList_inj.1; simpa using ha.evs hc
    simp [execOp, ho, Instr.makeFunc, e1, e2]
/-- A struct out of parts: what 'fill' makes of its zero value. -/
def built (P : Program) (T : TypeId) (parts : List (Nat × Value)) : Option (List Value) :=
  match P.underlying T, zer P T with
  | some (.struct fs), some z =>
    match (fs.toList.mapM fun f => (P.info? f.type).map fun i => (f.offset, i.size)) with
    | some places => (Instr.fill (places.toArray[·]?) z.cells parts).map (·.toList)
    | none => none
  | _, _ => none
def evp (L : Env) : List (Nat × Operand) → Option (List (Nat × Value))
  | [] => some []
  | (i, x) :: xs => match ev L x, evp L xs with
    | some v, some vs => some ((i, v) :: vs)
    | _, _ => none
theorem Has.evp {a : Act} (h : Has n L a) : ∀ {xs : List (Nat × Operand)} {vs : List (Nat × Value)}, evp L xs = some vs → xs.map (fun p => (p.1, a.eval p.2)) = vs
  | [], vs, e => by simp [Lk.evp] at e; subst e; rfl
  | (i, x) :: xs, vs, e => by
    simp only [Lk.evp] at e
    split at e
    · rename_i v vs' h1 h2
      cases e
      simp [h.ev h1, h.evp h2]
    · cases e
theorem run_mapM_places (P : Program) (w : World) : ∀ (fs : List Field) {places : List (Nat × Nat)}, (fs.mapM fun f => (P.info? f.type).map fun i => (f.offset, i.size)) = some places →
    (fs.mapM (fun f => do pure (f.offset, ← sizeOf f.type) : Field → Sem (Nat × Nat))).run P w = .ok places w
  | [], places, h => by simp at h; subst h; rfl
  | f :: fs, places, h => by
    simp only [List.mapM_cons, Option.bind_eq_bind] at h ⊢
    cases h1 : P.info? f.type with
    | none => simp [h1] at h
    | some i =>
      cases h2 : (fs.mapM fun f => (P.info? f.type).map fun i => (f.offset, i.size)) with
      | none => simp [h1, h2] at h
      | some ps =>
        simp [h1, h2] at h
        subst h
        have ih := run_mapM_places P w fs h2
        simp only [Sem.run_bind, sizeOf, typeInfo, run_program, Result.andThen_ok, h1, Sem.run_pure] at ih ⊢
        rw [ih]
        rfl
theorem EX.build {T : TypeId} {parts : Array (Nat × Operand)} {vs : List (Nat × Value)} {cs : List Value} (ho : o.op = .build T parts) (hp : evp L parts.toList = some vs)
    (hb : built C.P T vs = some cs) : EX C n L w o (.agg cs.toArray) :=
  fun a ha => by
    have e : (parts.map fun (i, x) => (i, a.eval x)) = vs.toArray := by apply Array.toList_inj.1; simpa using ha.evp hp
    unfold built zer at hb
    split at hb
    · rename_i fs z h1 h2
      split at hb
      · rename_i places h3
        simp only [Option.map_eq_some_iff] at hb
        obtain ⟨cs', h4, rfl⟩ := hb
        obtain ⟨i, h5, h6⟩ := Option.bind_eq_some_iff.1 h2
        have h7 := run_mapM_places C.P w fs.toList h3
        have h8 : (fs.mapM (fun f => do pure (f.offset, ← sizeOf f.type) : Field → Sem (Nat × Nat))).run C.P w = .ok places.toArray w := by
          rw [Array.mapM_eq_mapM_toList, Sem.run_map, h7]
          rfl
        simp only [execOp, ho, e, Instr.build, Sem.run_bind, zeroValue, typeInfo, run_program, Result.andThen_ok, h5, Sem.run_pure, h6, run_underlying h1, h8, h4]
      · cases hb
    · cases hb
end
end
section
def Bd (O : Nat → Prop) (w : World) : Prop := ∀ x, O x → x < w.heap.size
theorem Bd.ext {O F : Nat → Prop} {w w' : World} (h : Bd O w) (x : Ext F w w') : Bd O w' := fun b hb => Nat.lt_of_lt_of_le (h b hb) x.size
theorem Ext.store_cells {P : Program} {w : World} {b o : Nat} {T : TypeId} {cs vs : List Value} (hb : BoxAt w b T cs) (hl : o + vs.length ≤ cs.length) (h1 : ∀ v ∈ vs, v.oneCell' = true) :
    ∃ w', (storeCells ⟨b, o, none⟩ vs).run P w = .ok () w' ∧ BoxAt w' b T (cs.take o ++ vs ++ cs.drop (o + vs.length)) ∧ Ext (At b) w w' := by
  have h := run_storeCells_at P b o T vs 0 cs.toArray w hb (by simpa using hl) h1
  refine ⟨_, h, ?_, ⟨rfl, rfl, rfl, by simp, fun k _ hk => setRow_other w b k _ hk⟩⟩
  have := setRow_heap w b cs.toArray (cs.take o ++ vs ++ cs.drop (o + vs.length)).toArray T (0, 0) hb
  simpa [BoxAt] using this

section
variable {C : Cx} {n : Nat} {ds : List Deferred} {k : Act → World → Prop} {L : Env} {w : World} {ops : Array Oper} {o : Oper} {rest : List Oper} {d : Nat} {v : Value}

theorem OW.box {T : TypeId} {x : Operand} {u : Value} {cs : List Value} (hg : o.guard = none) (hd : o.dst = some d) (hn : Nat.blt d n = true) (ho : o.op = .box T x) (hx : ev L x = some u) (hcs : u.cells = cs.toArray)
    (h : ∀ b w', BoxAt w' b T cs → Ext Nowhere w w' → w.heap.size ≤ b → OW C n ds ops rest k ((d, .pointer (some ⟨b, 0, none⟩)) :: L) w') : OW C n ds ops (o :: rest) k L w :=
  OW.val (w' := w.alloc (.cells cs.toArray T)) hg hd hn (fun a ha => by
    simp [execOp, ho, ha.ev hx, Instr.box, newVar, newRow, hcs]) (h _ _ (BoxAt.new w T cs) (Ext.alloc _ _ _) (Nat.le_refl _))
theorem OW.alloc {T : TypeId} {z : Value} {cs : List Value} (hg : o.guard = none) (hd : o.dst = some d) (hn : Nat.blt d n = true) (ho : o.op = .alloc T) (hz : zer C.P T = some z) (hcs : z.cells = cs.toArray)
    (h : ∀ b w', BoxAt w' b T cs → Ext Nowhere w w' → w.heap.size ≤ b → OW C n ds ops rest k ((d, .pointer (some ⟨b, 0, none⟩)) :: L) w') : OW C n ds ops (o :: rest) k L w :=
  OW.val (w' := w.alloc (.cells cs.toArray T)) hg hd hn (fun a ha => by
    obtain ⟨i, h5, h6⟩ := Option.bind_eq_some_iff.1 hz
    simp [execOp, ho, Instr.alloc, zeroValue, typeInfo, h5, h6, newVar, newRow, hcs]) (h _ _ (BoxAt.new w T cs) (Ext.alloc _ _ _) (Nat.le_refl _))
theorem EX.fieldAddr {T : TypeId} {x : Operand} {i j b q m : Nat} {g : Bool} (ho : o.op = .fieldAddr T x i) (hf : fld C.P T i = some (j, g, m)) (hx : ev L x = some (.pointer (some ⟨b, q, none⟩))) : EX C n L w o (.pointer (some ⟨b, q + j, none⟩)) :=
  fun a ha => by simp only [execOp, ho, ha.ev hx, Sem.run_bind, run_fieldAt hf, Result.andThen_ok]; rfl
theorem EX.field {T : TypeId} {x : Operand} {i j m : Nat} {cs : List Value} (ho : o.op = .field T x i) (hf : fld C.P T i = some (j, false, m)) (hx : ev L x = some (.agg cs.toArray)) (hv : cs[j]? = some v) : EX C n L w o (v) :=
  fun a ha => by simp only [execOp, ho, ha.ev hx, Sem.run_bind, run_field hf hv, Result.andThen_ok]; rfl
theorem EX.fieldN {T : TypeId} {x : Operand} {i j m : Nat} {cs : List Value} (ho : o.op = .field T x i) (hf : fld C.P T i = some (j, true, m)) (hx : ev L x = some (.agg cs.toArray)) : EX C n L w o (.agg ((cs.drop j).take m).toArray) :=
  fun a ha => by simp only [execOp, ho, ha.ev hx, Sem.run_bind, run_fieldN hf, Result.andThen_ok]; rfl
/-- One cell, wherever it lies. -/
theorem EX.loadC {T : TypeId} {x : Operand} {p : Addr} {m : Nat} (ho : o.op = .load T x) (hT : shp C.P T = some (false, m)) (hx : ev L x = some (.pointer (some p)))
    (hv : w.cell? p = some v) : EX C n L w o (v) :=
  fun a ha => by
    simp only [execOp, ho, ha.ev hx, Sem.run_bind, Instr.loadAt, Instr.sureAddr, Sem.run_pure, Result.andThen_ok, run_loadVar1 hT hv]
/-- Several cells, wherever they lie. -/
theorem EX.loadCs {T : TypeId} {x : Operand} {b q m : Nat} {vs : List Value} (ho : o.op = .load T x) (hT : shp C.P T = some (true, m)) (hx : ev L x = some (.pointer (some ⟨b, q, none⟩)))
    (hl : vs.length = m) (hc : ∀ j u, vs[j]? = some u → w.cell? ⟨b, q + j, none⟩ = some u) : EX C n L w o (.agg vs.toArray) :=
  fun a ha => by
    simp only [execOp, ho, ha.ev hx, Sem.run_bind, Instr.loadAt, Instr.sureAddr, Sem.run_pure, Result.andThen_ok, run_loadVarN hT hl hc]
/-- A store into a box: of one cell or of several. -/
theorem OW.store {T U : TypeId} {x y : Operand} {b q m : Nat} {g : Bool} {u : Value} {cs vs cs' : List Value} (hg : o.guard = none) (hd : o.dst = none) (ho : o.op = .store T x y) (hT : shp C.P T = some (g, m)) (hx : ev L x = some (.pointer (some ⟨b, q, none⟩)))
    (hy : ev L y = some u) (hu : u.cells = vs.toArray) (hm : vs.length = m) (hb : BoxAt w b U cs) (hq : Nat.ble (q + vs.length) cs.length = true) (h1 : vs.all (·.oneCell') = true) (hcs : cs.take q ++ vs ++ cs.drop (q + vs.length) = cs')
    (h : ∀ w', BoxAt w' b U cs' → Ext (At b) w w' → OW C n ds ops rest k L w') : OW C n ds ops (o :: rest) k L w := by
  obtain ⟨w', hr, hb', hx'⟩ := Ext.store_cells (P := C.P) (o := q) (vs := vs) hb (Nat.le_of_ble_eq_true hq) (by simpa using h1)
  refine OW.unit (w' := w') hg hd (fun a ha => ?_) (h w' (hcs ▸ hb') hx')
  simp [execOp, ho, ha.ev hx, ha.ev hy, Instr.storeAt, Instr.sureAddr, storeVar, hu, (run_isAgg hT).2, hm, hr]
end

/-- The element i of a slice of data: where it lies. -/
structure EAt (w : World) (O : Nat → Prop) (b q : Nat) (cs : List Value) : Prop where
  out : ¬ O b
  row : ∃ r T fr, w.heap[b]? = some (.cells r T fr) ∧ ∀ j u, cs[j]? = some u → r[q + j]? = some u
theorem EAt.at_ {w : World} {O : Nat → Prop} {b q : Nat} {cs : List Value} (h : EAt w O b q cs) : ∀ j u, cs[j]? = some u → w.cell? ⟨b, q + j, none⟩ = some u := by
  obtain ⟨r, T, fr, h1, h2⟩ := h.row
  intro j u e
  rw [cell_of_row w b _ r T fr h1]
  exact h2 j u e
theorem EAt.tr {w w' : World} {O O' : Nat → Prop} {b q : Nat} {cs : List Value} (h : EAt w O b q cs) (t : Tr O w O' w') : EAt w' O' b q cs := by
  obtain ⟨r, T, fr, h1, h2⟩ := h.row
  have hb : b < w.heap.size := by
    rcases Nat.lt_or_ge b w.heap.size with hb | hb
    · exact hb
    · simp [Array.getElem?_eq_none hb] at h1
  exact ⟨t.owned b hb h.out, r, T, fr, (t.block b hb h.out).trans h1, h2⟩
def ElemAt (w : World) (O : Nat → Prop) (b q n : Nat) (x : List D) : Prop := ∃ cs, cs.length = n ∧ EAt w O b q cs ∧ RDs w O x cs
theorem RDl.at {w : World} {O : Nat → Prop} {n : Nat} : ∀ {l : List (List D)} {cs : List Value} {i : Nat} {x : List D}, RDl w O n l cs → l[i]? = some x → RDs w O x ((cs.drop (i * n)).take n)
  | [], _, _, _, _, h => by simp at h
  | y :: l, cs, 0, x, h, e => by simp at e; subst e; simpa using h.1
  | y :: l, cs, i + 1, x, h, e => by
    have := RDl.at (i := i) h.2 (by simpa using e)
    rw [List.drop_drop] at this
    rwa [Nat.succ_mul, Nat.add_comm]
theorem RD.elem {w : World} {O : Nat → Prop} {T n : Nat} {l : List (List D)} {v : Value} {i : Nat} {x : List D} (h : RD w O (.sl T n l) v) (hi : l[i]? = some x) :
    ∃ b q cap, v = .slice (some ⟨b, q, none⟩) l.length cap ∧ i < l.length ∧ ElemAt w O b (q + i * n) n x := by
  have hlt : i < l.length := by
    rcases Nat.lt_or_ge i l.length with h' | h'
    · exact h'
    · simp [List.getElem?_eq_none h'] at hi
  rcases h with ⟨_, h⟩ | ⟨b, q, cap, cs, fr, h1, h2, h3, h4, h5, h6, h7⟩
  · subst h; simp at hi
  · refine ⟨b, q, cap, h1, hlt, ((cs.toList.drop q).drop (i * n)).take n, ?_, ?_, RDl.at h7 hi⟩
    · have : (i + 1) * n ≤ cap * n := Nat.mul_le_mul_right n (by omega)
      rw [Nat.succ_mul] at this
      simp
      omega
    · refine ⟨h4, cs, fr.1, fr.2, h5, fun j u e => ?_⟩
      rw [List.getElem?_take] at e
      split at e
      · simpa [Nat.add_assoc] using e
      · cases e
theorem RD.len {w : World} {O : Nat → Prop} {T n : Nat} {l : List (List D)} {v : Value} (h : RD w O (.sl T n l) v) : ∃ p c, v = .slice p l.length c := by
  rcases h with ⟨⟨p, h1⟩, h2⟩ | ⟨b, q, cap, cs, fr, h1, _⟩
  · exact ⟨p, 0, by subst h2; exact h1⟩
  · exact ⟨_, cap, h1⟩
theorem RDl.drop {w : World} {O : Nat → Prop} {n : Nat} : ∀ {l : List (List D)} {cs : List Value} (i : Nat), RDl w O n l cs → RDl w O n (l.drop i) (cs.drop (i * n))
  | l, cs, 0, h => by simpa using h
  | [], cs, i + 1, _ => by simp [RDl, RD.RDl]
  | y :: l, cs, i + 1, h => by
    have := RDl.drop (n := n) i h.2
    rw [List.drop_drop] at this
    rw [Nat.succ_mul, Nat.add_comm (i * n)]
    exact this
theorem RDl.take {w : World} {O : Nat → Prop} {n : Nat} : ∀ {l : List (List D)} {cs : List Value} (i : Nat), RDl w O n l cs → RDl w O n (l.take i) cs
  | l, cs, 0, _ => by simp [RDl, RD.RDl]
  | [], cs, i + 1, _ => by simp [RDl, RD.RDl]
  | y :: l, cs, i + 1, h => ⟨h.1, RDl.take (n := n) i h.2⟩
/-- A part of a slice of data is one. -/
theorem RD.sub {P : Program} {w : World} {O : Nat → Prop} {T n t : Nat} {l : List (List D)} {v : Value} {a b : Nat} {lo hi : Option Value} {g : Bool} (ht : P.underlying t = some (.slice T)) (hT : shp P T = some (g, n)) (h : RD w O (.sl T n l) v)
    (hlo : LoV lo a 0) (hhi : LoV hi b l.length) (hab : a ≤ b) (hb : b ≤ l.length) :
    ∃ v', (Instr.sliceAt t v lo hi none).run P w = .ok v' w ∧ RD w O (.sl T n ((l.take b).drop a)) v' := by
  have key : ∀ (p : Option Addr) (cap : Nat), l.length ≤ cap → (Instr.sliceAt t (.slice p l.length cap) lo hi none).run P w = .ok (.slice (if cap = a then p else p.map (·.add (a * n))) (b - a) (cap - a)) w := by
    intro p cap hc
    have i3 : (a : Int) ≤ (b : Int) := Int.ofNat_le.2 hab
    have i4 : (b : Int) ≤ (cap : Int) := Int.ofNat_le.2 (by omega)
    simp only [Instr.sliceAt, Sem.run_bind, run_underlying ht, Result.andThen_ok, Instr.slice]
    cases lo with
    | none =>
      simp only [LoV] at hlo
      subst hlo
      cases hi with
      | none => simp only [LoV] at hhi; subst hhi; simp [Instr.sliceBounds, (run_isAgg hT).2]
      | some y => obtain ⟨kd, rfl⟩ := hhi; simp [Instr.sliceBounds, Instr.sliceBound, asIntOf, (run_isAgg hT).2, show b ≤ cap by omega]
    | some z =>
      obtain ⟨kz, rfl⟩ := hlo
      cases hi with
      | none => simp only [LoV] at hhi; subst hhi; simp [Instr.sliceBounds, Instr.sliceBound, asIntOf, (run_isAgg hT).2, hab]
      | some y => obtain ⟨kd, rfl⟩ := hhi; simp [Instr.sliceBounds, Instr.sliceBound, asIntOf, (run_isAgg hT).2, hab, show b ≤ cap by omega]
  rcases h with ⟨⟨p, rfl⟩, rfl⟩ | ⟨bb, q, cap, cs, fr, rfl, h2, h3, h4, h5, h6, h7⟩
  · have hb0 : b = 0 := by simpa using hb
    have ha0 : a = 0 := by omega
    subst hb0 ha0
    have := key p 0 (Nat.le_refl _)
    simp only [List.length_nil] at this
    refine ⟨_, this, ?_⟩
    simp [RD]
  · refine ⟨_, key _ cap h2, ?_⟩
    right
    have hlen : ((l.take b).drop a).length = b - a := by simp; omega
    have h8 : RDl w O n ((l.take b).drop a) ((cs.toList.drop q).drop (a * n)) := RDl.drop a (RDl.take b h7)
    by_cases hca : cap = a
    · have : b = a := by omega
      subst this
      have e0 : (l.take b).drop b = [] := List.eq_nil_of_length_eq_zero (by rw [hlen]; omega)
      rw [if_pos hca, e0]
      exact ⟨bb, q, cap - b, cs, fr, by simp, by simp, by omega, h4, h5, by rw [hca]; simp; exact Nat.le_trans (Nat.le_add_right _ _) h6, trivial⟩
    · rw [if_neg hca]
      refine ⟨bb, q + a * n, cap - a, cs, fr, by rw [hlen]; simp [Addr.add_lit], by omega, by omega, h4, h5, ?_, by rw [← List.drop_drop]; exact h8⟩
      rw [Nat.sub_mul]
      have : a * n ≤ cap * n := Nat.mul_le_mul_right n (by omega)
      omega

section
variable {C : Cx} {n : Nat} {ds : List Deferred} {k : Act → World → Prop} {L : Env} {w : World} {ops : Array Oper} {o : Oper} {rest : List Oper} {d : Nat} {v : Value}
theorem EX.indexAddr {t T m : TypeId} {gg : Bool} {x y : Operand} {b q len cap : Nat} {kd : IntKind} {i : Int} {j : Nat} (ho : o.op = .indexAddr t x y)
    (ht : C.P.underlying t = some (.slice T)) (hT : shp C.P T = some (gg, m)) (hx : ev L x = some (.slice (some ⟨b, q, none⟩) len cap)) (hy : ev L y = some (.int kd i)) (hi : i = (j : Nat)) (hj : j < len) : EX C n L w o (.pointer (some ⟨b, q + j * m, none⟩)) :=
  fun a ha => by
    subst hi
    simp [execOp, ho, ha.ev hx, ha.ev hy, Instr.indexAt, asIntOf, run_underlying ht, (run_isAgg hT).2, hj, Addr.add_lit]
/-- The cells of parts that are all there, in order. -/
def flat (m : Nat) : Nat → List (Nat × Value) → Option (List Value)
  | _, [] => some []
  | i, (j, v) :: r => match Nat.beq i j, Nat.beq v.cells.size m, flat m (i + 1) r with
    | true, true, some cs => some (v.cells.toList ++ cs)
    | _, _, _ => none
theorem fold_set : ∀ (l : List Value) (k off : Nat) (cs : Array Value), off + k + l.length ≤ cs.size →
    (l.zipIdx k).foldl (fun cs (x : Value × Nat) => cs.setIfInBounds (off + x.2) x.1) cs = (cs.toList.take (off + k) ++ l ++ cs.toList.drop (off + k + l.length)).toArray
  | [], k, off, cs, _ => by simp
  | x :: l, k, off, cs, h => by
    simp only [List.length_cons] at h
    simp only [List.zipIdx_cons, List.foldl_cons]
    rw [fold_set l (k + 1) off _ (by simp; omega)]
    congr 1
    simp only [Array.toList_setIfInBounds, List.length_cons]
    rw [List.take_set, List.drop_set_of_lt (by omega)]
    have e1 : (cs.toList.take (off + (k + 1))).set (off + k) x = cs.toList.take (off + k) ++ [x] := by
      rw [show off + (k + 1) = (off + k) + 1 by omega, List.take_succ_eq_append_getElem (by simp; omega), List.set_append]
      rw [if_neg (by simp; omega)]
      simp
      rw [show off + k - min (off + k) cs.size = 0 by omega]
      rfl
    rw [e1, show off + (k + 1) + l.length = off + k + (l.length + 1) by omega]
    simp
theorem fill_flat (m len : Nat) : ∀ (r : List (Nat × Value)) (i : Nat) (cs : Array Value) (out : List Value), flat m i r = some out → (i + r.length) * m ≤ cs.size →
    Instr.fill (fun i => some (i * m, m)) cs r = some ((cs.toList.take (i * m) ++ out ++ cs.toList.drop ((i + r.length) * m)).toArray) ∧ out.length = r.length * m
  | [], i, cs, out, h, _ => by
    simp only [flat, Option.some.injEq] at h
    subst h
    simp [Instr.fill]
  | (j, v) :: r, i, cs, out, h, hl => by
    unfold flat at h
    split at h
    · rename_i cs' h1 h2 h3
      simp only [Option.some.injEq] at h
      subst h
      have h1 := Nat.eq_of_beq_eq_true h1
      have h2 := Nat.eq_of_beq_eq_true h2
      subst h1
      simp only [List.length_cons] at hl
      have hl1 : (i + 1) * m ≤ (i + (r.length + 1)) * m := Nat.mul_le_mul_right m (by omega)
      rw [Nat.succ_mul] at hl1
      have hf : (v.cells.zipIdx.foldl (fun cs (c, j) => cs.setIfInBounds (i * m + j) c) cs) = (cs.toList.take (i * m) ++ v.cells.toList ++ cs.toList.drop (i * m + v.cells.toList.length)).toArray := by
        have := fold_set v.cells.toList 0 (i * m) cs (by simp [h2]; omega)
        simp only [Nat.add_zero] at this
        rw [← this, ← Array.foldl_toList, Array.toList_zipIdx]
      have ih := fill_flat m len r (i + 1) (cs.toList.take (i * m) ++ v.cells.toList ++ cs.toList.drop (i * m + v.cells.toList.length)).toArray cs' h3 (by
        simp [h2]
        rw [show i + 1 + r.length = i + (r.length + 1) by omega]
        omega)
      refine ⟨?_, ?_⟩
      · unfold Instr.fill
        simp only
        rw [if_neg (by simp [h2]; omega), hf, ih.1]
        congr 2
        have e1 : (cs.toList.take (i * m)).length = i * m := by simp; omega
        have e2 : (cs.toList.take (i * m) ++ v.cells.toList).length = (i + 1) * m := by rw [List.length_append, e1, Nat.succ_mul]; simp [h2]
        have e3 : (i + 1 + r.length) * m = (i + 1) * m + r.length * m := by rw [Nat.add_mul]
        have e4 : (i + (r.length + 1)) * m = (i + 1) * m + r.length * m := by rw [← e3]; congr 1; omega
        have t1 : ((cs.toList.take (i * m) ++ v.cells.toList) ++ cs.toList.drop (i * m + v.cells.toList.length)).take ((i + 1) * m) = cs.toList.take (i * m) ++ v.cells.toList := by
          rw [← e2]; exact List.take_left
        have t2 : ((cs.toList.take (i * m) ++ v.cells.toList) ++ cs.toList.drop (i * m + v.cells.toList.length)).drop ((i + 1 + r.length) * m) = cs.toList.drop ((i + (r.length + 1)) * m) := by
          rw [List.drop_append, e2, e3, List.drop_eq_nil_of_le (by omega), List.nil_append, List.drop_drop, e4]
          congr 1
          simp [h2, Nat.succ_mul]
        rw [t1, t2, List.length_cons]
        simp
      · rw [List.length_append, ih.2, List.length_cons, Nat.succ_mul]
        simp [h2]
        omega
    · cases h
theorem OW.buildSlice {t T m : TypeId} {gg : Bool} {len : Nat} {z : Value} {parts : Array (Nat × Operand)} {vs : List (Nat × Value)} {cs : List Value} (hg : o.guard = none) (hd : o.dst = some d) (hn : Nat.blt d n = true) (ho : o.op = .buildSlice t len parts)
    (ht : C.P.underlying t = some (.slice T)) (hT : shp C.P T = some (gg, m)) (hz : zer C.P T = some z) (_hzm : z.cells.size = m) (hp : evp L parts.toList = some vs) (hb : flat m 0 vs = some cs) (hlen : vs.length = len) (hbig : Nat.ble (len * m) 16777216 = true)
    (h : ∀ b w', BoxAt w' b T cs → Ext Nowhere w w' → w.heap.size ≤ b → OW C n ds ops rest k ((d, .slice (some ⟨b, 0, none⟩) len len) :: L) w') : OW C n ds ops (o :: rest) k L w :=
  OW.val (w' := w.alloc (.cells cs.toArray T)) hg hd hn (fun a ha => by
    have e : (parts.map fun (i, x) => (i, a.eval x)) = vs.toArray := by apply Array.toList_inj.1; simpa using ha.evp hp
    have hbig' : ¬ len * m > 2 ^ 24 := by have := Nat.le_of_ble_eq_true hbig; omega
    obtain ⟨i, h6, h7⟩ := Option.bind_eq_some_iff.1 hz
    have key : ∀ A : Array Value, A.size = len * m → Instr.fill (fun i => some (i * m, m)) A vs = some cs.toArray := fun A hA => by
      have := (fill_flat m len vs 0 A cs hb (by rw [hlen, hA]; simp)).1
      rw [this]
      simp [hlen, ← hA]
    by_cases h0 : len * m = 0
    · simp only [execOp, ho, e, Instr.buildSlice, Sem.run_bind, run_underlying ht, Result.andThen_ok, (run_isAgg hT).2, if_neg hbig', if_pos h0, Sem.run_pure]
      rw [key _ (by simp)]
      simp [newRow]
    · simp only [execOp, ho, e, Instr.buildSlice, Sem.run_bind, run_underlying ht, Result.andThen_ok, (run_isAgg hT).2, if_neg hbig', if_neg h0, Sem.run_pure, zeroValue, typeInfo, run_program, h6, h7]
      rw [key _ (by simp)]
      simp [newRow]) (h _ _ (BoxAt.new w T cs) (Ext.alloc _ _ _) (Nat.le_refl _))
end
/-- A new slice as_ data. -/
theorem RD.of_new {w w' : World} {O : Nat → Prop} {b T m len : Nat} {cs : List Value} {l : List (List D)} (hb : BoxAt w' b T cs) (hB : Bd O w) (hw : w.heap.size ≤ b) (hl : l.length = len) (hm : len ≤ maxLen) (hs : cs.length = len * m) (h : RDl w' O m l cs) :
    RD w' O (.sl T m l) (.slice (some ⟨b, 0, none⟩) len len) := by
  subst hl
  exact .inr ⟨b, 0, l.length, cs.toArray, (T, (0, 0)), rfl, Nat.le_refl _, hm, fun ho => by have := hB b ho; omega, hb, by simp [hs], by simpa using h⟩

/-- The slice v holds the data l in a row of its own, which is O's: it may grow in place. -/
def Own (w : World) (O : Nat → Prop) (T m : Nat) (v : Value) (l : List (List D)) : Prop :=
  ∃ xs, w.ownsRow 0 T m v l.length xs ∧ RDl w O m l xs ∧ (∀ x ∈ xs, x.oneCell' = true) ∧ ∀ b, v.ownBlock = some b → O b
theorem Own.nil (w : World) (O : Nat → Prop) (T m : Nat) : Own w O T m (.slice none 0 0) [] := ⟨[], World.ownsRow_nil w 0 T m, trivial, by simp, by simp [Value.ownBlock]⟩
theorem RDl.tr {O O' : Nat → Prop} {w w' : World} {m : Nat} {d : List (List D)} {v : List Value} (h : RDl w O m d v) (t : Tr O w O' w') : RDl w' O' m d v :=
  RDl.keep (fun b hb ho => ⟨t.block b hb ho, t.owned b hb ho⟩) m d v h
theorem Own.keep {w w' : World} {O O' F : Nat → Prop} {T m : Nat} {v : Value} {l : List (List D)} (h : Own w O T m v l) (x : Ext F w w') (hf : ∀ b, v.ownBlock = some b → ¬ F b) (t : Tr O w O' w') (ho : ∀ b, O b → O' b) : Own w' O' T m v l := by
  obtain ⟨xs, h1, h2, h3, h4⟩ := h
  refine ⟨xs, ⟨h1.1, ?_⟩, h2.tr t, h3, fun b hb => ho b (h4 b hb)⟩
  rcases h1.2 with h5 | ⟨g, cap, cur, rfl, h6, h7, h8⟩
  · exact .inl h5
  · exact .inr ⟨g, cap, cur, rfl, h6, (x.block g (Array.getElem?_eq_some_iff.1 h7).1 (hf g rfl)).trans h7, h8⟩
def Del (O : Nat → Prop) (v : Value) : Nat → Prop := fun x => O x ∧ v.ownBlock ≠ some x
theorem RDl.of_take {w : World} {O : Nat → Prop} {m : Nat} : ∀ {l : List (List D)} {cs : List Value}, RDl w O m l (cs.take (l.length * m)) → RDl w O m l cs
  | [], _, _ => trivial
  | z :: l, cs, hc => by
    refine ⟨?_, ?_⟩
    · have := hc.1
      rwa [List.take_take, Nat.min_eq_left (by simp [Nat.succ_mul])] at this
    · have h2 := hc.2
      have e : (cs.take ((z :: l).length * m)).drop m = (cs.drop m).take (l.length * m) := by
        rw [List.drop_take]
        congr 1
        simp [Nat.succ_mul]
      rw [e] at h2
      exact RDl.of_take h2
/-- What is owned is data for whoever does not own it. -/
theorem Own.data {w : World} {O : Nat → Prop} {T m : Nat} {v : Value} {l : List (List D)} (h : Own w O T m v l) : RD w (Del O v) (.sl T m l) v := by
  obtain ⟨xs, h1, h2, _, h4⟩ := h
  have h2' : RDl w (Del O v) m l xs := h2.tr (Tr.drop w fun x hx => hx.1)
  rcases h1.2 with ⟨rfl, h0⟩ | ⟨g, cap, cur, rfl, _, h7, h8, h9, h10, h11⟩
  · exact .inl ⟨⟨_, rfl⟩, List.eq_nil_of_length_eq_zero h0⟩
  · refine .inr ⟨g, 0, cap, cur, (_, (0, 0)), rfl, h8, h9, fun ho => ho.2 rfl, h7, by simp [h10], ?_⟩
    rw [← h11] at h2'
    simp only [List.drop_zero]
    exact h2'.of_take
end
section
theorem RDl.one {w : World} {O : Nat → Prop} {n : Nat} : ∀ {l : List (List D)} {cs : List Value}, RDl w O n l cs → ∀ v ∈ cs.take (l.length * n), v.oneCell' = true
  | [], cs, _ => by simp
  | y :: l, cs, h => by
    intro v hv
    have e : cs.take ((y :: l).length * n) = cs.take n ++ (cs.drop n).take (l.length * n) := by
      rw [List.length_cons, Nat.succ_mul, Nat.add_comm, List.take_add]
    rw [e] at hv
    rcases List.mem_append.1 hv with hv | hv
    · exact RDs.one _ _ h.1 v hv
    · exact RDl.one h.2 v hv
theorem RDl.take_cells {w : World} {O : Nat → Prop} {n : Nat} : ∀ {l : List (List D)} {cs : List Value}, RDl w O n l cs → RDl w O n l (cs.take (l.length * n))
  | [], _, _ => trivial
  | y :: l, cs, h => by
    refine ⟨?_, ?_⟩
    · rw [List.take_take, Nat.min_eq_left (by simp [Nat.succ_mul])]
      exact h.1
    · have e : (cs.take ((y :: l).length * n)).drop n = (cs.drop n).take (l.length * n) := by
        rw [List.drop_take]
        congr 1
        simp [Nat.succ_mul]
      rw [e]
      exact RDl.take_cells h.2
theorem RDl.append {w : World} {O : Nat → Prop} {n : Nat} : ∀ {l1 l2 : List (List D)} {c1 c2 : List Value}, c1.length = l1.length * n → RDl w O n l1 c1 → RDl w O n l2 c2 → RDl w O n (l1 ++ l2) (c1 ++ c2)
  | [], l2, c1, c2, hl, _, h2 => by
    have : c1 = [] := List.eq_nil_of_length_eq_zero (by simpa using hl)
    subst this
    simpa using h2
  | y :: l1, l2, c1, c2, hl, h1, h2 => by
    have hn : n ≤ c1.length := by rw [hl, List.length_cons, Nat.succ_mul]; omega
    refine ⟨?_, ?_⟩
    · rw [List.take_append_of_le_length hn]; exact h1.1
    · rw [List.drop_append_of_le_length hn]
      exact RDl.append (by rw [List.length_drop, hl, List.length_cons, Nat.succ_mul]; omega) h1.2 h2

/-- A type's size in cells, in bytes, and its zero value. -/
def inf (P : Program) (T : TypeId) : Option (Value × Nat × Nat) :=
  match P.info? T with
  | some i => i.zero.map fun z => (z, i.size, i.bytes)
  | none => none
theorem inf_parts {P : Program} {T : TypeId} {z : Value} {m by_ : Nat} (h : inf P T = some (z, m, by_)) : ∃ i, P.info? T = some i ∧ i.zero = some z ∧ i.size = m ∧ i.bytes = by_ := by
  unfold inf at h
  split at h
  · rename_i i h1
    obtain ⟨z', h2, h3⟩ := Option.map_eq_some_iff.1 h
    cases h3
    exact ⟨i, h1, h2, rfl, rfl⟩
  · cases h
/-- What a growing slice leaves: the new value, the new world, and what is owned from now on. -/
structure Grew (w : World) (O : Nat → Prop) (T m : Nat) (v : Value) (w' : World) (O' : Nat → Prop) (v' : Value) (l : List (List D)) : Prop where
  own : Own w' O' T m v' l
  ext : Ext (fun b => v.ownBlock = some b) w w'
  tr : Tr O w O' w'
  more : ∀ b, O b → O' b
  bd : Bd O' w'
  at_ : ∀ b, v'.ownBlock = some b → v.ownBlock = some b ∨ w.heap.size ≤ b
  only : ∀ b, O' b → O b ∨ w.heap.size ≤ b
theorem Own.grew {w w' : World} {O : Nat → Prop} {T m : Nat} {v v' : Value} {l : List (List D)} {xs : List Value} (h : Own w O T m v l) (hB : Bd O w) {l2 : List (List D)} {news : List Value}
    (h1 : w'.ownsRow 0 T m v' (l.length + l2.length) (xs ++ news)) (h2 : w.grownBy w' v.ownBlock) (hxs : xs.length = l.length * m) (hx : RDl w O m l xs) (hn : RDl w O m l2 news) (hone : ∀ u ∈ xs ++ news, u.oneCell' = true)
    (hat : ∀ b, v'.ownBlock = some b → v.ownBlock = some b ∨ w.heap.size ≤ b) : ∃ O', Grew w O T m v w' O' v' (l ++ l2) := by
  obtain ⟨_, _, _, _, hO⟩ := h
  have hv' : ∀ b, v'.ownBlock = some b → b < w'.heap.size := fun b hb => (h1.lt b hb).2
  have hx' : Ext (fun b => v.ownBlock = some b) w w' := ⟨h2.os, h2.tape, h2.output, h2.size, fun b hb hf => h2.block b hb (fun e => hf e.symm)⟩
  have ht : Tr O w (fun x => O x ∨ v'.ownBlock = some x) w' := ⟨h2.size, fun b hb ho => hx'.block b hb fun e => ho (hO b e), fun b hb ho h' => by
    rcases h' with h' | h'
    · exact ho h'
    · rcases hat b h' with h'' | h''
      · exact ho (hO b h'')
      · omega⟩
  refine ⟨fun x => O x ∨ v'.ownBlock = some x, ⟨⟨xs ++ news, by simpa using h1, (RDl.append hxs hx hn).tr ht, hone, fun b hb => .inr hb⟩, hx', ht, fun b hb => .inl hb, fun x hx => ?_, hat, fun b hb => ?_⟩⟩
  · rcases hx with hx | hx
    · exact Nat.lt_of_lt_of_le (hB x hx) h2.size
    · exact hv' x hx
  · rcases hb with hb | hb
    · exact .inl hb
    · rcases hat b hb with h' | h'
      · exact .inl (hO b h')
      · exact .inr h'
theorem run_append_block {P : Program} {w : World} (t ty e : TypeId) (i : TypeInfo) (z : Value) (size bytes : Nat) (ht : P.underlying t = some (.slice e)) (hi : P.info? e = some i) (hz : i.zero = some z)
    (hsize : i.size = size) (hby : i.bytes = bytes) (v : Value) (n : Nat) (xs : List Value) (hown : w.ownsRow 0 e size v n xs)
    (a : Addr) (m c : Nat) (news : List Value) (hl : news.length = m * size) (hnews : ∀ j u, news[j]? = some u → w.cell? (a.add j) = some u) (h1 : ∀ u ∈ news, u.oneCell' = true)
    (h63 : n + m ≤ maxLen) (hbytes : (n + m) * bytes ≤ 140737488355328) {v' : Value} {w' : World} (hr : (Builtin.append_ #[t, t] ty #[v, .slice (some a) m c]).run P w = .ok v' w') {b : Nat} (hb : v'.ownBlock = some b) (hlt : b < w.heap.size) : v.ownBlock = some b := by
  subst hsize
  subst hby
  have hsmall : n + m ≤ 9223372036854775807 := by simp only [maxLen] at h63; omega
  rcases hown.2 with ⟨rfl, rfl⟩ | ⟨g, cap, cur, rfl, _, hg, hnc, hcm, hcs, htake⟩
  · by_cases hm : m = 0
    · subst hm
      have hn : news = [] := List.eq_nil_of_length_eq_zero (by simpa using hl)
      subst hn
      have : (Builtin.append_ #[t, t] ty #[.slice none 0 0, .slice (some a) 0 c]).run P w = .ok (.slice none 0 0) w := by
        simp [Builtin.append_, run_underlying ht, sizeOf, typeInfo, hi, Builtin.lenOf, Builtin.firstCells, loadCells, loadCellsFrom]
      rw [this] at hr
      cases hr
      exact hb
    · have h := run_append_nil (P := P) w t ty e i z ht hi hz a m c news hl hnews (by omega) (by omega) (by have hb := hbytes; simp only [Nat.zero_add] at hb; omega)
      rw [h] at hr
      cases hr
      simp only [Value.ownBlock, Option.some.injEq] at hb
      omega
  · by_cases hroom : n + m ≤ cap
    · have hfit : n * i.size + news.length ≤ cur.size := by rw [hl, hcs, ← Nat.add_mul]; exact Nat.mul_le_mul_right _ hroom
      have h := run_append_room (P := P) w t ty e i ht hi g n cap cur hg a m c news hl hnews h1 hroom hfit
      rw [h] at hr
      cases hr
      exact hb
    · have holds : ∀ j u, xs[j]? = some u → w.cell? ((⟨g, 0, none⟩ : Addr).add j) = some u := hown.cells (g := g) rfl
      have h := run_append_grow (P := P) w t ty e i z ht hi hz ⟨g, 0, none⟩ n cap xs hown.1 holds a m c news hl hnews (by omega) (by omega) (growslice_fits (by omega) hbytes)
      rw [h] at hr
      cases hr
      simp only [Value.ownBlock, Option.some.injEq] at hb
      omega
/-- append(v, x...), v owned, x data. -/
theorem run_append_data {P : Program} {w : World} {O : Nat → Prop} {T m by_ : Nat} {t ty : TypeId} {z : Value} {v x : Value} {l l2 : List (List D)} (ht : P.underlying t = some (.slice T)) (hi : inf P T = some (z, m, by_)) (hz : z.cells.size = m) (hm : 0 < m) (hby : 0 < by_)
    (h : Own w O T m v l) (hB : Bd O w) (hx : RD w O (.sl T m l2) x) (hb : (l.length + l2.length) * by_ ≤ 140737488355328) :
    ∃ v' w' O', (Builtin.append_ #[t, t] ty #[v, x]).run P w = .ok v' w' ∧ Grew w O T m v w' O' v' (l ++ l2) := by
  obtain ⟨i, i1, i2, i3, i4⟩ := inf_parts hi
  have hO := h
  obtain ⟨xs, h1, h2, h3, h4⟩ := h
  have hlb : l.length * by_ ≤ 140737488355328 := Nat.le_trans (Nat.mul_le_mul_right _ (Nat.le_add_right _ _)) hb
  have main : ∀ (ad : Addr) (cap : Nat) (ys : List Value), x = .slice (some ad) l2.length cap → ys.length = l2.length * m → (∀ j u, ys[j]? = some u → w.cell? (ad.add j) = some u) → (∀ u ∈ ys, u.oneCell' = true) → RDl w O m l2 ys →
      ∃ v' w' O', (Builtin.append_ #[t, t] ty #[v, x]).run P w = .ok v' w' ∧ Grew w O T m v w' O' v' (l ++ l2) := by
    intro ad cap ys hxe hnl hnews hone hrd
    subst hxe
    have hbig : l.length + l2.length ≤ 140737488355328 := Nat.le_trans (Nat.le_mul_of_pos_right _ hby) hb
    obtain ⟨v', w', hr, r1, r2, r3⟩ := run_append_own (P := P) w 0 t ty T i z m by_ ht i1 i2 i3 i4 hz hm v l.length xs h1 ad l2.length cap _ hnl hnews hone (by unfold maxLen; omega) hb (Nat.zero_le _)
    have hat : ∀ b, v'.ownBlock = some b → v.ownBlock = some b ∨ w.heap.size ≤ b := by
      intro c hc
      rcases Nat.lt_or_ge c w.heap.size with hlt | hge
      · left
        rcases r1.2 with ⟨rfl, _⟩ | ⟨g, cap', cur, rfl, _, hg, _⟩
        · simp [Value.ownBlock] at hc
        · simp only [Value.ownBlock, Option.some.injEq] at hc
          subst hc
          exact run_append_block (P := P) t ty T i z m by_ ht i1 i2 i3 i4 v l.length xs h1 ad l2.length cap _ hnl hnews hone (by unfold maxLen; omega) hb hr rfl hlt
      · exact .inr hge
    obtain ⟨O', hG⟩ := hO.grew hB r1 r2 h1.1 h2 hrd (fun u hu => by
      rcases List.mem_append.1 hu with hu | hu
      · exact h3 u hu
      · exact hone u hu) hat
    exact ⟨v', w', O', hr, hG⟩
  rcases hx with ⟨⟨p, rfl⟩, rfl⟩ | ⟨b, q, cap, cs, fr, rfl, k2, k3, k4, k5, k6, k7⟩
  · cases p with
    | none =>
      refine ⟨v, w, O, run_append_owned_none w 0 t ty T i m ht i1 v l.length xs h1, ?_⟩
      simp only [List.append_nil]
      exact ⟨hO, Ext.refl _ _, Tr.refl O w, fun _ h => h, hB, fun b hb => .inl hb, fun b hb => .inl hb⟩
    | some ad => exact main ad 0 [] rfl (by simp) (by simp) (by simp) trivial
  · have hlen : l2.length * m ≤ cap * m := Nat.mul_le_mul_right m k2
    have hnl : ((cs.toList.drop q).take (l2.length * m)).length = l2.length * m := by simp; omega
    have hnews : ∀ j u, ((cs.toList.drop q).take (l2.length * m))[j]? = some u → w.cell? ((⟨b, q, none⟩ : Addr).add j) = some u := fun j u e => by
      rw [Addr.add_lit, cell_of_row w b _ cs fr.1 fr.2 k5]
      rw [List.getElem?_take] at e
      split at e
      · simpa using e
      · cases e
    exact main ⟨b, q, none⟩ cap _ rfl hnl hnews (RDl.one k7) (RDl.take_cells k7)
theorem run_append_nil_string' {P : Program} {w : World} (t u ty e : TypeId) (i : TypeInfo) (ht : P.underlying t = some (.slice e)) (hu : P.underlying u = some .string) (hi : P.info? e = some i) (hz : i.zero = some (.int .u8 0))
    (_hs : i.size = 1) (hby : i.bytes = 1) (s : ByteArray) (h0 : 0 < s.size) (hb : s.size ≤ 140737488355328) :
    (Builtin.append_ #[t, u] ty #[.slice none 0 0, .string s]).run P w =
      .ok (.slice (some ⟨w.heap.size, 0, none⟩) s.size (grownCap w s.size 0 e)) (w.drew.alloc (.cells (s.data.map (fun b => Value.int .u8 b.toNat) ++ Builtin.zeroCells (Value.int .u8 0).cells (grownCap w s.size 0 e - s.size)) e)) :=
  run_append_nil_string w t u ty e i _ ht hu hi hz s h0 (by omega) (by rw [hby]; omega)
/-- A byte as_ a cell's datum, and as_ a number. -/
def byteD (b : UInt8) : List D := [.int .u8 (b.toNat : Nat)]
theorem RDl_strCells {w : World} {O : Nat → Prop} : ∀ (s : List UInt8), RDl w O 1 (s.map byteD) (s.map fun b => Value.int .u8 (b.toNat : Nat))
  | [] => trivial
  | b :: s => ⟨⟨_, _, rfl, rfl, rfl⟩, by simpa using RDl_strCells s⟩
/-- append(v, s...), v owned, s a string. -/
theorem run_append_str {P : Program} {w : World} {O : Nat → Prop} {T : Nat} {t u ty : TypeId} {v : Value} {l : List (List D)} {s : List UInt8} (ht : P.underlying t = some (.slice T)) (hu : P.underlying u = some .string) (hi : inf P T = some (.int .u8 0, 1, 1))
    (h : Own w O T 1 v l) (hB : Bd O w) (hb : l.length + s.length ≤ 140737488355328) :
    ∃ v' w' O', (Builtin.append_ #[t, u] ty #[v, .string ⟨s.toArray⟩]).run P w = .ok v' w' ∧ Grew w O T 1 v w' O' v' (l ++ s.map byteD) := by
  obtain ⟨i, i1, i2, i3, i4⟩ := inf_parts hi
  have hO := h
  obtain ⟨xs, h1, h2, h3, h4⟩ := h
  have hsz : (⟨s.toArray⟩ : ByteArray).size = s.length := by simp [ByteArray.size]
  have hsc : Lib.strCells ⟨s.toArray⟩ = s.map fun b => Value.int .u8 (b.toNat : Nat) := by simp [Lib.strCells]
  obtain ⟨v', w', hr, r1, r2, r3⟩ := Lib.run_append_own_string (P := P) (ty := ty) w 0 t u T i ht hu i1 i2 i3 i4 v l.length xs h1 ⟨s.toArray⟩ (by unfold maxLen; omega) (by omega) (Nat.zero_le _)
  have hat : ∀ b, v'.ownBlock = some b → v.ownBlock = some b ∨ w.heap.size ≤ b := by
    intro c hc
    rcases Nat.lt_or_ge c w.heap.size with hlt | hge
    · left
      rcases h1.2 with ⟨rfl, h0⟩ | ⟨g, cap, cur, rfl, _, hg, hnc, hcm, hcs, htake⟩
      · by_cases hm : s.length = 0
        · rw [r3.2 ⟨rfl, by omega⟩] at hc
          exact hc
        · have h := run_append_nil_string' (P := P) (w := w) t u ty T i ht hu i1 i2 i3 i4 ⟨s.toArray⟩ (by omega) (by omega)
          rw [h] at hr
          cases hr
          simp only [Value.ownBlock, Option.some.injEq] at hc
          omega
      · by_cases hroom : l.length + (⟨s.toArray⟩ : ByteArray).size ≤ cap
        · have h := Lib.run_append_room_string (P := P) (ty := ty) w t u T i ht hu i1 i3 g l.length cap cur hg ⟨s.toArray⟩ hroom (by omega)
          rw [h] at hr
          cases hr
          exact hc
        · have holds : ∀ j u, xs[j]? = some u → w.cell? ((⟨g, 0, none⟩ : Addr).add j) = some u := h1.cells (g := g) rfl
          have h := Lib.run_append_grow_string (P := P) (ty := ty) w t u T i _ ht hu i1 i2 ⟨g, 0, none⟩ l.length cap xs (by rw [i3]; exact h1.1) holds ⟨s.toArray⟩ (by omega) (by omega) (growslice_fits (by omega) (by rw [i4]; omega))
          rw [h] at hr
          cases hr
          simp only [Value.ownBlock, Option.some.injEq] at hc
          omega
    · exact .inr hge
  rw [hsz, hsc] at r1
  obtain ⟨O', hG⟩ := hO.grew hB (l2 := s.map byteD) (by simpa using r1) r2 h1.1 h2 (RDl_strCells s) (fun u hu => by
    rcases List.mem_append.1 hu with hu | hu
    · exact h3 u hu
    · obtain ⟨b, _, rfl⟩ := List.mem_map.1 hu
      rfl) hat
  exact ⟨v', w', O', hr, hG⟩

section
variable {C : Cx} {n : Nat} {ds : List Deferred} {k : Act → World → Prop} {L : Env} {w : World} {ops : Array Oper} {o : Oper} {rest : List Oper} {d : Nat} {v : Value}
theorem OW.appendL {O : Nat → Prop} {t T m by_ : Nat} {x y : Operand} {z vx vy : Value} {l l2 : List (List D)} (hg : o.guard = none) (hd : o.dst = some d) (hn : Nat.blt d n = true) (ho : o.op = .call { callee := .builtin .append, args := #[x, y], argTypes := #[t, t] })
    (ht : C.P.underlying t = some (.slice T)) (hi : inf C.P T = some (z, m, by_)) (hz : z.cells.size = m) (hm : Nat.blt 0 m = true) (hby : Nat.blt 0 by_ = true) (hx : ev L x = some vx) (hy : ev L y = some vy)
    (hown : Own w O T m vx l) (hB : Bd O w) (hdat : RD w O (.sl T m l2) vy) (hb : (l.length + l2.length) * by_ ≤ 140737488355328)
    (h : ∀ v' w' O', Grew w O T m vx w' O' v' (l ++ l2) → OW C n ds ops rest k ((d, v') :: L) w') : OW C n ds ops (o :: rest) k L w := by
  obtain ⟨v', w', O', hr, hG⟩ := run_append_data (ty := o.type) ht hi hz (by simpa [Nat.blt_eq] using hm) (by simpa [Nat.blt_eq] using hby) hown hB hdat hb
  refine OW.val (v := v') (w' := w') hg hd hn (fun a ha => ?_) (h v' w' O' hG)
  simp only [execOp, ho, resolve, invoke, builtin, Sem.run_bind, Sem.run_pure, Result.andThen_ok, List.map_toArray, List.map_cons, List.map_nil, ha.ev hx, ha.ev hy, hr]
theorem OW.appendS {O : Nat → Prop} {t u T : Nat} {x y : Operand} {vx : Value} {l : List (List D)} {s : List UInt8} (hg : o.guard = none) (hd : o.dst = some d) (hn : Nat.blt d n = true) (ho : o.op = .call { callee := .builtin .append, args := #[x, y], argTypes := #[t, u] })
    (ht : C.P.underlying t = some (.slice T)) (hu : C.P.underlying u = some .string) (hi : inf C.P T = some (.int .u8 0, 1, 1)) (hx : ev L x = some vx) (hy : ev L y = some (.string ⟨s.toArray⟩))
    (hown : Own w O T 1 vx l) (hB : Bd O w) (hb : l.length + s.length ≤ 140737488355328)
    (h : ∀ v' w' O', Grew w O T 1 vx w' O' v' (l ++ s.map byteD) → OW C n ds ops rest k ((d, v') :: L) w') : OW C n ds ops (o :: rest) k L w := by
  obtain ⟨v', w', O', hr, hG⟩ := run_append_str (ty := o.type) ht hu hi hown hB hb
  refine OW.val (v := v') (w' := w') hg hd hn (fun a ha => ?_) (h v' w' O' hG)
  simp only [execOp, ho, resolve, invoke, builtin, Sem.run_bind, Sem.run_pure, Result.andThen_ok, List.map_toArray, List.map_cons, List.map_nil, ha.ev hx, ha.ev hy, hr]
/-- One result's variable, read. -/
def RV (C : Cx) (L : Env) (w : World) (r : ResultVar) (v : Value) : Prop :=
  match r with
  | .tmp t => Env.get L t = some v
  | .cell t T => ∃ b U cs g m, Env.get L t = some (.pointer (some ⟨b, 0, none⟩)) ∧ shp C.P T = some (g, m) ∧ BoxAt w b U cs ∧ cs.length = m ∧ (match g with | true => v = .agg cs.toArray | false => cs[0]? = some v)
def RVs (C : Cx) (L : Env) (w : World) : List ResultVar → List Value → Prop
  | [], vs => vs = []
  | r :: rs, vs => ∃ v vs', vs = v :: vs' ∧ RV C L w r v ∧ RVs C L w rs vs'
def rdRes (a : Act) : ResultVar → Sem Value
  | .tmp t => pure (a.tmps.getD t undef)
  | .cell p t => do loadVar t (← asAddr (a.tmps.getD p undef))
theorem results_rd (fn : Func) (a : Act) : results fn a.tmps = (do let vs ← fn.results.mapM (rdRes a); pure (if h : vs.size = 1 then vs[0] else .tuple vs)) := rfl
theorem RV.run {a : Act} (ha : Has n L a) {r : ResultVar} {v : Value} (h1 : RV C L w r v) : (rdRes a r).run C.P w = .ok v w := by
  cases r with
  | tmp t => simp [rdRes, ha.get t v h1]
  | cell p T =>
    obtain ⟨b, U, cs, g, m, k1, k2, k3, k4, k5⟩ := h1
    cases g with
    | true =>
      simp only at k5
      subst k5
      have h2 := run_loadVarN (P := C.P) (w := w) (b := b) (o := 0) k2 k4 (fun j v e => by rw [Nat.zero_add, k3.cell]; exact e)
      simp [rdRes, ha.get p _ k1, asAddr, h2]
    | false =>
      simp only at k5
      have h2 := run_loadVar1 (P := C.P) (w := w) (a := ⟨b, 0, none⟩) k2 ((k3.cell 0).trans k5)
      simp [rdRes, ha.get p _ k1, asAddr, h2]
theorem RVs.run {a : Act} (ha : Has n L a) : ∀ {rs : List ResultVar} {vs : List Value}, RVs C L w rs vs → (rs.mapM (rdRes a)).run C.P w = .ok vs w
  | [], vs, h => by simp only [RVs] at h; subst h; rfl
  | r :: rs, vs, h => by
    obtain ⟨v, vs', rfl, h1, h2⟩ := h
    have ih := RVs.run ha h2
    simp only [List.mapM_cons, Sem.run_bind, h1.run ha, ih, Result.andThen_ok, Sem.run_pure]
theorem Out.many {rs : List ResultVar} {vs : List Value} (h : C.fn.results = rs.toArray) (hv : RVs C L w rs vs) (h1 : Nat.beq vs.length 1 = false) : Out C n L w (.tuple vs.toArray) := fun a ha => by
  have h2 := RVs.run (C := C) ha hv
  have h3 : vs.length ≠ 1 := Nat.ne_of_beq_eq_false h1
  rw [results_rd]
  simp only [h, Sem.run_bind]
  rw [Array.mapM_eq_mapM_toList, Sem.run_map]
  simp only [h2, Result.andThen_ok, Sem.run_pure]
  simp [h3]
theorem Out.single {r : ResultVar} {v : Value} (h : C.fn.results = #[r]) (hv : RV C L w r v) : Out C n L w v := fun a ha => by
  rw [results_rd]
  simp only [h, Sem.run_bind]
  rw [Array.mapM_eq_mapM_toList, Sem.run_map]
  simp [RV.run ha hv]
end
theorem Own.len {w : World} {O : Nat → Prop} {T m : Nat} {v : Value} {l : List (List D)} (h : Own w O T m v l) : ∃ p c, v = .slice p l.length c := by
  obtain ⟨xs, h1, _⟩ := h
  rcases h1.2 with ⟨rfl, h0⟩ | ⟨g, cap, cur, rfl, _⟩
  · exact ⟨none, 0, by rw [h0]⟩
  · exact ⟨_, cap, rfl⟩
/-- A new slice, owned. -/
theorem Own.of_new {w' : World} {O : Nat → Prop} {b T m len : Nat} {cs : List Value} {l : List (List D)} (hb : BoxAt w' b T cs) (hl : l.length = len) (hm : len ≤ maxLen) (hs : cs.length = len * m) (h : RDl w' O m l cs) (ho : O b) :
    Own w' O T m (.slice (some ⟨b, 0, none⟩) len len) l := by
  subst hl
  refine ⟨cs, ⟨hs, .inr ⟨b, l.length, cs.toArray, rfl, Nat.zero_le _, hb, Nat.le_refl _, hm, by simp [hs], by simp [← hs]⟩⟩, h, fun x hx => RDl.one h x (by rw [← hs, List.take_length]; exact hx), fun c hc => by simp only [Value.ownBlock, Option.some.injEq] at hc; subst hc; exact ho⟩
end
section
theorem bnd {α β : Type} {x : Option α} {f : α → Option β} {r : β} (h : (x >>= f) = some r) : ∃ a, x = some a ∧ f a = some r := by
  cases x with
  | none => cases h
  | some a => exact ⟨a, rfl, h⟩
/-- How a loop within a loop ends: with the function's answer, or behind the loop. -/
inductive Jn (R α : Type) where
  | done (r : R)
  | go (a : α)
def chk (b : Bool) : Option Unit := if b then some () else none
theorem chk_some {b : Bool} {u : Unit} (h : chk b = some u) : b = true := by
  cases b with
  | true => rfl
  | false => cases h
def ix {α : Type} (l : List α) (i : Int) : Option α := if 0 ≤ i then l[i.toNat]? else none
theorem ix_some {α : Type} {l : List α} {i : Int} {x : α} (h : ix l i = some x) : ∃ j : Nat, i = (j : Nat) ∧ l[j]? = some x := by
  unfold ix at h
  split at h
  · exact ⟨i.toNat, by omega, h⟩
  · cases h
def sub {α : Type} (l : List α) (a b : Int) : Option (List α) := if 0 ≤ a ∧ a ≤ b ∧ b ≤ (l.length : Int) then some ((l.take b.toNat).drop a.toNat) else none
theorem sub_some {α : Type} {l : List α} {a b : Int} {x : List α} (h : sub l a b = some x) : ∃ p q : Nat, a = (p : Nat) ∧ b = (q : Nat) ∧ p ≤ q ∧ q ≤ l.length ∧ x = (l.take q).drop p := by
  unfold sub at h
  split at h
  · rename_i hc
    cases h
    exact ⟨a.toNat, b.toNat, by omega, by omega, by omega, by omega, rfl⟩
  · cases h
def cat (a b : List UInt8) : Option (List UInt8) := if a.length + b.length ≤ 9223372036854775807 then some (a ++ b) else none
theorem cat_some {a b x : List UInt8} (h : cat a b = some x) : x = a ++ b ∧ a.length + b.length ≤ 9223372036854775807 := by
  unfold cat at h
  split at h
  · rename_i hc
    cases h
    exact ⟨rfl, hc⟩
  · cases h
/-- l and l2 behind it, elements of so many bytes. -/
def app {α : Type} (by_ : Nat) (l l2 : List α) : Option (List α) := if (l.length + l2.length) * by_ ≤ 140737488355328 then some (l ++ l2) else none
theorem app_some {α : Type} {by_ : Nat} {l l2 x : List α} (h : app by_ l l2 = some x) : x = l ++ l2 ∧ (l.length + l2.length) * by_ ≤ 140737488355328 := by
  unfold app at h
  split at h
  · rename_i hc
    cases h
    exact ⟨rfl, hc⟩
  · cases h

/-- The data of plain elements. -/
def eI (k : IntKind) (n : Int) : List D := [.int k n]
def eS (s : List UInt8) : List D := [.str s]

section
variable {α : Type} {f : α → List D} {l : List α} {w : World} {O : Nat → Prop} {T n : Nat} {v : Value}
end

section
variable {C : Cx} {n : Nat} {ds : List Deferred} {k : Act → World → Prop} {L : Env} {w : World} {ops : Array Oper} {o : Oper} {rest : List Oper} {d : Nat} {v : Value}
theorem EX.indexAddrV {t T m : TypeId} {gg : Bool} {x y : Operand} {b q len cap : Nat} {kd : IntKind} {i : Int} {j : Nat} {u : Value} (ho : o.op = .indexAddr t x y)
    (ht : C.P.underlying t = some (.slice T)) (hT : shp C.P T = some (gg, m)) (hx : ev L x = some u) (hu : u = .slice (some ⟨b, q, none⟩) len cap) (hy : ev L y = some (.int kd i)) (hi : i = (j : Nat)) (hj : j < len) :
    EX C n L w o (.pointer (some ⟨b, q + j * m, none⟩)) := EX.indexAddr ho ht hT (by rw [hx, hu]) hy hi hj
theorem EX.lenV {t e : TypeId} {x : Operand} {u : Value} {l : Nat} (ho : o.op = .call { callee := .builtin .len, args := #[x], argTypes := #[t] })
    (ht : C.P.underlying t = some (.slice e)) (hx : ev L x = some u) (hu : ∃ p c, u = .slice p l c) : EX C n L w o (.int .i64 (l : Nat)) := by
  obtain ⟨p, c, rfl⟩ := hu
  exact EX.lenL ho ht hx
theorem CallK.pan {ch : List PanicEntry} {dd : Option Nat} (h : C.R (.panicked ch) w) : CallK C n [] ops rest k L dd (.panicked ch) w := fun _ _ hd => PN.nil hd h
end
def setx {α : Type} (l : List α) (i : Int) (a : α) : Option (List α) := if 0 ≤ i ∧ i < l.length then some (l.set i.toNat a) else none
theorem setx_some {α : Type} {l l' : List α} {i : Int} {a : α} {j : Nat} (h : setx l i a = some l') (hj : i = (j : Nat)) : l' = l.set j a := by
  unfold setx at h
  split at h
  · cases h; subst hj; rfl
  · cases h
/-- A string's bytes as_ numbers, and back. -/
def unb (s : List UInt8) : List Int := s.map fun b => (b.toNat : Int)
def byt (l : List Int) : List UInt8 := l.map fun n => UInt8.ofNat n.toNat
theorem RD.nil {α : Type} {f : α → List D} {w : World} {O : Nat → Prop} {T m : Nat} : RD w O (.sl T m (([] : List α).map f)) (.slice none 0 0) := .inl ⟨⟨_, rfl⟩, rfl⟩
theorem one_int {w : World} {O : Nat → Prop} {k : IntKind} {x : Int} {cs : List Value} (h : RDs w O (eI k x) cs) : cs = [.int k x] := by
  obtain ⟨v, r, rfl, h1, rfl⟩ := h
  simp only [RD] at h1
  subst h1
  rfl
theorem one_str {w : World} {O : Nat → Prop} {x : List UInt8} {cs : List Value} (h : RDs w O (eS x) cs) : cs = [.string ⟨List.toArray x⟩] := by
  obtain ⟨v, r, rfl, h1, rfl⟩ := h
  simp only [RD] at h1
  subst h1
  rfl
theorem Own.mem {w : World} {O : Nat → Prop} {T m : Nat} {v : Value} {l : List (List D)} (h : Own w O T m v l) : ∀ b, v.ownBlock = some b → O b := by
  obtain ⟨_, _, _, _, h⟩ := h
  exact h
theorem Own.down {w : World} {O O' : Nat → Prop} {T m : Nat} {v : Value} {l : List (List D)} (h : Own w O T m v l) (ho : ∀ x, O' x → O x) (hv : ∀ b, v.ownBlock = some b → O' b) : Own w O' T m v l := by
  obtain ⟨xs, h1, h2, h3, _⟩ := h
  exact ⟨xs, h1, h2.tr (Tr.drop w ho), h3, hv⟩
section
variable {C : Cx} {n : Nat} {ds : List Deferred} {k : Act → World → Prop} {L : Env} {w : World} {ops : Array Oper} {o : Oper} {rest : List Oper} {d : Nat} {v : Value}
/-- '[]byte(s)': new memory. -/
theorem OW.toBytes {O : Nat → Prop} {t u T : TypeId} {x : Operand} {s : List UInt8} (hg : o.guard = none) (hd : o.dst = some d) (hn : Nat.blt d n = true) (ho : o.op = .convert t u x)
    (ht : C.P.underlying t = some .string) (hu : C.P.underlying u = some (.slice T)) (hT : C.P.underlying T = some (.int .u8)) (hx : ev L x = some (.string ⟨s.toArray⟩)) (hB : Bd O w) (h0 : s.length ≤ 9223372036854775807)
    (h : ∀ v' w', Ext Nowhere w w' → RD w' O (.sl T 1 ((unb s).map (eI .u8))) v' → OW C n ds ops rest k ((d, v') :: L) w') : OW C n ds ops (o :: rest) k L w := by
  have hsz : (⟨s.toArray⟩ : ByteArray).size = s.length := by simp [ByteArray.size]
  refine OW.val (v := .slice (some ⟨w.heap.size, 0, none⟩) s.length (grownCap w s.length 0 T)) (w' := Lib.bytesWorld w T ⟨s.toArray⟩) hg hd hn (fun a ha => ?_) (h _ _ ?_ ?_)
  · have := Lib.run_convert_string_bytes (P := C.P) w t u T ⟨s.toArray⟩ ht hu hT
    rw [hsz] at this
    simp only [execOp, ho, ha.ev hx, Sem.run_bind, this, Result.andThen_ok]
    rfl
  · refine ⟨?_, ?_, ?_, ?_, fun b hb _ => Lib.bytesWorld_at_old w T _ b hb⟩
    · simp only [Lib.bytesWorld, World.freeze]; split <;> rfl
    · simp only [Lib.bytesWorld, World.freeze]; split <;> rfl
    · simp only [Lib.bytesWorld, World.freeze]; split <;> rfl
    · rw [Lib.bytesWorld_size]; omega
  · refine .inr ⟨w.heap.size, 0, grownCap w s.length 0 T, _, (_, _), by simp [unb], by simpa [unb] using grownCap_ge w s.length 0 T, grownCap_le_maxLen w _ 0 T (by unfold maxLen; omega), fun ho => Nat.lt_irrefl _ (hB _ ho), Lib.bytesWorld_at_new w T _, ?_, ?_⟩
    · have := grownCap_ge w s.length 0 T
      simp [Lib.bytesCells, hsz]
      omega
    · have e : (unb s).map (eI .u8) = s.map byteD := by simp [unb, byteD, eI]
      rw [e]
      refine RDl.of_take ?_
      have e2 : (List.drop 0 (Lib.bytesCells w T ⟨s.toArray⟩).toList).take ((s.map byteD).length * 1) = s.map fun b => Value.int .u8 (b.toNat : Nat) := by
        simp [Lib.bytesCells, List.take_append_of_le_length]
      rw [e2]
      exact RDl_strCells s
theorem RDl.u8 {O : Nat → Prop} : ∀ {l : List Int} {cs : List Value}, RDl w O 1 (l.map (eI .u8)) cs → l.length ≤ cs.length → cs.take l.length = l.map (Value.int .u8)
  | [], _, _, _ => by simp
  | x :: l, [], _, hl => by simp at hl
  | x :: l, c :: cs, h, hl => by
    have h1 := one_int h.1
    have h2 := RDl.u8 (l := l) (cs := cs) (by simpa using h.2) (by simpa using hl)
    simp only [List.take_succ_cons, List.take_zero, List.cons.injEq, and_true] at h1
    simp [h1, h2]
theorem push_byt : ∀ (l : List Int) (a : List UInt8), l.foldl (fun r n => ByteArray.push r (UInt8.ofNat n.toNat)) ⟨a.toArray⟩ = ⟨(a ++ byt l).toArray⟩
  | [], a => by simp [byt]
  | x :: l, a => by
    have e : ByteArray.push ⟨a.toArray⟩ (UInt8.ofNat x.toNat) = ⟨(a ++ [UInt8.ofNat x.toNat]).toArray⟩ := by simp [ByteArray.push]
    rw [List.foldl_cons, e, push_byt l]
    simp [byt]
/-- 'string(b)'. -/
theorem EX.toStr {O : Nat → Prop} {t u T : TypeId} {x : Operand} {l : List Int} {vx : Value} (ho : o.op = .convert t u x)
    (ht : C.P.underlying t = some (.slice T)) (hT : C.P.underlying T = some (.int .u8)) (hu : C.P.underlying u = some .string) (hx : ev L x = some vx) (hr : RD w O (.sl T 1 (l.map (eI .u8))) vx) : EX C n L w o (.string ⟨List.toArray (byt l)⟩) :=
  fun a ha => by
    rcases hr with ⟨⟨p, rfl⟩, h2⟩ | ⟨b, q, cap, cs, fr, rfl, h2, h3, h4, h5, h6, h7⟩
    · have : l = [] := by simpa using h2
      subst this
      simp only [execOp, ho, ha.ev hx, Sem.run_bind, run_convert_bytes_string w t u T p 0 0 ht hT hu]
      cases p with
      | none =>
        simp only [Conv.bytesToString, Sem.run_pure, Result.andThen_ok]
        rfl
      | some ad =>
        have h9 := run_loadCells_list (P := C.P) (w := w) ad [] (fun j v e => by simp at e)
        have h10 := run_bytesToString (P := C.P) w ad 0 0 [] (by simpa using h9)
        simp only [h10, Result.andThen_ok]
        rfl
    · rw [List.length_map] at h2
      have h8 : (cs.toList.drop q).take l.length = l.map (Value.int .u8) := RDl.u8 h7 (by simp; omega)
      have h9 := run_loadCells_list (P := C.P) (w := w) ⟨b, q, none⟩ (l.map (Value.int .u8)) (fun j v e => by
        rw [Addr.add_lit, cell_of_row w b _ cs fr.1 fr.2 h5]
        rw [← h8, List.getElem?_take] at e
        split at e
        · simpa using e
        · cases e)
      rw [List.length_map] at h9
      have h10 := run_bytesToString (P := C.P) w ⟨b, q, none⟩ l.length cap l h9
      have e := push_byt l []
      simp only [List.nil_append] at e
      rw [show ByteArray.empty = (⟨List.toArray []⟩ : ByteArray) from rfl, e] at h10
      simp only [List.length_map] at *
      simp only [execOp, ho, ha.ev hx, Sem.run_bind, run_convert_bytes_string w t u T _ l.length cap ht hT hu, h10, Result.andThen_ok]
      rfl
theorem OW.toStr {O : Nat → Prop} {t u T : TypeId} {x : Operand} {l : List Int} {vx : Value} (hg : o.guard = none) (hd : o.dst = some d) (hn : Nat.blt d n = true) (ho : o.op = .convert t u x)
    (ht : C.P.underlying t = some (.slice T)) (hT : C.P.underlying T = some (.int .u8)) (hu : C.P.underlying u = some .string) (hx : ev L x = some vx) (hr : RD w O (.sl T 1 (l.map (eI .u8))) vx) (h : OW C n ds ops rest k ((d, .string ⟨List.toArray (byt l)⟩) :: L) w) : OW C n ds ops (o :: rest) k L w :=
  OW.val hg hd hn (EX.toStr ho ht hT hu hx hr) h
end
/-- L' says no more than L. -/
def Sub (L' L : Env) : Prop := ∀ t v, Env.get L' t = some v → Env.get L t = some v
theorem Sub.nil {L : Env} : Sub [] L := fun _ _ h => by cases h
def envOf : Nat → List Value → Env
  | _, [] => []
  | i, v :: vs => (i, v) :: envOf (i + 1) vs
theorem envOf_get : ∀ (vs : List Value) (i t : Nat) (v : Value), Env.get (envOf i vs) t = some v → i ≤ t ∧ vs[t - i]? = some v
  | [], _, _, _, h => by cases h
  | u :: vs, i, t, v, h => by
    unfold envOf Env.get at h
    split at h
    · rename_i hb
      have := Nat.eq_of_beq_eq_true hb
      subst this
      cases h
      exact ⟨Nat.le_refl _, by simp⟩
    · rename_i hb
      have hne := Nat.ne_of_beq_eq_false hb
      obtain ⟨h1, h2⟩ := envOf_get vs (i + 1) t v h
      refine ⟨by omega, ?_⟩
      have : t - i = (t - (i + 1)) + 1 := by omega
      rw [this]
      simpa using h2
theorem calls_of {P : Program} {f : FuncId} {fn : Func} {c : Code} {args : List Value} {w : World} {R : Ending → World → Prop} (hf : P.funcs[f]? = some fn) (hb : fn.body = some c)
    (n : Nat) (hn : fn.ntmps = n) (hl : Nat.ble args.length n = true) (h : TW { P := P, f := f, fn := fn, R := R, hf := hf } n [] [.code c] (envOf 0 args) w) : Calls P f args.toArray w R :=
  calls_of_tw hf hb _ n hn hl (fun t v e => by simpa using (envOf_get args 0 t v e).2) h
theorem Own.lt {w : World} {O : Nat → Prop} {T m : Nat} {v : Value} {l : List (List D)} (h : Own w O T m v l) : ∀ b, v.ownBlock = some b → b < w.heap.size := by
  obtain ⟨xs, h1, _⟩ := h
  exact fun b hb => (h1.lt b hb).2
end
section
def preds (o : Oper) : List Nat := (o.after.toList.filter (Region.binds .any ·)).map (·.on)
/-- What lies behind each operation, as_ bits. -/
abbrev Anc := List Nat
def behind (anc : Anc) (i j : Nat) : Bool := Nat.testBit (anc.getD i 0) j
def ancOf (anc : Anc) : List Nat → Nat → Nat
  | [], m => m
  | p :: ps, m => ancOf anc ps (m ||| (1 <<< p) ||| anc.getD p 0)
def okAnc (ops : Array Oper) (anc : Anc) : Bool := (List.range ops.size).all fun i => ((ops[i]?).map fun o => Nat.beq (anc.getD i 0) (ancOf anc (preds o) 0)).getD false
def dstOf (ops : Array Oper) (i : Nat) : Option Tmp := (ops[i]?).bind (·.dst)
/-- The acting operations that are left, as_ a tree of choices: (operation, the quiet ones of before that still count behind it, the quiet ones that wait for it). -/
inductive Gt where
  | fin
  | one (e : Nat) (kp qs : List Nat) (sub : Gt)
  | alt (e : Nat) (kp qs : List Nat) (sub rest : Gt)
def Gt.heads : Gt → List Nat
  | .fin => []
  | .one e _ _ _ => [e]
  | .alt e _ _ _ r => e :: r.heads
def Gt.pick : Gt → Nat → Option (List Nat × List Nat × Gt)
  | .fin, _ => none
  | .one e kp qs sub, i => if e = i then some (kp, qs, sub) else none
  | .alt e kp qs sub r, i => if e = i then some (kp, qs, sub) else r.pick i
def without (l : List Nat) (qs : List Nat) : List Nat := l.filter fun q => !(qs.any (Nat.beq q))
/-- Whatever may act next is a choice; the quiet ones that wait, wait for one that is left. -/
def covOk (anc : Anc) (rem wai : List Nat) (g : Gt) : Bool := wai.all (fun q => rem.any fun e => behind anc q e) && rem.all fun i => g.heads.contains i || rem.any fun j => behind anc i j
def nodeOk (anc : Anc) (rem wai done : List Nat) (e : Nat) (kp qs : List Nat) : Bool := rem.contains e && (done.all fun q => kp.contains q || behind anc e q) && kp.all (done.contains ·) && qs.all fun q => wai.contains q && behind anc q e
def altsOk (anc : Anc) : List Nat → List Nat → List Nat → Gt → Bool
  | _, _, _, .fin => true
  | rem, wai, done, .one e kp qs sub => nodeOk anc rem wai done e kp qs && covOk anc (without rem [e]) (without wai qs) sub && altsOk anc (without rem [e]) (without wai qs) (kp ++ qs) sub
  | rem, wai, done, .alt e kp qs sub r => nodeOk anc rem wai done e kp qs && covOk anc (without rem [e]) (without wai qs) sub && altsOk anc (without rem [e]) (without wai qs) (kp ++ qs) sub && altsOk anc rem wai done r
theorem altsOk.pick {anc : Anc} {i : Nat} {kp qs : List Nat} {sub : Gt} : ∀ {g : Gt} {rem wai done : List Nat}, altsOk anc rem wai done g = true → g.pick i = some (kp, qs, sub) →
    nodeOk anc rem wai done i kp qs = true ∧ covOk anc (without rem [i]) (without wai qs) sub = true ∧ altsOk anc (without rem [i]) (without wai qs) (kp ++ qs) sub = true
  | .fin, _, _, _, _, h => by cases h
  | .one e kp' qs' sub', rem, wai, done, h, hp => by
    unfold Gt.pick at hp
    split at hp
    · rename_i e1
      subst e1
      cases hp
      simp only [altsOk, Bool.and_eq_true] at h
      exact ⟨h.1.1, h.1.2, h.2⟩
    · cases hp
  | .alt e kp' qs' sub' r, rem, wai, done, h, hp => by
    unfold Gt.pick at hp
    simp only [altsOk, Bool.and_eq_true] at h
    split at hp
    · rename_i e1
      subst e1
      cases hp
      exact ⟨h.1.1.1, h.1.1.2, h.1.2⟩
    · exact altsOk.pick h.2 hp
theorem Gt.pick_some {i : Nat} : ∀ {g : Gt}, i ∈ g.heads → ∃ p, g.pick i = some p
  | .fin, h => by cases h
  | .one e kp qs sub, h => by
    simp only [Gt.heads, List.mem_singleton] at h
    exact ⟨(kp, qs, sub), by simp [Gt.pick, h]⟩
  | .alt e kp qs sub r, h => by
    by_cases e1 : e = i
    · exact ⟨(kp, qs, sub), by simp [Gt.pick, e1]⟩
    · rcases List.mem_cons.1 h with rfl | h
      · exact (e1 rfl).elim
      · obtain ⟨p, hp⟩ := Gt.pick_some h
        exact ⟨p, by simp [Gt.pick, e1, hp]⟩
theorem mem_without {l qs : List Nat} {q : Nat} : q ∈ without l qs ↔ q ∈ l ∧ q ∉ qs := by
  unfold without
  rw [List.mem_filter, Bool.not_eq_true', List.any_eq_false]
  refine and_congr_right fun _ => ⟨fun h hm => h q hm (Nat.beq_refl q), fun h x hx e => ?_⟩
  exact h ((Nat.eq_of_beq_eq_true e) ▸ hx)
def okLow (ops : Array Oper) : Bool := (List.range ops.size).all fun i => ((ops[i]?).map fun o => (preds o).all (Nat.blt · i)).getD false
def lookAll (anc : Anc) (Q : List Nat) (ts : List Tmp) (i : Nat) : List Oper → Nat → Bool
  | [], _ => true
  | o :: r, j => ((match o.dst with | some d => !(ts.any (Nat.beq d)) | none => true) || !(Q.contains j) || behind anc i j) && lookAll anc Q ts i r (j + 1)
def okLook (ops : Array Oper) (anc : Anc) (Q : List Nat) : Bool := (List.range ops.size).all fun i => ((ops[i]?).map fun o => lookAll anc Q (o.looksAt ops) i ops.toList 0).getD false
def okDst (ops : Array Oper) (n : Nat) (Q E : List Nat) : Bool := Q.all fun q => match dstOf ops q with | some t => decide (t < n) && !(E.any fun e => dstOf ops e == some t) | none => false
def quietOf (ops : Array Oper) (E : List Nat) : List Nat := (List.range ops.size).filter fun i => !(E.contains i)
def drawOk (ops : Array Oper) (anc : Anc) (n : Nat) (E qs : List Nat) (g : Gt) : Bool :=
  okLow ops && okAnc ops anc && okLook ops anc (quietOf ops E) && Region.noSelect ops && okDst ops n (quietOf ops E) E && E.all (· < ops.size) && qs.all ((quietOf ops E).contains ·) &&
  covOk anc E (without (quietOf ops E) qs) g && altsOk anc E (without (quietOf ops E) qs) qs g
theorem lookAll_spec {anc : Anc} {Q : List Nat} {ts : List Tmp} {i : Nat} : ∀ {l : List Oper} {j0 : Nat}, lookAll anc Q ts i l j0 = true → ∀ (k : Nat) (o : Oper) (d : Nat), l[k]? = some o → o.dst = some d → d ∈ ts → (j0 + k) ∈ Q → behind anc i (j0 + k) = true
  | [], _, _, k, o, d, h, _, _, _ => by simp at h
  | x :: l, j0, hl, k, o, d, h, hd, ht, hq => by
    simp only [lookAll, Bool.and_eq_true] at hl
    cases k with
    | zero =>
      simp only [List.getElem?_cons_zero, Option.some.injEq] at h
      subst h
      have h1 := hl.1
      rw [hd] at h1
      have h2 : ts.any (Nat.beq d) = true := List.any_eq_true.2 ⟨d, ht, Nat.beq_refl d⟩
      have h3 : j0 ∈ Q := by simpa using hq
      simp [h2, h3] at h1
      exact h1
    | succ k =>
      have := lookAll_spec hl.2 k o d (by simpa using h) hd ht (by rw [Nat.add_assoc, Nat.add_comm 1 k]; exact hq)
      rwa [Nat.add_assoc, Nat.add_comm 1 k] at this
section
variable {P : Program} {ops : Array Oper} {anc : Anc}
/-- The quiet operation is as_ if done: it would give what its slot holds. -/
def StabOp (P : Program) (ops : Array Oper) (a : Act) (w : World) (q : Nat) : Prop :=
  ∀ o, ops[q]? = some o → ∀ d, o.dst = some d → (Region.wanted o (yielded ops a.tmps) = true → ∃ v, a.tmps[d]? = some v ∧ (execOp a.eval o).run P w = .ok (.value v) w) ∧
    (Region.wanted o (yielded ops a.tmps) = false → a.tmps[d]? = some undef)
/-- b is a, but for the slots of the operations in S. -/
structure Off (ops : Array Oper) (S : List Nat) (a b : Act) : Prop where
  size : a.tmps.size = b.tmps.size
  defers : a.defers = b.defers
  get : ∀ t, (∀ q ∈ S, dstOf ops q ≠ some t) → a.tmps[t]? = b.tmps[t]?
/-- From the virtual act on, choice by choice. 'done': the quiet operations that are as_ if done. -/
def DRa (C : Cx) (ds : List Deferred) (ops : Array Oper) (K : Act → World → Prop) : (done : List Nat) → Gt → Act → World → Prop
  | done, .fin, a, w => (∀ q ∈ done, StabOp C.P ops a w q) ∧ K a w
  | done, .one e kp qs sub, a, w => (∀ q ∈ done, StabOp C.P ops a w q) ∧ ∀ o, ops[e]? = some o →
      wpList C.P ops (QT C ds (fun a' w' => ∃ b', Off ops qs a' b' ∧ DRa C ds ops K (kp ++ qs) sub b' w')) [o] a w
  | done, .alt e kp qs sub r, a, w => (∀ o, ops[e]? = some o →
      wpList C.P ops (QT C ds (fun a' w' => ∃ b', Off ops qs a' b' ∧ DRa C ds ops K (kp ++ qs) sub b' w')) [o] a w) ∧ DRa C ds ops K done r a w
theorem DRa.stab {C : Cx} {ds : List Deferred} {ops : Array Oper} {K : Act → World → Prop} {done : List Nat} {a : Act} {w : World} : ∀ {g : Gt}, DRa C ds ops K done g a w → ∀ q ∈ done, StabOp C.P ops a w q
  | .fin, h => h.1
  | .one .., h => h.1
  | .alt _ _ _ _ r, h => DRa.stab (g := r) h.2
theorem DRa.pick {C : Cx} {ds : List Deferred} {ops : Array Oper} {K : Act → World → Prop} {done kp qs : List Nat} {a : Act} {w : World} {i : Nat} {o : Oper} {sub : Gt} (ho : ops[i]? = some o) : ∀ {g : Gt}, DRa C ds ops K done g a w → g.pick i = some (kp, qs, sub) →
    wpList C.P ops (QT C ds (fun a' w' => ∃ b', Off ops qs a' b' ∧ DRa C ds ops K (kp ++ qs) sub b' w')) [o] a w
  | .fin, _, hp => by cases hp
  | .one e _ _ _, h, hp => by
    unfold Gt.pick at hp
    split at hp
    · rename_i e1
      subst e1
      cases hp
      exact h.2 o ho
    · cases hp
  | .alt e _ _ _ r, h, hp => by
    unfold Gt.pick at hp
    split at hp
    · rename_i e1
      subst e1
      cases hp
      exact h.1 o ho
    · exact DRa.pick ho (g := r) h.2 hp

theorem preds_mem {o : Oper} {j : Nat} : j ∈ preds o ↔ ∃ e ∈ o.after, Region.binds .any e = true ∧ e.on = j := by
  simp only [preds, List.mem_map, List.mem_filter]
  constructor
  · rintro ⟨e, ⟨h1, h2⟩, h3⟩; exact ⟨e, by simpa using h1, h2, h3⟩
  · rintro ⟨e, h1, h2, h3⟩; exact ⟨e, ⟨by simpa using h1, h2⟩, h3⟩
theorem ancOf_bit {anc : Anc} {j : Nat} : ∀ {ps : List Nat} {m : Nat}, Nat.testBit (ancOf anc ps m) j = true → Nat.testBit m j = true ∨ ∃ p ∈ ps, j = p ∨ behind anc p j = true
  | [], m, h => .inl h
  | p :: ps, m, h => by
    simp only [ancOf] at h
    rcases ancOf_bit h with h | ⟨q, h1, h2⟩
    · rw [Nat.testBit_or, Nat.testBit_or, Bool.or_eq_true, Bool.or_eq_true] at h
      rcases h with (h | h) | h
      · exact .inl h
      · refine .inr ⟨p, List.mem_cons_self, .inl ?_⟩
        rw [Nat.one_shiftLeft, Nat.testBit_two_pow] at h
        simp at h
        exact h.symm
      · exact .inr ⟨p, List.mem_cons_self, .inr h⟩
    · exact .inr ⟨q, List.mem_cons_of_mem _ h1, h2⟩
theorem okAnc_spec (h : okAnc ops anc = true) {i j : Nat} {o : Oper} (ho : ops[i]? = some o) (hb : behind anc i j = true) : ∃ p ∈ preds o, j = p ∨ behind anc p j = true := by
  have := List.all_eq_true.1 h i (List.mem_range.2 (Array.getElem?_eq_some_iff.1 ho).1)
  simp only [ho, Option.map_some, Option.getD_some] at this
  have := Nat.eq_of_beq_eq_true this
  unfold behind at hb
  rw [this] at hb
  rcases ancOf_bit hb with h | h
  · simp at h
  · exact h
/-- What must lie behind the operation has been done when it is ready. -/
theorem behind_listed {listed : Array Bool} {i j : Nat} {o : Oper} (ha : okAnc ops anc = true) (hlow : ∀ (i : Nat) (o : Oper), ops[i]? = some o → ∀ j ∈ preds o, j < i) (hd : ∀ i, listed.getD i false = true → ∀ o, ops[i]? = some o → ∀ j ∈ preds o, listed.getD j false = true)
    (ho : ops[i]? = some o) (hr : ∀ e ∈ o.after, Region.binds .any e = true → listed.getD e.on false = true) (h : behind anc i j = true) : listed.getD j false = true := by
  have key : ∀ k, listed.getD k false = true → k < ops.size → ∀ j, behind anc k j = true → listed.getD j false = true := by
    intro k
    induction k using Nat.strongRecOn with
    | _ k ih =>
      intro hk hlt j hb
      have hok : ops[k]? = some ops[k] := by simp [hlt]
      obtain ⟨p, hp, hj⟩ := okAnc_spec ha hok hb
      have hlp := hd k hk _ hok p hp
      rcases hj with rfl | hj
      · exact hlp
      · have hpk := hlow k _ hok p hp
        exact ih p hpk hlp (by omega) j hj
  obtain ⟨p, hp, hj⟩ := okAnc_spec ha ho h
  obtain ⟨e, h1, h2, rfl⟩ := preds_mem.1 hp
  have hle := hr e h1 h2
  rcases hj with rfl | hj
  · exact hle
  · have hpk := hlow i o ho e.on hp
    have := (Array.getElem?_eq_some_iff.1 ho).1
    exact key e.on hle (by omega) j hj
structure Stat (ops : Array Oper) (anc : Anc) (Q E : List Nat) : Prop where
  okA : okAnc ops anc = true
  low : ∀ (i : Nat) (o : Oper), ops[i]? = some o → ∀ j ∈ preds o, j < i
  look : ∀ (i : Nat) (o : Oper), ops[i]? = some o → ∀ t ∈ o.looksAt ops, ∀ j, j < ops.size → j ∈ Q → dstOf ops j = some t → behind anc i j = true
  sel : ∀ (i : Nat) (o : Oper), ops[i]? = some o → ∀ cs b, o.op ≠ .select cs b
  cov : ∀ i, i < ops.size → i ∈ Q ∨ i ∈ E
  dst : ∀ q ∈ Q, ∃ t, dstOf ops q = some t ∧ ∀ e ∈ E, dstOf ops e ≠ some t
  dis : ∀ q ∈ Q, q ∉ E
  rng : ∀ e ∈ E, e < ops.size
structure DInv (ops : Array Oper) (anc : Anc) (Q E : List Nat) (listed : Array Bool) (rem wai done : List Nat) (g : Gt) (a b : Act) : Prop where
  sz : listed.size = ops.size
  down : ∀ i, listed.getD i false = true → ∀ o, ops[i]? = some o → ∀ j ∈ preds o, listed.getD j false = true
  size : a.tmps.size = b.tmps.size
  defers : a.defers = b.defers
  get : ∀ t, (∀ q ∈ done, listed.getD q false = false → dstOf ops q ≠ some t) → a.tmps[t]? = b.tmps[t]?
  remU : ∀ e ∈ rem, listed.getD e false = false ∧ e ∈ E
  waiU : ∀ q ∈ wai, listed.getD q false = false ∧ q ∈ Q
  covQ : ∀ i ∈ Q, listed.getD i false = true ∨ i ∈ done ∨ i ∈ wai
  covE : ∀ i ∈ E, listed.getD i false = true ∨ i ∈ rem
  doneQ : ∀ q ∈ done, q ∈ Q
  cov : covOk anc rem wai g = true
  alts : altsOk anc rem wai done g = true

theorem getD_lt {listed : Array Bool} {i : Nat} (h : listed.getD i true = false) : i < listed.size := by
  rcases Nat.lt_or_ge i listed.size with h' | h'
  · exact h'
  · simp [Array.getD, Nat.not_lt.2 h'] at h
theorem getD_both {listed : Array Bool} {i : Nat} (h : listed.getD i true = false) : listed.getD i false = false := by
  have hl := getD_lt h
  simp [Array.getD, hl] at h ⊢
  exact h
theorem getD_back {listed : Array Bool} {i : Nat} (hl : i < listed.size) (h : listed.getD i false = false) : listed.getD i true = false := by
  simp [Array.getD, hl] at h ⊢
  exact h
theorem set_self {listed : Array Bool} {i : Nat} (h : i < listed.size) (d : Bool) : (listed.setIfInBounds i true).getD i d = true := by
  simp [Array.getD, h]
/-- What an operation looks at is alike in both acts. -/
theorem look_alike {Q E : List Nat} {listed : Array Bool} {rem wai done : List Nat} {g : Gt} {a b : Act} (hs : Stat ops anc Q E) (hi : DInv ops anc Q E listed rem wai done g a b) {i : Nat} {o : Oper} (ho : ops[i]? = some o)
    (hr : ∀ e ∈ o.after, Region.binds .any e = true → listed.getD e.on false = true) : (∀ t ∈ o.looksAt ops, a.tmps[t]? = b.tmps[t]?) := by
  intro t ht
  refine hi.get t fun q hq hl e => ?_
  have hlt : q < ops.size := by
    unfold dstOf at e
    rcases Nat.lt_or_ge q ops.size with h | h
    · exact h
    · simp [Array.getElem?_eq_none h] at e
  rw [behind_listed hs.okA hs.low hi.down ho hr (hs.look i o ho t ht q hlt (hi.doneQ q hq) e)] at hl
  cases hl
theorem exec_alike {a b : Act} {o : Oper} (hsel : ∀ cs b, o.op ≠ .select cs b) (h : ∀ t ∈ o.looksAt ops, a.tmps[t]? = b.tmps[t]?) : execOp a.eval o = execOp b.eval o :=
  execOp_congr o hsel fun x hx => by
    cases x with
    | tmp t =>
      have := h t (by unfold Oper.looksAt; exact List.mem_append_left _ (List.mem_filterMap.2 ⟨.tmp t, by simpa using hx, rfl⟩))
      simp [Act.eval, this]
    | const v => rfl
    | global g => rfl
    | func f => rfl
theorem wanted_alike {a b : Act} {o : Oper} (h : ∀ t ∈ o.looksAt ops, a.tmps[t]? = b.tmps[t]?) : Region.wanted o (yielded ops a.tmps) = Region.wanted o (yielded ops b.tmps) := by
  unfold Region.wanted
  cases hg : o.guard with
  | none => rfl
  | some gw =>
    obtain ⟨j, want⟩ := gw
    have : yielded ops a.tmps j = yielded ops b.tmps j := by
      unfold yielded
      cases ht : (ops[j]?).bind (·.dst) with
      | none => rfl
      | some t =>
        have := h t (by unfold Oper.looksAt; rw [hg]; exact List.mem_append_right _ (by simp [ht]))
        simp [this]
    simp only [this]
theorem upon_alike {o : Oper} {a b : Act} {na nb : Act → World → Prop} {Qa Qb : Exit → Act → World → Prop} (hn : ∀ dd v w, nb ({ b with defers := dd ++ b.defers }.put o.dst v) w → na ({ a with defers := dd ++ a.defers }.put o.dst v) w)
    (hp : ∀ ch w, Qb (.panic ch) b w → Qa (.panic ch) a w) (hout : ¬ LetsOut Qb) : ∀ r, o.upon P b nb Qb r → o.upon P a na Qa r := by
  have hn0 : ∀ v w, nb (b.put o.dst v) w → na (a.put o.dst v) w := fun v w h => hn [] v w h
  intro r h
  cases r with
  | ok x w' =>
    cases x <;> simp only [Oper.upon] at h ⊢ <;>
      first
        | exact hn0 _ _ h
        | exact hn [_] _ _ h
        | exact Calls.mono h (fun e w2 he => by
            cases e with
            | returned v => exact hn0 _ _ he
            | panicked ch => exact hp _ _ he
            | outgrown => exact (hout he).elim)
        | exact Rows.mono h (fun _ _ he => hn0 _ _ he)
  | halt x w' => cases x <;> simp only [Oper.upon] at h ⊢ <;> first | exact hp _ _ h | exact h
end
theorem QT_out {C : Cx} {ds : List Deferred} {K : Act → World → Prop} : ¬ LetsOut (QT C ds K) := fun ⟨_, _, h⟩ => h

theorem all_listed {ops : Array Oper} {anc : Anc} {Q E : List Nat} (hs : Stat ops anc Q E) {listed : Array Bool} (hz : listed.size = ops.size) (hr : Region.ready .any ops listed = []) : ∀ i, i < ops.size → listed.getD i false = true := by
  intro i
  induction i using Nat.strongRecOn with
  | _ i ih =>
    intro hlt
    rcases hb : listed.getD i false with _ | _
    · have hm : i ∈ Region.ready .any ops listed := mem_ready.2 ⟨getD_back (by omega) hb, ops[i], by simp [hlt], fun e he hbnd => by
        have h1 := hs.low i ops[i] (by simp [hlt]) e.on (preds_mem.2 ⟨e, he, hbnd, rfl⟩)
        exact ih e.on h1 (by omega)⟩
      rw [hr] at hm
      cases hm
    · rfl
theorem draw_end {C : Cx} {ds : List Deferred} {ops : Array Oper} {anc : Anc} {K : Act → World → Prop} {Q E : List Nat} (hs : Stat ops anc Q E) {listed : Array Bool} {rem wai done : List Nat} {g : Gt} {a b : Act} {w : World}
    (hall : ∀ i, i < ops.size → listed.getD i false = true) (hd : a.defers = ds) (hi : DInv ops anc Q E listed rem wai done g a b) (hr : DRa C ds ops K done g b w) : QT C ds K .normal a w := by
  have hab : a = b := by
    have h1 : a.tmps = b.tmps := Array.ext_getElem? fun t => hi.get t fun q _ hl e => by
      have hlt : q < ops.size := by
        unfold dstOf at e
        rcases Nat.lt_or_ge q ops.size with h | h
        · exact h
        · simp [Array.getElem?_eq_none h] at e
      rw [hall q hlt] at hl
      cases hl
    cases a; cases b
    simp only at h1
    have h2 := hi.defers
    simp only at h2
    subst h1 h2
    rfl
  subst hab
  have no : ∀ e kp qs sub, nodeOk anc rem wai done e kp qs = true ∧ sub = sub → False := fun e kp qs (sub : Gt) ⟨h, _⟩ => by
    simp only [nodeOk, Bool.and_eq_true] at h
    have hm : e ∈ rem := by simpa using h.1.1.1
    obtain ⟨h1, h2⟩ := hi.remU e hm
    rw [hall _ (hs.rng e h2)] at h1
    cases h1
  have ha := hi.alts
  cases g with
  | fin => exact ⟨hd, hr.2⟩
  | one e kp qs sub => simp only [altsOk, Bool.and_eq_true] at ha; exact (no e kp qs sub ⟨ha.1.1, rfl⟩).elim
  | alt e kp qs sub r => simp only [altsOk, Bool.and_eq_true] at ha; exact (no e kp qs sub ⟨ha.1.1.1, rfl⟩).elim
theorem filter_lt {n : Nat} {listed : Array Bool} {i : Nat} (hz : listed.size = n) (hi : listed.getD i true = false) {fuel : Nat} (h : ((List.range n).filter fun i => !listed.getD i true).length ≤ fuel + 1) :
    ((List.range n).filter fun j => !(listed.setIfInBounds i true).getD j true).length ≤ fuel := by
  have hlt := getD_lt hi
  have hsub : ((List.range n).filter fun j => !(listed.setIfInBounds i true).getD j true) = ((List.range n).filter fun j => !listed.getD j true).filter (fun j => j != i) := by
    rw [List.filter_filter]
    refine List.filter_congr fun j _ => ?_
    rcases Nat.decEq i j with hne | rfl
    · rw [getD_set_ne true hne]
      have : (j != i) = true := by simp; omega
      simp [this]
    · simp [set_self hlt]
  rw [hsub]
  have hmem : i ∈ (List.range n).filter fun j => !listed.getD j true := by
    rw [List.mem_filter]
    exact ⟨List.mem_range.2 (by omega), by simp only [hi]; rfl⟩
  have hlen : (((List.range n).filter fun j => !listed.getD j true).filter (fun j => j != i)).length < ((List.range n).filter fun j => !listed.getD j true).length := by
    refine Nat.lt_of_le_of_ne (List.length_filter_le _ _) fun e => ?_
    rw [List.length_filter_eq_length_iff] at e
    have := e i hmem
    simp at this
  omega
/-- The slot that a result is taken from. -/
def rslot : ResultVar → Nat
  | .tmp t => t
  | .cell t _ => t
/-- Where a panic may be caught, a region of open order tells no slot that a result is taken from. -/
def DrOk (C : Cx) (ops : Array Oper) : Prop := C.lv = false ∨ ∀ q t, dstOf ops q = some t → ∀ r ∈ C.fn.results.toList, rslot r ≠ t
theorem mapM_alike {α β : Type} {f g : α → Sem β} : ∀ {l : List α}, (∀ r ∈ l, f r = g r) → l.mapM f = l.mapM g
  | [], _ => rfl
  | r :: l, h => by rw [List.mapM_cons, List.mapM_cons, h r List.mem_cons_self, mapM_alike fun q hq => h q (List.mem_cons_of_mem _ hq)]
theorem results_alike {P : Program} {fn : Func} {ta tb : Array Value} (h : ∀ r ∈ fn.results.toList, ta[rslot r]? = tb[rslot r]?) (w : World) : (results fn ta).run P w = (results fn tb).run P w := by
  unfold results
  rw [Array.mapM_eq_mapM_toList, Array.mapM_eq_mapM_toList]
  congr 2
  refine congrArg _ (mapM_alike fun r hr => ?_)
  have h1 := h r hr
  have e1 : ta.getD (rslot r) undef = tb.getD (rslot r) undef := by
    rw [Array.getD_eq_getD_getElem?, Array.getD_eq_getD_getElem?, h1]
  cases r <;> simp only [rslot] at e1 <;> simp only [e1]
theorem leaves_alike {P : Program} {fn : Func} {ta tb : Array Value} {R : Ending → World → Prop} (h : ∀ w, (results fn ta).run P w = (results fn tb).run P w) : ∀ (ds : List Deferred) (u : FrameMode) (w : World), Leaves P fn tb R ds u w → Leaves P fn ta R ds u w
  | [], .returning, w, ⟨v, h1, h2⟩ => ⟨v, (h w).trans h1, h2⟩
  | [], .panicking _, w, hl => hl
  | [], .run, w, hl => hl.elim
  | d :: ds, u, w, ⟨h1, fv, cap, f, args, h2, h3, h4⟩ => ⟨h1, fv, cap, f, args, h2, h3, h4.mono fun e u' w' he => by
      cases e with
      | returned v => exact leaves_alike h ds _ _ he
      | panicked ch => exact leaves_alike h ds _ _ he
      | outgrown => exact he⟩
theorem PN.alike {C : Cx} {ops : Array Oper} (h : DrOk C ops) {a b : Act} {ch : List PanicEntry} {w : World} (hdef : a.defers = b.defers) (hget : ∀ t, (∀ q, dstOf ops q ≠ some t) → a.tmps[t]? = b.tmps[t]?) (hq : PN C b ch w) : PN C a ch w := by
  cases hlv : C.lv <;> cases hdf : C.dfr <;> simp only [PN, hlv, hdf] at hq ⊢
  · exact ⟨hdef.trans hq.1, hq.2⟩
  · exact ⟨hdef.trans hq.1, hq.2⟩
  · rcases h with h | h
    · rw [h] at hlv; cases hlv
    · rw [hdef]
      exact leaves_alike (results_alike fun r hr => hget _ fun q e => h q _ e r hr rfl) _ _ _ hq
  · exact ⟨hdef.trans hq.1, hq.2⟩
theorem draw_sound {C : Cx} {ds : List Deferred} {ops : Array Oper} {anc : Anc} {K : Act → World → Prop} {Q E : List Nat} (hlv : DrOk C ops) (hs : Stat ops anc Q E) : ∀ (fuel : Nat) (listed : Array Bool) (rem wai done : List Nat) (g : Gt) (a b : Act) (w : World),
    ((List.range ops.size).filter fun i => !listed.getD i true).length ≤ fuel → a.defers = ds → DInv ops anc Q E listed rem wai done g a b → DRa C ds ops K done g b w → wpAny C.P .any ops (QT C ds K) fuel listed a w := by
  intro fuel
  induction fuel with
  | zero =>
    intro listed rem wai done g a b w hf hd hi hr
    have hnil : ((List.range ops.size).filter fun i => !listed.getD i true) = [] := List.eq_nil_of_length_eq_zero (by omega)
    have hall : ∀ i, i < ops.size → listed.getD i false = true := fun i hlt => by
      have : i ∉ ((List.range ops.size).filter fun i => !listed.getD i true) := by rw [hnil]; simp
      rw [List.mem_filter] at this
      have hz := hi.sz
      rcases hb : listed.getD i false with _ | _
      · exact absurd ⟨List.mem_range.2 hlt, by simp only [getD_back (by omega : i < listed.size) hb]; rfl⟩ this
      · rfl
    refine ⟨?_, draw_end hs hall hd hi hr⟩
    refine List.eq_nil_iff_forall_not_mem.2 fun i hm => ?_
    obtain ⟨h0, o, ho, _⟩ := mem_ready.1 hm
    have h1 := getD_both h0
    rw [hall i (Array.getElem?_eq_some_iff.1 ho).1] at h1
    cases h1
  | succ fuel ih =>
    intro listed rem wai done g a b w hf hd hi hr
    refine ⟨fun hn => draw_end hs (all_listed hs hi.sz hn) hd hi hr, fun i hm => ?_⟩
    obtain ⟨h0, o, ho, hready⟩ := mem_ready.1 hm
    have hlt := getD_lt h0
    have h0' := getD_both h0
    have hlook := look_alike hs hi ho hready
    have hex := exec_alike (hs.sel i o ho) hlook
    have hwt := wanted_alike hlook
    have hf' := filter_lt hi.sz h0 hf
    have hdown' : ∀ j, (listed.setIfInBounds i true).getD j false = true → ∀ o, ops[j]? = some o → ∀ k ∈ preds o, (listed.setIfInBounds i true).getD k false = true := by
      intro j hj o' ho' k hk
      rcases Nat.decEq i j with hne | rfl
      · rw [getD_set_ne false hne] at hj
        exact getD_set_true (hi.down j hj o' ho' k hk)
      · rw [ho] at ho'
        cases ho'
        obtain ⟨e, h1, h2, rfl⟩ := preds_mem.1 hk
        exact getD_set_true (hready e h1 h2)
    unfold wpOp
    simp only [ho]
    rcases hs.cov i (by have := hi.sz; omega) with hiq | hie
    · -- a quiet one
      have hdone : i ∈ done := by
        rcases hi.covQ i hiq with h | h | h
        · rw [h0'] at h; cases h
        · exact h
        · have hc := hi.cov
          simp only [covOk, Bool.and_eq_true, List.all_eq_true] at hc
          obtain ⟨e, he, hb⟩ := List.any_eq_true.1 (hc.1 i h)
          have h1 := behind_listed hs.okA hs.low hi.down ho hready hb
          rw [(hi.remU e he).1] at h1
          cases h1
      have hstab : StabOp C.P ops b w i := hr.stab i hdone
      obtain ⟨d, hdd, hdE⟩ := hs.dst i hiq
      have hod : o.dst = some d := by simpa [dstOf, ho] using hdd
      have hst := hstab o ho d hod
      have key : ∀ v, b.tmps[d]? = some v → DInv ops anc Q E (listed.setIfInBounds i true) rem wai done g (a.put o.dst v) b := fun v hv => by
        refine ⟨by simpa using hi.sz, hdown', by simpa [hod, Act.put] using hi.size, by simpa [hod, Act.put] using hi.defers, fun t ht => ?_, fun e he => ?_, fun q hq => ?_, fun e he => ?_, fun e he => ?_, hi.doneQ, hi.cov, hi.alts⟩
        · rw [hod]
          simp only [Act.put]
          rcases Nat.decEq d t with hne | rfl
          · rw [Array.getElem?_setIfInBounds_ne hne]
            refine hi.get t fun q hq hl => ?_
            rcases Nat.decEq i q with hne2 | rfl
            · exact ht q hq (by rw [getD_set_ne false hne2]; exact hl)
            · rw [hdd]; intro e; exact hne (Option.some.inj e)
          · have hsz : d < a.tmps.size := by
              rw [hi.size]
              exact (Array.getElem?_eq_some_iff.1 hv).1
            rw [hv]
            simp [hsz]
        · obtain ⟨k1, k2⟩ := hi.remU e he
          have hne : i ≠ e := fun h => hs.dis i hiq (h ▸ k2)
          exact ⟨by rw [getD_set_ne false hne]; exact k1, k2⟩
        · obtain ⟨k1, k2⟩ := hi.waiU q hq
          have hne : i ≠ q := fun h => by
            subst h
            have hc := hi.cov
            simp only [covOk, Bool.and_eq_true, List.all_eq_true] at hc
            obtain ⟨e, he, hb⟩ := List.any_eq_true.1 (hc.1 i hq)
            have h1 := behind_listed hs.okA hs.low hi.down ho hready hb
            rw [(hi.remU e he).1] at h1
            cases h1
          exact ⟨by rw [getD_set_ne false hne]; exact k1, k2⟩
        · rcases hi.covQ e he with h | h
          · exact .inl (getD_set_true h)
          · exact .inr h
        · rcases hi.covE e he with h | h
          · exact .inl (getD_set_true h)
          · exact .inr h
      by_cases hw : Region.wanted o (yielded ops a.tmps) = true
      · rw [if_pos hw]
        obtain ⟨v, hv, hrun⟩ := hst.1 (by rw [← hwt]; exact hw)
        left
        unfold Oper.wp
        rw [hex, hrun, Oper.upon_value]
        exact ih _ rem wai done g _ b w hf' (by simpa [hod, Act.put] using hd) (key v hv) hr
      · rw [if_neg hw]
        have hu := hst.2 (by rw [← hwt]; simpa using hw)
        exact ih _ rem wai done g _ b w hf' (by simpa [hod, Act.put] using hd) (key undef hu) hr
    · -- one that acts: a choice
      have him : i ∈ rem := by
        rcases hi.covE i hie with h | h
        · rw [h0'] at h; cases h
        · exact h
      have hhead : i ∈ g.heads := by
        have hc := hi.cov
        simp only [covOk, Bool.and_eq_true, List.all_eq_true, Bool.or_eq_true] at hc
        rcases hc.2 i him with h | h
        · simpa using h
        · obtain ⟨e, he, hb⟩ := List.any_eq_true.1 h
          have h1 := behind_listed hs.okA hs.low hi.down ho hready hb
          rw [(hi.remU e he).1] at h1
          cases h1
      obtain ⟨⟨kp, qs, sub⟩, hpick⟩ := Gt.pick_some hhead
      have hwp := hr.pick ho hpick
      obtain ⟨hnode, hcov, halts⟩ := altsOk.pick hi.alts hpick
      simp only [nodeOk, Bool.and_eq_true] at hnode
      obtain ⟨⟨⟨_, hn2⟩, hn3⟩, hn4⟩ := hnode
      · have hdrop : ∀ q ∈ done, q ∈ kp ∨ listed.getD q false = true := fun q hq => by
          have := List.all_eq_true.1 hn2 q hq
          rw [Bool.or_eq_true] at this
          rcases this with h | h
          · exact .inl (by simpa using h)
          · exact .inr (behind_listed hs.okA hs.low hi.down ho hready h)
        have hkd : ∀ q ∈ kp, q ∈ done := fun q hq => by simpa using List.all_eq_true.1 hn3 q hq
        have hqw : ∀ q ∈ qs, q ∈ wai := fun q hq => by
          have := List.all_eq_true.1 hn4 q hq
          rw [Bool.and_eq_true] at this
          simpa using this.1
        have hEd : ∀ q ∈ Q, o.dst ≠ none → dstOf ops q ≠ o.dst := fun q hq hne heq => by
          obtain ⟨t, h1, h2⟩ := hs.dst q hq
          have : dstOf ops i = o.dst := by simp [dstOf, ho]
          exact h2 i hie (by rw [this, ← heq, h1])
        have key : ∀ (dd : List Deferred) (v : Value) (b' : Act), Off ops qs ({ b with defers := dd ++ b.defers }.put o.dst v) b' →
            DInv ops anc Q E (listed.setIfInBounds i true) (without rem [i]) (without wai qs) (kp ++ qs) sub ({ a with defers := dd ++ a.defers }.put o.dst v) b' := fun dd v b' ho' => by
          have hget : ∀ t, (∀ q ∈ done, listed.getD q false = false → dstOf ops q ≠ some t) ∨ o.dst = some t → ({ a with defers := dd ++ a.defers }.put o.dst v).tmps[t]? = ({ b with defers := dd ++ b.defers }.put o.dst v).tmps[t]? := fun t ht => by
            cases hdst : o.dst with
            | none =>
              rw [hdst] at ht
              exact hi.get t (ht.resolve_right (by simp))
            | some d =>
              rw [hdst] at ht
              simp only [Act.put]
              rcases Nat.decEq d t with hne | rfl
              · rw [Array.getElem?_setIfInBounds_ne hne, Array.getElem?_setIfInBounds_ne hne]
                exact hi.get t (ht.resolve_right fun e => hne (Option.some.inj e))
              · rcases Nat.lt_or_ge d a.tmps.size with hl | hl
                · have hl2 : d < b.tmps.size := by rw [← hi.size]; exact hl
                  simp [hl, hl2]
                · have hl2 : b.tmps.size ≤ d := by rw [← hi.size]; exact hl
                  rw [Array.getElem?_eq_none (by simpa using hl), Array.getElem?_eq_none (by simpa using hl2)]
          refine ⟨by simpa using hi.sz, hdown', ?_, ?_, fun t ht => ?_, fun e he => ?_, fun q hq => ?_, fun q hq => ?_, fun q hq => ?_, fun q hq => ?_, hcov, halts⟩
          · rw [← ho'.size]
            cases o.dst <;> simpa [Act.put] using hi.size
          · rw [← ho'.defers]
            have := hi.defers
            cases o.dst <;> simp [Act.put, this]
          · rw [← ho'.get t fun q hq => ?_]
            · refine hget t (.inl fun q hq hl => ht q (List.mem_append_left _ ((hdrop q hq).resolve_right (by rw [hl]; simp))) ?_)
              have hne : i ≠ q := fun h => hs.dis q (hi.doneQ q hq) (h ▸ hie)
              rw [getD_set_ne false hne]
              exact hl
            · obtain ⟨m1, m2⟩ := hi.waiU q (hqw q hq)
              have hne : i ≠ q := fun h => hs.dis q m2 (h ▸ hie)
              exact ht q (List.mem_append_right _ hq) (by rw [getD_set_ne false hne]; exact m1)
          · obtain ⟨h1, h2⟩ := mem_without.1 he
            obtain ⟨k1, k2⟩ := hi.remU e h1
            have hne : i ≠ e := fun h => h2 (by simp [h])
            exact ⟨by rw [getD_set_ne false hne]; exact k1, k2⟩
          · obtain ⟨k1, k2⟩ := hi.waiU q (mem_without.1 hq).1
            have hne : i ≠ q := fun h => hs.dis q k2 (h ▸ hie)
            exact ⟨by rw [getD_set_ne false hne]; exact k1, k2⟩
          · rcases hi.covQ q hq with h | h | h
            · exact .inl (getD_set_true h)
            · rcases hdrop q h with h | h
              · exact .inr (.inl (List.mem_append_left _ h))
              · exact .inl (getD_set_true h)
            · by_cases hqq : q ∈ qs
              · exact .inr (.inl (List.mem_append_right _ hqq))
              · exact .inr (.inr (mem_without.2 ⟨h, hqq⟩))
          · rcases hi.covE q hq with h | h
            · exact .inl (getD_set_true h)
            · rcases Nat.decEq i q with hne | rfl
              · exact .inr (mem_without.2 ⟨h, by simpa using fun e => hne e.symm⟩)
              · exact .inl (set_self hlt false)
          · rcases List.mem_append.1 hq with h | h
            · exact hi.doneQ q (hkd q h)
            · exact (hi.waiU q (hqw q h)).2
        unfold wpList at hwp
        by_cases hw : Region.wanted o (yielded ops a.tmps) = true
        · rw [if_pos hw]
          rw [if_pos (by rw [← hwt]; exact hw)] at hwp
          rcases hwp with hwp | ⟨_, hout⟩
          · left
            unfold Oper.wp at hwp ⊢
            rw [hex]
            refine upon_alike (nb := wpList C.P ops _ []) (fun dd v w2 hn => ?_) (fun ch w2 hq => by
              have hq : PN C b ch w2 := hq
              show PN C a ch w2
              exact PN.alike hlv hi.defers (fun t ht => hi.get t fun q _ _ => ht q) hq) QT_out _ hwp
            obtain ⟨hdef, b', h1, h2⟩ := hn
            refine ih _ _ _ (kp ++ qs) sub _ b' w2 hf' ?_ (key dd v b' h1) h2
            rw [← hdef]
            have := hi.defers
            cases o.dst <;> simp [Act.put, this]
          · exact (QT_out hout).elim
        · rw [if_neg hw]
          rw [if_neg (by rw [← hwt]; exact hw)] at hwp
          obtain ⟨hdef, b', h1, h2⟩ := hwp
          exact ih _ _ _ (kp ++ qs) sub _ b' w hf' (by cases hdst : o.dst <;> simpa [hdst, Act.put] using hd) (key [] undef b' h1) h2
theorem quietOf_mem {ops : Array Oper} {E : List Nat} {i : Nat} : i ∈ quietOf ops E ↔ i < ops.size ∧ i ∉ E := by
  unfold quietOf
  simp
theorem drawOk.stat {ops : Array Oper} {anc : Anc} {n : Nat} {E qs : List Nat} {g : Gt} (h : drawOk ops anc n E qs g = true) : Stat ops anc (quietOf ops E) E := by
  simp only [drawOk, Bool.and_eq_true] at h
  obtain ⟨⟨⟨⟨⟨⟨⟨⟨h1, h0⟩, h2⟩, h3⟩, h5⟩, h7⟩, h8⟩, h9⟩, h10⟩ := h
  refine ⟨h0, fun i o ho j hj => ?_, fun i o ho t ht j hj hjq hd => ?_, fun i o ho cs b => Region.noSelect_spec h3 i o cs b ho, fun i hi => ?_, fun q hq => ?_, fun q hq => (quietOf_mem.1 hq).2, fun e he => ?_⟩
  · have := List.all_eq_true.1 h1 i (List.mem_range.2 (Array.getElem?_eq_some_iff.1 ho).1)
    simp only [ho, Option.map_some, Option.getD_some] at this
    simpa using List.all_eq_true.1 this j hj
  · have := List.all_eq_true.1 h2 i (List.mem_range.2 (Array.getElem?_eq_some_iff.1 ho).1)
    simp only [ho, Option.map_some, Option.getD_some] at this
    have hoj : ops.toList[j]? = some ops[j] := by simp [hj]
    have := lookAll_spec this j ops[j] t hoj (by simpa [dstOf, hj] using hd) ht (by simpa using hjq)
    simpa using this
  · by_cases h : i ∈ E
    · exact .inr h
    · exact .inl (quietOf_mem.2 ⟨hi, h⟩)
  · have := List.all_eq_true.1 h5 q hq
    split at this
    · rename_i t ht
      refine ⟨t, ht, fun e he hc => ?_⟩
      simp only [Bool.and_eq_true, Bool.not_eq_true', List.any_eq_false] at this
      exact this.2 e he (by simp [hc])
    · cases this
  · simpa using List.all_eq_true.1 h7 e he

theorem Has.over {n : Nat} {qv L : Env} {a : Act} (hq : qv.all (fun p => Nat.blt p.1 n) = true) (h : Has n L a) : ∃ b, Has n (qv ++ L) b ∧ b.defers = a.defers ∧ ∀ t, (∀ p ∈ qv, p.1 ≠ t) → a.tmps[t]? = b.tmps[t]? := by
  induction qv with
  | nil => exact ⟨a, h, rfl, fun _ _ => rfl⟩
  | cons p qv ih =>
    simp only [List.all_cons, Bool.and_eq_true] at hq
    obtain ⟨b, h1, h3, h4⟩ := ih hq.2
    refine ⟨b.put (some p.1) p.2, h1.put (by simpa [Nat.blt_eq] using hq.1), h3, fun t ht => ?_⟩
    simp only [Act.put]
    rw [Array.getElem?_setIfInBounds_ne (ht p List.mem_cons_self)]
    exact h4 t fun q hq => ht q (List.mem_cons_of_mem _ hq)
theorem Has.off {n : Nat} {qv L : Env} {a : Act} {ops : Array Oper} {S : List Nat} (hq : qv.all (fun p => Nat.blt p.1 n && S.any fun q => dstOf ops q == some p.1) = true) (h : Has n L a) : ∃ b, Has n (qv ++ L) b ∧ Off ops S a b := by
  have h1 : qv.all (fun p => Nat.blt p.1 n) = true := List.all_eq_true.2 fun p hp => by
    have := List.all_eq_true.1 hq p hp
    simp only [Bool.and_eq_true] at this
    exact this.1
  obtain ⟨b, e1, e2, e3⟩ := h.over h1
  refine ⟨b, e1, by rw [h.size, e1.size], e2.symm, fun t ht => e3 t fun p hp e => ?_⟩
  have := List.all_eq_true.1 hq p hp
  simp only [Bool.and_eq_true, List.any_eq_true] at this
  obtain ⟨_, q, hq, hqe⟩ := this
  exact ht q hq (by simpa [e] using hqe)
def qvOk (ops : Array Oper) (n : Nat) (S : List Nat) (qv : Env) : Bool := qv.all (fun p => Nat.blt p.1 n && S.any fun q => dstOf ops q == some p.1)

theorem init_inv {ops : Array Oper} {anc : Anc} {n : Nat} {E qs : List Nat} {g : Gt} {a b : Act} (h : drawOk ops anc n E qs g = true) (ho : Off ops qs a b) : DInv ops anc (quietOf ops E) E (Array.replicate ops.size false) E (without (quietOf ops E) qs) qs g a b := by
  simp only [drawOk, Bool.and_eq_true] at h
  obtain ⟨⟨⟨⟨⟨⟨⟨⟨h1, h0⟩, h2⟩, h3⟩, h5⟩, h7⟩, h8⟩, h9⟩, h10⟩ := h
  have hno : ∀ i, (Array.replicate ops.size false).getD i false = false := fun i => by
    rw [Array.getD_eq_getD_getElem?, Array.getElem?_replicate]
    split <;> rfl
  refine ⟨by simp, fun i hi => (by rw [hno] at hi; cases hi), ho.size, ho.defers, fun t ht => ho.get t fun q hq => ht q hq (hno q), fun e he => ⟨hno e, he⟩, fun q hq => ⟨hno q, (mem_without.1 hq).1⟩, fun i hi => ?_, fun i hi => .inr hi, fun q hq => ?_, h9, h10⟩
  · by_cases hq : i ∈ qs
    · exact .inr (.inl hq)
    · exact .inr (.inr (mem_without.2 ⟨hi, hq⟩))
  · simpa using List.all_eq_true.1 h8 q hq

section
variable {C : Cx} {n : Nat} {ds : List Deferred} {ops : Array Oper} {K : Act → World → Prop} {done : List Nat} {L : Env} {w : World}
/-- What stands behind an acting operation. -/
def DK (C : Cx) (n : Nat) (ds : List Deferred) (ops : Array Oper) (K : Act → World → Prop) (kp : List Nat) (qs : List Nat) (g : Gt) : Act → World → Prop :=
  fun a' w' => ∃ b', Off ops qs a' b' ∧ DRa C ds ops K (kp ++ qs) g b' w'
/-- Before the values of a group's quiet operations are told. -/
def DP (C : Cx) (n : Nat) (ds : List Deferred) (ops : Array Oper) (K : Act → World → Prop) (done : List Nat) (qs : List Nat) (g : Gt) (L : Env) (w : World) : Prop :=
  ∀ a, Has n L a → a.defers = ds → DK C n ds ops K done qs g a w
end
section
variable {C : Cx} {n : Nat} {ds : List Deferred} {k : Act → World → Prop} {L : Env} {w : World}
end
theorem TW.drawP {C : Cx} {n : Nat} {ds : List Deferred} {k : List Item} {L : Env} {w : World} {id : Nat} {l : List Oper} (anc : Anc) (E qs : List Nat) (g : Gt) (hm : C.P.follows .mixedOrders = true) (hok : drawOk l.toArray anc n E qs g = true) (hlv : DrOk C l.toArray)
    (h : ∀ w', Ext Nowhere w w' → DP C n ds l.toArray (TWa C k) [] qs g L w') : TW C n ds (.code (.region id l.toArray true) :: k) L w := fun a ha hd cs => by
  obtain ⟨b, hoff, h2⟩ := h { w with drawn := w.drawn + 1 } ⟨rfl, rfl, rfl, Nat.le_refl _, fun _ _ _ => rfl⟩ a ha hd
  have hsound := draw_sound (C := C) (ds := ds) (K := TWa C k) hlv (drawOk.stat hok) l.toArray.size (Array.replicate l.toArray.size false) E (without (quietOf l.toArray E) qs) qs g a b { w with drawn := w.drawn + 1 }
    (Nat.le_trans (List.length_filter_le _ _) (by simp)) hd (init_inv hok hoff) h2
  refine (?_ : Goes C cs _).of_steps (.one step_region_draw)
  simp only [Region.schedule, hm, Bool.true_or, if_true]
  exact twa_of_ops (C := C) (wpAny_sound _ _ _ _ _ hsound) cs
end
section
theorem run_loadBytes' {P : Program} (w : World) : ∀ (l : List Int) (a : Addr) (acc : ByteArray), (∀ j x, l[j]? = some x → w.cell? (a.add j) = some (.int .u8 x)) →
    (Go.loadBytes a acc l.length).run P w = .ok ⟨acc.data ++ (byt l).toArray⟩ w
  | [], a, acc, _ => by simp [Go.loadBytes, byt]
  | x :: l, a, acc, h => by
    have h0 : w.cell? a = some (.int .u8 x) := by
      have := h 0 x rfl
      simpa [Addr.add] using this
    have ih := run_loadBytes' (P := P) w l (a.add 1) (acc.push x.toNat.toUInt8) (fun j y hy => by
      have := h (j + 1) y (by simpa using hy)
      have e : (a.add 1).add j = a.add (j + 1) := by
        unfold Addr.add
        by_cases hj : j = 0
        · subst hj; simp
        · simp [hj]; omega
      rw [e]; exact this)
    simp only [List.length_cons, Go.loadBytes, Sem.run_bind, run_load, h0, Result.andThen]
    rw [ih]
    congr 1
    apply ByteArray.ext
    simp [ByteArray.push, byt]
theorem cells_one {v : Value} (h : v.oneCell' = true) : v.cells = [v].toArray := by
  cases v <;> first | rfl | (simp [Value.oneCell'] at h)
section
variable {C : Cx} {n : Nat} {ds : List Deferred} {k : Act → World → Prop} {L : Env} {w : World} {ops : Array Oper} {o : Oper} {rest : List Oper} {d : Nat} {v : Value}
theorem OW.callM {x : Operand} {xs : Array Operand} {ts : Array TypeId} {g : FuncId} {vs fs caps : List Value} {dd : Option Nat} (hg : o.guard = none) (hd : o.dst = dd) (hn : dOk n dd = true) (ho : o.op = .call { callee := .value x, args := xs, argTypes := ts }) (hx : ev L x = some (.func (.func g) fs.toArray caps.toArray))
    (hxs : evs L xs.toList = some vs) (hent : ∀ args w, (callFunc g args).run C.P w = .ok (.enter g args) w) (h : Calls C.P g (fs ++ vs ++ caps).toArray w (CallK C n ds ops rest k L dd)) : OW C n ds ops (o :: rest) k L w :=
  OW.enter hg hd hn (fun a ha => by
    have e1 : xs.map a.eval = vs.toArray := by apply Array.toList_inj.1; simpa using ha.evs hxs
    have e2 : fs.toArray ++ vs.toArray ++ caps.toArray = (fs ++ vs ++ caps).toArray := by simp
    simp only [execOp, ho, resolve, ha.ev hx, e1, Deferred.ofValue, Sem.run_bind, Sem.run_pure, Result.andThen_ok]
    simp only [invoke, Sem.run_bind, Sem.run_pure, Result.andThen_ok, e2, hent]) h
end
section
variable {C : Cx} {n : Nat} {L : Env} {w : World}
end
end
section
def notIfc : TypeDesc → Bool
  | .interface _ => false
  | _ => true
section
variable {C : Cx} {n : Nat} {ds : List Deferred} {k : Act → World → Prop} {L : Env} {w : World} {ops : Array Oper} {o : Oper} {rest : List Oper} {d : Nat} {v : Value}
theorem EX.taYes {x : Operand} {xt T : TypeId} {td : TypeDesc} {u : Value} (ho : o.op = .typeAssert x xt T true) (ht : C.P.underlying T = some td) (hi : notIfc td = true) (hx : ev L x = some (.iface T u)) : EX C n L w o (.tuple #[u, .bool true]) := fun a ha => by
  simp only [execOp, ho, ha.ev hx, Instr.typeAssert]
  cases td <;> first | (simp [notIfc] at hi; done) | simp [run_underlying ht]
theorem EX.taNil {x : Operand} {xt T : TypeId} {td : TypeDesc} {z : Value} (ho : o.op = .typeAssert x xt T true) (ht : C.P.underlying T = some td) (hi : notIfc td = true) (hz : zer C.P T = some z) (hx : ev L x = some .nilIface) : EX C n L w o (.tuple #[z, .bool false]) := fun a ha => by
  obtain ⟨i, h5, h6⟩ := Option.bind_eq_some_iff.1 hz
  simp only [execOp, ho, ha.ev hx, Instr.typeAssert]
  cases td <;> first | (simp [notIfc] at hi; done) | simp [run_underlying ht, zeroValue, typeInfo, h5, h6]
end
/-- The end of a deferred call, above the frame c. -/
def GoesR (C : Cx) (c : Frame) (cs : List Frame) (u1 : FrameMode) (m : Machine) : Prop := ∃ e w' fr, C.R e w' ∧ Comes C.P m (lone fr ({ c with mode := u1 } :: cs) w') e ∧ fr.fn = C.f ∧ leave C fr w' e
/-- What recover gives, and how it leaves the frame below. -/
def Rec (u0 u1 : FrameMode) (v : Value) : Prop := (u0 = .returning ∧ u1 = .returning ∧ v = .nilIface) ∨ ∃ older, u0 = .panicking ({ v := v, recovered := false } :: older) ∧ u1 = .panicking ({ v := v, recovered := true } :: older)
section
variable {C : Cx} {n : Nat} {k : List Item} {L : Env} {w : World} {u0 u1 : FrameMode}
end
section
variable {C : Cx} {n : Nat} {L : Env} {w : World}
end
end
section
theorem cell_tr {w w' : World} {O O' : Nat → Prop} (t : Tr O w O' w') {b q : Nat} {u : Value} (h : w.cell? ⟨b, q, none⟩ = some u) (hb : ¬ O b) : w'.cell? ⟨b, q, none⟩ = some u := by
  have hlt : b < w.heap.size := by
    rcases Nat.lt_or_ge b w.heap.size with h' | h'
    · exact h'
    · simp [World.cell?, Array.getElem?_eq_none h'] at h
  have := t.block b hlt hb
  simpa [World.cell?, this] using h
theorem RDl.set {w : World} {O : Nat → Prop} {m : Nat} {x : List D} {vs : List Value} (hx : RDs w O x vs) (hm : vs.length = m) : ∀ {l : List (List D)} {cs : List Value} {j : Nat}, RDl w O m l cs → j < l.length → (j + 1) * m ≤ cs.length →
    RDl w O m (l.set j x) (cs.take (j * m) ++ vs ++ cs.drop (j * m + m))
  | [], _, _, _, h, _ => by simp at h
  | y :: l, cs, 0, h, _, _ => by
    refine ⟨?_, ?_⟩
    · simpa [← hm] using hx
    · have := h.2
      subst hm
      simpa using this
  | y :: l, cs, j + 1, h, hj, hl => by
    have e0 : (j + 1) * m = j * m + m := Nat.succ_mul j m
    have h1 : m ≤ ((j + 1) * m) := by rw [e0]; omega
    have h2 : m ≤ cs.length := by rw [Nat.succ_mul] at hl; omega
    have ih := RDl.set hx hm (l := l) (cs := cs.drop m) (j := j) h.2 (by simpa using hj) (by rw [List.length_drop, Nat.succ_mul]; rw [Nat.succ_mul, e0] at hl; omega)
    have h3 : (cs.take ((j + 1) * m)).length = (j + 1) * m := by rw [List.length_take]; rw [Nat.succ_mul] at hl; omega
    refine ⟨?_, ?_⟩
    · rw [List.append_assoc, List.take_append_of_le_length (by omega), List.take_take, Nat.min_eq_left h1]
      exact h.1
    · rw [List.append_assoc, List.drop_append_of_le_length (by omega), List.drop_take]
      have e1 : (j + 1) * m - m = j * m := by omega
      rw [e1, ← List.append_assoc]
      have e2 : cs.drop ((j + 1) * m + m) = (cs.drop m).drop (j * m + m) := by rw [List.drop_drop]; congr 1; omega
      rw [e2]
      exact ih
theorem Own.store {P : Program} {w : World} {O : Nat → Prop} {T m : Nat} {v : Value} {l : List (List D)} {x : List D} {vs : List Value} {b q len cap j : Nat} (h : Own w O T m v l) (hv : v = .slice (some ⟨b, q, none⟩) len cap) (hj : j < l.length) (hm : vs.length = m)
    (h1 : vs.all (·.oneCell') = true) (hx : RDs w O x vs) : ∃ w', (storeCells ⟨b, q + j * m, none⟩ vs).run P w = .ok () w' ∧ Own w' O T m v (l.set j x) ∧ Ext (fun y => v.ownBlock = some y) w w' := by
  obtain ⟨xs, k1, k2, k3, k4⟩ := h
  rcases k1.2 with ⟨k5, _⟩ | ⟨g, cap', cur, k5, k6, k7, k8, k9, k10, k11⟩
  · rw [k5] at hv; cases hv
  · have hv2 := hv.symm.trans k5
    simp only [Value.slice.injEq, Option.some.injEq, Addr.mk.injEq, and_true] at hv2
    obtain ⟨⟨rfl, rfl⟩, rfl, rfl⟩ := hv2
    have hb : BoxAt w b T cur.toList := by simpa [BoxAt] using k7
    have hle : (j + 1) * m ≤ cap * m := Nat.mul_le_mul_right m (by omega)
    have hle2 : (j + 1) * m ≤ l.length * m := Nat.mul_le_mul_right m (by omega)
    have e0 : (j + 1) * m = j * m + m := Nat.succ_mul j m
    obtain ⟨w', hr, hb', hx'⟩ := Ext.store_cells (P := P) (o := 0 + j * m) (vs := vs) hb (by rw [hm, Array.length_toList, k10]; omega) (by simpa using h1)
    have hown : ∀ y, v.ownBlock = some y → O y := k4
    have hblk : v.ownBlock = some b := by rw [k5]; rfl
    have hF : Ext (fun y => v.ownBlock = some y) w w' := hx'.mono fun y _ hy => by cases hy; exact hblk
    have t : Tr O w O w' := Tr.of_ext hF fun y _ hy => hown y hy
    have hrd : RDl w O m l cur.toList := by
      rw [← k11] at k2
      exact RDl.of_take (by simpa using k2)
    have hrd2 := (RDl.set hx hm (j := j) hrd hj (by rw [Array.length_toList, k10]; exact hle)).tr t
    have hlen : (cur.toList.take (j * m) ++ vs ++ cur.toList.drop (j * m + m)).length = cap * m := by
      simp only [List.length_append, List.length_take, List.length_drop, Array.length_toList, k10, hm]
      omega
    refine ⟨w', hr, ⟨(cur.toList.take (j * m) ++ vs ++ cur.toList.drop (j * m + m)).take (l.length * m), ⟨?_, .inr ⟨b, cap, (cur.toList.take (j * m) ++ vs ++ cur.toList.drop (j * m + m)).toArray, ?_, k6, ?_, ?_, k9, ?_, ?_⟩⟩, ?_, ?_, k4⟩, hF⟩
    · have hc : l.length * m ≤ cap * m := Nat.mul_le_mul_right m k8
      simp only [List.length_take, hlen, List.length_set]
      omega
    · simpa using k5
    · rw [Nat.zero_add, hm] at hb'
      exact hb'
    · simpa using k8
    · simpa using hlen
    · simp
    · have := RDl.take_cells hrd2
      simpa using this
    · have := RDl.one hrd2
      simpa using this
section
variable {C : Cx} {n : Nat} {ds : List Deferred} {k : Act → World → Prop} {L : Env} {w : World} {ops : Array Oper} {o : Oper} {rest : List Oper}
theorem OW.storeE {α : Type} {f : α → List D} {l : List α} {a : α} {O : Nat → Prop} {T U : TypeId} {x y : Operand} {b q len cap j m : Nat} {g : Bool} {u v : Value} {vs : List Value} (hg : o.guard = none) (hd : o.dst = none) (ho : o.op = .store T x y) (hT : shp C.P T = some (g, m)) (hx : ev L x = some (.pointer (some ⟨b, q + j * m, none⟩)))
    (hy : ev L y = some u) (hu : u.cells = vs.toArray) (hm : vs.length = m) (hv : v = .slice (some ⟨b, q, none⟩) len cap) (hown : Own w O U m v (l.map f)) (hj : j < l.length) (h1 : vs.all (·.oneCell') = true) (hr : RDs w O (f a) vs)
    (h : ∀ w', Own w' O U m v ((l.set j a).map f) → Ext (fun y => v.ownBlock = some y) w w' → OW C n ds ops rest k L w') : OW C n ds ops (o :: rest) k L w := by
  obtain ⟨w', hrun, ho', hx'⟩ := Own.store (P := C.P) hown hv (by simpa using hj) hm h1 hr
  refine OW.unit (w' := w') hg hd (fun a ha => ?_) (h w' (by rw [List.map_set]; exact ho') hx')
  simp [execOp, ho, ha.ev hx, ha.ev hy, Instr.storeAt, Instr.sureAddr, storeVar, hu, (run_isAgg hT).2, hm, hrun]
end
end
section
section
variable {C : Cx} {n : Nat} {ds : List Deferred} {L : Env} {w : World} {o : Oper} {v : Value}
end
end
section
/-- A key's kind: an integer's, or a text. -/
def kdT : Option IntKind → TypeDesc
  | some k => .int k
  | none => .string
def keyD : Option IntKind → D → Prop
  | some k, .int k' _ => k' = k
  | none, .str _ => True
  | _, _ => False
def kEq : D → D → Bool
  | .int _ a, .int _ b => decide (a = b)
  | .str a, .str b => decide (a = b)
  | _, _ => false
def mgD : List (List D) → D → Option (List D)
  | [], _ => none
  | (k' :: ds) :: r, k => if kEq k k' = true then some ds else mgD r k
  | [] :: r, k => mgD r k
def mputD : List (List D) → D → List D → List (List D)
  | [], k, v => [k :: v]
  | (k' :: ds) :: r, k, v => if kEq k k' = true then (k :: v) :: r else (k' :: ds) :: mputD r k v
  | [] :: r, k, v => [] :: mputD r k v
def mdelD : List (List D) → D → List (List D)
  | [], _ => []
  | (k' :: ds) :: r, k => if kEq k k' = true then r else (k' :: ds) :: mdelD r k
  | [] :: r, k => [] :: mdelD r k
section
variable (w : World) (O : Nat → Prop) (ky : Option IntKind) (g : Bool)
def valR (ds : List D) (v : Value) : Prop := match g with
  | true => ∃ vs, v = .agg (List.toArray vs) ∧ RDs w O ds vs
  | false => ∃ d, ds = [d] ∧ RD w O d v
def EntR (e : MapEntry) (x : List D) : Prop := ∃ k ds, x = k :: ds ∧ keyD ky k ∧ RD w O k e.key ∧ valR w O g ds e.val
def EntsR : List MapEntry → List (List D) → Prop
  | [], [] => True
  | e :: es, x :: l => EntR w O ky g e x ∧ EntsR es l
  | _, _ => False
end
/-- Keys and values, as_ one value. -/
def encE (es : List MapEntry) : Value := .agg ((es.map fun e => Value.tuple #[e.key, e.val]).toArray)
section
variable {w w' : World} {O O' : Nat → Prop} {ky : Option IntKind} {g : Bool}
theorem valR.tr {ds : List D} {v : Value} (h : valR w O g ds v) (t : Tr O w O' w') : valR w' O' g ds v := by
  cases g with
  | true =>
    obtain ⟨vs, h1, h2⟩ := h
    exact ⟨vs, h1, h2.tr t⟩
  | false =>
    obtain ⟨d, h1, h2⟩ := h
    exact ⟨d, h1, h2.tr t⟩
theorem EntR.tr {e : MapEntry} {x : List D} (h : EntR w O ky g e x) (t : Tr O w O' w') : EntR w' O' ky g e x := by
  obtain ⟨k, ds, h1, h2, h3, h4⟩ := h
  exact ⟨k, ds, h1, h2, h3.tr t, h4.tr t⟩
theorem EntsR.tr : ∀ {es : List MapEntry} {l : List (List D)}, EntsR w O ky g es l → Tr O w O' w' → EntsR w' O' ky g es l
  | [], [], _, _ => trivial
  | _ :: _, _ :: _, h, t => ⟨h.1.tr t, EntsR.tr h.2 t⟩
  | [], _ :: _, h, _ => h.elim
  | _ :: _, [], h, _ => h.elim
theorem EntsR.len : ∀ {es : List MapEntry} {l : List (List D)}, EntsR w O ky g es l → es.length = l.length
  | [], [], _ => rfl
  | _ :: _, _ :: _, h => by simp [EntsR.len h.2]
  | [], _ :: _, h => h.elim
  | _ :: _, [], h => h.elim
theorem EntR.alike {e e' : MapEntry} {x : List D} (h : EntR w O ky g e x) (h1 : e'.key = e.key) (h2 : e'.val = e.val) : EntR w O ky g e' x := by
  unfold EntR at h ⊢
  rw [h1, h2]
  exact h
theorem EntsR.enc : ∀ {es es' : List MapEntry} {l : List (List D)}, EntsR w O ky g es l → encE es = encE es' → EntsR w O ky g es' l := by
  have key : ∀ {es es' : List MapEntry} {l : List (List D)}, EntsR w O ky g es l → (es.map fun e => Value.tuple #[e.key, e.val]) = (es'.map fun e => Value.tuple #[e.key, e.val]) → EntsR w O ky g es' l := by
    intro es
    induction es with
    | nil =>
      intro es' l h e
      have : es' = [] := by simpa using e.symm
      subst this
      exact h
    | cons a es ih =>
      intro es' l h e
      cases es' with
      | nil => simp at e
      | cons b es' =>
        cases l with
        | nil => exact h.elim
        | cons x l =>
          simp only [List.map_cons, List.cons.injEq, Value.tuple.injEq] at e
          obtain ⟨e1, e2⟩ := e
          have e3 : a.key = b.key ∧ a.val = b.val := by simpa using e1
          exact ⟨h.1.alike e3.1.symm e3.2.symm, ih h.2 e2⟩
  intro es es' l h e
  refine key h ?_
  unfold encE at e
  have := Value.agg.inj e
  simpa using this
theorem EntsR.get : ∀ {es : List MapEntry} {l : List (List D)} {i : Nat} {e : MapEntry}, EntsR w O ky g es l → es[i]? = some e → ∃ x, l[i]? = some x ∧ EntR w O ky g e x
  | e0 :: es, x :: l, 0, e, h, he => by
    simp at he
    subst he
    exact ⟨x, rfl, h.1⟩
  | e0 :: es, x :: l, i + 1, e, h, he => by simpa using EntsR.get h.2 (by simpa using he)
  | [], _, _, _, _, he => by simp at he
  | _ :: _, [], _, _, h, _ => h.elim
theorem EntsR.erase : ∀ {es : List MapEntry} {l : List (List D)} (i : Nat), EntsR w O ky g es l → EntsR w O ky g (es.eraseIdx i) (l.eraseIdx i)
  | [], [], _, _ => by simp; trivial
  | e :: es, x :: l, 0, h => by simpa using h.2
  | e :: es, x :: l, i + 1, h => by
    simp only [List.eraseIdx_cons_succ]
    exact ⟨h.1, EntsR.erase i h.2⟩
  | [], _ :: _, _, h => h.elim
  | _ :: _, [], _, h => h.elim
theorem key_is {k : D} {v : Value} (hk : keyD ky k) (h : RD w O k v) : MapKept.IsKey (kdT ky) v := by
  cases ky <;> cases k <;> simp only [keyD] at hk
  · simp only [RD] at h
    subst h
    simp [MapKept.IsKey, kdT]
  · simp only [RD] at h
    subst h hk
    simp [MapKept.IsKey, kdT]
theorem kEq_iff {k k' : D} {v v' : Value} (hk : keyD ky k) (hk' : keyD ky k') (h : RD w O k v) (h' : RD w O k' v') : kEq k k' = true ↔ v = v' := by
  cases ky <;> cases k <;> simp only [keyD] at hk <;> cases k' <;> simp only [keyD] at hk'
  · simp only [RD] at h h'
    subst h h'
    simp [kEq]
  · simp only [RD] at h h'
    subst h h' hk hk'
    simp [kEq]
/-- A key sought among entries. -/
theorem find_spec {k : D} {kv : Value} (hk : keyD ky k) (hkv : RD w O k kv) : ∀ (es : List MapEntry) (l : List (List D)) (i : Nat), EntsR w O ky g es l →
    (Instr.findNow (kdT ky) kv es i = some none ∧ mgD l k = none ∧ mdelD l k = l ∧ (∀ x ∈ es, x.key ≠ kv) ∧ ∀ vd val, valR w O g vd val → ∀ c, EntsR w O ky g (es ++ [⟨kv, val, c⟩]) (mputD l k vd)) ∨
    ∃ j e ds, Instr.findNow (kdT ky) kv es i = some (some (i + j, e.val)) ∧ es[j]? = some e ∧ e.key = kv ∧ mgD l k = some ds ∧ valR w O g ds e.val ∧ EntsR w O ky g (es.eraseIdx j) (mdelD l k) ∧
      ∀ vd val, valR w O g vd val → EntsR w O ky g (es.modify j fun e => { e with key := kv, val := val }) (mputD l k vd)
  | [], [], i, _ => .inl ⟨rfl, rfl, rfl, by simp, fun vd val hv c => ⟨⟨k, vd, rfl, hk, hkv, hv⟩, trivial⟩⟩
  | e :: es, x :: l, i, h => by
    obtain ⟨⟨k', ds, rfl, h2, h3, h4⟩, h5⟩ := h
    have hi := kEq_iff hk h2 hkv h3
    obtain ⟨r, hr, hiff⟩ := MapKept.sameNow_of_keys (key_is hk hkv) (key_is h2 h3)
    by_cases hq : kEq k k' = true
    · have hkk := hi.1 hq
      have hrt : r = true := hiff.2 hkk
      subst hrt
      refine .inr ⟨0, e, ds, by simp [Instr.findNow, hr], rfl, hkk.symm, by simp [mgD, hq], h4, by simpa [mdelD, hq] using h5, fun vd val hv => ?_⟩
      simp only [mputD, hq, if_true, List.modify_zero_cons]
      exact ⟨⟨k, vd, rfl, hk, hkv, hv⟩, h5⟩
    · have hne : ¬ kv = e.key := fun q => hq (hi.2 q)
      have hrf : r = false := by
        cases r with
        | false => rfl
        | true => exact (hne (hiff.1 rfl)).elim
      subst hrf
      rcases find_spec hk hkv es l (i + 1) h5 with ⟨f1, f2, f3, f4, f5⟩ | ⟨j, e', ds', f1, f2, f3, f4, f5, f6, f7⟩
      · refine .inl ⟨by simp [Instr.findNow, hr, f1], by simp [mgD, hq, f2], by simp [mdelD, hq, f3], fun x hx => ?_, fun vd val hv c => ?_⟩
        · rcases List.mem_cons.1 hx with rfl | hx
          · exact fun q => hne q.symm
          · exact f4 x hx
        · simp only [mputD, hq, Bool.false_eq_true, if_false, List.cons_append]
          exact ⟨⟨k', ds, rfl, h2, h3, h4⟩, f5 vd val hv c⟩
      · refine .inr ⟨j + 1, e', ds', by simp [Instr.findNow, hr, f1]; omega, by simpa using f2, f3, by simp [mgD, hq, f4], f5, ?_, fun vd val hv => ?_⟩
        · simp only [mdelD, hq, Bool.false_eq_true, if_false, List.eraseIdx_cons_succ]
          exact ⟨⟨k', ds, rfl, h2, h3, h4⟩, f6⟩
        · simp only [mputD, hq, Bool.false_eq_true, if_false, List.modify_succ_cons]
          exact ⟨⟨k', ds, rfl, h2, h3, h4⟩, f7 vd val hv⟩
  | [], _ :: _, _, h => h.elim
  | _ :: _, [], _, h => h.elim
/-- The block m is a map that holds l. -/
def MapAt (w : World) (m : Nat) (us : List Value) : Prop := ∃ es clock, w.heap[m]? = some (.map es clock) ∧ MapKept.Stamped es clock ∧ us = [encE es.toList]
theorem MapAt.keep {F : Nat → Prop} {m : Nat} {us : List Value} (h : MapAt w m us) (x : Ext F w w') (hf : ¬ F m) : MapAt w' m us := by
  obtain ⟨es, clock, h1, h2, h3⟩ := h
  exact ⟨es, clock, (x.block m (Array.getElem?_eq_some_iff.1 h1).1 hf).trans h1, h2, h3⟩
section
variable {P : Program} {t kt et : TypeId} {m : Nat} {es : Array MapEntry} {clock : Nat} {l : List (List D)} {k : D} {kv : Value}
theorem run_zero {P : Program} {T : TypeId} {z : Value} {w : World} (h : zer P T = some z) : (zeroValue T).run P w = .ok z w := by
  unfold zer at h
  cases hi : P.info? T with
  | none => rw [hi] at h; cases h
  | some i =>
    rw [hi] at h
    simp only [Option.bind_some] at h
    simp [zeroValue, typeInfo, Sem.run_bind, Sem.run, hi, h]
theorem run_lookup (ht : P.underlying t = some (.map kt et)) (hkt : P.underlying kt = some (kdT ky)) {z : Value} (hz : zer P et = some z) (hb : w.heap[m]? = some (.map es clock)) (h : EntsR w O ky g es.toList l) (hk : keyD ky k) (hkv : RD w O k kv) (c : Bool) :
    ∃ v ok, (Instr.lookup t (.map (some m)) kv c).run P w = .ok (if c = true then .tuple #[v, .bool ok] else v) w ∧ ((mgD l k = none ∧ v = z ∧ ok = false) ∨ ∃ ds, mgD l k = some ds ∧ valR w O g ds v ∧ ok = true) := by
  have hz' : (zeroValue et).run P w = .ok z w := run_zero hz
  rcases find_spec hk hkv es.toList l 0 h with ⟨f1, f2, _⟩ | ⟨j, e, ds, f1, _, _, f4, f5, _⟩
  · refine ⟨z, false, ?_, .inl ⟨f2, rfl, rfl⟩⟩
    simp only [Instr.lookup, Sem.run_bind, run_underlying ht, Result.andThen_ok, MapKept.run_getObj_map hb, Sem.run_pure, MapKept.run_checkKey hkt (key_is hk hkv), MapKept.run_findKey hkt f1, hz']
  · refine ⟨e.val, true, ?_, .inr ⟨ds, f4, f5, rfl⟩⟩
    simp only [Instr.lookup, Sem.run_bind, run_underlying ht, Result.andThen_ok, MapKept.run_getObj_map hb, Sem.run_pure, MapKept.run_checkKey hkt (key_is hk hkv), MapKept.run_findKey hkt f1]
/-- The block m is written. -/
theorem Ext.setMap {o o' : Obj} (hb : w.heap[m]? = some o) : Ext (At m) w { w with heap := w.heap.setIfInBounds m o' } :=
  ⟨rfl, rfl, rfl, by simp, fun b hb' hne => (MapKept.heap_set (w := w) (o' := o') hb).2 b hne⟩
theorem run_mapUpdate (ht : P.underlying t = some (.map kt et)) (hkt : P.underlying kt = some (kdT ky)) (hb : w.heap[m]? = some (.map es clock)) (hs : MapKept.Stamped es clock) (h : EntsR w O ky g es.toList l) (hk : keyD ky k) (hkv : RD w O k kv) {vd : List D} {val : Value} (hv : valR w O g vd val) :
    ∃ es' clock' w', (Instr.mapUpdate t (.map (some m)) kv val).run P w = .ok () w' ∧ w'.heap[m]? = some (.map es' clock') ∧ MapKept.Stamped es' clock' ∧ EntsR w O ky g es'.toList (mputD l k vd) ∧ Ext (At m) w w' := by
  have hik := key_is hk hkv
  rcases find_spec hk hkv es.toList l 0 h with ⟨f1, f2, f3, f4, f5⟩ | ⟨j, e, ds, f1, f2, f3, f4, f5, f6, f7⟩
  · refine ⟨es.push { key := kv, val := val, born := clock }, clock + 1, { w with heap := w.heap.setIfInBounds m (.map (es.push { key := kv, val := val, born := clock }) (clock + 1)) }, ?_, (MapKept.heap_set hb).1, MapKept.stamped_push hs f4, by simpa using f5 vd val hv clock, Ext.setMap hb⟩
    simp [Instr.mapUpdate, run_underlying ht, MapKept.run_getObj_map hb, MapKept.run_checkKey hkt hik, MapKept.run_findKey hkt f1, MapKept.run_setObj_map _ hb, Result.andThen]
  · have hj : es[j]? = some e := by simpa using f2
    have hkey : ∀ e', es[j]? = some e' → ({ e' with key := kv, val := val } : MapEntry).key = e'.key := fun e' he' => by rw [hj] at he'; cases he'; exact f3.symm
    refine ⟨es.modify j fun e => { e with key := kv, val := val }, clock, { w with heap := w.heap.setIfInBounds m (.map (es.modify j fun e => { e with key := kv, val := val }) clock) }, ?_, (MapKept.heap_set hb).1, MapKept.stamped_modify hs _ _ (fun _ _ => rfl) (fun e' _ he' => hkey e' he'), by rw [Array.toList_modify]; exact f7 vd val hv, Ext.setMap hb⟩
    simp [Instr.mapUpdate, run_underlying ht, MapKept.run_getObj_map hb, MapKept.run_checkKey hkt hik, MapKept.run_findKey hkt f1, hj, f3, MapKept.run_keyThatStays hik, MapKept.run_setObj_map _ hb, Result.andThen]
theorem run_delete {ty : TypeId} (ht : P.underlying t = some (.map kt et)) (hkt : P.underlying kt = some (kdT ky)) (hb : w.heap[m]? = some (.map es clock)) (hs : MapKept.Stamped es clock) (h : EntsR w O ky g es.toList l) (hk : keyD ky k) (hkv : RD w O k kv) {ts : Array TypeId} (h0 : ts[0]? = some t) :
    ∃ es' clock' w', (Builtin.delete_ ts ty #[.map (some m), kv]).run P w = .ok (.tuple #[]) w' ∧ w'.heap[m]? = some (.map es' clock') ∧ MapKept.Stamped es' clock' ∧ EntsR w O ky g es'.toList (mdelD l k) ∧ Ext (At m) w w' := by
  have hik := key_is hk hkv
  rcases find_spec hk hkv es.toList l 0 h with ⟨f1, f2, f3, f4, f5⟩ | ⟨j, e, ds, f1, f2, f3, f4, f5, f6, f7⟩
  · refine ⟨es, clock, { w with heap := w.heap.setIfInBounds m (.map es clock) }, ?_, (MapKept.heap_set hb).1, hs, by rw [f3]; exact h, Ext.setMap hb⟩
    simp [Builtin.delete_, h0, run_underlying ht, MapKept.run_getObj_map hb, MapKept.run_checkKey hkt hik, MapKept.run_findKey hkt f1, MapKept.run_setObj_map _ hb, Result.andThen]
  · have hj : es[j]? = some e := by simpa using f2
    have hlt : j < es.size := (Array.getElem?_eq_some_iff.1 hj).1
    have he : (es.eraseIdxIfInBounds j).toList = es.toList.eraseIdx j := by
      unfold Array.eraseIdxIfInBounds
      rw [dif_pos hlt, Array.toList_eraseIdx]
    refine ⟨es.eraseIdxIfInBounds j, clock, { w with heap := w.heap.setIfInBounds m (.map (es.eraseIdxIfInBounds j) clock) }, ?_, (MapKept.heap_set hb).1, MapKept.stamped_erase hs _, by rw [he]; exact f6, Ext.setMap hb⟩
    simp [Builtin.delete_, h0, run_underlying ht, MapKept.run_getObj_map hb, MapKept.run_checkKey hkt hik, MapKept.run_findKey hkt f1, MapKept.run_setObj_map _ hb, Result.andThen]
/-- The entries that are left to be handed out. -/
def leftL (es : List MapEntry) (seen : List Nat) : List MapEntry := es.filter fun e => !seen.contains e.born
/-- An iterator's block, as_ one value. -/
def encI (m since : Nat) (seen : List Nat) (last : Nat) : Value := .agg #[.map (some m), .int .i64 since, .int .i64 last, .agg ((seen.map fun n : Nat => Value.int .i64 (n : Int)).toArray)]
theorem encI_inj {m m' since since' last last' : Nat} {seen seen' : List Nat} (h : encI m since seen last = encI m' since' seen' last') : m = m' ∧ since = since' ∧ seen = seen' ∧ last = last' := by
  simp only [encI, Value.agg.injEq, Array.mk.injEq, List.cons.injEq, Value.map.injEq, Option.some.injEq, Value.int.injEq, true_and, and_true] at h
  obtain ⟨h1, h2, h3, h4⟩ := h
  refine ⟨h1, by omega, ?_, by omega⟩
  have h5 : (seen.map fun n : Nat => Value.int .i64 (n : Int)) = seen'.map fun n : Nat => Value.int .i64 (n : Int) := by simpa using h4
  refine (List.map_inj_right fun a b e => ?_).1 h5
  have := (Value.int.inj e).2
  omega
def IterAt (w : World) (r : Nat) (us : List Value) : Prop := ∃ m since seen last, w.heap[r]? = some (.mapIter (some m) since seen last) ∧ us = [encI m since seen.toList last]
theorem IterAt.keep {F : Nat → Prop} {m : Nat} {us : List Value} (h : IterAt w m us) (x : Ext F w w') (hf : ¬ F m) : IterAt w' m us := by
  obtain ⟨q, since, seen, last, h1, h2⟩ := h
  exact ⟨q, since, seen, last, (x.block m (Array.getElem?_eq_some_iff.1 h1).1 hf).trans h1, h2⟩
theorem run_getIt {r since last : Nat} {q : Option Nat} {seen : Array Nat} (hb : w.heap[r]? = some (.mapIter q since seen last)) : (getObj r).run P w = .ok (.mapIter q since seen last) w := by
  simp [getObj, Sem.run, hb]
theorem run_setIt {r since last : Nat} {q : Option Nat} {seen : Array Nat} (o' : Obj) (hb : w.heap[r]? = some (.mapIter q since seen last)) : (setObj r o').run P w = .ok () { w with heap := w.heap.setIfInBounds r o' } := by
  simp [setObj, Sem.run, hb]
theorem run_range (ht : P.underlying t = some (.map kt et)) (hb : w.heap[m]? = some (.map es clock)) :
    (Instr.range t (.map (some m))).run P w = .ok (.pointer (some ⟨w.heap.size, 0, none⟩)) (w.alloc (.mapIter (some m) clock #[] clock)) := by
  simp [Instr.range, run_underlying ht, MapKept.run_getObj_map hb]
/-- 'next': nothing is left; or one of those that are left, whichever. -/
theorem run_next {ty : TypeId} {r : Nat} {seen : Array Nat} (hb : w.heap[m]? = some (.map es clock)) (hr : w.heap[r]? = some (.mapIter (some m) clock seen clock)) (hold : ∀ x ∈ es.toList, x.born < clock) :
    (leftL es.toList seen.toList = [] ∧ (Instr.next (.pointer (some ⟨r, 0, none⟩)) false ty).run P w = .ok (.tuple #[.bool false]) w) ∨
    ∃ (i : Nat) (e : MapEntry), (leftL es.toList seen.toList)[i]? = some e ∧ ∃ w', Ext (At r) w w' ∧ w'.heap[r]? = some (.mapIter (some m) clock (seen.push e.born) clock) ∧ (Instr.next (.pointer (some ⟨r, 0, none⟩)) false ty).run P w = .ok (.tuple #[.bool true, e.key, e.val]) w' := by
  simp only [Instr.next, Sem.run_bind, run_getIt hr, MapKept.run_getObj_map hb, Result.andThen_ok, Go.next_test_false seen es clock clock hold (Nat.le_refl _), Bool.false_eq_true, if_false]
  have hL : leftL es.toList seen.toList = (es.filter fun e => !seen.contains e.born).toList := by
    unfold leftL
    rw [Array.toList_filter]
    congr 1
    funext e
    rw [Array.contains_toList]
  have hmem : ∀ x ∈ (Array.filter (fun e => !seen.contains e.born) es).toList, x.born < clock := fun x hx => hold x (by simp at hx ⊢; exact hx.1)
  rw [hL]
  generalize Array.filter (fun e => !seen.contains e.born) es = L at hmem ⊢
  have e1 : L.filter (fun x => decide (x.born < clock)) = L := Array.filter_eq_self.2 (fun x hx => by simpa using hmem x (by simpa using hx))
  have e2 : L.filter (fun x => decide (x.born ≥ clock)) = #[] := by
    rw [Array.filter_eq_empty_iff]
    intro x hx
    have := hmem x (by simpa using hx)
    simp
    omega
  simp only [e1, e2, Array.append_empty]
  by_cases h0 : L.size = 0
  · left
    have : L = #[] := Array.eq_empty_of_size_eq_zero h0
    subst this
    refine ⟨rfl, ?_⟩
    simp [choose, Sem.run, Question.forced]
  · right
    have hne : L.isEmpty = false := by simp [Array.isEmpty, h0]
    simp only [hne, Bool.false_eq_true, if_false, Array.empty_append, Array.size_map]
    have hch : ∃ (j : Nat) (w1 : World), j < L.size ∧ Ext Nowhere w w1 ∧ w1.heap = w.heap ∧ (choose (Question.mapNext L.size)).run P w = .ok j w1 := by
      by_cases hf : L.size ≤ 1
      · exact ⟨0, w, by omega, Ext.refl _ _, rfl, by simp [choose, Sem.run, Question.forced, hf]⟩
      · exact ⟨_, w.drew, Nat.mod_lt _ (by omega), ⟨rfl, rfl, rfl, Nat.le_refl _, fun _ _ _ => rfl⟩, rfl, by
          simp only [choose, Sem.run, Question.forced, decide_eq_true_eq, hf, if_false, Question.cut]
          rfl⟩
    obtain ⟨j, w1, hj, hx, hh, hc⟩ := hch
    have hr1 : w1.heap[r]? = some (.mapIter (some m) clock seen clock) := by rw [hh]; exact hr
    refine ⟨j, L[j], by simp [hj], { w1 with heap := w1.heap.setIfInBounds r (.mapIter (some m) clock (seen.push L[j].born) clock) }, ?_, (MapKept.heap_set hr1).1, ?_⟩
    · exact (hx.mono fun _ _ h => h.elim).trans (Ext.setMap hr1)
    · simp only [hc, Result.andThen_ok]
      simp [hj, run_setIt _ hr1, Result.andThen]
theorem run_entry {r last : Nat} {seen : Array Nat} {since : Nat} {b : Nat} {e : MapEntry} (hb : w.heap[m]? = some (.map es last)) (hr : w.heap[r]? = some (.mapIter (some m) since seen last)) (hs : seen.back? = some b) (he : es.toList.find? (fun e => e.born == b) = some e) :
    (Instr.entry (.pointer (some ⟨r, 0, none⟩))).run P w = .ok (.tuple #[e.key, e.val]) w := by
  have he' : es.find? (fun e => e.born == b) = some e := by rw [← Array.find?_toList]; exact he
  simp [Instr.entry, run_getIt hr, MapKept.run_getObj_map hb, hs, he', Result.andThen]
end
theorem Stamped.nil : MapKept.Stamped #[] 0 := ⟨by simp, by simp, by simp⟩
/-- What a map, or an iterator over one, holds. -/
inductive MC where
  | cont (ky : Option IntKind) (g : Bool) (l : List (List D))
  | it (ky : Option IntKind) (g : Bool) (cur : Option (List D)) (rem : List (List D))
/-- A map's block that nothing turns any more. -/
def MapD (w : World) (O : Nat → Prop) (m : Nat) (es : Array MapEntry) (clock : Nat) : Prop := w.heap[m]? = some (.map es clock) ∧ MapKept.Stamped es clock ∧ ¬ O m
def CurR (w : World) (O : Nat → Prop) (ky : Option IntKind) (g : Bool) (es : Array MapEntry) (seen : Array Nat) : Option (List D) → Prop
  | none => True
  | some x => ∃ b e, seen.back? = some b ∧ es.toList.find? (fun e => e.born == b) = some e ∧ EntR w O ky g e x
def MR (w : World) (O : Nat → Prop) : MC → Value → Prop
  | .cont ky g l, u => ∃ es, u = encE es ∧ EntsR w O ky g es l
  | .it ky g cur rem, u => ∃ m seen clock es, u = encI m clock seen.toList clock ∧ MapD w O m es clock ∧ EntsR w O ky g (leftL es.toList seen.toList) rem ∧ CurR w O ky g es seen cur
theorem MapD.tr {m : Nat} {es : Array MapEntry} {clock : Nat} (h : MapD w O m es clock) (t : Tr O w O' w') : MapD w' O' m es clock :=
  have hm := (Array.getElem?_eq_some_iff.1 h.1).1
  ⟨(t.block m hm h.2.2).trans h.1, h.2.1, t.owned m hm h.2.2⟩
theorem MR.tr {c : MC} {u : Value} (h : MR w O c u) (t : Tr O w O' w') : MR w' O' c u := by
  cases c with
  | cont ky g l =>
    obtain ⟨es, h1, h2⟩ := h
    exact ⟨es, h1, h2.tr t⟩
  | it ky g cur rem =>
    obtain ⟨m, seen, clock, es, h1, h2, h3, h4⟩ := h
    refine ⟨m, seen, clock, es, h1, h2.tr t, h3.tr t, ?_⟩
    cases cur with
    | none => trivial
    | some x =>
      obtain ⟨b, e, h5, h6, h7⟩ := h4
      exact ⟨b, e, h5, h6, h7.tr t⟩
/-- A box; a map (1000000 on its type); an iterator (2000000). -/
def BoxQ (w : World) (b T : Nat) (us : List Value) : Prop := (T < 1000000 ∧ BoxAt w b T us) ∨ (1000000 ≤ T ∧ T < 2000000 ∧ MapAt w b us) ∨ (2000000 ≤ T ∧ IterAt w b us)
theorem BoxQ.un {b T : Nat} {us : List Value} (h : BoxQ w b T us) (ht : T < 1000000) : BoxAt w b T us := by
  rcases h with h | h | h
  · exact h.2
  · omega
  · omega
theorem BoxQ.map {b T : Nat} {us : List Value} (h : BoxQ w b T us) (ht : 1000000 ≤ T) (hu : T < 2000000) : MapAt w b us := by
  rcases h with h | h | h
  · omega
  · exact h.2.2
  · omega
theorem BoxQ.iter {b T : Nat} {us : List Value} (h : BoxQ w b T us) (ht : 2000000 ≤ T) : IterAt w b us := by
  rcases h with h | h | h
  · omega
  · omega
  · exact h.2
theorem BoxQ.keep {F : Nat → Prop} {b T : Nat} {us : List Value} (h : BoxQ w b T us) (x : Ext F w w') (hf : ¬ F b) : BoxQ w' b T us :=
  h.imp (fun h => ⟨h.1, h.2.keep x hf⟩) fun h => h.imp (fun h => ⟨h.1, h.2.1, h.2.2.keep x hf⟩) fun h => ⟨h.1, h.2.keep x hf⟩
theorem MapAt.lt {m : Nat} {us : List Value} (h : MapAt w m us) : m < w.heap.size := by
  obtain ⟨es, clock, h1, _⟩ := h
  exact (Array.getElem?_eq_some_iff.1 h1).1
theorem IterAt.lt {m : Nat} {us : List Value} (h : IterAt w m us) : m < w.heap.size := by
  obtain ⟨_, _, _, _, h1, _⟩ := h
  exact (Array.getElem?_eq_some_iff.1 h1).1
theorem BoxQ.lt {b T : Nat} {us : List Value} (h : BoxQ w b T us) : b < w.heap.size := by
  rcases h with h | h | h
  · exact h.2.lt
  · exact h.2.2.lt
  · exact h.2.lt
def mgetD (l : List (List D)) (k : D) (z : List D) : List D := match mgD l k with
  | some ds => ds
  | none => z
def mhasD (l : List (List D)) (k : D) : Bool := match mgD l k with
  | some _ => true
  | none => false
end
end
section
/-- The slice v, of n elements of m cells each, owns the cells xs; nothing within its row is frozen. -/
def rowM (w : World) (T m : Nat) (v : Value) (n : Nat) (xs : List Value) : Prop :=
  xs.length = n * m ∧ ((v = .slice none 0 0 ∧ n = 0) ∨ ∃ g cap cur fz, v = .slice (some ⟨g, 0, none⟩) n cap ∧ w.heap[g]? = some (.cells cur T fz) ∧ (fz.2 = 0 ∨ cur.size ≤ fz.1) ∧ n ≤ cap ∧ cap ≤ maxLen ∧ cur.size = cap * m ∧ cur.toList.take (n * m) = xs)
def OwnM (w : World) (O : Nat → Prop) (T m : Nat) (v : Value) (l : List (List D)) : Prop :=
  ∃ xs, rowM w T m v l.length xs ∧ RDl w O m l xs ∧ (∀ x ∈ xs, x.oneCell' = true) ∧ ∀ b, v.ownBlock = some b → O b
theorem rowM_of {w : World} {T m n : Nat} {v : Value} {xs : List Value} (h : w.ownsRow 0 T m v n xs) : rowM w T m v n xs := by
  refine ⟨h.1, ?_⟩
  rcases h.2 with hn | ⟨g, cap, cur, hv, _, hg, rest⟩
  · exact .inl hn
  · exact .inr ⟨g, cap, cur, (0, 0), hv, hg, .inl rfl, rest⟩
theorem OwnM.keep {w w' : World} {O O' F : Nat → Prop} {T m : Nat} {v : Value} {l : List (List D)} (h : OwnM w O T m v l) (x : Ext F w w') (hf : ∀ b, v.ownBlock = some b → ¬ F b) (t : Tr O w O' w') (ho : ∀ b, O b → O' b) : OwnM w' O' T m v l := by
  obtain ⟨xs, h1, h2, h3, h4⟩ := h
  refine ⟨xs, ⟨h1.1, ?_⟩, h2.tr t, h3, fun b hb => ho b (h4 b hb)⟩
  rcases h1.2 with h5 | ⟨g, cap, cur, fz, rfl, h7, h8⟩
  · exact .inl h5
  · exact .inr ⟨g, cap, cur, fz, rfl, (x.block g (Array.getElem?_eq_some_iff.1 h7).1 (hf g rfl)).trans h7, h8⟩
theorem OwnM.nil (w : World) (O : Nat → Prop) (T m : Nat) : OwnM w O T m (.slice none 0 0) [] := ⟨[], rowM_of (World.ownsRow_nil w 0 T m), trivial, by simp, by simp [Value.ownBlock]⟩
theorem OwnM.lt {w : World} {O : Nat → Prop} {T m : Nat} {v : Value} {l : List (List D)} (h : OwnM w O T m v l) : ∀ b, v.ownBlock = some b → b < w.heap.size := by
  obtain ⟨xs, h1, _⟩ := h
  intro b hb
  rcases h1.2 with ⟨rfl, _⟩ | ⟨g, cap, cur, fz, rfl, h7, _⟩
  · simp [Value.ownBlock] at hb
  · simp only [Value.ownBlock, Option.some.injEq] at hb
    subst hb
    exact (Array.getElem?_eq_some_iff.1 h7).1
theorem OwnM.len {w : World} {O : Nat → Prop} {T m : Nat} {v : Value} {l : List (List D)} (h : OwnM w O T m v l) : ∃ p c, v = .slice p l.length c := by
  obtain ⟨xs, h1, _⟩ := h
  rcases h1.2 with ⟨rfl, h0⟩ | ⟨g, cap, cur, fz, rfl, _⟩
  · exact ⟨none, 0, by rw [h0]⟩
  · exact ⟨_, _, rfl⟩
theorem OwnM.data {w : World} {O : Nat → Prop} {T m : Nat} {v : Value} {l : List (List D)} (h : OwnM w O T m v l) : RD w (Del O v) (.sl T m l) v := by
  obtain ⟨xs, h1, h2, _, h4⟩ := h
  have h2' : RDl w (Del O v) m l xs := h2.tr (Tr.drop w fun x hx => hx.1)
  rcases h1.2 with ⟨rfl, h0⟩ | ⟨g, cap, cur, fz, rfl, h7, _, h8, h9, h10, h11⟩
  · exact .inl ⟨⟨_, rfl⟩, List.eq_nil_of_length_eq_zero h0⟩
  · refine .inr ⟨g, 0, cap, cur, (_, fz), rfl, h8, h9, fun ho => ho.2 rfl, h7, by simp [h10], ?_⟩
    rw [← h11] at h2'
    simp only [List.drop_zero]
    exact h2'.of_take
theorem rowM.cells {w : World} {T m n : Nat} {v : Value} {xs : List Value} (h : rowM w T m v n xs) {g : Nat} (hg : v.ownBlock = some g) : ∀ j u, xs[j]? = some u → w.cell? ((⟨g, 0, none⟩ : Addr).add j) = some u := by
  intro j u hu
  rcases h.2 with ⟨rfl, _⟩ | ⟨g', cap, cur, fz, rfl, hgg, _, _, _, _, htake⟩
  · simp [Value.ownBlock] at hg
  · simp [Value.ownBlock] at hg
    subst hg
    rw [Addr.add_lit, cell_of_row w g' _ cur T fz hgg]
    rw [← htake, List.getElem?_take] at hu
    split at hu
    · simpa using hu
    · cases hu
/-- Cells are stored where nothing is frozen. -/
theorem run_storeCells_M (P : Program) (g o : Nat) (t : TypeId) (fz : Nat × Nat) : ∀ (vs : List Value) (i : Nat) (cur : Array Value) (w : World), w.heap[g]? = some (.cells cur t fz) → (fz.2 = 0 ∨ cur.size ≤ fz.1) → o + i + vs.length ≤ cur.size → (∀ v ∈ vs, v.oneCell' = true) →
    (storeCells ⟨g, o, none⟩ vs i).run P w = .ok () (w.setRow g (cur.toList.take (o + i) ++ vs ++ cur.toList.drop (o + i + vs.length)).toArray)
  | [], i, cur, w, hg, _, _, _ => by
    simp only [storeCells, List.append_nil, List.length_nil, Nat.add_zero, List.take_append_drop, Array.toArray_toList]
    rw [setRow_self w g cur t fz hg]
    rfl
  | v :: rest, i, cur, w, hg, hfz, hl, h1 => by
    have hi : o + i < cur.size := by simp at hl; omega
    have hadd : (⟨g, o, none⟩ : Addr).add i = ⟨g, o + i, none⟩ := Addr.add_lit ..
    have hcell : w.cell? ⟨g, o + i, none⟩ = some cur[o + i] := by simp [World.cell?, hg, hi]
    have hfro : w.frozen? ⟨g, o + i, none⟩ = false := by
      obtain ⟨lo, hi'⟩ := fz
      simp only [World.frozen?, hg, Bool.and_eq_false_iff, decide_eq_false_iff_not]
      simp only at hfz
      rcases hfz with h | h
      · right; omega
      · left; omega
    have hst : (store ((⟨g, o, none⟩ : Addr).add i) v).run P w = .ok () (w.setRow g (cur.setIfInBounds (o + i) v)) := by
      rw [hadd, run_store P w _ v _ (h1 v (by simp)), hcell]
      simp [hfro, setCell_eq_setRow w g (o + i) cur t fz v hg]
    have ih := run_storeCells_M P g o t fz rest (i + 1) (cur.setIfInBounds (o + i) v) (w.setRow g (cur.setIfInBounds (o + i) v)) (setRow_heap w g cur _ t _ hg) (by simpa using hfz) (by simp at hl ⊢; omega) (fun x hx => h1 x (by simp [hx]))
    simp only [storeCells, Sem.run_bind, hst, Result.andThen_ok, ih, setRow_setRow]
    congr 3
    have e := list_seg_step cur.toList (o + i) v rest (by simp at hl ⊢; omega)
    simpa [Array.toList_setIfInBounds, Nat.add_assoc] using e
theorem Ext.setRow (w : World) (g : Nat) (cur : Array Value) : Ext (fun y => y = g) w (w.setRow g cur) := ⟨rfl, rfl, rfl, by simp, fun k _ hk => setRow_other w g k _ fun e => hk e⟩
theorem OwnM.store {P : Program} {w : World} {O : Nat → Prop} {T m : Nat} {v : Value} {l : List (List D)} {x : List D} {vs : List Value} {b len cap j : Nat} (h : OwnM w O T m v l) (hv : v = .slice (some ⟨b, 0, none⟩) len cap) (hj : j < l.length) (hm : vs.length = m)
    (h1 : vs.all (·.oneCell') = true) (hx : RDs w O x vs) : ∃ w', (storeCells ⟨b, j * m, none⟩ vs).run P w = .ok () w' ∧ OwnM w' O T m v (l.set j x) ∧ Ext (fun y => v.ownBlock = some y) w w' := by
  obtain ⟨xs, k1, k2, k3, k4⟩ := h
  rcases k1.2 with ⟨k5, _⟩ | ⟨g, cap', cur, fz, k5, k7, kf, k8, k9, k10, k11⟩
  · rw [k5] at hv; cases hv
  · have hv2 := hv.symm.trans k5
    simp only [Value.slice.injEq, Option.some.injEq, Addr.mk.injEq, and_true] at hv2
    obtain ⟨rfl, rfl, rfl⟩ := hv2
    have hle : (j + 1) * m ≤ cap * m := Nat.mul_le_mul_right m (by omega)
    have e0 : (j + 1) * m = j * m + m := Nat.succ_mul j m
    have hr := run_storeCells_M P b (j * m) T fz vs 0 cur w k7 kf (by rw [hm, k10]; omega) (by simpa using h1)
    simp only [Nat.add_zero, hm] at hr
    have hblk : v.ownBlock = some b := by rw [k5]; rfl
    have hF : Ext (fun y => v.ownBlock = some y) w (w.setRow b (cur.toList.take (j * m) ++ vs ++ cur.toList.drop (j * m + m)).toArray) := (Ext.setRow w b _).mono fun y _ hy => by rw [hy]; exact hblk
    have t : Tr O w O _ := Tr.of_ext hF fun y _ hy => k4 y hy
    have hrd : RDl w O m l cur.toList := by
      rw [← k11] at k2
      exact RDl.of_take (by simpa using k2)
    have hrd2 := (RDl.set hx hm (j := j) hrd hj (by rw [Array.length_toList, k10]; exact hle)).tr t
    have hlen : (cur.toList.take (j * m) ++ vs ++ cur.toList.drop (j * m + m)).length = cap * m := by
      simp only [List.length_append, List.length_take, List.length_drop, Array.length_toList, k10, hm]
      omega
    refine ⟨_, hr, ⟨(cur.toList.take (j * m) ++ vs ++ cur.toList.drop (j * m + m)).take (l.length * m), ⟨?_, .inr ⟨b, cap, (cur.toList.take (j * m) ++ vs ++ cur.toList.drop (j * m + m)).toArray, fz, ?_, setRow_heap w b cur _ T _ k7, ?_, ?_, k9, ?_, ?_⟩⟩, ?_, ?_, k4⟩, hF⟩
    · have hc : l.length * m ≤ cap * m := Nat.mul_le_mul_right m k8
      simp only [List.length_take, hlen, List.length_set]
      omega
    · simpa using k5
    · rw [List.size_toArray, hlen, ← k10]; exact kf
    · simpa using k8
    · simpa using hlen
    · simp
    · simpa using RDl.take_cells hrd2
    · simpa using RDl.one hrd2
/-- What a growing marked slice leaves. -/
structure GrewM (w : World) (O : Nat → Prop) (T m : Nat) (v : Value) (w' : World) (O' : Nat → Prop) (v' : Value) (l : List (List D)) : Prop where
  own : OwnM w' O' T m v' l
  ext : Ext (fun b => v.ownBlock = some b) w w'
  tr : Tr O w O' w'
  more : ∀ b, O b → O' b
  bd : Bd O' w'
  at_ : ∀ b, v'.ownBlock = some b → v.ownBlock = some b ∨ w.heap.size ≤ b
  only : ∀ b, O' b → O b ∨ w.heap.size ≤ b
/-- append(v, s...), v a marked row of bytes, s a string. -/
theorem run_append_strM {P : Program} {w : World} {O : Nat → Prop} {T : Nat} {t u ty : TypeId} {v : Value} {l : List (List D)} {s : List UInt8} (ht : P.underlying t = some (.slice T)) (hu : P.underlying u = some .string) (hi : inf P T = some (.int .u8 0, 1, 1))
    (h : OwnM w O T 1 v l) (hB : Bd O w) (hb : l.length + s.length ≤ 140737488355328) :
    ∃ v' w' O', (Builtin.append_ #[t, u] ty #[v, .string ⟨s.toArray⟩]).run P w = .ok v' w' ∧ GrewM w O T 1 v w' O' v' (l ++ s.map byteD) := by
  obtain ⟨i, i1, i2, i3, i4⟩ := inf_parts hi
  have hO := h
  obtain ⟨xs, h1, h2, h3, h4⟩ := h
  have hsz : (⟨s.toArray⟩ : ByteArray).size = s.length := by simp [ByteArray.size]
  have hsc : Lib.strCells ⟨s.toArray⟩ = s.map fun b => Value.int .u8 (b.toNat : Nat) := by simp [Lib.strCells]
  rcases h1.2 with ⟨rfl, h0⟩ | ⟨g, cap, cur, fz, rfl, hg, hfz, hnc, hcm, hcs, htake⟩
  · have hl : l = [] := List.eq_nil_of_length_eq_zero h0
    subst hl
    obtain ⟨v', w', O', hr, G⟩ := run_append_str (P := P) (ty := ty) ht hu hi (Own.nil w O T 1) hB hb
    obtain ⟨ys, y1, y2⟩ := G.own
    exact ⟨v', w', O', hr, ⟨ys, rowM_of y1, y2⟩, G.ext, G.tr, G.more, G.bd, G.at_, G.only⟩
  · have hxl : xs.length = l.length := by simpa using h1.1
    have hcs' : cur.size = cap := by simpa using hcs
    have hrdn : RDl w O 1 (l ++ s.map byteD) (xs ++ Lib.strCells ⟨s.toArray⟩) := by rw [hsc]; exact RDl.append h1.1 h2 (RDl_strCells s)
    have hone : ∀ u ∈ xs ++ Lib.strCells ⟨s.toArray⟩, u.oneCell' = true := fun u hu => by
      rcases List.mem_append.1 hu with hu | hu
      · exact h3 u hu
      · exact Lib.strCells_oneCell _ u hu
    have hlen : (xs ++ Lib.strCells ⟨s.toArray⟩).length = (l ++ s.map byteD).length * 1 := by simp [hsc, hxl]
    by_cases hroom : l.length + s.length ≤ cap
    · have hst := run_storeCells_M P g l.length T fz (Lib.strCells ⟨s.toArray⟩) 0 cur w hg hfz (by rw [Lib.strCells_length, hsz]; omega) (Lib.strCells_oneCell _)
      simp only [Nat.add_zero, Lib.strCells_length, hsz] at hst
      have hr : (Builtin.append_ #[t, u] ty #[.slice (some ⟨g, 0, none⟩) l.length cap, .string ⟨s.toArray⟩]).run P w =
          .ok (.slice (some ⟨g, 0, none⟩) (l.length + s.length) cap) (w.setRow g (cur.toList.take l.length ++ Lib.strCells ⟨s.toArray⟩ ++ cur.toList.drop (l.length + s.length)).toArray) := by
        have hf := Lib.run_firstCells_string (P := P) w 1 ⟨s.toArray⟩
        rw [hsz] at hf
        simp [Builtin.append_, run_underlying ht, run_underlying hu, sizeOf, typeInfo, i1, i3, Builtin.lenOf, hsz, hroom, hf, Addr.add_lit, hst]
      have hF : Ext (fun b => (Value.slice (some ⟨g, 0, none⟩) l.length cap).ownBlock = some b) w (w.setRow g (cur.toList.take l.length ++ Lib.strCells ⟨s.toArray⟩ ++ cur.toList.drop (l.length + s.length)).toArray) := (Ext.setRow w g _).mono fun y _ hy => by rw [hy]; rfl
      have t : Tr O w O _ := Tr.of_ext hF fun y _ hy => h4 y hy
      have e1 : (cur.toList.take l.length ++ Lib.strCells ⟨s.toArray⟩ ++ cur.toList.drop (l.length + s.length)).length = cap := by
        simp only [List.length_append, List.length_take, List.length_drop, Array.length_toList, Lib.strCells_length, hsz, hcs']
        omega
      refine ⟨_, _, O, hr, ⟨xs ++ Lib.strCells ⟨s.toArray⟩, ⟨hlen, .inr ⟨g, cap, _, fz, by simp, setRow_heap w g cur _ T _ hg, ?_, by simpa using hroom, hcm, by simpa using e1, ?_⟩⟩, hrdn.tr t, hone, fun b hb => h4 b hb⟩, hF, t, fun _ h => h, hB.ext hF, fun b hb => .inl hb, fun b hb => .inl hb⟩
      · rw [List.size_toArray, e1, ← hcs']; exact hfz
      · have ht' : cur.toList.take l.length = xs := by simpa using htake
        rw [ht', ← hlen]
        exact List.take_left
    · have holds : ∀ j u, xs[j]? = some u → w.cell? ((⟨g, 0, none⟩ : Addr).add j) = some u := h1.cells (g := g) rfl
      have hr := Lib.run_append_grow_string (P := P) (ty := ty) w t u T i (.int .u8 0) ht hu i1 i2 ⟨g, 0, none⟩ l.length cap xs (by rw [i3]; simpa using hxl) holds ⟨s.toArray⟩ (by rw [hsz]; omega) (by rw [hsz]; omega) (by rw [i4, hsz]; exact growslice_fits (by omega) (by omega))
      rw [hsz] at hr
      have hge := grownCap_ge w (l.length + s.length) cap T
      have hcm2 : grownCap w (l.length + s.length) cap T ≤ maxLen := grownCap_le_maxLen w (l.length + s.length) cap T (by unfold maxLen; omega)
      have hz1 : (Value.int IntKind.u8 0).cells.size = 1 := rfl
      have e1 : (List.toArray xs ++ List.toArray (Lib.strCells ⟨s.toArray⟩) ++ Builtin.zeroCells (Value.int .u8 0).cells (grownCap w (l.length + s.length) cap T - (l.length + s.length))).size = grownCap w (l.length + s.length) cap T := by
        simp only [Array.size_append, List.size_toArray, size_zeroCells, hz1, hxl, Lib.strCells_length, hsz]
        omega
      obtain ⟨cur', ecur⟩ : ∃ c, c = List.toArray xs ++ List.toArray (Lib.strCells ⟨s.toArray⟩) ++ Builtin.zeroCells (Value.int .u8 0).cells (grownCap w (l.length + s.length) cap T - (l.length + s.length)) := ⟨_, rfl⟩
      rw [← ecur] at hr e1
      have hF : Ext Nowhere w (w.drew.alloc (.cells cur' T)) := ⟨rfl, rfl, rfl, by simp, fun k hk _ => heap_alloc_old w.drew _ hk⟩
      have hnew : (w.drew.alloc (.cells cur' T)).heap[w.heap.size]? = some (.cells cur' T (0, 0)) := heap_alloc_new w.drew _
      have t : Tr O w (fun x => O x ∨ x = w.heap.size) (w.drew.alloc (.cells cur' T)) := ⟨hF.size, fun b hb _ => hF.block b hb id, fun b hb ho h' => by
        rcases h' with h' | h'
        · exact ho h'
        · omega⟩
      refine ⟨_, _, fun x => O x ∨ x = w.heap.size, hr, ⟨xs ++ Lib.strCells ⟨s.toArray⟩, ⟨hlen, .inr ⟨w.heap.size, _, cur', (0, 0), by simp, hnew, .inl rfl, by simpa using hge, hcm2, by simpa using e1, ?_⟩⟩, hrdn.tr t, hone, fun b hb => .inr ?_⟩, hF.mono fun _ _ h => h.elim, t, fun _ h => .inl h, fun x hx => ?_, fun b hb => .inr ?_, fun b hb => hb.imp id fun h => Nat.le_of_eq h.symm⟩
      · rw [← hlen, ecur]
        simp only [Array.toList_append, List.append_assoc]
        rw [← List.append_assoc]
        exact List.take_left
      · simp only [Value.ownBlock, Option.some.injEq] at hb
        exact hb.symm
      · rcases hx with hx | hx
        · exact Nat.lt_of_lt_of_le (hB x hx) hF.size
        · subst hx
          exact (Array.getElem?_eq_some_iff.1 hnew).1
      · simp only [Value.ownBlock, Option.some.injEq] at hb
        omega
section
variable {C : Cx} {n : Nat} {ds : List Deferred} {k : Act → World → Prop} {L : Env} {w : World} {ops : Array Oper} {o : Oper} {rest : List Oper} {d : Nat}
theorem OW.appendM {O : Nat → Prop} {t u T : Nat} {x y : Operand} {vx : Value} {l : List (List D)} {s : List UInt8} (hg : o.guard = none) (hd : o.dst = some d) (hn : Nat.blt d n = true) (ho : o.op = .call { callee := .builtin .append, args := #[x, y], argTypes := #[t, u] })
    (ht : C.P.underlying t = some (.slice T)) (hu : C.P.underlying u = some .string) (hi : inf C.P T = some (.int .u8 0, 1, 1)) (hx : ev L x = some vx) (hy : ev L y = some (.string ⟨s.toArray⟩))
    (hown : OwnM w O T 1 vx l) (hB : Bd O w) (hb : l.length + s.length ≤ 140737488355328)
    (h : ∀ v' w' O', GrewM w O T 1 vx w' O' v' (l ++ s.map byteD) → OW C n ds ops rest k ((d, v') :: L) w') : OW C n ds ops (o :: rest) k L w := by
  obtain ⟨v', w', O', hr, hG⟩ := run_append_strM (ty := o.type) ht hu hi hown hB hb
  refine OW.val (v := v') (w' := w') hg hd hn (fun a ha => ?_) (h v' w' O' hG)
  simp only [execOp, ho, resolve, invoke, builtin, Sem.run_bind, Sem.run_pure, Result.andThen_ok, List.map_toArray, List.map_cons, List.map_nil, ha.ev hx, ha.ev hy, hr]
theorem OW.storeM {O : Nat → Prop} {T U : TypeId} {x y : Operand} {l : List (List D)} {a : List D} {b len cap j m : Nat} {g : Bool} {u v : Value} {vs : List Value} (hg : o.guard = none) (hd : o.dst = none) (ho : o.op = .store T x y) (hT : shp C.P T = some (g, m)) (hx : ev L x = some (.pointer (some ⟨b, j * m, none⟩)))
    (hy : ev L y = some u) (hu : u.cells = vs.toArray) (hm : vs.length = m) (hv : v = .slice (some ⟨b, 0, none⟩) len cap) (hown : OwnM w O U m v l) (hj : j < l.length) (h1 : vs.all (·.oneCell') = true) (hr : RDs w O a vs)
    (h : ∀ w', OwnM w' O U m v (l.set j a) → Ext (fun y => v.ownBlock = some y) w w' → OW C n ds ops rest k L w') : OW C n ds ops (o :: rest) k L w := by
  obtain ⟨w', hrun, ho', hx'⟩ := OwnM.store (P := C.P) hown hv hj hm h1 hr
  refine OW.unit (w' := w') hg hd (fun a ha => ?_) (h w' ho' hx')
  simp [execOp, ho, ha.ev hx, ha.ev hy, Instr.storeAt, Instr.sureAddr, storeVar, hu, (run_isAgg hT).2, hm, hrun]
/-- '[]byte(s)': a marked row. -/
theorem OW.toBytesM {O : Nat → Prop} {t u T : TypeId} {x : Operand} {s : List UInt8} (hg : o.guard = none) (hd : o.dst = some d) (hn : Nat.blt d n = true) (ho : o.op = .convert t u x)
    (ht : C.P.underlying t = some .string) (hu : C.P.underlying u = some (.slice T)) (hT : C.P.underlying T = some (.int .u8)) (hx : ev L x = some (.string ⟨s.toArray⟩)) (h0 : s.length ≤ 9223372036854775807)
    (h : ∀ v' w', Ext Nowhere w w' → v'.ownBlock = some w.heap.size → w'.heap.size = w.heap.size + 1 → (∀ O : Nat → Prop, O w.heap.size → OwnM w' O T 1 v' ((unb s).map (eI .u8))) → OW C n ds ops rest k ((d, v') :: L) w') : OW C n ds ops (o :: rest) k L w := by
  have hsz : (⟨s.toArray⟩ : ByteArray).size = s.length := by simp [ByteArray.size]
  refine OW.val (v := .slice (some ⟨w.heap.size, 0, none⟩) s.length (grownCap w s.length 0 T)) (w' := Lib.bytesWorld w T ⟨s.toArray⟩) hg hd hn (fun a ha => ?_) (h _ _ ?_ rfl ?_ fun O hO => ?_)
  · have := Lib.run_convert_string_bytes (P := C.P) w t u T ⟨s.toArray⟩ ht hu hT
    rw [hsz] at this
    simp only [execOp, ho, ha.ev hx, Sem.run_bind, this, Result.andThen_ok]
    rfl
  · refine ⟨?_, ?_, ?_, ?_, fun b hb _ => Lib.bytesWorld_at_old w T _ b hb⟩
    · simp only [Lib.bytesWorld, World.freeze]; split <;> rfl
    · simp only [Lib.bytesWorld, World.freeze]; split <;> rfl
    · simp only [Lib.bytesWorld, World.freeze]; split <;> rfl
    · rw [Lib.bytesWorld_size]; omega
  · rw [Lib.bytesWorld_size]
  · have hge := grownCap_ge w s.length 0 T
    have e : (unb s).map (eI .u8) = s.map byteD := by simp [unb, byteD, eI]
    have e2 : (Lib.bytesCells w T ⟨s.toArray⟩).toList.take s.length = s.map fun b => Value.int .u8 (b.toNat : Nat) := by
      simp [Lib.bytesCells, List.take_append_of_le_length]
    rw [e]
    refine ⟨s.map fun b => Value.int .u8 (b.toNat : Nat), ⟨by simp, .inr ⟨w.heap.size, grownCap w s.length 0 T, _, _, by simp, Lib.bytesWorld_at_new w T _, .inr (Nat.le_refl _), by simpa using hge, grownCap_le_maxLen w _ 0 T (by unfold maxLen; omega), ?_, by simpa using e2⟩⟩, RDl_strCells s, fun x hx => ?_, fun b hb => ?_⟩
    · simp [Lib.bytesCells, hsz]
      omega
    · obtain ⟨b, _, rfl⟩ := List.mem_map.1 hx
      rfl
    · simp only [Value.ownBlock, Option.some.injEq] at hb
      rw [← hb]
      exact hO
end
end
end Go.Lk
