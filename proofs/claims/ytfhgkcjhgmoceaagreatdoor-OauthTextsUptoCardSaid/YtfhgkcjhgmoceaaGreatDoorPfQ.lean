import Derived.Test.YtfhgkcjhgmoceaaGreatDoorPfV
import Derived.ChangeKeysEq
import Derived.Shelf.Strings.Builder1
set_option linter.all false
namespace Go.Pe
section
open Go.RowKit Go.Lk
def flds (P : Program) (T : TypeId) : Option (List (Nat × Bool × Nat)) :=
  match P.underlying T with
  | some (.struct fs) => fs.toList.mapM fun f => match Lk.shp P f.type with
    | some (b, n) => if n = 0 then none else some (f.offset, b, n)
    | none => none
  | _ => none
/-- No interface. -/
def nifc (P : Program) (T : TypeId) : Bool := match P.underlying T with
  | some td => notIfc td
  | none => false
theorem nifc_ok {P : Program} {T : TypeId} (h : nifc P T = true) : ∃ td, P.underlying T = some td ∧ notIfc td = true := by
  unfold nifc at h
  split at h
  · exact ⟨_, by assumption, h⟩
  · cases h
/-- An interface. -/
def ifcT (P : Program) (T : TypeId) : Bool := match P.underlying T with
  | some (.interface _) => true
  | _ => false
theorem ifcT_ok {P : Program} {T : TypeId} (h : ifcT P T = true) : ∃ ms, P.underlying T = some (.interface ms) := by
  unfold ifcT at h
  split at h
  · exact ⟨_, by assumption⟩
  · cases h
/-- An array of strings: how many. -/
def arsT (P : Program) (T : TypeId) : Option Nat := match P.underlying T, Lk.zer P T with
  | some (.array n e), some z => match P.underlying e, P.info? e, P.eqGuardType P.depth T with
    | some .string, some i, false => match Nat.beq i.size 1 && Nat.beq z.cells.size n with
      | true => some n
      | false => none
    | _, _, _ => none
  | _, _ => none
theorem arsT_ok {P : Program} {T n : Nat} (h : arsT P T = some n) : ∃ e z i, P.underlying T = some (.array n e) ∧ Lk.zer P T = some z ∧ P.underlying e = some .string ∧ P.info? e = some i ∧ P.eqGuardType P.depth T = false ∧ i.size = 1 ∧ z.cells.size = n := by
  unfold arsT at h
  split at h
  · rename_i n' e z h1 h2
    split at h
    · rename_i i h3 h4 h5
      split at h
      · rename_i hb
        cases h
        simp only [Bool.and_eq_true] at hb
        exact ⟨e, z, i, h1, h2, h3, h4, h5, Nat.eq_of_beq_eq_true hb.1, Nat.eq_of_beq_eq_true hb.2⟩
      · cases h
    · cases h
  · cases h
/-- A struct of strings: how many. -/
def fldS (P : Program) : List Field → Nat → Bool
  | [], _ => true
  | f :: r, j => Nat.beq f.offset j && decide (f.name ≠ "_") && (match P.underlying f.type with
    | some .string => true
    | _ => false) && fldS P r (j + 1)
def stsT (P : Program) (T : TypeId) : Option Nat := match P.underlying T, P.stoodInHeld T, P.eqGuardType P.depth T with
  | some (.struct fs), false, false => match fldS P fs.toList 0 with
    | true => some fs.toList.length
    | false => none
  | _, _, _ => none
theorem stsT_ok {P : Program} {T n : Nat} (h : stsT P T = some n) : ∃ fs, P.underlying T = some (.struct fs) ∧ P.stoodInHeld T = false ∧ P.eqGuardType P.depth T = false ∧ fldS P fs.toList 0 = true ∧ fs.toList.length = n := by
  unfold stsT at h
  split at h
  · rename_i fs h1 h2 h3
    split at h
    · rename_i h4
      cases h
      exact ⟨fs, h1, h2, h3, h4, rfl⟩
    · cases h
  · cases h
structure TbOk (P : Program) (tb : Tb) : Prop where
  sts : ∀ t n, lk tb.sts t = some n → stsT P t = some n
  ars : ∀ t n, lk tb.ars t = some n → arsT P t = some n
  ifc : ∀ t, tb.ifc.any (Nat.beq t) = true → ifcT P t = true
  mix : P.follows .mixedOrders = true
  nif : ∀ t, tb.nif.any (Nat.beq t) = true → nifc P t = true
  und : ∀ t td, lk tb.und t = some td → P.underlying t = some td
  shp : ∀ t s, lk tb.shp t = some s → Lk.shp P t = some s
  fld : ∀ t fs, lk tb.fld t = some fs → flds P t = some fs
  zer : ∀ t z, lk tb.zer t = some z → Lk.zer P t = some z
  inf : ∀ t i, lk tb.inf t = some i → Lk.inf P t = some i
/-- The variables that hold tables hold them. -/
def GtOk (tb : Tb) (w : World) (O : Nat → Prop) : Prop := ∀ g e, lk tb.glb g = some e → e.2.2.length = e.2.1 ∧ ∀ (i : Nat) (x : List D), e.2.2[i]? = some x → ElemAt w O g (i * e.1) e.1 x
theorem GtOk.nil {tb : Tb} {w : World} {O : Nat → Prop} (h : tb.glb = []) : GtOk tb w O := fun g e he => by rw [h] at he; cases he
def allK {β : Type} (p : Nat → β → Prop) : List (Nat × β) → Prop
  | [] => True
  | (t, x) :: r => p t x ∧ allK p r
theorem allK.get {β : Type} {p : Nat → β → Prop} : ∀ {l : List (Nat × β)} {t : Nat} {x : β}, allK p l → lk l t = some x → p t x
  | (s, y) :: r, t, x, h, e => by
    rcases lk_cons e with ⟨rfl, rfl⟩ | ⟨_, e⟩
    · exact h.1
    · exact h.2.get e
def allN (p : Nat → Prop) : List Nat → Prop
  | [] => True
  | t :: r => p t ∧ allN p r
theorem allN.get {p : Nat → Prop} : ∀ {l : List Nat} {t : Nat}, allN p l → l.any (Nat.beq t) = true → p t
  | s :: r, t, h, e => by
    simp only [List.any_cons, Bool.or_eq_true] at e
    rcases e with e | e
    · rw [Nat.eq_of_beq_eq_true e]; exact h.1
    · exact h.2.get e
theorem TbOk.of {P : Program} {tb : Tb} (hm : P.follows .mixedOrders = true) (h00 : allN (fun t => ifcT P t = true) tb.ifc) (h0 : allN (fun t => nifc P t = true) tb.nif) (h1 : allK (fun t td => P.underlying t = some td) tb.und) (h2 : allK (fun t s => Lk.shp P t = some s) tb.shp) (h3 : allK (fun t fs => flds P t = some fs) tb.fld) (h4 : allK (fun t z => Lk.zer P t = some z) tb.zer)
    (h5 : allK (fun t i => Lk.inf P t = some i) tb.inf) (h6 : allK (fun t n => arsT P t = some n) tb.ars) (h7 : allK (fun t n => stsT P t = some n) tb.sts) : TbOk P tb := ⟨fun _ _ => h7.get, fun _ _ => h6.get, fun _ => h00.get, hm, fun _ => h0.get, fun _ _ => h1.get, fun _ _ => h2.get, fun _ _ => h3.get, fun _ _ => h4.get, fun _ _ => h5.get⟩
theorem mapM_some {α β : Type} {f : α → Option β} : ∀ {l : List α} {r : List β}, l.mapM f = some r → ∀ (i : Nat) (y : β), r[i]? = some y → ∃ x, l[i]? = some x ∧ f x = some y
  | [], r, h, i, y, e => by simp at h; subst h; simp at e
  | a :: l, r, h, i, y, e => by
    simp only [List.mapM_cons, Option.bind_eq_bind] at h
    obtain ⟨b, h1, h⟩ := Option.bind_eq_some_iff.1 h
    obtain ⟨bs, h2, h⟩ := Option.bind_eq_some_iff.1 h
    cases h
    cases i with
    | zero => simp at e; subst e; exact ⟨a, rfl, h1⟩
    | succ i => simpa using mapM_some h2 i y (by simpa using e)
theorem flds_parts {P : Program} {T : TypeId} {fs : List (Nat × Bool × Nat)} (h : flds P T = some fs) : ∃ fds, P.underlying T = some (.struct fds) ∧ (fds.toList.mapM fun f => match Lk.shp P f.type with
    | some (b, n) => if n = 0 then none else some (f.offset, b, n)
    | none => none) = some fs := by
  unfold flds at h
  split at h
  · exact ⟨_, by assumption, h⟩
  · cases h
theorem flds_fld {P : Program} {T : TypeId} {fs : List (Nat × Bool × Nat)} (h : flds P T = some fs) {i : Nat} {f : Nat × Bool × Nat} (hf : fs[i]? = some f) : Lk.fld P T i = some f := by
  obtain ⟨fds, h1, h2⟩ := flds_parts h
  obtain ⟨x, h3, h4⟩ := mapM_some h2 i f hf
  unfold Lk.fld
  rw [h1]
  have h3' : fds[i]? = some x := by simpa using h3
  simp only [h3']
  split at h4
  · rename_i b n hs
    simp only [hs]
    exact h4
  · cases h4
theorem flds_places {P : Program} : ∀ {l : List Field} {fs : List (Nat × Bool × Nat)}, (l.mapM fun f => match Lk.shp P f.type with
    | some (b, n) => if n = 0 then none else some (f.offset, b, n)
    | none => none) = some fs → (l.mapM fun f => (P.info? f.type).map fun i => (f.offset, i.size)) = some (fs.map fun f => (f.1, f.2.2))
  | [], fs, h => by simp at h; subst h; rfl
  | a :: l, fs, h => by
    simp only [List.mapM_cons, Option.bind_eq_bind] at h
    obtain ⟨b, h1, h⟩ := Option.bind_eq_some_iff.1 h
    obtain ⟨bs, h2, h⟩ := Option.bind_eq_some_iff.1 h
    cases h
    have ih := flds_places h2
    split at h1
    · rename_i g n hs
      obtain ⟨i, h3, h4⟩ := shp_info hs
      split at h1
      · cases h1
      · cases h1
        simp only [List.mapM_cons, Option.bind_eq_bind, h3, Option.map_some, Option.bind_some, ih, List.map_cons, h4]
        rfl
    · cases h1

theorem wt_some {α : Type} {x : Option α} {k : α → Prop} (h : wt x k) : ∃ a, x = some a ∧ k a := by
  cases x with
  | none => exact h.elim
  | some a => exact ⟨a, rfl, h⟩
theorem cond_tf {b : Bool} {p q : Prop} (h : cond b p q) : (b = true ∧ p) ∨ (b = false ∧ q) := by
  cases b with
  | true => exact .inl ⟨rfl, h⟩
  | false => exact .inr ⟨rfl, h⟩
section
variable {w : World} {O : Nat → Prop} {φ : Nat → Nat} {α : Nat → Value}
theorem ofV1_ok (v : Value) : VR w O φ α (ofV1 v) v := by
  unfold ofV1
  split
  · rfl
  · rfl
  · simp [VR]
  · rfl
  · rfl
  · rfl
  · exact ⟨[], [], rfl, rfl, rfl⟩
  · trivial
theorem ofV1s_ok : ∀ (l : List Value), VRs w O φ α (l.map ofV1) l
  | [] => rfl
  | v :: l => ⟨v, l, rfl, ofV1_ok v, ofV1s_ok l⟩
theorem ofV_ok (v : Value) : VR w O φ α (ofV v) v := by
  unfold ofV
  split
  · rename_i cs
    exact ⟨cs.toList, by simp, ofV1s_ok _⟩
  · exact ofV1_ok v
theorem ofD_ok {d : D} {u : Value} (h : RD w O d u) : VR w O φ α (ofD d) u := by
  cases d with
  | int k n => simpa [VR, ofD, RD] using h
  | bool b => simpa [VR, ofD, RD] using h
  | str s => simpa [VR, ofD, RD] using h
  | sl T n l => exact h
  | val x => trivial
  | fn n => exact ⟨[], [], h, rfl, rfl⟩
theorem ofDs_ok : ∀ {l : List D} {us : List Value}, RDs w O l us → VRs w O φ α (ofDs l) us
  | [], us, h => h
  | d :: l, us, h => by
    obtain ⟨v, vs, h1, h2, h3⟩ := h
    exact ⟨v, vs, h1, ofD_ok h2, ofDs_ok h3⟩
theorem VR.one {v : PV} {u : Value} (h : VR w O φ α v u) (h1 : oneP v = true) : u.oneCell' = true := by
  cases v <;> simp only [oneP, Bool.false_eq_true] at h1
  case int => simp only [VR] at h; subst h; rfl
  case bool => simp only [VR] at h; subst h; rfl
  case str => simp only [VR] at h; subst h; rfl
  case sl => exact RD.one _ _ h
  case nil => simp only [VR] at h; subst h; rfl
  case ref => exact h.2
  case ptr => simp only [VR] at h; subst h; rfl
  case cptr => simp only [VR] at h; obtain ⟨b, q, h, _⟩ := h; subst h; rfl
  case eptr => simp only [VR] at h; obtain ⟨b, l, c, j, _, _, h⟩ := h; subst h; rfl
  case iface => simp only [VR] at h; obtain ⟨x, h, _⟩ := h; subst h; rfl
  case nilI => simp only [VR] at h; subst h; rfl
  case fn => simp only [VR] at h; obtain ⟨us, vs, h, _⟩ := h; subst h; exact fnV_one _ _ _
  case nilp => simp only [VR] at h; subst h; rfl
  case selfp => rcases h with rfl | rfl <;> rfl
  case err => rcases h with ⟨_, rfl⟩ | ⟨_, T, v, rfl⟩ <;> rfl
  case mp => simp only [VR] at h; subst h; rfl
theorem VRs.ones : ∀ {vs : List PV} {us : List Value}, VRs w O φ α vs us → vs.all oneP = true → us.all (·.oneCell') = true
  | [], us, h, _ => by cases h; rfl
  | v :: vs, us, h, k => by
    obtain ⟨u, us', rfl, h2, h3⟩ := h
    simp only [List.all_cons, Bool.and_eq_true] at k ⊢
    exact ⟨h2.one k.1, VRs.ones h3 k.2⟩
theorem VR.cells {v : PV} {u : Value} (h : VR w O φ α v u) (h1 : isUndef v = false) : VRs w O φ α (cellsOf v) u.cells.toList := by
  cases v with
  | agg cs =>
    simp only [VR] at h
    obtain ⟨us, rfl, h⟩ := h
    simpa [cellsOf, Value.cells] using h
  | undef => simp [isUndef] at h1
  | gone => simp [isUndef] at h1
  | md c => simp [isUndef] at h1
  | tup cs =>
    have h' := h
    simp only [VR] at h
    obtain ⟨us, rfl, h⟩ := h
    exact ⟨_, [], rfl, h', rfl⟩
  | _ =>
    have := cells_one (h.one rfl)
    rw [this]
    exact ⟨u, [], rfl, h, rfl⟩
theorem ofV_cells (zz : Value) : VRs w O φ α (cellsOf (ofV zz)) zz.cells.toList := by
  by_cases hu : isUndef (ofV zz) = false
  · exact (ofV_ok zz).cells hu
  · have hc : zz.cells = #[zz] := by cases zz <;> first | rfl | (simp [ofV, isUndef] at hu)
    have hq : cellsOf (ofV zz) = [ofV zz] := by
      revert hu
      cases ofV zz <;> simp [isUndef, cellsOf]
    rw [hq, hc]
    exact ⟨zz, [], rfl, ofV_ok zz, rfl⟩
theorem ix_some' {β : Type} {l : List β} {i : Int} {x : β} (h : Lk.ix l i = some x) : ∃ j : Nat, i = (j : Nat) ∧ l[j]? = some x ∧ j < l.length := by
  obtain ⟨j, h1, h2⟩ := ix_some h
  refine ⟨j, h1, h2, ?_⟩
  rcases Nat.lt_or_ge j l.length with h' | h'
  · exact h'
  · simp [List.getElem?_eq_none h'] at h2
end
theorem RD.sub_all {P : Program} {w : World} {O : Nat → Prop} {T n t : Nat} {l : List (List D)} {v : Value} {a b : Nat} {lo hi : Option Value} {g : Bool} (ht : P.underlying t = some (.slice T)) (hT : shp P T = some (g, n)) (h : RD w O (.sl T n l) v)
    (hlo : LoV lo a 0) (hhi : LoV hi b l.length) (hab : a ≤ b) (hb : b ≤ l.length) :
    ∃ v', (∀ w', (Instr.sliceAt t v lo hi none).run P w' = .ok v' w') ∧ RD w O (.sl T n ((l.take b).drop a)) v' := by
  have key : ∀ (p : Option Addr) (cap : Nat), l.length ≤ cap → ∀ w, (Instr.sliceAt t (.slice p l.length cap) lo hi none).run P w = .ok (.slice (if cap = a then p else p.map (·.add (a * n))) (b - a) (cap - a)) w := by
    intro p cap hc w
    have i3 : (a : Int) ≤ (b : Int) := Int.ofNat_le.2 hab
    have i4 : (b : Int) ≤ (cap : Int) := Int.ofNat_le.2 (by omega)
    simp only [Instr.sliceAt, Sem.run_bind, run_underlying ht, Result.andThen_ok, Instr.slice]
    cases lo with
    | none =>
      simp only [LoV] at hlo
      subst hlo
      cases hi with
      | none => simp only [LoV] at hhi; subst hhi; simp [Instr.sliceBounds, (run_isAgg hT).2]
      | some y => obtain ⟨kd, rfl⟩ := hhi; simp [Instr.sliceBounds, Instr.sliceBound, asIntOf, (run_isAgg hT).2, show b ≤ cap by omega]
    | some z =>
      obtain ⟨kz, rfl⟩ := hlo
      cases hi with
      | none => simp only [LoV] at hhi; subst hhi; simp [Instr.sliceBounds, Instr.sliceBound, asIntOf, (run_isAgg hT).2, hab]
      | some y => obtain ⟨kd, rfl⟩ := hhi; simp [Instr.sliceBounds, Instr.sliceBound, asIntOf, (run_isAgg hT).2, hab, show b ≤ cap by omega]
  rcases h with ⟨⟨p, rfl⟩, rfl⟩ | ⟨bb, q, cap, cs, fr, rfl, h2, h3, h4, h5, h6, h7⟩
  · have hb0 : b = 0 := by simpa using hb
    have ha0 : a = 0 := by omega
    subst hb0 ha0
    have := key p 0 (Nat.le_refl _)
    simp only [List.length_nil] at this
    refine ⟨_, this, ?_⟩
    simp [RD]
  · refine ⟨_, key _ cap h2, ?_⟩
    right
    have hlen : ((l.take b).drop a).length = b - a := by simp; omega
    have h8 : RDl w O n ((l.take b).drop a) ((cs.toList.drop q).drop (a * n)) := RDl.drop a (RDl.take b h7)
    by_cases hca : cap = a
    · have : b = a := by omega
      subst this
      have e0 : (l.take b).drop b = [] := List.eq_nil_of_length_eq_zero (by rw [hlen]; omega)
      rw [if_pos hca, e0]
      exact ⟨bb, q, cap - b, cs, fr, by simp, by simp, by omega, h4, h5, by rw [hca]; simp; exact Nat.le_trans (Nat.le_add_right _ _) h6, trivial⟩
    · rw [if_neg hca]
      refine ⟨bb, q + a * n, cap - a, cs, fr, by rw [hlen]; simp [Addr.add_lit], by omega, by omega, h4, h5, ?_, by rw [← List.drop_drop]; exact h8⟩
      rw [Nat.sub_mul]
      have : a * n ≤ cap * n := Nat.mul_le_mul_right n (by omega)
      omega

section
variable {z : W0} {σ : St} {V : Env} {w : World} {O : Nat → Prop} {φ : Nat → Nat} {α : Nat → Value} {C : Cx} {n : Nat} {o : Oper}
theorem Rel.ev {fB : FB} {fA : FA} (h : Rel z (lk σ.L) fB fA V w O φ α) {x : Operand} {v : PV} (e : σ.ev x = some v) : ∃ u, Lk.ev V x = some u ∧ VR w O φ α v u := by
  cases x with
  | tmp t => exact h.env t v e
  | const c => simp only [St.ev, Option.some.injEq] at e; subst e; exact ⟨c, rfl, ofV_ok c⟩
  | global g => cases e
  | func f =>
    simp only [St.ev] at e
    split at e
    · cases e
    · rename_i hf
      cases e
      exact ⟨_, rfl, [], [], (fnV_f hf [] []).symm, rfl, rfl⟩
theorem Rel.evs {fB : FB} {fA : FA} (h : Rel z (lk σ.L) fB fA V w O φ α) : ∀ {xs : List Operand} {vs : List PV}, σ.evs xs = some vs → ∃ us, Lk.evs V xs = some us ∧ VRs w O φ α vs us
  | [], vs, e => by simp only [St.evs, Option.some.injEq] at e; subst e; exact ⟨[], rfl, rfl⟩
  | x :: xs, vs, e => by
    unfold St.evs at e
    split at e
    · rename_i v vs' h1 h2
      cases e
      obtain ⟨u, h3, h4⟩ := h.ev h1
      obtain ⟨us, h5, h6⟩ := h.evs h2
      exact ⟨u :: us, by simp only [Lk.evs, h3, h5], u, us, rfl, h4, h6⟩
    · cases e
/-- What an operation gives; and, if 'st' says so, whatever becomes of the world. -/
def Gives (C : Cx) (n : Nat) (V : Env) (w : World) (O : Nat → Prop) (φ : Nat → Nat) (α : Nat → Value) (o : Oper) (st : Bool) (k : PV → Prop) : Prop := ∃ v u, k v ∧ VR w O φ α v u ∧ EX C n V w o u ∧ (st = true → ∀ w' O', Tr O w O' w' → EX C n V w' o u)
theorem Gives.al {st : Bool} {k : PV → Prop} {v : PV} {u : Value} (hk : k v) (hv : VR w O φ α v u) (hx : ∀ w', EX C n V w' o u) : Gives C n V w O φ α o st k := ⟨v, u, hk, hv, hx w, fun _ w' _ _ => hx w'⟩
theorem Gives.val {st : Bool} {k : PV → Prop} {x : Value} (hk : k (ofV1 x)) (h : ∀ w', EX C n V w' o x) : Gives C n V w O φ α o st k := .al hk (ofV1_ok x) h
theorem ikEq_eq {a b : IntKind} (h : ikEq a b = true) : a = b := by
  have := Nat.eq_of_beq_eq_true h
  cases a <;> cases b <;> first | rfl | (exact absurd this (by decide))
theorem chk_dec {p : Prop} [Decidable p] {k : Unit → Prop} (h : Ex (chk (decide p)) k) : p ∧ k () := by
  obtain ⟨a, h1, h2⟩ := h
  exact ⟨of_decide_eq_true (chk_some h1), h2⟩
theorem EX.ifNil {op : BinOp} {t r : TypeId} {x : Operand} {ms : Array (String × TypeId)} {u : Value} {b : Bool} (ho : o.op = .binOp op t x (.const .nilIface) r) (ht : C.P.underlying t = some (.interface ms)) (hx : Lk.ev V x = some u) (hu : (b = true ∧ u = .nilIface) ∨ (b = false ∧ ∃ T v, u = .iface T v)) :
    (op = .eql → EX C n V w o (.bool b)) ∧ (op = .neq → EX C n V w o (.bool (!b))) := by
  rcases hu with ⟨rfl, rfl⟩ | ⟨rfl, T, v, rfl⟩
  · have h : ∀ d : Nat, (Op.equalIn (d + 1) t .nilIface .nilIface).run C.P w = .ok true w := fun d => by simp [Op.equalIn, run_underlying ht]
    constructor
    · rintro rfl a ha
      have hc : a.eval (.const .nilIface) = .nilIface := rfl
      simp [execOp, ho, ha.ev hx, hc, binOp, eqGuard, Op.equal, Op.maxDepth, h 9999]
    · rintro rfl a ha
      have hc : a.eval (.const .nilIface) = .nilIface := rfl
      simp [execOp, ho, ha.ev hx, hc, binOp, eqGuard, Op.equal, Op.maxDepth, h 9999]
  · have h : ∀ d : Nat, (Op.equalIn (d + 1) t (.iface T v) .nilIface).run C.P w = .ok false w := fun d => by simp [Op.equalIn, run_underlying ht]
    constructor
    · rintro rfl a ha
      have hc : a.eval (.const .nilIface) = .nilIface := rfl
      simp [execOp, ho, ha.ev hx, hc, binOp, eqGuard, Op.equal, Op.maxDepth, h 9999]
    · rintro rfl a ha
      have hc : a.eval (.const .nilIface) = .nilIface := rfl
      simp [execOp, ho, ha.ev hx, hc, binOp, eqGuard, Op.equal, Op.maxDepth, h 9999]
theorem EX.ifNilF {op : BinOp} {t r : TypeId} {x : Operand} {ps rs : Array TypeId} {vv : Bool} {f : Nat} {us vs : List Value} (ho : o.op = .binOp op t x (.const .nilFunc) r) (ht : C.P.underlying t = some (.func ps rs vv)) (hx : Lk.ev V x = some (fnV f us vs)) :
    (op = .eql → EX C n V w o (.bool (Nat.beq f NF))) ∧ (op = .neq → EX C n V w o (.bool (!Nat.beq f NF))) := by
  unfold fnV at hx
  split at hx
  · rename_i hf
    rw [hf]
    have h : ∀ d : Nat, (Op.equalIn (d + 1) t .nilFunc .nilFunc).run C.P w = .ok true w := fun d => by simp [Op.equalIn, run_underlying ht]
    constructor
    · rintro rfl a ha
      have hc : a.eval (.const .nilFunc) = .nilFunc := rfl
      simp [execOp, ho, ha.ev hx, hc, binOp, eqGuard, Op.equal, Op.maxDepth, h 9999]
    · rintro rfl a ha
      have hc : a.eval (.const .nilFunc) = .nilFunc := rfl
      simp [execOp, ho, ha.ev hx, hc, binOp, eqGuard, Op.equal, Op.maxDepth, h 9999]
  · rename_i hf
    rw [hf]
    have h : ∀ d : Nat, (Op.equalIn (d + 1) t (.func (.func f) (List.toArray us) (List.toArray vs)) .nilFunc).run C.P w = .ok false w := fun d => by simp [Op.equalIn, run_underlying ht]
    constructor
    · rintro rfl a ha
      have hc : a.eval (.const .nilFunc) = .nilFunc := rfl
      simp [execOp, ho, ha.ev hx, hc, binOp, eqGuard, Op.equal, Op.maxDepth, h 9999]
    · rintro rfl a ha
      have hc : a.eval (.const .nilFunc) = .nilFunc := rfl
      simp [execOp, ho, ha.ev hx, hc, binOp, eqGuard, Op.equal, Op.maxDepth, h 9999]
/-- Strings that are the same, one by one, or are not. -/
def EqS : List Value → List Value → Bool → Prop
  | [], [], b => b = true
  | x :: r, y :: s, b => ∃ p q c, x = .string ⟨List.toArray p⟩ ∧ y = .string ⟨List.toArray q⟩ ∧ EqS r s c ∧ b = (decide (p = q) && c)
  | _, _, _ => False
theorem eqSs_ok : ∀ {us vs : List PV} {b : Bool} {xs ys : List Value}, eqSs us vs = some b → VRs w O φ α us xs → VRs w O φ α vs ys → EqS xs ys b ∧ xs.length = ys.length
  | [], [], b, xs, ys, e, h1, h2 => by
    obtain rfl : xs = [] := h1
    obtain rfl : ys = [] := h2
    cases e
    exact ⟨rfl, rfl⟩
  | .str p :: us, .str q :: vs, b, xs, ys, e, h1, h2 => by
    obtain ⟨x, r, rfl, h3, h4⟩ := h1
    obtain ⟨y, s, rfl, h5, h6⟩ := h2
    simp only [eqSs] at e
    split at e
    · rename_i c hc
      cases e
      obtain ⟨k1, k2⟩ := eqSs_ok hc h4 h6
      exact ⟨⟨p, q, c, h3, h5, k1, rfl⟩, by simp [k2]⟩
    · cases e
theorem eqItems_S {P : Program} {w : World} {d e : Nat} {i : TypeInfo} (he : P.underlying e = some .string) (hi : P.info? e = some i) (h1 : i.size = 1) : ∀ (r s : List Value) (b : Bool) (xs ys : List Value) (j : Nat), EqS r s b → xs.drop j = r → ys.drop j = s →
    (Op.eqItems (d + 1) e (P.cellsOf e) (List.toArray xs) (List.toArray ys) (List.range' j r.length)).run P w = .ok b w
  | [], [], b, xs, ys, j, h, _, _ => by
    obtain rfl : b = true := h
    simp [Op.eqItems]
  | x :: r, y :: s, b, xs, ys, j, h, hx, hy => by
    obtain ⟨p, q, c, rfl, rfl, h4, rfl⟩ := h
    have hc : P.cellsOf e = 1 := by simp [Program.cellsOf, hi, h1]
    have ex : xs[j]? = some (.string ⟨List.toArray p⟩) := by
      have := congrArg (·[0]?) hx
      simpa using this
    have ey : ys[j]? = some (.string ⟨List.toArray q⟩) := by
      have := congrArg (·[0]?) hy
      simpa using this
    have hx' : xs.drop (j + 1) = r := by rw [← List.drop_drop, hx]; rfl
    have hy' : ys.drop (j + 1) = s := by rw [← List.drop_drop, hy]; rfl
    have ih := eqItems_S (w := w) (d := d) he hi h1 r s c xs ys (j + 1) h4 hx' hy'
    have eb : ((⟨List.toArray p⟩ : ByteArray) == ⟨List.toArray q⟩) = decide (p = q) := by
      rw [beq_toListBytes, ByteArray.toList_eq, ByteArray.toList_eq, Bool.eq_iff_iff]; simp
    rw [List.length_cons, List.range'_succ]
    simp only [Op.eqItems, hc, Nat.mul_one, Sem.run_bind, part, isAgg, run_underlying he, Result.andThen_ok, Sem.run_pure, Bool.false_eq_true, if_false, List.getElem?_toArray, ex, ey, Op.equalIn, eb]
    cases decide (p = q) with
    | false => simp
    | true =>
      simp only [Bool.not_true, Bool.false_eq_true, if_false, Bool.true_and]
      rw [hc] at ih
      exact ih
theorem EX.eqA {op : BinOp} {t r : TypeId} {x y : Operand} {xs ys : List Value} {m : Nat} {b : Bool} (ho : o.op = .binOp op t x y r) (ht : arsT C.P t = some m) (hx : Lk.ev V x = some (.agg (List.toArray xs))) (hy : Lk.ev V y = some (.agg (List.toArray ys))) (hl : xs.length = m) (hb : EqS xs ys b) (hl2 : xs.length = ys.length) :
    (op = .eql → EX C n V w o (.bool b)) ∧ (op = .neq → EX C n V w o (.bool (!b))) := by
  obtain ⟨e, z, i, h1, h2, h3, h4, h5, h6, h7⟩ := arsT_ok ht
  have key : (Op.equalIn (9998 + 1 + 1) t (.agg (List.toArray xs)) (.agg (List.toArray ys))).run C.P w = .ok b w := by
    rw [run_equalIn_array w _ _ _ h1 h4, ← hl, List.range_eq_range']
    exact eqItems_S h3 h4 h6 xs ys b xs ys 0 hb rfl rfl
  constructor
  · rintro rfl a ha
    simp [execOp, ho, ha.ev hx, ha.ev hy, binOp, eqGuard, Op.equal, Op.maxDepth, key, h5]
  · rintro rfl a ha
    simp [execOp, ho, ha.ev hx, ha.ev hy, binOp, eqGuard, Op.equal, Op.maxDepth, key, h5]
theorem eqFields_S {P : Program} {w : World} {d : Nat} : ∀ (fs : List Field) (r s : List Value) (b : Bool) (xs ys : List Value) (j : Nat), fldS P fs j = true → fs.length = r.length → EqS r s b → xs.drop j = r → ys.drop j = s →
    (Op.eqFields (d + 1) (List.toArray xs) (List.toArray ys) fs).run P w = .ok b w
  | [], [], [], b, xs, ys, j, _, _, h, _, _ => by
    obtain rfl : b = true := h
    simp [Op.eqFields]
  | f :: fs, x :: r, y :: s, b, xs, ys, j, hf, hl, h, hx, hy => by
    obtain ⟨p, q, c, rfl, rfl, h4, rfl⟩ := h
    simp only [fldS, Bool.and_eq_true, decide_eq_true_eq] at hf
    obtain ⟨⟨⟨f1, f2⟩, f3⟩, f4⟩ := hf
    have f1 := Nat.eq_of_beq_eq_true f1
    have f3 : P.underlying f.type = some .string := by
      split at f3
      · assumption
      · cases f3
    have ex : xs[j]? = some (.string ⟨List.toArray p⟩) := by
      have := congrArg (·[0]?) hx
      simpa using this
    have ey : ys[j]? = some (.string ⟨List.toArray q⟩) := by
      have := congrArg (·[0]?) hy
      simpa using this
    have hx' : xs.drop (j + 1) = r := by rw [← List.drop_drop, hx]; rfl
    have hy' : ys.drop (j + 1) = s := by rw [← List.drop_drop, hy]; rfl
    have ih := eqFields_S (w := w) (d := d) fs r s c xs ys (j + 1) f4 (by simpa using hl) h4 hx' hy'
    have eb : ((⟨List.toArray p⟩ : ByteArray) == ⟨List.toArray q⟩) = decide (p = q) := by
      rw [beq_toListBytes, ByteArray.toList_eq, ByteArray.toList_eq, Bool.eq_iff_iff]; simp
    simp only [Op.eqFields, f1, if_pos f2, Sem.run_bind, part, isAgg, run_underlying f3, Result.andThen_ok, Sem.run_pure, Bool.false_eq_true, if_false, List.getElem?_toArray, ex, ey, Op.equalIn, eb]
    cases decide (p = q) with
    | false => simp
    | true =>
      simp only [Bool.not_true, Bool.false_eq_true, if_false, Bool.true_and]
      exact ih
  | [], _ :: _, _, _, _, _, _, _, hl, _, _, _ => by simp at hl
  | _ :: _, [], _, _, _, _, _, _, hl, _, _, _ => by simp at hl
  | [], [], _ :: _, _, _, _, _, _, _, h, _, _ => h.elim
  | _ :: _, _ :: _, [], _, _, _, _, _, _, h, _, _ => h.elim
theorem EX.eqT {op : BinOp} {t r : TypeId} {x y : Operand} {xs ys : List Value} {m : Nat} {b : Bool} (ho : o.op = .binOp op t x y r) (ht : stsT C.P t = some m) (hx : Lk.ev V x = some (.agg (List.toArray xs))) (hy : Lk.ev V y = some (.agg (List.toArray ys))) (hl : xs.length = m) (hb : EqS xs ys b) :
    (op = .eql → EX C n V w o (.bool b)) ∧ (op = .neq → EX C n V w o (.bool (!b))) := by
  obtain ⟨fs, h1, h2, h3, h4, h5⟩ := stsT_ok ht
  have hfs : C.P.fieldsOf t = fs := by simp [Program.fieldsOf, h1]
  have key : (Op.equalIn (9998 + 1 + 1) t (.agg (List.toArray xs)) (.agg (List.toArray ys))).run C.P w = .ok b w := by
    rw [run_equalIn_struct w _ _ _ _ (by rw [hfs]; exact h1) h2, hfs]
    exact eqFields_S fs.toList xs ys b xs ys 0 h4 (by omega) hb rfl rfl
  constructor
  · rintro rfl a ha
    simp [execOp, ho, ha.ev hx, ha.ev hy, binOp, eqGuard, Op.equal, Op.maxDepth, key, h3]
  · rintro rfl a ha
    simp [execOp, ho, ha.ev hx, ha.ev hy, binOp, eqGuard, Op.equal, Op.maxDepth, key, h3]
theorem eqn_ok {C : Cx} {n : Nat} {tb : Tb} {V : Env} {w : World} {o : Oper} (ht : TbOk C.P tb) {op : BinOp} {t r : TypeId} {x y : Operand} {xs ys : List Value} {m : Nat} {b : Bool} (hm : tb.eqn t = some m) (ho : o.op = .binOp op t x y r) (hx : Lk.ev V x = some (.agg (List.toArray xs))) (hy : Lk.ev V y = some (.agg (List.toArray ys))) (hl : xs.length = m) (hb : EqS xs ys b) (hl2 : xs.length = ys.length) :
    (op = .eql → EX C n V w o (.bool b)) ∧ (op = .neq → EX C n V w o (.bool (!b))) := by
  unfold Tb.eqn at hm
  split at hm
  · rename_i m' hm'
    cases hm
    exact EX.eqA ho (ht.ars _ _ hm') hx hy hl hb hl2
  · exact EX.eqT ho (ht.sts _ _ hm) hx hy hl hb
theorem flat_S : ∀ (is : List Nat) (us : List PV) (xs : List Value) (j : Nat), rangeOk j is = true → us.all strP = true → VRs w O φ α us xs → is.length = us.length → flat 1 j (is.zip xs) = some xs
  | [], [], xs, j, _, _, h, _ => by obtain rfl : xs = [] := h; rfl
  | i :: is, .str p :: us, xs, j, hr, hs, h, hl => by
    obtain ⟨x, r, rfl, h3, h4⟩ := h
    simp only [rangeOk, Bool.and_eq_true] at hr
    simp only [List.all_cons, Bool.and_eq_true] at hs
    simp only [VR] at h3
    subst h3
    obtain rfl := Nat.eq_of_beq_eq_true hr.1
    simp only [List.zip_cons_cons, flat]
    rw [flat_S is us r (j + 1) hr.2 hs.2 h4 (by simpa using hl)]
    simp [Value.cells]
  | [], _ :: _, _, _, _, _, _, hl => by simp at hl
  | _ :: _, [], _, _, _, _, _, hl => by simp at hl
theorem EX.buildA {T m : TypeId} {parts : Array (Nat × Operand)} {vs : List (Nat × Value)} {cs : List Value} (ho : o.op = .build T parts) (ht : arsT C.P T = some m) (hp : evp V parts.toList = some vs) (hb : flat 1 0 vs = some cs) (hl : vs.length = m) : EX C n V w o (.agg (List.toArray cs)) :=
  fun a ha => by
    obtain ⟨e, z, i, h1, h2, h3, h4, h5, h6, h7⟩ := arsT_ok ht
    have ee : (parts.map fun (i, x) => (i, a.eval x)) = vs.toArray := by apply Array.toList_inj.1; simpa using ha.evp hp
    obtain ⟨i', k5, k6⟩ := Option.bind_eq_some_iff.1 h2
    have key : Instr.fill (fun i => some (i, 1)) z.cells vs = some (List.toArray cs) := by
      have := (fill_flat 1 m vs 0 z.cells cs hb (by omega)).1
      simp only [Nat.mul_one] at this
      rw [this]
      have e1 : z.cells.toList.drop (0 + vs.length) = [] := List.drop_eq_nil_of_le (by simp; omega)
      rw [e1]
      simp
    simp only [execOp, ho, ee, Instr.build, Sem.run_bind, zeroValue, sizeOf, typeInfo, run_program, Result.andThen_ok, k5, Sem.run_pure, k6, run_underlying h1, h4, h6, Nat.mul_one, key]
theorem nilQ_ok {v : PV} {u : Value} {b : Bool} (h : nilQ v = some b) (hv : VR w O φ α v u) : (b = true ∧ u = .nilIface) ∨ (b = false ∧ ∃ T v, u = .iface T v) := by
  unfold nilQ at h
  split at h
  · cases h; exact .inl ⟨rfl, hv⟩
  · cases h; obtain ⟨x, rfl, _⟩ := hv; exact .inr ⟨rfl, _, _, rfl⟩
  · cases h; exact hv
  · cases h
theorem EX.binPN {op : BinOp} {t r e : TypeId} {x y : Operand} {p : Addr} (ho : o.op = .binOp op t x y r) (ht : C.P.underlying t = some (.pointer e)) (hx : Lk.ev V x = some (.pointer (some p))) (hy : Lk.ev V y = some (.pointer none)) :
    (op = .eql → EX C n V w o (.bool false)) ∧ (op = .neq → EX C n V w o (.bool true)) := by
  have h : ∀ d : Nat, (Op.equalIn (d + 1) t (.pointer (some p)) (.pointer none)).run C.P w = .ok false w := fun d => by simp [Op.equalIn, run_underlying ht]
  constructor
  · rintro rfl a ha
    simp [execOp, ho, ha.ev hx, ha.ev hy, binOp, eqGuard, Op.equal, Op.maxDepth, h 9999]
  · rintro rfl a ha
    simp [execOp, ho, ha.ev hx, ha.ev hy, binOp, eqGuard, Op.equal, Op.maxDepth, h 9999]
theorem EX.binNN {op : BinOp} {t r e : TypeId} {x y : Operand} (ho : o.op = .binOp op t x y r) (ht : C.P.underlying t = some (.pointer e)) (hx : Lk.ev V x = some (.pointer none)) (hy : Lk.ev V y = some (.pointer none)) :
    (op = .eql → EX C n V w o (.bool true)) ∧ (op = .neq → EX C n V w o (.bool false)) := by
  have h : ∀ d : Nat, (Op.equalIn (d + 1) t (.pointer none) (.pointer none)).run C.P w = .ok true w := fun d => by simp [Op.equalIn, run_underlying ht]
  constructor
  · rintro rfl a ha
    simp [execOp, ho, ha.ev hx, ha.ev hy, binOp, eqGuard, Op.equal, Op.maxDepth, h 9999]
  · rintro rfl a ha
    simp [execOp, ho, ha.ev hx, ha.ev hy, binOp, eqGuard, Op.equal, Op.maxDepth, h 9999]
theorem bop_sound {op : BinOp} {t r : TypeId} {td : TypeDesc} {x y : Operand} {u v : PV} {a b : Value} {st : Bool} {k : PV → Prop} (ho : o.op = .binOp op t x y r) (ht : C.P.underlying t = some td) (hx : Lk.ev V x = some a) (hy : Lk.ev V y = some b)
    (ha : VR w O φ α u a) (hb : VR w O φ α v b) (hk : bop td op u v k) : Gives C n V w O φ α o st k := by
  unfold bop at hk
  split at hk
  · rename_i ka p kb q
    simp only [VR] at ha hb
    subst ha hb
    split at hk
    · obtain ⟨h1, h2⟩ := chk_dec hk
      exact .val (x := .int ka (shlI ka p q)) h2 fun _ => EX.shiftI ho hx hy h1 rfl
    · obtain ⟨h1, h2⟩ := chk_dec hk
      exact .val (x := .int ka (shrI ka p q)) h2 fun _ => EX.shiftI ho hx hy h1 rfl
    · split at hk
      · rename_i he
        obtain rfl := ikEq_eq he
        obtain ⟨h1, h2⟩ := chk_dec hk
        exact .al (v := .int ka _) (u := _) h2 rfl fun _ => EX.quoI ho hx hy h1 rfl
      · exact hk.elim
    · split at hk
      · rename_i he
        obtain rfl := ikEq_eq he
        obtain ⟨h1, h2⟩ := chk_dec hk
        exact .al (v := .int ka _) (u := _) h2 rfl fun _ => EX.quoI ho hx hy h1 rfl
      · exact hk.elim
    · split at hk
      · rename_i he
        obtain rfl := ikEq_eq he
        obtain ⟨c, h1, h2⟩ := wt_some hk
        exact .val h2 fun _ => EX.binI ho hx hy h1
      · exact hk.elim
  · simp only [VR] at ha hb
    subst ha hb
    split at hk
    · obtain ⟨s, h1, h2⟩ := hk
      obtain ⟨h3, h4⟩ := cat_some h1
      subst h3
      exact .al (v := .str _) (u := _) h2 rfl fun _ => EX.catS ho hx hy h4
    · obtain ⟨c, h1, h2⟩ := wt_some hk
      exact .val h2 fun _ => EX.binS ho hx hy h1
  · simp only [VR] at ha hb
    subst ha hb
    split at hk
    · exact .al (v := .bool _) (u := _) hk rfl fun _ => EX.binB ho ht hx hy rfl
    · exact .al (v := .bool _) (u := _) hk rfl fun _ => EX.binB ho ht hx hy rfl
    · exact hk.elim
  · simp only [VR] at ha hb
    subst ha hb
    split at hk
    · exact .al (v := .bool _) (u := _) hk rfl fun w' => (EX.binPN (n := n) (w := w') ho ht hx hy).1 rfl
    · exact .al (v := .bool _) (u := _) hk rfl fun w' => (EX.binPN (n := n) (w := w') ho ht hx hy).2 rfl
    · exact hk.elim
  · simp only [VR] at ha hb
    subst ha hb
    split at hk
    · exact .al (v := .bool _) (u := _) hk rfl fun w' => (EX.binNN (n := n) (w := w') ho ht hx hy).1 rfl
    · exact .al (v := .bool _) (u := _) hk rfl fun w' => (EX.binNN (n := n) (w := w') ho ht hx hy).2 rfl
    · exact hk.elim
  · simp only [VR] at ha hb
    obtain ⟨b', q', rfl, _⟩ := ha
    subst hb
    split at hk
    · exact .al (v := .bool _) (u := _) hk rfl fun w' => (EX.binPN (n := n) (w := w') ho ht hx hy).1 rfl
    · exact .al (v := .bool _) (u := _) hk rfl fun w' => (EX.binPN (n := n) (w := w') ho ht hx hy).2 rfl
    · exact hk.elim
  · exact hk.elim
theorem uop_sound {op : UnOp} {t : TypeId} {x : Operand} {u : PV} {a : Value} {st : Bool} {k : PV → Prop} (ho : o.op = .unOp op t x) (hx : Lk.ev V x = some a) (ha : VR w O φ α u a) (hk : uop op u k) : Gives C n V w O φ α o st k := by
  unfold uop at hk
  split at hk
  · simp only [VR] at ha
    subst ha
    exact .al (v := .bool _) (u := _) hk rfl fun _ => EX.notB ho hx
  · simp only [VR] at ha
    subst ha
    obtain ⟨c, h1, h2⟩ := wt_some hk
    exact .val h2 fun _ => EX.unI ho hx h1
  · exact hk.elim
theorem load_sound {T : TypeId} {x : Operand} {g : Bool} {m b q off : Nat} {cs : List PV} {us : List Value} {v : PV} (ho : o.op = .load T x) (hT : Lk.shp C.P T = some (g, m)) (hx : Lk.ev V x = some (.pointer (some ⟨b, q + off, none⟩)))
    (hv : VRs w O φ α cs us) (ha : aggOf g m ((cs.drop off).take m) = some v) : ∃ u, VR w O φ α v u ∧ ∀ w', (∀ j u, us[j]? = some u → w'.cell? ⟨b, q + j, none⟩ = some u) → EX C n V w' o u := by
  have hv2 : VRs w O φ α ((cs.drop off).take m) ((us.drop off).take m) := (hv.drop off).take m
  have hc2 : ∀ w' : World, (∀ j u, us[j]? = some u → w'.cell? ⟨b, q + j, none⟩ = some u) → ∀ j u, ((us.drop off).take m)[j]? = some u → w'.cell? ⟨b, q + off + j, none⟩ = some u := fun w' hc j u e => by
    rw [List.getElem?_take] at e
    split at e
    · rw [List.getElem?_drop] at e
      rw [Nat.add_assoc]
      exact hc _ _ e
    · cases e
  have hl := hv2.len
  revert ha hv2 hl hc2
  generalize (cs.drop off).take m = c2
  generalize (us.drop off).take m = u2
  intro ha hv2 hc2 hl
  unfold aggOf at ha
  split at ha
  · split at ha
    · rename_i he
      cases ha
      have he := Nat.eq_of_beq_eq_true he
      exact ⟨_, ⟨u2, rfl, hv2⟩, fun w' hc => EX.loadCs ho hT hx (by rw [hl, he]) (hc2 w' hc)⟩
    · cases ha
  · cases ha
    obtain ⟨u, us', rfl, h1, h2⟩ := hv2
    exact ⟨u, h1, fun w' hc => EX.loadC ho hT hx (by simpa using hc2 w' hc 0 u (by simp))⟩
  · cases ha
theorem OwnM.elem {w : World} {O : Nat → Prop} {T m : Nat} {v : Value} {l : List (List D)} {b len cap : Nat} (h : OwnM w O T m v l) (hv : v = .slice (some ⟨b, 0, none⟩) len cap) {j : Nat} {x : List D} (hj : l[j]? = some x) :
    ∃ us, RDs w O x us ∧ (∀ i u, us[i]? = some u → w.cell? ⟨b, j * m + i, none⟩ = some u) := by
  obtain ⟨xs, h1, h2, _, _⟩ := h
  refine ⟨(xs.drop (j * m)).take m, RDl.at h2 hj, fun i u e => ?_⟩
  rw [List.getElem?_take] at e
  split at e
  · rw [List.getElem?_drop] at e
    have := h1.cells (g := b) (by rw [hv]; rfl) _ _ e
    rw [Addr.add_lit] at this
    simpa using this
  · cases e
theorem Own.elem {w : World} {O : Nat → Prop} {T m : Nat} {v : Value} {l : List (List D)} {b len cap : Nat} (h : Own w O T m v l) (hv : v = .slice (some ⟨b, 0, none⟩) len cap) {j : Nat} {x : List D} (hj : l[j]? = some x) :
    ∃ us, RDs w O x us ∧ (∀ i u, us[i]? = some u → w.cell? ⟨b, j * m + i, none⟩ = some u) := by
  obtain ⟨xs, h1, h2, _, _⟩ := h
  refine ⟨(xs.drop (j * m)).take m, RDl.at h2 hj, fun i u e => ?_⟩
  rw [List.getElem?_take] at e
  split at e
  · rw [List.getElem?_drop] at e
    have := h1.cells (g := b) (by rw [hv]; rfl) _ _ e
    rw [Addr.add_lit] at this
    simpa using this
  · cases e
theorem OwnX.elem {w : World} {O : Nat → Prop} {T m : Nat} {v : Value} {l : List (List D)} {b len cap : Nat} (h : OwnX w O T m v l) (hT : T < 1000000 ∨ 2000000 ≤ T) (hv : v = .slice (some ⟨b, 0, none⟩) len cap) {j : Nat} {x : List D} (hj : l[j]? = some x) :
    ∃ us, RDs w O x us ∧ (∀ i u, us[i]? = some u → w.cell? ⟨b, j * m + i, none⟩ = some u) := by
  rcases h with ⟨_, h⟩ | ⟨_, _, _⟩ | ⟨_, h⟩
  · exact Own.elem h hv hj
  · omega
  · exact OwnM.elem h hv hj
/-- A number's character. -/
theorem EX.convR {C : Cx} {n : Nat} {L : Env} {w : World} {o : Oper} {s t : TypeId} {sd : TypeDesc} {x : Operand} {kd : IntKind} {p : Int} (ho : o.op = .convert s t x)
    (hs : C.P.underlying s = some sd) (ht : C.P.underlying t = some .string) (hx : Lk.ev L x = some (.int kd p)) : EX C n L w o (.string ⟨(encS p).toArray⟩) :=
  fun a ha => by
    simp only [execOp, ho, ha.ev hx, convert, Sem.run_bind, run_underlying hs, run_underlying ht, Result.andThen_ok, Conv.intToString, encS]
    rfl
theorem EX.lenM {C : Cx} {n : Nat} {L : Env} {w : World} {o : Oper} {t kt et : TypeId} {x : Operand} {m clock : Nat} {es : Array MapEntry} (ho : o.op = .call { callee := .builtin .len, args := #[x], argTypes := #[t] })
    (ht : C.P.underlying t = some (.map kt et)) (hx : Lk.ev L x = some (.map (some m))) (hb : w.heap[m]? = some (.map es clock)) : EX C n L w o (.int .i64 (es.size : Nat)) :=
  fun a ha => by
    simp [execOp, ho, resolve, invoke, builtin, Builtin.len_, ha.ev hx, run_underlying ht, MapKept.run_getObj_map hb, goInt]
/-- What a map's block is. -/
theorem Rel.mapAt {fL : FL} {fA : FA} (h : Rel z fL (lk σ.B) fA V w O φ α) {b : Nat} {e : Bx} {ky : Option IntKind} {g : Bool} {l : List (List D)} (he : lk σ.B b = some e) (hc : e.cs = [.md (.cont ky g l)]) (hT : e.T = 1000000) :
    ∃ es clock, w.heap[φ b]? = some (.map es clock) ∧ MapKept.Stamped es clock ∧ EntsR w O ky g es.toList l := by
  obtain ⟨_, us, h1, h2⟩ := h.box b e he
  obtain ⟨es, clock, h3, h4, rfl⟩ := h1.map (by omega) (by omega)
  rw [hc] at h2
  obtain ⟨u, us', h5, h6, h7⟩ := h2
  cases h7
  cases h5
  obtain ⟨es', h8, h9⟩ := h6
  exact ⟨es, clock, h3, h4, h9.enc h8.symm⟩
theorem lenW_sound {td : TypeDesc} {fL : FL} {u : PV} {a : Value} {k : Int → Prop} (h : Rel z fL (lk σ.B) (lk σ.A) V w O φ α) (ha : VR w O φ α u a) (hl : lenW td σ u k) :
    (∃ s : List UInt8, td = .string ∧ u = .str s ∧ a = .string ⟨s.toArray⟩ ∧ k s.length) ∨ ((∃ e, td = .slice e) ∧ ∃ l : Nat, k l ∧ (∃ p c, a = .slice p l c) ∧ ∀ T n l', u = .sl T n l' → l = l'.length) ∨ (∃ kt et, td = .map kt et) ∧ (∃ b, u = .mp b) ∧ ∃ m es clock, a = .map (some m) ∧ w.heap[m]? = some (.map es clock) ∧ k es.size := by
  unfold lenW at hl
  split at hl
  · simp only [VR] at ha
    exact .inl ⟨_, rfl, rfl, ha, hl⟩
  · obtain ⟨n, h1, h2⟩ := hl
    cases h1
    exact .inr (.inl ⟨⟨_, rfl⟩, _, h2, RD.len ha, fun T n l' e => by cases e; rfl⟩)
  · simp only [VR] at ha
    exact .inr (.inl ⟨⟨_, rfl⟩, 0, hl, ⟨none, 0, ha⟩, fun T n l' e => by cases e⟩)
  · obtain ⟨e, he, n, h1, h2⟩ := wt_some hl
    cases h1
    obtain ⟨p, c, h3⟩ := (h.arr _ e (lkO_some he).1).len
    exact .inr (.inl ⟨⟨_, rfl⟩, _, h2, ⟨p, c, ha.1.trans h3⟩, fun T n l' e => by cases e⟩)
  · unfold lenM at hl
    simp only at hl
    split at hl
    · rename_i e he
      split at hl
      · rename_i hc
        split at hl
        · rename_i hT
          obtain ⟨n, h1, h2⟩ := hl
          cases h1
          obtain ⟨es, clock, h3, _, h5⟩ := h.mapAt he hc (Nat.eq_of_beq_eq_true hT)
          simp only [VR] at ha
          refine .inr (.inr ⟨⟨_, _, rfl⟩, ⟨_, rfl⟩, _, es, clock, ha, h3, ?_⟩)
          have h6 := h5.len
          simp only [Array.length_toList] at h6
          rw [h6]
          exact h2
        · exact hl.elim
      · exact hl.elim
    · exact hl.elim
  · exact hl.elim
theorem loW_sound {fB : FB} {fA : FA} (h : Rel z (lk σ.L) fB fA V w O φ α) {x : Option Operand} {k : Int → Prop} (hb : loW σ x k) : ∃ m, k m ∧ ((x = none ∧ m = ((0 : Nat) : Int)) ∨ ∃ y k, x = some y ∧ Lk.ev V y = some (.int k m)) := by
  unfold loW at hb
  split at hb
  · exact ⟨0, hb, .inl ⟨rfl, rfl⟩⟩
  · rename_i y
    split at hb
    · rename_i kk n' hy
      obtain ⟨u, h1, h2⟩ := h.ev hy
      simp only [VR] at h2
      subst h2
      exact ⟨n', hb, .inr ⟨y, kk, rfl, h1⟩⟩
    · exact hb.elim
theorem Lo.of {lo : Option Operand} {e : Nat} {m : Int} {p : Nat} (h : (lo = none ∧ m = (e : Nat)) ∨ ∃ y k, lo = some y ∧ Lk.ev V y = some (.int k m)) (hm : m = (p : Nat)) : Lo V lo p e := by
  rcases h with ⟨rfl, h⟩ | ⟨y, k, rfl, h⟩
  · show p = e; omega
  · exact ⟨k, m, h, hm⟩
/-- A part of a slice of data. -/
theorem EX.sliceL {l : List (List D)} {T m : Nat} {t : TypeId} {gg : Bool} {x : Operand} {lo hi : Option Operand} {u : Value} {a b : Nat} (ho : o.op = .slice t x lo hi none)
    (ht : C.P.underlying t = some (.slice T)) (hT : Lk.shp C.P T = some (gg, m)) (hx : Lk.ev V x = some u) (hr : RD w O (.sl T m l) u)
    (hlo : Lo V lo a 0) (hhi : Lo V hi b l.length) (hab : a ≤ b) (hb : b ≤ l.length) : ∃ v', (∀ w', EX C n V w' o v') ∧ RD w O (.sl T m ((l.take b).drop a)) v' := by
  have key : ∀ {q : Option Operand} {c e : Nat}, Lo V q c e → LoV (q.bind (Lk.ev V)) c e ∧ ∀ ac : Act, Has n V ac → q.map ac.eval = q.bind (Lk.ev V) := fun {q c e} hq => by
    cases q with
    | none => exact ⟨hq, fun _ _ => rfl⟩
    | some y =>
      obtain ⟨kd, i, h1, h2⟩ := hq
      refine ⟨?_, fun ac hac => by simp [h1, hac.ev h1]⟩
      simp only [Option.bind_some, h1]
      exact ⟨kd, by rw [h2]⟩
  obtain ⟨k1, k2⟩ := key hlo
  obtain ⟨k3, k4⟩ := key hhi
  obtain ⟨v', h5, h6⟩ := RD.sub (P := C.P) (w := w) ht hT hr k1 k3 hab hb
  obtain ⟨v2, h7, h8⟩ := RD.sub_all (P := C.P) (w := w) ht hT hr k1 k3 hab hb
  exact ⟨v2, fun w' ac hac => by
    simp only [execOp, ho, hac.ev hx, k2 ac hac, k4 ac hac, Option.map_none, Sem.run_bind, h7 w', Result.andThen_ok]
    rfl, h8⟩
theorem EX.taNo {x : Operand} {xt T U : TypeId} {td : TypeDesc} {u z : Value} (ho : o.op = .typeAssert x xt T true) (ht : C.P.underlying T = some td) (hi : notIfc td = true) (hz : Lk.zer C.P T = some z) (hne : U ≠ T) (hx : Lk.ev V x = some (.iface U u)) : EX C n V w o (.tuple #[z, .bool false]) := fun a ha => by
  obtain ⟨i, h5, h6⟩ := Option.bind_eq_some_iff.1 hz
  simp only [execOp, ho, ha.ev hx, Instr.typeAssert]
  cases td <;> first | (simp [notIfc] at hi; done) | simp [run_underlying ht, zeroValue, typeInfo, h5, h6, hne]
theorem build_sound {fds : List (Nat × Nat)} : ∀ (is : List Nat) (us : List PV) (xs : List Value) (cs : List PV) (A : Array Value) (fs : List (Nat × Bool × Nat)), (∀ (i : Nat) (f : Nat × Bool × Nat), fs[i]? = some f → fds[i]? = some (f.1, f.2.2)) → VRs w O φ α us xs → VRs w O φ α cs A.toList →
    fillOk fs is us cs = true → ∃ out, Instr.fill (fds.toArray[·]?) A (is.zip xs) = some out ∧ VRs w O φ α (fillP fs cs is us) out.toList
  | [], us, xs, cs, A, fs, _, _, hc, _ => by
    simp only [List.zip_nil_left, Instr.fill]
    exact ⟨A, rfl, by simpa [fillP] using hc⟩
  | i :: is, [], xs, cs, A, fs, _, hu, hc, _ => by
    cases hu
    simp only [List.zip_nil_right, Instr.fill]
    exact ⟨A, rfl, by simpa [fillP] using hc⟩
  | i :: is, u :: us, xs, cs, A, fs, hf, hu, hc, hok => by
    obtain ⟨x, xs', rfl, h1, h2⟩ := hu
    unfold fillOk at hok
    split at hok
    · rename_i f hfi
      rw [frcL_eq] at hok
      simp only [Bool.and_eq_true] at hok
      obtain ⟨⟨⟨k1, k2⟩, k3⟩, k4⟩ := hok
      have k1 := Nat.eq_of_beq_eq_true k1
      have k2 := Nat.le_of_ble_eq_true k2
      have hx := h1.cells (by simpa using k3)
      have hlx := VRs.len hx
      have hlc := VRs.len hc
      rw [Array.length_toList] at hlx hlc
      have e1 : fds.toArray[i]? = some (f.1, f.2.2) := by simpa using hf i f hfi
      have e2 : (x.cells.zipIdx.foldl (fun cs (c, j) => cs.setIfInBounds (f.1 + j) c) A) = (A.toList.take f.1 ++ x.cells.toList ++ A.toList.drop (f.1 + f.2.2)).toArray := by
        have := fold_set x.cells.toList 0 f.1 A (by simp [hlx, k1, hlc]; omega)
        simp only [Nat.add_zero] at this
        rw [← Array.foldl_toList, Array.toList_zipIdx, this]
        simp [hlx, k1]
      have e3 : VRs w O φ α (cs.take f.1 ++ cellsOf u ++ cs.drop (f.1 + f.2.2)) (A.toList.take f.1 ++ x.cells.toList ++ A.toList.drop (f.1 + f.2.2)) := ((hc.take f.1).append hx).append (hc.drop _)
      obtain ⟨out, h5, h6⟩ := build_sound is us xs' _ (A.toList.take f.1 ++ x.cells.toList ++ A.toList.drop (f.1 + f.2.2)).toArray fs hf h2 (by simpa using e3) k4
      refine ⟨out, ?_, ?_⟩
      · simp only [List.zip_cons_cons]
        unfold Instr.fill
        simp only [e1]
        rw [if_neg (by simp [hlx, k1]; omega), e2, h5]
      · unfold fillP
        simp only [hfi]
        exact h6
    · cases hok
theorem evs_len {σ : St} : ∀ {xs : List Operand} {vs : List PV}, σ.evs xs = some vs → xs.length = vs.length
  | [], vs, e => by simp only [St.evs, Option.some.injEq] at e; subst e; rfl
  | x :: xs, vs, e => by
    simp only [St.evs] at e
    split at e
    · rename_i v vs' h1 h2
      cases e
      simp [evs_len h2]
    · cases e
theorem zip_evp : ∀ {parts : List (Nat × Operand)} {us : List Value}, Lk.evs V (parts.map (·.2)) = some us → Lk.evp V parts = some ((parts.map (·.1)).zip us)
  | [], us, h => by simp [Lk.evs] at h; subst h; rfl
  | (i, x) :: parts, us, h => by
    simp only [List.map_cons, Lk.evs] at h
    split at h
    · rename_i v vs h1 h2
      cases h
      simp only [Lk.evp, h1, zip_evp h2, List.map_cons, List.zip_cons_cons]
    · cases h
theorem EX.indexAddrG {C : Cx} {n : Nat} {L : Env} {w : World} {o : Oper} {t T m g len : Nat} {gg : Bool} {y : Operand} {kd : IntKind} {i : Int} {j : Nat} (ho : o.op = .indexAddr t (.global g) y) (ht : C.P.underlying t = some (.array len T)) (hT : Lk.shp C.P T = some (gg, m))
    (hy : Lk.ev L y = some (.int kd i)) (hi : i = (j : Nat)) (hj : j < len) : EX C n L w o (.pointer (some ⟨g, j * m, none⟩)) :=
  fun a ha => by
    subst hi
    have hx : Lk.ev L (.global g) = some (.pointer (some ⟨g, 0, none⟩)) := rfl
    simp [execOp, ho, ha.ev hx, ha.ev hy, Instr.indexAt, Instr.sureAddr, asIntOf, run_underlying ht, (run_isAgg hT).2, hj, Addr.add_lit]
theorem EX.sliceM {C : Cx} {n : Nat} {V : Env} {w : World} {O : Nat → Prop} {o : Oper} {l : List (List D)} {T m : Nat} {t : TypeId} {gg : Bool} {x hi mx : Operand} {u : Value} {b c : Nat} {kb kc : IntKind} (ho : o.op = .slice t x none (some hi) (some mx))
    (ht : C.P.underlying t = some (.slice T)) (hT : Lk.shp C.P T = some (gg, m)) (hx : Lk.ev V x = some u) (hr : RD w O (.sl T m l) u)
    (hh : Lk.ev V hi = some (.int kb (b : Nat))) (hm : Lk.ev V mx = some (.int kc (c : Nat))) (hbc : b ≤ c) (hc : c ≤ l.length) : ∃ v', (∀ w', EX C n V w' o v') ∧ RD w O (.sl T m (l.take b)) v' := by
  have i1 : (b : Int) ≤ (c : Int) := Int.ofNat_le.2 hbc
  have key : ∀ (p : Option Addr) (cap : Nat), u = .slice p l.length cap → c ≤ cap → ∀ w', EX C n V w' o (.slice (if c = 0 then p else p.map (·.add 0)) b c) := fun p cap hu hcap w' a ha => by
    have i2 : (c : Int) ≤ (cap : Int) := Int.ofNat_le.2 hcap
    subst hu
    simp [execOp, ho, ha.ev hx, ha.ev hh, ha.ev hm, Instr.sliceAt, Instr.slice, run_underlying ht, Instr.sliceBounds, Instr.sliceBound, asIntOf, (run_isAgg hT).2, hbc, hcap]
  rcases hr with ⟨⟨p, rfl⟩, rfl⟩ | ⟨bb, q, cap, cs, fr, rfl, h2, h3, h4, h5, h6, h7⟩
  · have hc0 : c = 0 := by simpa using hc
    have hb0 : b = 0 := by omega
    subst hc0 hb0
    exact ⟨_, key p 0 rfl (Nat.le_refl _), .inl ⟨⟨p, by simp⟩, by simp⟩⟩
  · refine ⟨_, key _ cap rfl (by omega), ?_⟩
    have hlen : (l.take b).length = b := by simp; omega
    by_cases hc0 : c = 0
    · have hb0 : b = 0 := by omega
      subst hc0 hb0
      exact .inl ⟨⟨_, rfl⟩, by simp⟩
    · rw [if_neg hc0]
      refine .inr ⟨bb, q, c, cs, fr, by rw [hlen]; simp [Addr.add_lit], by omega, by omega, h4, h5, ?_, RDl.take b h7⟩
      have : c * m ≤ cap * m := Nat.mul_le_mul_right m (by omega)
      omega
theorem mmW_some {b : Bool} {u v : PV} {k : PV → Prop} (h : mmW b u v k) : ∃ a p q, u = .int a p ∧ v = .int a q ∧ k (.int a (if b = true then maxI p q else minI p q)) := by
  unfold mmW at h
  split at h
  · split at h
    · rename_i he
      have he := ikEq_eq he
      subst he
      exact ⟨_, _, _, rfl, rfl, h⟩
    · rename_i he
      have he := ikEq_eq he
      subst he
      exact ⟨_, _, _, rfl, rfl, h⟩
    · exact h.elim
  · exact h.elim
theorem EX.maxII {C : Cx} {n : Nat} {L : Env} {w : World} {o : Oper} {x y : Operand} {ts : Array TypeId} {a : IntKind} {p q : Int} (ho : o.op = .call { callee := .builtin .max, args := #[x, y], argTypes := ts }) (hx : Lk.ev L x = some (.int a p)) (hy : Lk.ev L y = some (.int a q)) : EX C n L w o (.int a (maxI p q)) := fun _ ha => by
  simp [execOp, ho, resolve, invoke, builtin, Builtin.max_, Builtin.max2, ha.ev hx, ha.ev hy, maxI]
theorem EX.minII {C : Cx} {n : Nat} {L : Env} {w : World} {o : Oper} {x y : Operand} {ts : Array TypeId} {a : IntKind} {p q : Int} (ho : o.op = .call { callee := .builtin .min, args := #[x, y], argTypes := ts }) (hx : Lk.ev L x = some (.int a p)) (hy : Lk.ev L y = some (.int a q)) : EX C n L w o (.int a (minI p q)) := fun _ ha => by
  simp [execOp, ho, resolve, invoke, builtin, Builtin.min_, Builtin.min2, ha.ev hx, ha.ev hy, minI]
theorem qop_sound {tb : Tb} (ht : TbOk C.P tb) (hgt : ∀ w O, z.G w O → GtOk tb w O) (h : Rel z (lk σ.L) (lk σ.B) (lk σ.A) V w O φ α) {k : PV → Prop} (hq : qop tb σ o.op k) : Gives C n V w O φ α o (stb σ o.op) k := by
  unfold qop at hq
  split at hq
  case h_1 =>
    rename_i x ho
    obtain ⟨v, h1, h2⟩ := wt_some hq
    obtain ⟨u, h3, h4⟩ := h.ev h1
    exact .al (v := v) (u := u) h2 h4 fun _ => EX.move ho h3
  case h_2 =>
    rename_i x ho
    obtain ⟨v, h1, h2⟩ := wt_some hq
    obtain ⟨u, h3, h4⟩ := h.ev h1
    exact .al (v := v) (u := u) h2 h4 fun _ => EX.assign ho h3
  case h_3 =>
    rename_i c x y ho
    split at hq
    · rename_i b hc
      replace hq := wt_some hq
      obtain ⟨v, h1, hq⟩ := hq
      replace hq := wt_some hq
      obtain ⟨v', h2, hq⟩ := hq
      obtain ⟨u, h3, h4⟩ := h.ev h1
      obtain ⟨u', h5, h6⟩ := h.ev h2
      obtain ⟨uc, h7, h8⟩ := h.ev hc
      simp only [VR] at h8
      subst h8
      rcases cond_tf hq with ⟨rfl, hq⟩ | ⟨rfl, hq⟩
      · exact .al (v := v) (u := u) hq h4 fun _ => EX.pick_t ho h7 h3
      · exact .al (v := v') (u := u') hq h6 fun _ => EX.pick_f ho h7 h5
    · exact hq.elim
  case h_4 =>
    rename_i op t x y r ho
    split at hq
    · rename_i hif
      obtain ⟨ms, hms⟩ := ifcT_ok (ht.ifc _ hif)
      split at hq
      · replace hq := wt_some hq
        obtain ⟨b, h1, hq⟩ := hq
        obtain ⟨v, h2, h3⟩ := Option.bind_eq_some_iff.1 h1
        obtain ⟨u, h4, h5⟩ := h.ev h2
        have key := fun w' => EX.ifNil (n := n) (w := w') ho hms h4 (nilQ_ok h3 h5)
        split at hq
        · exact .al (v := .bool b) (u := .bool b) hq rfl fun w' => (key w').1 rfl
        · exact .al (v := .bool (!b)) (u := .bool (!b)) hq rfl fun w' => (key w').2 rfl
        · exact hq.elim
      · exact hq.elim
    split at hq
    · rename_i m hm
      replace hq := wt_some hq
      obtain ⟨v, h2, hq⟩ := hq
      obtain ⟨u, h4, h5⟩ := h.ev h2
      replace hq := wt_some hq
      obtain ⟨v', h3, hq⟩ := hq
      obtain ⟨u', h6, h7⟩ := h.ev h3
      unfold arrW at hq
      split at hq
      · replace hq := wt_some hq
        obtain ⟨b, h8, hq⟩ := hq
        obtain ⟨us, rfl, h9⟩ := h5
        obtain ⟨vs, rfl, h10⟩ := h7
        obtain ⟨k1, k2⟩ := eqSs_ok h8 h9 h10
        split at hq
        · rename_i hb
          have hb := Nat.eq_of_beq_eq_true hb
          exact .al (v := .bool b) (u := .bool b) hq rfl fun w' => (eqn_ok (n := n) (w := w') ht hm ho h4 h6 (by rw [VRs.len h9]; exact hb) k1 k2).1 rfl
        · rename_i hb
          have hb := Nat.eq_of_beq_eq_true hb
          exact .al (v := .bool (!b)) (u := .bool (!b)) hq rfl fun w' => (eqn_ok (n := n) (w := w') ht hm ho h4 h6 (by rw [VRs.len h9]; exact hb) k1 k2).2 rfl
        · exact hq.elim
      · exact hq.elim
    replace hq := wt_some hq
    obtain ⟨td, h1, hq⟩ := hq
    replace hq := wt_some hq
    obtain ⟨v, h2, hq⟩ := hq
    obtain ⟨u, h4, h5⟩ := h.ev h2
    split at hq
    · rename_i hy
      obtain rfl : y = .const .nilFunc := by
        unfold isNilF at hy
        split at hy
        · rfl
        · cases hy
      unfold nilF at hq
      split at hq
      · obtain ⟨us, vs, rfl, _, _⟩ := h5
        have key := fun w' => EX.ifNilF (n := n) (w := w') ho (ht.und _ _ h1) h4
        split at hq
        · exact .al (v := .bool _) (u := .bool _) hq rfl fun w' => (key w').1 rfl
        · exact .al (v := .bool _) (u := .bool _) hq rfl fun w' => (key w').2 rfl
        · exact hq.elim
      · exact hq.elim
    replace hq := wt_some hq
    obtain ⟨v', h3, hq⟩ := hq
    obtain ⟨u', h6, h7⟩ := h.ev h3
    exact bop_sound ho (ht.und _ _ h1) h4 h6 h5 h7 hq
  case h_5 =>
    rename_i op t x ho
    replace hq := wt_some hq
    obtain ⟨v, h2, hq⟩ := hq
    obtain ⟨u, h4, h5⟩ := h.ev h2
    exact uop_sound ho h4 h5 hq
  case h_6 =>
    rename_i s t x ho
    replace hq := wt_some hq
    obtain ⟨v, h2, hq⟩ := hq
    obtain ⟨u, h4, h5⟩ := h.ev h2
    split at hq
    · rename_i k1 n1 k2 k3 e1 e2
      simp only [VR] at h5
      subst h5
      exact .al (v := _) (u := _) hq rfl fun _ => EX.convI ho (ht.und _ _ e1) (ht.und _ _ e2) h4
    · rename_i s1 e1 e2
      simp only [VR] at h5
      subst h5
      exact .al (v := _) (u := _) hq rfl fun _ => EX.convS ho (ht.und _ _ e1) (ht.und _ _ e2) h4
    · rename_i k1 n1 k2 e1 e2
      simp only [VR] at h5
      subst h5
      exact .al (v := _) (u := _) hq rfl fun _ => EX.convR ho (ht.und _ _ e1) (ht.und _ _ e2) h4
    · exact hq.elim
  case h_7 =>
    rename_i t x ho
    replace hq := wt_some hq
    obtain ⟨v, h2, hq⟩ := hq
    obtain ⟨u, h4, h5⟩ := h.ev h2
    split at hq
    · rename_i hn
      obtain ⟨td, h6, h7⟩ := nifc_ok (ht.nif _ hn)
      refine .al (v := _) (u := _) hq ⟨u, rfl, h5⟩ fun _ => EX.mkIface ho h6 ?_ h4
      revert h7
      cases td <;> simp [notIfc]
    · exact hq.elim
  case h_8 =>
    rename_i f as_ cs ho
    split at hq
    · exact hq.elim
    rename_i hf
    replace hq := wt_some hq
    obtain ⟨vs, h1, hq⟩ := hq
    replace hq := wt_some hq
    obtain ⟨ws, h2, hq⟩ := hq
    obtain ⟨us, h3, h4⟩ := h.evs h1
    obtain ⟨xs, h5, h6⟩ := h.evs h2
    exact .al (v := _) (u := _) hq ⟨us, xs, (fnV_f hf us xs).symm, h4, h6⟩ fun _ => EX.mkFunc ho h3 h5
  case h_9 =>
    rename_i x i ho
    split at hq
    · rename_i vs hx
      replace hq := wt_some hq
      obtain ⟨v, h1, hq⟩ := hq
      obtain ⟨u, h2, us, rfl, h3⟩ := h.ev hx
      obtain ⟨u, h4, h5⟩ := VRs.get h3 h1
      exact .al (v := v) (u := u) hq h5 fun _ => EX.extract ho h2 (by simpa using h4)
    · exact hq.elim
  case h_10 =>
    rename_i x ho
    replace hq := wt_some hq
    obtain ⟨v, h2, hq⟩ := hq
    obtain ⟨u, h4, h5⟩ := h.ev h2
    split at hq
    · have h6 := h5
      simp only [VR] at h6
      subst h6
      exact .al (v := _) (u := _) hq h5 fun _ => EX.nilCheck ho h4
    · have h6 := h5
      obtain ⟨b, q, rfl, _⟩ := h6
      exact .al (v := _) (u := _) hq h5 fun _ => EX.nilCheck ho h4
    · have h6 := h5
      obtain ⟨b, l, c, j, _, _, rfl⟩ := h6
      exact .al (v := _) (u := _) hq h5 fun _ => EX.nilCheck ho h4
    · exact hq.elim
  case h_11 =>
    rename_i t x i ho
    replace hq := wt_some hq
    obtain ⟨f, h1, hq⟩ := hq
    obtain ⟨fs, h2, h3⟩ := Option.bind_eq_some_iff.1 h1
    replace hq := wt_some hq
    obtain ⟨v, h4, hq⟩ := hq
    obtain ⟨u, h5, h6⟩ := h.ev h4
    have hf := flds_fld (ht.fld _ _ h2) h3
    split at hq
    · simp only [VR] at h6
      subst h6
      exact .al (v := _) (u := _) hq rfl fun _ => EX.fieldAddr ho hf h5
    · obtain ⟨b, q, rfl, h7⟩ := h6
      refine .al (v := _) (u := _) hq ⟨b, q, rfl, h7⟩ fun _ => ?_
      rw [← Nat.add_assoc]
      exact EX.fieldAddr ho hf h5
    · obtain ⟨b, l, c, j, h7, h8, rfl⟩ := h6
      refine .al (v := _) (u := _) hq ⟨b, l, c, j, h7, h8, rfl⟩ fun _ => ?_
      rw [← Nat.add_assoc]
      exact EX.fieldAddr ho hf h5
    · exact hq.elim
  case h_12 =>
    rename_i t x i ho
    replace hq := wt_some hq
    obtain ⟨f, h1, hq⟩ := hq
    obtain ⟨fs, h2, h3⟩ := Option.bind_eq_some_iff.1 h1
    split at hq
    · rename_i cs hx
      replace hq := wt_some hq
      obtain ⟨v, h4, hq⟩ := hq
      obtain ⟨u, h5, us, rfl, h6⟩ := h.ev hx
      obtain ⟨fp, fg, fn⟩ := f
      have hf := flds_fld (ht.fld _ _ h2) h3
      have h7 : VRs w O φ α ((cs.drop fp).take fn) ((us.drop fp).take fn) := (VRs.drop fp h6).take fn
      have e8 : (us.drop fp)[0]? = us[fp]? := by simp
      revert h4 h7
      simp only
      generalize hc2 : (cs.drop fp).take fn = c2
      intro h4 h7
      unfold aggOf at h4
      split at h4
      · split at h4
        · cases h4
          exact .al (v := _) (u := _) hq ⟨_, rfl, h7⟩ fun _ => EX.fieldN ho hf h5
        · cases h4
      · cases h4
        obtain ⟨u, us', h9, h10, h11⟩ := h7
        refine .al (v := _) (u := u) hq h10 fun _ => EX.field ho hf h5 ?_
        rw [← e8]
        have e9 : ((us.drop fp).take fn)[0]? = some u := by rw [h9]; rfl
        rw [List.getElem?_take] at e9
        split at e9
        · exact e9
        · cases e9
      · cases h4
    · exact hq.elim
  case h_13 =>
    rename_i t x ho
    replace hq := wt_some hq
    obtain ⟨⟨g, m⟩, h1, hq⟩ := hq
    replace hq := wt_some hq
    obtain ⟨v, h2, hq⟩ := hq
    obtain ⟨u, h3, h4⟩ := h.ev h2
    have hT := ht.shp _ _ h1
    unfold loadE at hq
    split at hq
    · rename_i a m' i off
      replace hq := wt_some hq
      obtain ⟨e, h5, hq⟩ := hq
      split at hq
      · rename_i hn
        have hn := Nat.eq_of_beq_eq_true hn
        obtain ⟨cs, h6, hq⟩ := hq
        replace hq := wt_some hq
        obtain ⟨v', h7, hq⟩ := hq
        obtain ⟨b, len, cap, j, h8, h9, rfl⟩ := h4
        obtain ⟨j', h10, h11, _⟩ := ix_some' h6
        have : j' = j := by omega
        subst this
        obtain ⟨us, h12, h13⟩ := (h.arr _ _ (lkO_some h5).1).elem (lkO_some h5).2 h8 h11
        subst hn
        obtain ⟨u', k1, k2⟩ := load_sound (n := n) ho hT h3 (ofDs_ok h12) h7
        exact ⟨v', u', hq, k1, k2 w h13, fun hh => by rw [ho] at hh; simp only [stb, h2, reduceCtorEq, Bool.false_eq_true] at hh⟩
      · exact hq.elim
    · rename_i hne
      replace hq := wt_some hq
      obtain ⟨v', h7, hq⟩ := hq
      unfold loadP at h7
      split at h7
      · rename_i b off
        split at h7
        · rename_i e he
          obtain ⟨_, us, h8, h9⟩ := h.box _ _ (lkB_some he).1
          have h8 := h8.un (lkB_some he).2
          simp only [VR] at h4
          subst h4
          obtain ⟨u', k1, k2⟩ := load_sound (n := n) (q := 0) ho hT (by simpa using h3) h9 h7
          exact ⟨v', u', hq, k1, k2 w (fun j u e => by rw [Nat.zero_add, h8.cell]; exact e), fun hh => by rw [ho] at hh; simp only [stb, h2, reduceCtorEq, Bool.false_eq_true] at hh⟩
        · cases h7
      · rename_i cs off
        obtain ⟨b, q, rfl, us, _, h10, h11⟩ := h4
        obtain ⟨u', k1, k2⟩ := load_sound (n := n) ho hT h3 (ofDs_ok h11) h7
        exact ⟨v', u', hq, k1, k2 w h10.at_, fun _ w' O' t => k2 w' (h10.tr t).at_⟩
      · cases h7
  case h_14 =>
    rename_i t x y ho
    split at hq
    · rename_i s ki i e1 e2 e3
      obtain ⟨c, h1, hq⟩ := hq
      obtain ⟨j, h2, h3, _⟩ := ix_some' h1
      obtain ⟨u, h4, h5⟩ := h.ev e2
      obtain ⟨u', h6, h7⟩ := h.ev e3
      simp only [VR] at h5 h7
      subst h5 h7
      exact .al (v := _) (u := _) hq rfl fun _ => EX.indexS ho (ht.und _ _ e1) h4 h6 h2 h3
    · exact hq.elim
  case h_15 =>
    rename_i t x y ho
    split at hq
    · rename_i g
      obtain ⟨e, h1, hq⟩ := wt_some hq
      split at hq
      · rename_i len T ki i e1 e2
        obtain ⟨⟨gg, m⟩, h4, hq⟩ := wt_some hq
        split at hq
        · rename_i hm
          simp only [Bool.and_eq_true] at hm
          have hm1 := Nat.eq_of_beq_eq_true hm.1
          have hm2 := Nat.eq_of_beq_eq_true hm.2
          subst hm1
          obtain ⟨cs, h5, hq⟩ := hq
          obtain ⟨j, h6, h7, h8⟩ := ix_some' h5
          obtain ⟨u', h9, h10⟩ := h.ev e2
          simp only [VR] at h10
          subst h10
          obtain ⟨hl, hel⟩ := hgt w O h.gl g e h1
          have hel := hel j cs h7
          refine .al (v := _) (u := _) hq ⟨g, j * e.1, rfl, ?_⟩ fun _ => EX.indexAddrG ho (ht.und _ _ e1) (ht.shp _ _ h4) h9 h6 (by omega)
          obtain ⟨us, k1, k2, k3⟩ := hel
          exact ⟨us, VRs.len (φ := φ) (α := α) (ofDs_ok k3) |>.trans (by simp [ofDs]), k2, k3⟩
        · exact hq.elim
      · exact hq.elim
    replace hq := wt_some hq
    obtain ⟨v, h1, hq⟩ := hq
    obtain ⟨u, h2, h3⟩ := h.ev h1
    split at hq
    · rename_i T e1
      replace hq := wt_some hq
      obtain ⟨⟨g, m⟩, h4, hq⟩ := hq
      split at hq
      · rename_i U m' l ki i e2
        split at hq
        · rename_i hm
          have hm := Nat.eq_of_beq_eq_true hm
          simp only at hm
          subst hm
          obtain ⟨cs, h5, hq⟩ := hq
          obtain ⟨j, h6, h7, h8⟩ := ix_some' h5
          obtain ⟨u', h9, h10⟩ := h.ev e2
          simp only [VR] at h10
          subst h10
          obtain ⟨b, q, cap, h11, h12, h13⟩ := RD.elem h3 h7
          refine .al (v := _) (u := _) hq ⟨b, q + j * m, rfl, ?_⟩ fun _ => EX.indexAddrV ho (ht.und _ _ e1) (ht.shp _ _ h4) h2 h11 h9 h6 h8
          obtain ⟨us, k1, k2, k3⟩ := h13
          exact ⟨us, VRs.len (φ := φ) (α := α) (ofDs_ok k3) |>.trans (by simp [ofDs]), k2, k3⟩
        · exact hq.elim
      · rename_i a ki i e2
        replace hq := wt_some hq
        obtain ⟨e, h4', hq⟩ := hq
        split at hq
        · rename_i hm
          have hm := Nat.eq_of_beq_eq_true hm
          simp only at hm
          subst hm
          obtain ⟨cs, h5, hq⟩ := hq
          obtain ⟨j, h6, h7, h8⟩ := ix_some' h5
          obtain ⟨u', h9, h10⟩ := h.ev e2
          simp only [VR] at h10
          subst h10
          rcases (h.arr _ _ (lkO_some h4').1).at_ (lkO_some h4').2 with ⟨_, k2⟩ | ⟨b, cap, k2⟩
          · omega
          · exact .al hq ⟨b, _, cap, j, k2, h6, rfl⟩ fun w' => by
              have := EX.indexAddrV (n := n) (w := w') ho (ht.und _ _ e1) (ht.shp _ _ h4) h2 (h3.1.trans k2) h9 h6 h8
              simpa using this
        · exact hq.elim
      · exact hq.elim
    · exact hq.elim
  case h_16 =>
    rename_i t x lo hi ho
    replace hq := wt_some hq
    obtain ⟨v, h1, hq⟩ := hq
    replace hq := wt_some hq
    obtain ⟨td, h2, hq⟩ := hq
    obtain ⟨u, h6, h7⟩ := h.ev h1
    replace hq := loW_sound h hq
    obtain ⟨p, hq, hp⟩ := hq
    have hhi : ∃ q, (match td, v with
        | .string, .str s => Ex (Go.Lk.sub s p q) fun r => k (.str r)
        | .slice e, .sl T m l => wt (lk tb.shp e) fun s => match Nat.beq e T && Nat.beq s.2 m with
          | true => Ex (Go.Lk.sub l p q) fun r => k (.sl T m r)
          | false => False
        | _, _ => False) ∧ ∀ N : Nat, ((∃ s : List UInt8, v = .str s ∧ N = s.length) ∨ ∃ T m l, v = .sl T m l ∧ N = l.length) → (hi = none ∧ q = (N : Int)) ∨ ∃ y k, hi = some y ∧ Lk.ev V y = some (.int k q) := by
      unfold hiW at hq
      split at hq
      · rcases lenW_sound h h7 hq with ⟨s, _, e2, _, hk⟩ | ⟨⟨e0, e1⟩, l, hk, _, e3⟩ | e1
        · refine ⟨_, hk, fun N hN => .inl ⟨rfl, ?_⟩⟩
          rcases hN with ⟨s', e4, rfl⟩ | ⟨T, m, l, e4, _⟩
          · rw [e2] at e4; cases e4; rfl
          · rw [e2] at e4; cases e4
        · refine ⟨_, hk, fun N hN => .inl ⟨rfl, ?_⟩⟩
          rcases hN with ⟨s', e4, rfl⟩ | ⟨T, m, l', e4, rfl⟩
          · subst e4
            subst e1
            exact hk.elim
          · rw [e3 _ _ _ e4]
        · obtain ⟨⟨kt, et, rfl⟩, ⟨b, rfl⟩, _, _, _, _, _, hk⟩ := e1
          exact hk.elim
      · rename_i y
        split at hq
        · rename_i kk n' hy
          obtain ⟨u', h8, h9⟩ := h.ev hy
          simp only [VR] at h9
          subst h9
          exact ⟨n', hq, fun N _ => .inr ⟨y, kk, rfl, h8⟩⟩
        · exact hq.elim
    clear hq
    obtain ⟨q, hq, hq'⟩ := hhi
    split at hq
    · rename_i s
      obtain ⟨r, h8, hq⟩ := hq
      obtain ⟨a, b, h9, h10, h11, h12, h13⟩ := sub_some h8
      simp only [VR] at h7
      subst h7
      subst h13
      exact .al (v := .str _) (u := _) hq rfl fun _ => EX.sliceS ho (ht.und _ _ h2) h6 (Lo.of hp h9) (Lo.of (hq' _ (.inl ⟨s, rfl, rfl⟩)) h10) h11 h12
    · rename_i e T' m' l
      replace hq := wt_some hq
      obtain ⟨⟨g, mm⟩, h8, hq⟩ := hq
      split at hq
      · rename_i hb
        simp only [Bool.and_eq_true] at hb
        have hb1 := Nat.eq_of_beq_eq_true hb.1
        have hb2 := Nat.eq_of_beq_eq_true hb.2
        subst hb1 hb2
        obtain ⟨r, h8', hq⟩ := hq
        obtain ⟨a, b, h9, h10, h11, h12, h13⟩ := sub_some h8'
        subst h13
        obtain ⟨v', k1, k2⟩ := EX.sliceL (n := n) ho (ht.und _ _ h2) (ht.shp _ _ h8) h6 h7 (Lo.of hp h9) (Lo.of (hq' _ (.inr ⟨_, _, _, rfl, rfl⟩)) h10) h11 h12
        exact .al (v := .sl _ _ _) (u := v') hq k2 k1
      · exact hq.elim
    · exact hq.elim
  case h_17 =>
    rename_i c ho
    split at hq
    · rename_i x t e1 e2 e3
      replace hq := wt_some hq
      obtain ⟨td, h1, hq⟩ := hq
      replace hq := wt_some hq
      obtain ⟨v, h2, hq⟩ := hq
      obtain ⟨u, h4, h5⟩ := h.ev h2
      obtain ⟨cal, cargs, cty⟩ := c
      simp only at e1 e2 e3
      have e2 : cargs = #[x] := by apply Array.toList_inj.1; simpa using e2
      have e3 : cty = #[t] := by apply Array.toList_inj.1; simpa using e3
      subst e1 e2 e3
      have hu := ht.und _ _ h1
      rcases lenW_sound h h5 hq with ⟨s, rfl, rfl, rfl, hk⟩ | ⟨⟨e, rfl⟩, l, hk, h6, _⟩ | ⟨⟨kt, et, rfl⟩, ⟨b, rfl⟩, m, es, clock, rfl, h6, hk⟩
      · exact .al (v := _) (u := _) hk rfl fun _ => EX.lenS ho hu h4
      · exact .al (v := _) (u := _) hk rfl fun _ => EX.lenV ho hu h4 h6
      · refine ⟨.int .i64 _, _, hk, rfl, EX.lenM ho hu h4 h6, fun hst => ?_⟩
        rw [ho] at hst
        simp only [stb, h2, Bool.false_eq_true] at hst
    · rename_i x y e1 e2
      obtain ⟨v1, h2, hq⟩ := wt_some hq
      obtain ⟨v2, h3, hq⟩ := wt_some hq
      obtain ⟨a, p, q, rfl, rfl, hk⟩ := mmW_some hq
      obtain ⟨u, h4, h5⟩ := h.ev h2
      obtain ⟨u', h6, h7⟩ := h.ev h3
      simp only [VR] at h5 h7
      subst h5 h7
      obtain ⟨cal, cargs, cty⟩ := c
      simp only at e1 e2
      have e2 : cargs = #[x, y] := by apply Array.toList_inj.1; simpa using e2
      subst e1 e2
      exact .al (v := _) (u := _) hk rfl fun _ => EX.maxII ho h4 h6
    · rename_i x y e1 e2
      obtain ⟨v1, h2, hq⟩ := wt_some hq
      obtain ⟨v2, h3, hq⟩ := wt_some hq
      obtain ⟨a, p, q, rfl, rfl, hk⟩ := mmW_some hq
      obtain ⟨u, h4, h5⟩ := h.ev h2
      obtain ⟨u', h6, h7⟩ := h.ev h3
      simp only [VR] at h5 h7
      subst h5 h7
      obtain ⟨cal, cargs, cty⟩ := c
      simp only at e1 e2
      have e2 : cargs = #[x, y] := by apply Array.toList_inj.1; simpa using e2
      subst e1 e2
      exact .al (v := _) (u := _) hk rfl fun _ => EX.minII ho h4 h6
    · exact hq.elim
  case h_18 =>
    rename_i x xt t ho
    replace hq := wt_some hq
    obtain ⟨zz, h2, hq⟩ := hq
    split at hq
    · rename_i T u e1 e0
      obtain ⟨td, hu, e2⟩ := nifc_ok (ht.nif _ e0)
      obtain ⟨u', h3, y, rfl, h5⟩ := h.ev e1
      split at hq
      · rename_i hT
        have hT := Nat.eq_of_beq_eq_true hT
        subst hT
        exact .al (v := _) (u := _) hq ⟨_, rfl, y, _, rfl, h5, _, _, rfl, rfl, rfl⟩ fun _ => EX.taYes ho hu e2 h3
      · rename_i hT
        have hT := Nat.ne_of_beq_eq_false hT
        exact .al (v := _) (u := _) hq ⟨_, rfl, zz, _, rfl, ofV_ok zz, _, _, rfl, rfl, rfl⟩ fun _ => EX.taNo ho hu e2 (ht.zer _ _ h2) hT h3
    · rename_i e1 e0
      obtain ⟨td, hu, e2⟩ := nifc_ok (ht.nif _ e0)
      obtain ⟨u', h3, h4⟩ := h.ev e1
      simp only [VR] at h4
      subst h4
      exact .al (v := _) (u := _) hq ⟨_, rfl, zz, _, rfl, ofV_ok zz, _, _, rfl, rfl, rfl⟩ fun _ => EX.taNil ho hu e2 (ht.zer _ _ h2) h3
    · exact hq.elim
  case h_19 =>
    rename_i t parts ho
    replace hq := wt_some hq
    obtain ⟨us, h1, hq⟩ := hq
    obtain ⟨xs, h4, h5⟩ := h.evs h1
    split at hq
    · rename_i m hm
      split at hq
      · rename_i hb
        simp only [Bool.and_eq_true] at hb
        have hl := Nat.eq_of_beq_eq_true hb.1.1
        have hpl : (parts.toList.map (·.1)).length = us.length := by
          have := evs_len h1
          simpa using this
        have hxl : xs.length = us.length := VRs.len h5
        exact .al (v := .agg us) (u := .agg (List.toArray xs)) hq ⟨xs, rfl, h5⟩ fun _ => EX.buildA ho (ht.ars _ _ hm) (zip_evp h4) (flat_S _ us xs 0 hb.1.2 hb.2 h5 hpl) (by rw [List.length_zip]; omega)
      · exact hq.elim
    replace hq := wt_some hq
    obtain ⟨zz, h2, hq⟩ := hq
    replace hq := wt_some hq
    obtain ⟨fs, h3, hq⟩ := hq
    rw [frcW_eq] at hq
    split at hq
    · rename_i hok
      rw [fillW_eq] at hq
      obtain ⟨fds, h6, h7⟩ := flds_parts (ht.fld _ _ h3)
      have h8 := flds_places h7
      have hz : VRs w O φ α (cellsOf (ofV zz)) zz.cells.toList := ofV_cells zz
      obtain ⟨out, h9, h10⟩ := build_sound (w := w) (O := O) (φ := φ) (α := α) (fds := fs.map fun f => (f.1, f.2.2)) _ us xs _ zz.cells fs (fun i f e => by simp [e]) h5 hz hok
      refine .al (v := _) (u := _) hq ⟨out.toList, rfl, h10⟩ fun _ => EX.build ho (zip_evp h4) ?_
      unfold built
      rw [h6, ht.zer _ _ h2]
      simp only [h8, h9, Option.map_some]
    · exact hq.elim
  case h_20 =>
    rename_i t x hi mx ho
    obtain ⟨v, h1, hq⟩ := wt_some hq
    split at hq
    · rename_i e T m l kb b kc c e1 e2 e3
      obtain ⟨⟨gg, mm⟩, h4, hq⟩ := wt_some hq
      split at hq
      · rename_i hm
        simp only [Bool.and_eq_true] at hm
        have hm1 := Nat.eq_of_beq_eq_true hm.1
        have hm2 := Nat.eq_of_beq_eq_true hm.2
        subst hm1 hm2
        obtain ⟨N, hN, _, h5, r, h6, hq⟩ := hq
        simp only [lenD, Option.some.injEq] at hN
        subst hN
        have h5 := chk_some h5
        simp only [Bool.and_eq_true, decide_eq_true_eq] at h5
        obtain ⟨a0, b0, h9, h10, h11, h12, h13⟩ := sub_some h6
        obtain ⟨u, h7, h8⟩ := h.ev h1
        obtain ⟨ub, k1, k2⟩ := h.ev e2
        obtain ⟨uc, k3, k4⟩ := h.ev e3
        simp only [VR] at h8 k2 k4
        subst k2 k4
        obtain ⟨cn, hcn⟩ : ∃ cn : Nat, c = (cn : Int) := ⟨c.toNat, by omega⟩
        subst h10 hcn
        obtain rfl : a0 = 0 := by omega
        obtain ⟨v', g1, g2⟩ := EX.sliceM (n := n) ho (ht.und _ _ e1) (ht.shp _ _ h4) h7 h8 k1 k3 (by omega) (by omega)
        rw [List.drop_zero] at h13
        subst h13
        exact .al (v := _) (u := _) hq g2 g1
      · exact hq.elim
    · exact hq.elim
  case h_21 => exact hq.elim
end
end
section
open Go.RowKit Go.Lk
theorem lk_mem {β : Type} : ∀ {l : List (Nat × β)} {t : Nat} {v : β}, lk l t = some v → (t, v) ∈ l
  | (s, x) :: r, t, v, h => by
    rcases lk_cons h with ⟨rfl, rfl⟩ | ⟨_, h⟩
    · exact List.mem_cons_self
    · exact List.mem_cons_of_mem _ (lk_mem h)
theorem lk_delk_ne {β : Type} {a t : Nat} (hn : t ≠ a) : ∀ {l : List (Nat × β)}, lk (delk a l) t = lk l t
  | [] => rfl
  | (s, x) :: r => by
    unfold delk
    split
    · rename_i e
      have e := Nat.eq_of_beq_eq_true e
      subst e
      rw [lk_delk_ne hn]
      show lk r t = match Nat.beq s t with
        | true => some x
        | false => lk r t
      split
      · rename_i e2
        exact (hn (Nat.eq_of_beq_eq_true e2).symm).elim
      · rfl
    · simp only [lk]
      split
      · rfl
      · exact lk_delk_ne hn
section
variable {z : W0} {fL fL' : FL} {fB fB' : FB} {fA fA' : FA} {V : Env} {w w' : World} {O O' : Nat → Prop} {φ φ' : Nat → Nat} {α α' : Nat → Value} {σ σ' : St}
mutual
theorem frz_ok {a : Nat} {e : Arr} (ho : Own w O e.T e.n (α a) e.l) : ∀ (v : PV) (u : Value), VR w O φ α v u → VR w (Del O (α a)) φ α (frzP a e v) u
  | .int k n, u, h => by simpa [VR, frzP] using h
  | .bool b, u, h => by simpa [VR, frzP] using h
  | .str s, u, h => by simpa [VR, frzP] using h
  | .sl T n l, u, h => by simp only [VR, frzP] at h ⊢; exact h.tr (Tr.drop w fun x hx => hx.1)
  | .nil, u, h => by simpa [VR, frzP] using h
  | .ref x, u, h => by
    unfold frzP
    split
    · rename_i hb
      have hb := Nat.eq_of_beq_eq_true hb
      subst hb
      simp only [VR] at h ⊢
      rw [h.1]
      exact ho.data
    · exact h
  | .ptr b off, u, h => by simpa [VR, frzP] using h
  | .cptr cs off, u, h => by
    simp only [VR, frzP] at h ⊢
    obtain ⟨b, q, h1, h2⟩ := h
    exact ⟨b, q, h1, ElemAt.tr h2 (Tr.drop w fun x hx => hx.1)⟩
  | .eptr x m i off, u, h => by
    unfold frzP
    split
    · trivial
    · exact h
  | .agg cs, u, h => by
    simp only [VR, frzP] at h ⊢
    obtain ⟨us, h1, h2⟩ := h
    exact ⟨us, h1, frzs_ok ho cs us h2⟩
  | .tup cs, u, h => by
    simp only [VR, frzP] at h ⊢
    obtain ⟨us, h1, h2⟩ := h
    exact ⟨us, h1, frzs_ok ho cs us h2⟩
  | .iface T v, u, h => by
    simp only [VR, frzP] at h ⊢
    obtain ⟨x, h1, h2⟩ := h
    exact ⟨x, h1, frz_ok ho v x h2⟩
  | .nilI, u, h => by simpa [VR, frzP] using h
  | .fn f as_ cs, u, h => by
    simp only [VR, frzP] at h ⊢
    obtain ⟨us, vs, h1, h2, h3⟩ := h
    exact ⟨us, vs, h1, frzs_ok ho as_ us h2, frzs_ok ho cs vs h3⟩
  | .nilp, u, h => by simpa [VR, frzP] using h
  | .undef, u, h => by simp only [VR, frzP]
  | .gone, u, h => h
  | .selfp _, u, h => h
  | .err _, u, h => h
  | .mp _, u, h => h
  | .md c, u, h => by simp only [VR, frzP] at h ⊢; exact h.tr (Tr.drop w fun x hx => hx.1)
theorem frzs_ok {a : Nat} {e : Arr} (ho : Own w O e.T e.n (α a) e.l) : ∀ (vs : List PV) (us : List Value), VRs w O φ α vs us → VRs w (Del O (α a)) φ α (frzP.go a e vs) us
  | [], us, h => h
  | v :: vs, us, h => by
    obtain ⟨u, us', h1, h2, h3⟩ := h
    exact ⟨u, us', h1, frz_ok ho v u h2, frzs_ok ho vs us' h3⟩
end
theorem frzGo_map {a : Nat} {e : Arr} : ∀ (vs : List PV), frzP.go a e vs = vs.map (frzP a e)
  | [] => rfl
  | v :: vs => by simp only [frzP.go, List.map_cons, frzGo_map vs]
def DelL (O : Nat → Prop) (α : Nat → Value) (fA : FA) (ls : List Nat) : Nat → Prop := fun x => O x ∧ ∀ a ∈ ls, (fA a).isSome = true → (α a).ownBlock ≠ some x
theorem Rel.freeze1 (h : Rel z fL fB fA V w O φ α) {a : Nat} {e : Arr} (k : fA a = some e) (hT : e.T < 1000000) : Rel z (fun t => (fL t).map (frzP a e)) (fun b => (fB b).map fun x => { x with cs := x.cs.map (frzP a e) }) (del fA a) V w (Del O (α a)) φ α := by
  have ho := (h.arr a e k).un hT
  have td : Tr O w (Del O (α a)) w := Tr.drop w fun x hx => hx.1
  refine ⟨fun t v hv => ?_, fun b e' hb => ?_, fun b e' hb => ?_, fun b c e1 e2 h1 h2 hn => ?_, fun b c e1 e2 h1 h2 hn => ?_, fun b c e1 e2 h1 h2 => ?_, fun b e' hb => ?_, fun b e' hb => ?_, fun x hx => h.bd x hx.1, h.ext, fun x hx => h.only x hx.1, z.hG td h.gl, h.keep⟩
  · obtain ⟨v', h1, rfl⟩ := Option.map_eq_some_iff.1 hv
    obtain ⟨u, h2, h3⟩ := h.env t v' h1
    exact ⟨u, h2, frz_ok ho v' u h3⟩
  · obtain ⟨x, h1, rfl⟩ := Option.map_eq_some_iff.1 hb
    obtain ⟨h2, us, h3, h4⟩ := h.box b x h1
    refine ⟨⟨h2, h.ab a b e x k h1⟩, us, h3, ?_⟩
    rw [← frzGo_map]
    exact frzs_ok ho _ _ h4
  · obtain ⟨h1, h2⟩ := del_some hb
    exact (h.arr b e' h2).down (fun x hx => hx.1) fun x hx => ⟨h.arrO h2 hx, fun hh => h.aa b a e' e h2 k h1 x hx hh⟩
  · obtain ⟨x1, h3, rfl⟩ := Option.map_eq_some_iff.1 h1
    obtain ⟨x2, h4, rfl⟩ := Option.map_eq_some_iff.1 h2
    exact h.bb b c x1 x2 h3 h4 hn
  · exact h.aa b c e1 e2 (del_some h1).2 (del_some h2).2 hn
  · obtain ⟨x2, h4, rfl⟩ := Option.map_eq_some_iff.1 h2
    exact h.ab b c e1 x2 (del_some h1).2 h4
  · obtain ⟨x, h1, rfl⟩ := Option.map_eq_some_iff.1 hb
    exact h.bF b x h1
  · exact h.aF b e' (del_some hb).2
abbrev Rl (z : W0) (σ : St) (V : Env) (w : World) (O : Nat → Prop) (φ : Nat → Nat) (α : Nat → Value) : Prop := Rel z (lk σ.L) (lk σ.B) (lk σ.A) V w O φ α
theorem freeze_sound : ∀ (ls : List Nat) {σ σ' : St} {O : Nat → Prop}, Rl z σ V w O φ α → (∀ x, z.O x → O x) → σ.freeze ls = some σ' → Rl z σ' V w (DelL O α (lk σ.A) ls) φ α ∧ (∀ x, z.O x → DelL O α (lk σ.A) ls x) ∧ Le (lk σ'.A) (lk σ.A) ∧ (∀ a ∈ ls, lk σ'.A a = none)
  | [], σ, σ', O, h, hs, e => by
    simp only [St.freeze, Option.some.injEq] at e
    subst e
    have : DelL O α (lk σ.A) [] = O := by funext x; simp [DelL]
    rw [this]
    exact ⟨h, hs, Le.refl _, by simp⟩
  | a :: ls, σ, σ', O, h, hs, e => by
    unfold St.freeze at e
    split at e
    · rename_i ar ha
      split at e
      · rename_i hm
        rw [Bool.and_eq_true] at hm
        have hT : ar.T < 1000000 := by simpa [Nat.blt_eq] using hm.2
        have hm := hm.1
        have h1 := h.freeze1 ha hT
        have h2 : Rl z ({ (σ.mapV (frzP a ar)) with A := delk a σ.A } : St) V w (Del O (α a)) φ α := h1.mono (fun t v hv => by
          simp only [St.mapV] at hv
          rwa [lk_map] at hv) (fun t v hv => by
          simp only [St.mapV] at hv
          exact (lk_map (fun x : Bx => ({ x with cs := x.cs.map (frzP a ar) } : Bx)) σ.B t).symm.trans hv) Le.delk
        obtain ⟨h3, h4, h5, h6⟩ := freeze_sound ls h2 (fun x hx => ⟨hs x hx, fun hh => by
          rcases h.aF a ar ha x hh with ⟨h5, _⟩ | h5
          · rw [hm] at h5; cases h5
          · have := z.hB x hx; omega⟩) e
        have heq : DelL (Del O (α a)) α (lk (delk a σ.A)) ls = DelL O α (lk σ.A) (a :: ls) := by
          funext x
          apply propext
          simp only [DelL, Del, List.mem_cons, forall_eq_or_imp]
          constructor
          · rintro ⟨⟨k1, k2⟩, k3⟩
            refine ⟨k1, fun _ => k2, fun b hb hsome => ?_⟩
            by_cases hba : b = a
            · subst hba; exact k2
            · exact k3 b hb (by rw [lk_delk_ne hba]; exact hsome)
          · rintro ⟨k1, k2, k3⟩
            refine ⟨⟨k1, k2 (by rw [ha]; rfl)⟩, fun b hb hsome => k3 b hb ?_⟩
            obtain ⟨y, hy⟩ := Option.isSome_iff_exists.1 hsome
            rw [(lk_delk hy).2]; rfl
        rw [← heq]
        refine ⟨h3, h4, fun t v hv => (lk_delk (h5 t v hv)).2, fun b hb => ?_⟩
        rcases List.mem_cons.1 hb with rfl | hb
        · cases hq : lk σ'.A b with
          | none => rfl
          | some y => exact ((lk_delk (h5 b y hq)).1 rfl).elim
        · exact h6 b hb
      · cases e
    · rename_i ha
      obtain ⟨h3, h4, h5, h6⟩ := freeze_sound ls h hs e
      have heq : DelL O α (lk σ.A) ls = DelL O α (lk σ.A) (a :: ls) := by
        funext x
        apply propext
        simp [DelL, ha]
      rw [← heq]
      refine ⟨h3, h4, h5, fun b hb => ?_⟩
      rcases List.mem_cons.1 hb with rfl | hb
      · cases hq : lk σ'.A b with
        | none => rfl
        | some y => rw [h5 b y hq] at ha; cases ha
      · exact h6 b hb

/-! Fresh keys. -/
theorem freshA_spec {a : Nat} (h : σ.freshA a = true) : lk σ.A a = none ∧ (∀ t v, lk σ.L t = some v → keyP (fun _ => True) (fun x => x ≠ a) v) ∧ ∀ b e, lk σ.B b = some e → keyP.go (fun _ => True) (fun x => x ≠ a) e.cs := by
  simp only [St.freshA, Bool.and_eq_true, List.all_eq_true] at h
  obtain ⟨⟨h1, h2⟩, h3⟩ := h
  refine ⟨by simpa using h1, fun t v hv => noK.a (x := 0) (h2 _ (lk_mem hv)), fun b e he => noKs.a (h3 _ (lk_mem he))⟩
theorem freshB_spec {a : Nat} (h : σ.freshB a = true) : (1000 ≤ a ∧ lk σ.B a = none) ∧ (∀ t v, lk σ.L t = some v → keyP (fun x => x ≠ a) (fun _ => True) v) ∧ ∀ b e, lk σ.B b = some e → keyP.go (fun x => x ≠ a) (fun _ => True) e.cs := by
  simp only [St.freshB, Bool.and_eq_true, List.all_eq_true] at h
  obtain ⟨⟨⟨h0, h1⟩, h2⟩, h3⟩ := h
  refine ⟨⟨Nat.le_of_ble_eq_true h0, by simpa using h1⟩, fun t v hv => noK.b (x := 0) (h2 _ (lk_mem hv)), fun b e he => noKs.b (h3 _ (lk_mem he))⟩
theorem Rel.reA (h : Rl z σ V w O φ α) {a : Nat} (hf : σ.freshA a = true) (v : Value) : Rl z σ V w O φ (renA α a v) := by
  obtain ⟨h1, h2, h3⟩ := freshA_spec hf
  refine h.re (kb := fun _ => True) (ka := fun x => x ≠ a) (fun _ _ => trivial) (fun _ _ => rfl) (fun x hx => by simp [renA, hx]) h2 (fun b e k => ⟨trivial, h3 b e k⟩) fun b e k hb => ?_
  subst hb
  rw [h1] at k
  cases k
theorem Rel.reB (h : Rl z σ V w O φ α) {b : Nat} (hf : σ.freshB b = true) (g : Nat) : Rl z σ V w O (ren φ b g) α := by
  obtain ⟨⟨h0, h1⟩, h2, h3⟩ := freshB_spec hf
  refine h.re (kb := fun x => x ≠ b) (ka := fun _ => True) (fun x hx => by omega) (fun x hx => by simp [ren, hx]) (fun _ _ => rfl) h2 (fun c e k => ⟨fun hb => ?_, h3 c e k⟩) fun _ _ _ => trivial
  subst hb
  rw [h1] at k
  cases k

/-! Cuts. -/
theorem VRs.set : ∀ {cs : List PV} {us : List Value} {j : Nat} {v x : PV}, VRs w O φ α cs us → cs[j]? = some v → (∀ u, VR w O φ α v u → VR w O φ α x u) → VRs w O φ α (cs.set j x) us
  | c :: cs, us, 0, v, x, h, e, hx => by
    obtain ⟨u, us', rfl, h2, h3⟩ := h
    simp at e
    subst e
    exact ⟨u, us', rfl, hx u h2, h3⟩
  | c :: cs, us, j + 1, v, x, h, e, hx => by
    obtain ⟨u, us', rfl, h2, h3⟩ := h
    exact ⟨u, us', rfl, h2, VRs.set h3 (by simpa using e) hx⟩
theorem set_sound (h : Rl z σ V w O φ α) {p : Place} {v x : PV} (hp : σ.at p = some v) (hx : ∀ u, VR w O φ α v u → VR w O φ α x u) : Rl z (σ.set x p) V w O φ α := by
  cases p with
  | slot t leaf =>
    unfold St.at at hp
    unfold St.set
    simp only at hp ⊢
    split at hp
    · rename_i v0 hv0
      refine ⟨fun s y hy => ?_, h.box, h.arr, h.bb, h.aa, h.ab, h.bF, h.aF, h.bd, h.ext, h.only, h.gl, h.keep⟩
      rcases lk_setk hy with ⟨rfl, rfl⟩ | ⟨_, h2⟩
      · obtain ⟨u, h3, h4⟩ := h.env _ _ hv0
        refine ⟨u, h3, ?_⟩
        cases leaf with
        | none =>
          simp only [leafOf, Option.some.injEq] at hp
          subst hp
          exact hx u h4
        | some j =>
          cases v0 <;> simp only [leafOf, reduceCtorEq] at hp
          obtain ⟨us, h5, h6⟩ := h4
          exact ⟨us, h5, VRs.set h6 hp hx⟩
      · exact h.env s y h2
    · cases hp
  | cell b j =>
    unfold St.at at hp
    unfold St.set
    simp only at hp ⊢
    split at hp
    · rename_i e he
      refine ⟨h.env, fun c e' hc => ?_, h.arr, fun c c' e1 e2 h1 h2 hn => ?_, h.aa, fun a c e1 e2 h1 h2 => ?_, fun c e' hc => ?_, h.aF, h.bd, h.ext, h.only, h.gl, h.keep⟩
      · rcases lk_setk hc with ⟨rfl, rfl⟩ | ⟨_, h2⟩
        · obtain ⟨h3, us, h4, h5⟩ := h.box _ _ he
          exact ⟨h3, us, h4, VRs.set h5 hp hx⟩
        · exact h.box c e' h2
      · rcases lk_setk h1 with ⟨rfl, rfl⟩ | ⟨n1, j1⟩ <;> rcases lk_setk h2 with ⟨rfl, rfl⟩ | ⟨n2, j2⟩
        · exact (hn rfl).elim
        · exact h.bb _ _ _ _ he j2 hn
        · exact h.bb _ _ _ _ j1 he hn
        · exact h.bb _ _ _ _ j1 j2 hn
      · rcases lk_setk h2 with ⟨rfl, rfl⟩ | ⟨n2, h2⟩
        · exact h.ab _ _ _ _ h1 he
        · exact h.ab _ _ _ _ h1 h2
      · rcases lk_setk hc with ⟨rfl, rfl⟩ | ⟨_, h2⟩
        · exact h.bF _ _ he
        · exact h.bF _ _ h2
    · cases hp
theorem set_A (σ : St) (x : PV) (p : Place) : (σ.set x p).A = σ.A := by
  cases p <;> simp only [St.set] <;> split <;> rfl
theorem OwnX.one' {w : World} {O : Nat → Prop} {T m : Nat} {v : Value} {l : List (List D)} (h : OwnX w O T m v l) : v.oneCell' = true := by
  obtain ⟨p, c, rfl⟩ := h.len
  rfl
theorem home_sound : ∀ (hs : List (Place × Nat × Nat × Nat)) {σ σ' : St} {α : Nat → Value}, Rl z σ V w O φ α → σ.home hs = some σ' → ∃ α', Rl z σ' V w O φ α'
  | [], σ, σ', α, h, e => by
    simp only [St.home, Option.some.injEq] at e
    subst e
    exact ⟨α, h⟩
  | (p, a, T, m) :: hs, σ, σ', α, h, e => by
    unfold St.home at e
    split at e
    · rename_i hp
      split at e
      · rename_i hf
        have h1 := h.reA hf (.slice none 0 0)
        have h2 : Rl z (σ.set (.ref a) p) V w O φ (renA α a (.slice none 0 0)) := set_sound h1 hp fun u hu => by
          simp only [VR] at hu ⊢
          subst hu
          exact ⟨by simp [renA], rfl⟩
        have h3 : Rl z ({ (σ.set (.ref a) p) with A := (a, ⟨true, T, m, []⟩) :: σ.A } : St) V w O φ (renA α a (.slice none 0 0)) := by
          have e1 : renA α a (.slice none 0 0) a = .slice none 0 0 := by simp [renA]
          have h4 := h2.addA (a := a) (e := ⟨true, T, m, []⟩) (by rw [e1]; exact OwnX.nil w O T m) (fun c e' _ _ x _ => by rw [e1]; simp [Value.ownBlock]) (fun b e' _ => by rw [e1]; simp [Value.ownBlock]) (fun x hx => by rw [e1] at hx; simp [Value.ownBlock] at hx)
          refine h4.mono (Le.refl _) (Le.refl _) ?_
          rw [set_A]
          exact Le.cons
        exact home_sound hs h3 e
      · cases e
    · rename_i x hp
      split at e
      · exact home_sound hs h e
      · rename_i hxa
        split at e
        · rename_i ar har hf
          have h1 := h.reA hf (α x)
          have hne := Nat.ne_of_beq_eq_false hxa
          have ex : renA α a (α x) x = α x := by simp [renA]
          have ea : renA α a (α x) a = α x := by simp [renA]
          have h2 : Rl z (σ.set (.ref a) p) V w O φ (renA α a (α x)) := set_sound h1 hp fun u hu => by
            simp only [VR] at hu ⊢
            rw [ea]
            rw [ex] at hu
            exact hu
          have h3 : Rl z ({ (σ.set (.ref a) p) with A := (a, ar) :: delk x σ.A } : St) V w O φ (renA α a (α x)) := by
            have h5 := h2.mono (Le.refl _) (Le.refl _) (fA' := del (lk σ.A) x) (by rw [set_A]; exact fun t v hv => (del_some hv).2)
            have hax := h1.arr x ar har
            have haa := h1.aa
            have hab := h2.ab
            rw [set_A] at hab
            have haF := h1.aF x ar har
            rw [ex] at hax haF
            have h4 := h5.addA (a := a) (e := ar) (by rw [ea]; exact hax) (fun c e' hc _ y hy => by
              rw [ea]
              have := haa c x e' ar (del_some hc).2 har (del_some hc).1 y hy
              rwa [ex] at this) (fun b e' hb => by
              rw [ea]
              have := hab x b ar e' har hb
              rwa [ex] at this) (fun y hy => by rw [ea] at hy; exact haF y hy)
            refine h4.mono (Le.refl _) (Le.refl _) ?_
            intro t v hv
            rcases lk_cons hv with ⟨rfl, rfl⟩ | ⟨h7, h8⟩
            · simp [upd]
            · simp only [upd, if_neg h7]
              exact Le.delk _ _ h8
          exact home_sound hs h3 e
        · cases e
    · cases e
theorem nilD_sound : ∀ (l : List (Place × Nat × Nat)) {σ σ' : St}, Rl z σ V w O φ α → σ.nilD l = some σ' → Rl z σ' V w O φ α
  | [], σ, σ', h, e => by
    simp only [St.nilD, Option.some.injEq] at e
    subst e
    exact h
  | (p, T, m) :: r, σ, σ', h, e => by
    unfold St.nilD at e
    split at e
    · rename_i hp
      exact nilD_sound r (set_sound h hp fun u hu => by
        simp only [VR] at hu
        subst hu
        exact .inl ⟨⟨_, rfl⟩, rfl⟩) e
    · exact nilD_sound r h e
    · cases e
theorem cut0_sound (h : Rl z σ V w O φ α) {c : Cut} (e : σ.cut0 c = some σ') : ∃ α', Rl z σ' V w O φ α' := by
  unfold St.cut0 at e
  split at e
  · rename_i s hs
    split at e
    · rename_i s2 hs2
      cases e
      obtain ⟨α', h1⟩ := home_sound c.H (σ := { σ with L := keepK c.L σ.L, B := keepK c.B σ.B }) (h.mono (fun _ _ => lk_keepK) (fun _ _ => lk_keepK) (Le.refl _)) hs
      exact ⟨α', (nilD_sound c.N h1 hs2).mono (Le.refl _) (Le.refl _) (fun _ _ => lk_keepK)⟩
    · cases e
  · cases e
theorem itN_sound : ∀ (l : List Nat) {σ : St}, Rl z σ V w O φ α → Rl z (σ.itN l) V w O φ α
  | [], _, h => h
  | b :: r, σ, h => by
    unfold St.itN
    split
    · rename_i ky g cur rem hp
      refine itN_sound r (set_sound h hp fun u hu => ?_)
      obtain ⟨m, seen, clock, es, h1, h2, h3, _⟩ := hu
      exact ⟨m, seen, clock, es, h1, h2, h3, trivial⟩
    · exact itN_sound r h
theorem cut_sound (h : Rl z σ V w O φ α) (hs : ∀ x, z.O x → O x) {c : Cut} (e : σ.cut c = some σ') : ∃ O' α', Rl z σ' V w O' φ α' ∧ ∀ x, z.O x → O' x := by
  unfold St.cut at e
  split at e
  · rename_i s h1
    obtain ⟨k1, k2, _⟩ := freeze_sound _ h hs h1
    obtain ⟨α', k3⟩ := cut0_sound (itN_sound c.I k1) e
    exact ⟨_, α', k3, k2⟩
  · cases e
end
end
section
open Go.RowKit Go.Lk
section
variable {z : W0} {fL fL' : FL} {fB fB' : FB} {fA fA' : FA} {V : Env} {w w' : World} {O O' : Nat → Prop} {φ φ' : Nat → Nat} {α α' : Nat → Value} {σ σ' : St}
theorem Ext.after (h : Rel z fL fB fA V w O φ α) {H : Nat → Prop} (x : Ext H w w') (hH : ∀ y, H y → z.F y ∨ z.w.heap.size ≤ y) : Ext z.F z.w w' := h.ext.step x fun y hy hh => by
  rcases hH y hh with h1 | h1
  · exact h1
  · omega
theorem Bd.new {b : Nat} {T : TypeId} {us : List Value} {H : Nat → Prop} (hB : Bd O w) (x : Ext H w w') (hb : BoxQ w' b T us) : Bd (Ins O b) w' := fun y hy => by
  rcases hy with rfl | hy
  · exact hb.lt
  · exact Nat.lt_of_lt_of_le (hB y hy) x.size
theorem Rel.newBG (h : Rl z σ V w O φ α) {d key b : Nat} {T : TypeId} {us : List Value} {cs : List PV} {pv : PV} {pu : Value} (hf : σ.freshB key = true) (hb : BoxQ w' b T us) (x : Ext Nowhere w w') (hw : w.heap.size ≤ b) (hv : VRs w O φ α cs us) (kc : keyP.go (fun y => y ≠ key) (fun _ => True) cs)
    (hp : VR w' (Ins O b) (ren φ key b) α pv pu) : Rl z { σ with B := (key, ⟨T, cs⟩) :: σ.B, L := (d, pv) :: σ.L } ((d, pu) :: V) w' (Ins O b) (ren φ key b) α := by
  have t : Tr O w (Ins O b) w' := Tr.of_new x (fun _ _ hh => hh.elim) hw
  have h1 := h.reB hf b
  have h2 := h1.move x t (fun y hy => .inr hy) (Bd.new h.bd x hb) (fun _ _ _ hh => hh) (fun _ _ _ _ _ hh => hh) (Ext.after h x fun _ hh => hh.elim) fun y hy => by
    rcases hy with rfl | hy
    · exact .inr (Nat.le_trans h.ext.size hw)
    · exact h.only y hy
  have er : ren φ key b key = b := by simp [ren]
  have hv2 : VRs w' (Ins O b) (ren φ key b) α cs us := VRs.re (kb := fun y => y ≠ key) (ka := fun _ => True) (fun y hy => by simp [ren, hy]) (fun _ _ => rfl) _ _ kc (VRs.tr t _ _ hv)
  have h3 := h2.addB (b := key) (e := ⟨T, cs⟩) (us := us) (.inl er) (by rw [er]; exact hb) hv2 (fun c e' hc _ => by
    rw [er]
    have := h1.boxLt hc
    omega) (fun a e' ha hh => by
    rw [er] at hh
    have := h1.arrLt ha hh
    omega) (by rw [er]; exact .inr (Nat.le_trans h.ext.size hw))
  have h4 := h3.put (d := d) (v := pv) (u := pu) hp
  exact h4.mono Le.cons Le.cons (Le.refl _)
theorem Rel.newB (h : Rl z σ V w O φ α) {d key b : Nat} {T : TypeId} {us : List Value} {cs : List PV} (hf : σ.freshB key = true) (hb : BoxQ w' b T us) (x : Ext Nowhere w w') (hw : w.heap.size ≤ b) (hv : VRs w O φ α cs us) (kc : keyP.go (fun y => y ≠ key) (fun _ => True) cs) :
    Rl z { σ with B := (key, ⟨T, cs⟩) :: σ.B, L := (d, .ptr key 0) :: σ.L } ((d, .pointer (some ⟨b, 0, none⟩)) :: V) w' (Ins O b) (ren φ key b) α :=
  h.newBG hf hb x hw hv kc (by simp only [VR]; rw [show ren φ key b key = b from by simp [ren]])
theorem Rel.newA (h : Rl z σ V w O φ α) {d key : Nat} {v : Value} {e : Arr} {H : Nat → Prop} (hf : σ.freshA key = true) (x : Ext H w w') (t : Tr O w O' w') (more : ∀ y, O y → O' y) (bd' : Bd O' w') (only' : ∀ y, O' y → O y ∨ w.heap.size ≤ y)
    (hB : ∀ b e, lk σ.B b = some e → ¬ H (φ b)) (hA : ∀ a e, lk σ.A a = some e → ∀ y, (α a).ownBlock = some y → ¬ H y) (hH : ∀ y, H y → z.F y ∨ z.w.heap.size ≤ y) (ho : OwnX w' O' e.T e.n v e.l)
    (h1 : ∀ y, v.ownBlock = some y → H y ∨ w.heap.size ≤ y) (h3 : ∀ y, v.ownBlock = some y → (e.mine = false ∧ z.F y) ∨ z.w.heap.size ≤ y) :
    Rl z { σ with A := (key, e) :: σ.A, L := (d, .ref key) :: σ.L } ((d, v) :: V) w' O' φ (renA α key v) := by
  have k1 := h.reA hf v
  have er : renA α key v key = v := by simp [renA]
  obtain ⟨f1, f2, f3⟩ := freshA_spec hf
  have hA' : ∀ a e, lk σ.A a = some e → renA α key v a = α a := fun a e ha => by
    have : a ≠ key := fun hh => by subst hh; rw [f1] at ha; cases ha
    simp [renA, this]
  have k2 := k1.move x t more bd' hB (fun a e ha y hy => by rw [hA' a e ha] at hy; exact hA a e ha y hy) (Ext.after h x hH) fun y hy => by
    rcases only' y hy with hy | hy
    · exact h.only y hy
    · exact .inr (Nat.le_trans h.ext.size hy)
  have k3 := k2.addA (a := key) (e := e) (by rw [er]; exact ho) (fun c e' hc _ y hy => by
    rw [er]
    intro hh
    rw [hA' c e' hc] at hy
    rcases h1 y hh with h2 | h2
    · exact hA c e' hc y hy h2
    · have := h.arrLt hc hy; omega) (fun b e' hb => by
    rw [er]
    intro hh
    rcases h1 _ hh with h2 | h2
    · exact hB b e' hb h2
    · have := h.boxLt hb; omega) (fun y hy => by rw [er] at hy; exact h3 y hy)
  have k4 := k3.put (d := d) (v := .ref key) (u := v) ⟨er.symm, OwnX.one' ho⟩
  exact k4.mono Le.cons (Le.refl _) Le.cons
theorem Rel.putS (h : Rl z σ V w O φ α) {d : Nat} {v : PV} {u : Value} (hv : VR w O φ α v u) : Rl z { σ with L := (d, v) :: σ.L } ((d, u) :: V) w O φ α := (h.put hv).mono Le.cons (Le.refl _) (Le.refl _)
def putE (d : Option Nat) (u : Value) (V : Env) : Env := match d with
  | some d => (d, u) :: V
  | none => V
theorem Rel.putO (h : Rl z σ V w O φ α) (d : Option Nat) {v : PV} {u : Value} (hv : VR w O φ α v u) : Rl z (σ.put d v) (putE d u V) w O φ α := by
  cases d with
  | none => exact h
  | some d => exact h.putS hv
/-- The world turned in nothing that the state knows. -/
theorem Rel.moveN (h : Rl z σ V w O φ α) (x : Ext Nowhere w w') : Rl z σ V w' O φ α :=
  h.move x (Tr.of_ext x fun _ _ hh => hh.elim) (fun _ hy => hy) (h.bd.ext x) (fun _ _ _ hh => hh) (fun _ _ _ _ _ hh => hh) (Ext.after h x fun _ hh => hh.elim) h.only
theorem Rel.newAN (h : Rl z σ V w O φ α) {d key b T m len : Nat} {us : List Value} {l : List (List D)} {mine : Bool} (hT : T < 1000000) (hf : σ.freshA key = true) (hb : BoxAt w' b T us) (x : Ext Nowhere w w') (hw : w.heap.size ≤ b) (hl : l.length = len) (hm : len ≤ maxLen) (hs : us.length = len * m) (hr : RDl w O m l us) :
    Rl z { σ with A := (key, ⟨mine, T, m, l⟩) :: σ.A, L := (d, .ref key) :: σ.L } ((d, .slice (some ⟨b, 0, none⟩) len len) :: V) w' (Ins O b) φ (renA α key (.slice (some ⟨b, 0, none⟩) len len)) := by
  have t : Tr O w (Ins O b) w' := Tr.of_new x (fun _ _ hh => hh.elim) hw
  exact h.newA hf x t (fun y hy => .inr hy) (Bd.new h.bd x (T := T) (us := us) (.inl ⟨hT, hb⟩)) (fun y hy => by
    rcases hy with rfl | hy
    · exact .inr hw
    · exact .inl hy) (fun _ _ _ hh => hh) (fun _ _ _ _ _ hh => hh) (fun _ hh => hh.elim) (.inl ⟨hT, Own.of_new hb hl hm hs (hr.tr t) (.inl rfl)⟩) (fun y hy => by
    simp only [Value.ownBlock, Option.some.injEq] at hy
    subst hy
    exact .inr hw) (fun y hy => by
    simp only [Value.ownBlock, Option.some.injEq] at hy
    subst hy
    exact .inr (Nat.le_trans h.ext.size hw))
theorem Rel.newBS (h : Rl z σ V w O φ α) {key b : Nat} {e : Bx} {us : List Value} {cs : List PV} (hk : lk σ.B key = some e) (hb : BoxQ w' (φ key) e.T us) (x : Ext (At (φ key)) w w') (hv : VRs w O φ α cs us) (_ : b = b) :
    Rl z { σ with B := setk key ⟨e.T, cs⟩ σ.B } V w' O φ α := by
  have ho := (h.box key e hk).1
  have t : Tr O w O w' := Tr.of_ext x fun y _ hy => by cases hy; exact ho
  have h1 := h.mono (Le.refl _) (fB' := del (lk σ.B) key) (fun t v hv => (del_some hv).2) (Le.refl _)
  have h2 := h1.move x t (fun _ hy => hy) (h.bd.ext x) (fun c e' hc hh => by
    obtain ⟨n1, hc⟩ := del_some hc
    exact h.bb c key e' e hc hk n1 hh) (fun a e' ha y hy hh => by
    cases hh
    exact h.ab a key e' e ha hk hy) (Ext.after h x fun y hy => by cases hy; exact (h.bF key e hk).elim (fun q => .inl q.2) .inr) h.only
  have h3 := h2.addB (b := key) (e := ⟨e.T, cs⟩) (us := us) ho hb (VRs.tr t _ _ hv) (fun c e' hc n1 hh => h.bb c key e' e (del_some hc).2 hk n1 hh) (fun a e' ha hh => h.ab a key e' e ha hk hh) (h.bF key e hk)
  exact h3.mono (Le.refl _) Le.setk (Le.refl _)
theorem Rel.storeA (h : Rl z σ V w O φ α) {a : Nat} {e : Arr} {l : List (List D)} (hk : lk σ.A a = some e) (ho : OwnX w' O e.T e.n (α a) l) (x : Ext (fun y => (α a).ownBlock = some y) w w') :
    Rl z { σ with A := setk a { e with l := l } σ.A } V w' O φ α := by
  have t : Tr O w O w' := Tr.of_ext x fun y _ hy => h.arrO hk hy
  have h1 := h.mono (Le.refl _) (Le.refl _) (fA' := del (lk σ.A) a) (fun t v hv => (del_some hv).2)
  have h2 := h1.move x t (fun _ hy => hy) (h.bd.ext x) (fun c e' hc hh => h.ab a c e e' hk hc hh) (fun c e' hc y hy hh => by
    obtain ⟨n1, hc⟩ := del_some hc
    exact h.aa c a e' e hc hk n1 y hy hh) (Ext.after h x fun y hy => (h.aF a e hk y hy).elim (fun q => .inl q.2) .inr) h.only
  have h3 := h2.addA (a := a) (e := { e with l := l }) ho (fun c e' hc n1 y hy hh => h.aa c a e' e (del_some hc).2 hk n1 y hy hh) (fun b e' hb hh => h.ab a b e e' hk hb hh) (h.aF a e hk)
  exact h3.mono (Le.refl _) (Le.refl _) Le.setk
/-! Elements. -/
theorem RDs.len {w : World} {O : Nat → Prop} : ∀ {l : List D} {us : List Value}, RDs w O l us → us.length = l.length
  | [], us, h => by cases h; rfl
  | d :: l, us, h => by
    obtain ⟨v, vs, rfl, _, h⟩ := h
    simp [RDs.len h]
theorem toD_ok {c : Option (Nat × Nat)} {v : PV} {d : D} {u : Value} (e : toD c v = some d) (h : VR w O φ α v u) : RD w O d u := by
  unfold toD at e
  split at e
  · cases e; simpa [VR, RD] using h
  · cases e; simpa [VR, RD] using h
  · cases e; simpa [VR, RD] using h
  · cases e; exact h
  · split at e
    · cases e
      simp only [VR] at h
      subst h
      exact .inl ⟨⟨_, rfl⟩, rfl⟩
    · cases e
  · cases e
    obtain ⟨us, vs, rfl, h1, h2⟩ := h
    obtain rfl : us = [] := h1
    obtain rfl : vs = [] := h2
    rfl
  · cases e
theorem toDs_ok : ∀ {cs : List PV} {ct : List (Option (Nat × Nat))} {ds : List D} {us : List Value}, toDs ct cs = some ds → VRs w O φ α cs us → RDs w O ds us
  | [], ct, ds, us, e, h => by
    unfold toDs at e
    cases e
    exact h
  | v :: vs, ct, ds, us, e, h => by
    obtain ⟨u, us', rfl, h2, h3⟩ := h
    cases ct with
    | nil =>
      simp only [toDs] at e
      split at e
      · rename_i d ds' h4 h5
        cases e
        exact ⟨u, us', rfl, toD_ok h4 h2, toDs_ok h5 h3⟩
      · cases e
    | cons c ct =>
      simp only [toDs] at e
      split at e
      · rename_i d ds' h4 h5
        cases e
        exact ⟨u, us', rfl, toD_ok h4 h2, toDs_ok h5 h3⟩
      · cases e
theorem flat_sound {ct : List (Option (Nat × Nat))} {m : Nat} : ∀ {us : List PV} {is : List Nat} {xs : List Value} {ds : List (List D)} {i : Nat}, rangeOk i is = true → is.length = us.length → VRs w O φ α us xs → us.all (fun x => !(isUndef x)) = true → elsD ct us = some ds → ds.all (fun x => Nat.beq x.length m) = true →
    ∃ cs, flat m i (is.zip xs) = some cs ∧ RDl w O m ds cs ∧ cs.length = us.length * m ∧ ds.length = us.length
  | [], is, xs, ds, i, _, hl, h, _, e, _ => by
    cases h
    unfold elsD at e
    cases e
    simp only [List.zip_nil_right, flat]
    exact ⟨[], rfl, trivial, by simp, rfl⟩
  | u :: us, is, xs, ds, i, hr, hl, h, hu, e, hm => by
    obtain ⟨x, xs', rfl, h2, h3⟩ := h
    cases is with
    | nil => simp at hl
    | cons j is =>
      simp only [rangeOk, Bool.and_eq_true] at hr
      simp only [List.all_cons, Bool.and_eq_true] at hu
      unfold elsD at e
      split at e
      · rename_i d ds' h4 h5
        cases e
        simp only [List.all_cons, Bool.and_eq_true] at hm
        obtain ⟨cs, k1, k2, k3, k4⟩ := flat_sound hr.2 (by simpa using hl) h3 hu.2 h5 hm.2
        have h6 := toDs_ok h4 (h2.cells (by simpa using hu.1))
        have h7 := RDs.len h6
        have h8 := Nat.eq_of_beq_eq_true hm.1
        have h9 : x.cells.size = m := by rw [← h8, ← h7, Array.length_toList]
        refine ⟨x.cells.toList ++ cs, ?_, ?_, ?_, by simp [k4]⟩
        · simp only [List.zip_cons_cons]
          unfold flat
          rw [hr.1, k1, h9, Nat.beq_refl]
        · refine ⟨?_, ?_⟩
          · have : (x.cells.toList ++ cs).take m = x.cells.toList := by rw [← h9, ← Array.length_toList]; exact List.take_left
            rw [this]; exact h6
          · have : (x.cells.toList ++ cs).drop m = cs := by rw [← h9, ← Array.length_toList]; exact List.drop_left
            rw [this]; exact k2
        · rw [List.length_append, k3, Array.length_toList, h9, List.length_cons, Nat.succ_mul]; omega
      · cases e
theorem dby_ok : ∀ {l : List (List D)} {s : List UInt8}, dby l = some s → ∃ xs : List Int, l = xs.map (eI .u8) ∧ s = byt xs
  | [], s, e => by cases e; exact ⟨[], rfl, rfl⟩
  | x :: r, s, e => by
    unfold dby at e
    split at e
    · cases e; exact ⟨[], by assumption, rfl⟩
    · rename_i n r' hx
      split at e
      · rename_i s' h1
        cases e
        simp only [List.cons.injEq] at hx
        obtain ⟨rfl, rfl⟩ := hx
        obtain ⟨xs, rfl, rfl⟩ := dby_ok h1
        exact ⟨n :: xs, rfl, rfl⟩
      · cases e
    · cases e
end
/-- The state is true of the slots and the world. -/
def RS (z : W0) (σ : St) (V : Env) (w : World) : Prop := ∃ O φ α, Rl z σ V w O φ α ∧ ∀ x, z.O x → O x
/-- What is to be shown where a panic leaves the function. -/
def PanOk (z : W0) (C : Cx) (n : Nat) (ds : List Deferred) (v : PV) (s : St) : Prop := ∀ V w O φ α u φ' α', Rl z s V w O φ α → (∀ x, z.O x → O x) → VR w O φ' α' v u → ∀ a, Has n V a → a.defers = ds → PN C a [{ v := u, recovered := false }] w
def NX (z : W0) (C : Cx) (n : Nat) (ds : List Deferred) (ops : Array Oper) (rest : List Oper) (K : Act → World → Prop) (s : St) : Prop := ∀ V w, RS z s V w → OW C n ds ops rest K V w
theorem Rel.tr0 {z : W0} {fL : FL} {fB : FB} {fA : FA} {V : Env} {w : World} {O : Nat → Prop} {φ : Nat → Nat} {α : Nat → Value} (h : Rel z fL fB fA V w O φ α) : Tr z.O z.w O w :=
  ⟨h.ext.size, fun b hb ho => h.ext.block b hb fun hf => ho (z.hF b hf), fun b hb ho ho' => by
    rcases h.only b ho' with h1 | h1
    · exact ho h1
    · omega⟩
theorem ofV1_key {kb ka : Nat → Prop} (v : Value) : keyP kb ka (ofV1 v) := by
  unfold ofV1
  split <;> trivial
theorem ofV1s_key {kb ka : Nat → Prop} : ∀ (l : List Value), keyP.go kb ka (l.map ofV1)
  | [] => trivial
  | v :: l => ⟨ofV1_key v, ofV1s_key l⟩
theorem ofV_key {kb ka : Nat → Prop} (v : Value) : keyP kb ka (ofV v) := by
  unfold ofV
  split
  · exact ofV1s_key _
  · exact ofV1_key v
theorem cells_key {kb ka : Nat → Prop} {v : PV} (h : keyP kb ka v) : keyP.go kb ka (cellsOf v) := by
  cases v with
  | agg cs => exact h
  | _ => exact ⟨h, trivial⟩
theorem ev_key {kb ka : Nat → Prop} {σ : St} (hL : ∀ t v, lk σ.L t = some v → keyP kb ka v) {x : Operand} {v : PV} (e : σ.ev x = some v) : keyP kb ka v := by
  cases x with
  | tmp t => exact hL t v e
  | const c => cases e; exact ofV_key c
  | global g => cases e
  | func f =>
    simp only [St.ev] at e
    split at e
    · cases e
    · cases e; exact ⟨trivial, trivial⟩
theorem kyOf_some {td : TypeDesc} {ky : Option IntKind} (h : kyOf td = some ky) : td = kdT ky := by
  unfold kyOf at h
  split at h <;> first | (cases h; rfl) | cases h
theorem toKey_ok {w : World} {O : Nat → Prop} {φ : Nat → Nat} {α : Nat → Value} {ky : Option IntKind} {v : PV} {kd : D} {u : Value} (e : toKey ky v = some kd) (h : VR w O φ α v u) : keyD ky kd ∧ RD w O kd u := by
  unfold toKey at e
  split at e
  · split at e
    · rename_i hb
      cases e
      exact ⟨(ikEq_eq hb).symm, by simpa [VR, RD] using h⟩
    · cases e
  · cases e
    exact ⟨trivial, by simpa [VR, RD] using h⟩
  · cases e
theorem kyEq_eq {a b : Option IntKind} (h : kyEq a b = true) : a = b := by
  unfold kyEq at h
  split at h
  · rw [ikEq_eq h]
  · rfl
  · cases h
theorem bq_eq {a b : Bool} (h : bq a b = true) : a = b := by
  cases a <;> cases b <;> first | rfl | cases h
theorem mapAt_some {σ : St} {ky : Option IntKind} {g : Bool} {u : PV} {m : Nat × List (List D)} (h : mapAt σ ky g u = some m) : u = .mp m.1 ∧ ∃ e, lk σ.B m.1 = some e ∧ e.cs = [.md (.cont ky g m.2)] ∧ e.T = 1000000 := by
  unfold mapAt at h
  split at h
  · split at h
    · rename_i e he
      split at h
      · rename_i ky' g' l hc
        split at h
        · rename_i hb
          simp only [Bool.and_eq_true] at hb
          cases h
          rw [kyEq_eq hb.1.2, bq_eq hb.2]
          exact ⟨rfl, e, he, hc, Nat.eq_of_beq_eq_true hb.1.1⟩
        · cases h
      · cases h
    · cases h
  · cases h
theorem aggOf_valR {w : World} {O : Nat → Prop} {φ : Nat → Nat} {α : Nat → Value} {g : Bool} {n : Nat} {ds : List D} {r : PV} {v : Value} (e : aggOf g n (ofDs ds) = some r) (h : valR w O g ds v) : VR w O φ α r v := by
  cases g with
  | true =>
    obtain ⟨us, rfl, h2⟩ := h
    unfold aggOf at e
    simp only at e
    split at e
    · cases e
      exact ⟨us, rfl, ofDs_ok h2⟩
    · cases e
  | false =>
    obtain ⟨d, rfl, h2⟩ := h
    simp only [ofDs, List.map_cons, List.map_nil, aggOf, Option.some.injEq] at e
    subst e
    exact ofD_ok h2
theorem valR_of {w : World} {O : Nat → Prop} {φ : Nat → Nat} {α : Nat → Value} {g : Bool} {ct : List (Option (Nat × Nat))} {ds : List D} {v : PV} {u : Value} (hq : aggQ g v = true) (e : toDs ct (cellsOf v) = some ds) (h : VR w O φ α v u) : valR w O g ds u := by
  cases g with
  | true =>
    cases v <;> simp only [aggQ, Bool.false_eq_true] at hq
    obtain ⟨us, rfl, h2⟩ := h
    exact ⟨us, rfl, toDs_ok e h2⟩
  | false =>
    have h1 : oneP v = true := by simpa [aggQ] using hq
    have h2 : cellsOf v = [v] := by cases v <;> first | rfl | simp [oneP] at h1
    rw [h2] at e
    have h3 := toDs_ok e (us := [u]) (w := w) (O := O) (φ := φ) (α := α) ⟨u, [], rfl, h, rfl⟩
    cases ds with
    | nil => cases h3
    | cons d ds =>
      obtain ⟨v', vs, h4, h5, h6⟩ := h3
      cases h4
      cases ds with
      | nil => exact ⟨d, rfl, h5⟩
      | cons d2 ds =>
        obtain ⟨_, _, h7, _⟩ := h6
        cases h7
theorem OW.valN {C : Cx} {n : Nat} {ds : List Deferred} {k : Act → World → Prop} {L : Env} {w : World} {ops : Array Oper} {o : Oper} {rest : List Oper} {v : Value} {w' : World} (hg : o.guard = none) (hd : o.dst = none)
    (hr : ∀ a, Has n L a → (execOp a.eval o).run C.P w = .ok (.value v) w') (h : OW C n ds ops rest k L w') : OW C n ds ops (o :: rest) k L w := fun a ha hds =>
  wpList_plain hg fun K hK => by
    unfold Oper.wp
    rw [hr a ha, Oper.upon_value, hd]
    exact hK _ _ (h _ ha.same (by simpa [Act.put] using hds))
theorem filter_born {b : Nat} : ∀ (L : List MapEntry), (∀ x ∈ L, x.born ≠ b) → (L.filter fun x => !(x.born == b)) = L
  | [], _ => rfl
  | x :: L, h => by
    rw [List.filter_cons_of_pos (by simpa using h x (by simp)), filter_born L fun y hy => h y (by simp [hy])]
theorem filter_erase : ∀ (L : List MapEntry) (i : Nat) (e : MapEntry), (L.map (·.born)).Nodup → L[i]? = some e → (L.filter fun x => !(x.born == e.born)) = L.eraseIdx i
  | x :: L, 0, e, hn, h => by
    simp only [List.getElem?_cons_zero, Option.some.injEq] at h
    subst h
    simp only [List.map_cons, List.nodup_cons] at hn
    rw [List.filter_cons_of_neg (by simp), List.eraseIdx_cons_zero, filter_born]
    intro y hy e
    exact hn.1 (e ▸ List.mem_map_of_mem hy)
  | x :: L, i + 1, e, hn, h => by
    simp only [List.getElem?_cons_succ] at h
    simp only [List.map_cons, List.nodup_cons] at hn
    have hm : e.born ∈ L.map (·.born) := List.mem_map_of_mem (List.mem_of_getElem? h)
    rw [List.filter_cons_of_pos (by
      simp only [Bool.not_eq_true', beq_eq_false_iff_ne, ne_eq]
      intro q
      exact hn.1 (q ▸ hm)), List.eraseIdx_cons_succ, filter_erase L i e hn.2 h]
  | [], i, e, _, h => by simp at h
theorem leftL_push {es : List MapEntry} {seen : Array Nat} {i : Nat} {e : MapEntry} (hn : (es.map (·.born)).Nodup) (h : (leftL es seen.toList)[i]? = some e) : leftL es (seen.push e.born).toList = (leftL es seen.toList).eraseIdx i := by
  rw [← filter_erase (leftL es seen.toList) i e (List.Nodup.sublist (List.Sublist.map _ List.filter_sublist) hn) h]
  unfold leftL
  rw [List.filter_filter]
  congr 1
  funext x
  simp only [Array.toList_push, List.contains_eq_mem, List.mem_append, List.mem_singleton]
  by_cases h1 : x.born = e.born <;> by_cases h2 : x.born ∈ seen.toList <;> simp [h1, h2]
theorem Rel.dropB {z : W0} {V : Env} {w : World} {O : Nat → Prop} {φ : Nat → Nat} {α : Nat → Value} {σ : St} (h : Rl z σ V w O φ α) {b : Nat} {e : Bx} (hb : lk σ.B b = some e) : Rl z { σ with B := delk b σ.B } V w (fun x => O x ∧ x ≠ φ b) φ α := by
  have td : Tr O w (fun x => O x ∧ x ≠ φ b) w := Tr.drop w fun x hx => hx.1
  refine ⟨fun t v hv => ?_, fun c e' hc => ?_, fun a e' ha => ?_, fun c d e1 e2 h1 h2 hn => h.bb c d e1 e2 (lk_delk h1).2 (lk_delk h2).2 hn, h.aa, fun a c e1 e2 h1 h2 => h.ab a c e1 e2 h1 (lk_delk h2).2, fun c e' hc => h.bF c e' (lk_delk hc).2, h.aF, fun x hx => h.bd x hx.1, h.ext, fun x hx => h.only x hx.1, z.hG td h.gl, h.keep⟩
  · obtain ⟨u, h2, h3⟩ := h.env t v hv
    exact ⟨u, h2, h3.tr td⟩
  · obtain ⟨n1, hc⟩ := lk_delk hc
    obtain ⟨h2, us, h3, h4⟩ := h.box c e' hc
    exact ⟨⟨h2, h.bb c b e' e hc hb n1⟩, us, h3, VRs.tr td _ _ h4⟩
  · exact (h.arr a e' ha).down (fun x hx => hx.1) fun x hx => ⟨h.arrO ha hx, fun q => h.ab a b e' e ha hb (q ▸ hx)⟩
section
variable {z : W0} {V : Env} {w : World} {O : Nat → Prop} {φ : Nat → Nat} {α : Nat → Value} {σ : St} {C : Cx} {n : Nat} {ops : Array Oper} {o : Oper} {rest : List Oper} {K : Act → World → Prop}
theorem roSt_some {ann : Ann} {x : Operand} {d : Nat} (h : roSt ann x = some d) : x = .tmp d := by
  unfold roSt at h
  split at h
  · split at h
    · cases h; rfl
    · cases h
  · cases h
theorem lk_setk_eq {β : Type} {a : Nat} {x v : β} : ∀ {l : List (Nat × β)}, lk l a = some v → lk (setk a x l) a = some x
  | [], h => by cases h
  | (s, y) :: r, h => by
    unfold setk
    split
    · rename_i e
      have e := Nat.eq_of_beq_eq_true e
      subst e
      unfold lk
      simp
    · rename_i e
      unfold lk at h ⊢
      rw [e] at h ⊢
      exact lk_setk_eq h
theorem lk_setk_ne {β : Type} {a t : Nat} {x : β} (hn : t ≠ a) : ∀ {l : List (Nat × β)}, lk (setk a x l) t = lk l t
  | [] => rfl
  | (s, y) :: r => by
    unfold setk
    split
    · rename_i e
      have e := Nat.eq_of_beq_eq_true e
      subst e
      unfold lk
      have : Nat.beq s t = false := by
        cases q : Nat.beq s t with
        | false => rfl
        | true => exact (hn (Nat.eq_of_beq_eq_true q).symm).elim
      rw [this]
    · unfold lk
      rw [lk_setk_ne hn]
theorem delk_setk {β : Type} {a t : Nat} {x v : β} {l : List (Nat × β)} (h : lk (delk a l) t = some v) : lk (delk a (setk a x l)) t = some v := by
  obtain ⟨h1, h2⟩ := lk_delk h
  rw [lk_delk_ne h1, lk_setk_ne h1]
  exact h2
theorem born_sound {key E : Nat} {k : St → Prop} (h : Rl z σ V w O φ α) (hw : σ.born key E k) : ∃ s α', Rl z s V w O φ α' ∧ k s := by
  unfold St.born at hw
  obtain ⟨s, e1, hw⟩ := wt_some hw
  obtain ⟨α', h2⟩ := home_sound _ h e1
  split at hw
  · rename_i e2
    exact ⟨_, α', set_sound h2 e2 fun u hu => by simp only [VR] at hu ⊢; exact .inl hu, hw⟩
  · exact hw.elim
theorem OW.panD {ds : List Deferred} {x : Operand} {T : TypeId} {u : Value} (hg : o.guard = none) (ho : o.op = .panic x) (hx : Lk.ev V x = some (.iface T u)) (h : ∀ a, Has n V a → a.defers = ds → PN C a [{ v := .iface T u, recovered := false }] w) : OW C n ds ops (o :: rest) K V w := fun a ha hds =>
  wpList_plain hg fun K hK => by
    have hr : (execOp a.eval o).run C.P w = .halt (.panic (.iface T u)) w := by simp [execOp, ho, ha.ev hx, Instr.panic]
    unfold Oper.wp
    rw [hr, Oper.upon_panic]
    exact h a ha hds
set_option maxRecDepth 100000 in
theorem actM_sound {ds : List Deferred} {tb : Tb} {cty : List (Nat × List (Option (Nat × Nat)))} {k : St → Prop} (ht : TbOk C.P tb) (hg : o.guard = none) (hn : dOk n o.dst = true) (h : Rl z σ V w O φ α) (hs : ∀ x, z.O x → O x)
    (hk : ∀ s, k s → NX z C n ds ops rest K s) (hw : actM tb cty σ o k) : OW C n ds ops (o :: rest) K V w := by
  unfold actM at hw
  split at hw
  case h_1 =>
    rename_i t ho
    replace hw := wt_some hw
    obtain ⟨d, hd, hw⟩ := hw
    rw [hd] at hn
    split at hw
    · rename_i kt et hu
      replace hw := wt_some hw
      obtain ⟨ky, h1, hw⟩ := hw
      replace hw := wt_some hw
      obtain ⟨s, h2, hw⟩ := hw
      split at hw
      · rename_i hf
        refine OW.val (v := .map (some w.heap.size)) (w' := w.alloc (.map #[] 0)) hg hd hn (fun a ha => by simp [execOp, ho, Instr.makeMap]) ?_
        have hx : Ext Nowhere w (w.alloc (.map #[] 0)) := Ext.alloc _ _ _
        refine hk _ hw _ _ ⟨_, _, _, h.newBG (T := 1000000) (us := [encE []]) hf (.inr (.inl ⟨by omega, by omega, #[], 0, heap_alloc_new w _, Stamped.nil, rfl⟩)) hx (Nat.le_refl _) ⟨_, [], rfl, ⟨[], rfl, trivial⟩, rfl⟩ ⟨trivial, trivial⟩ (by simp [VR, ren]), fun y hy => .inr (hs y hy)⟩
      · exact hw.elim
    · exact hw.elim
  case h_2 =>
    rename_i t x y v ho
    split at hw
    · rename_i hd
      split at hw
      · rename_i kt et hu
        replace hw := wt_some hw
        obtain ⟨ky, h1, hw⟩ := hw
        replace hw := wt_some hw
        obtain ⟨s, h2, hw⟩ := hw
        replace hw := wt_some hw
        obtain ⟨v0, h3, hw⟩ := hw
        replace hw := wt_some hw
        obtain ⟨σ', h4, hw⟩ := hw
        replace hw := wt_some hw
        obtain ⟨u, h5, hw⟩ := hw
        replace hw := wt_some hw
        obtain ⟨kv, h6, hw⟩ := hw
        replace hw := wt_some hw
        obtain ⟨v', h7, hw⟩ := hw
        replace hw := wt_some hw
        obtain ⟨kd, h8, hw⟩ := hw
        replace hw := wt_some hw
        obtain ⟨vd, h9, hw⟩ := hw
        replace hw := wt_some hw
        obtain ⟨m, h10, hw⟩ := hw
        split at hw
        · rename_i hq
          obtain ⟨l, h11, hw⟩ := hw
          cases h11
          obtain ⟨k1, k2, _, _⟩ := freeze_sound _ h hs h4
          obtain ⟨rfl, e, e1, e2, e3⟩ := mapAt_some h10
          obtain ⟨td, h12, h13⟩ := Option.bind_eq_some_iff.1 h1
          obtain ⟨xu, hx1, hx2⟩ := k1.ev h5
          obtain ⟨yu, hy1, hy2⟩ := k1.ev h6
          obtain ⟨vu, hv1, hv2⟩ := k1.ev h7
          simp only [VR] at hx2
          subst hx2
          obtain ⟨es, clock, m1, m2, m3⟩ := k1.mapAt e1 e2 e3
          obtain ⟨q1, q2⟩ := toKey_ok h8 hy2
          have hkt : C.P.underlying kt = some (kdT ky) := by rw [ht.und _ _ h12, kyOf_some h13]
          obtain ⟨es', clock', w', r1, r2, r3, r4, r5⟩ := run_mapUpdate (ht.und _ _ hu) hkt m1 m2 m3 q1 q2 (valR_of hq h9 hv2)
          refine OW.unit (w' := w') hg hd (fun a ha => ?_) ?_
          · simp only [execOp, ho, ha.ev hx1, ha.ev hy1, ha.ev hv1, Sem.run_bind, r1, Result.andThen_ok]
            rfl
          · have hT := k1.newBS (e := e) (us := [encE es'.toList]) (cs := [.md (.cont ky s.1 (mputD m.2 kd vd))]) e1 (by rw [e3]; exact .inr (.inl ⟨by omega, by omega, es', clock', r2, r3, rfl⟩)) r5 ⟨_, [], rfl, ⟨_, rfl, r4⟩, rfl⟩ (rfl : m.1 = m.1)
            rw [e3] at hT
            exact hk _ hw _ _ ⟨_, _, _, hT, k2⟩
        · exact hw.elim
      · exact hw.elim
    · exact hw.elim
  case h_3 =>
    rename_i t x y v ho
    split at hw
    · rename_i hd
      split at hw
      · rename_i kt et hu
        replace hw := wt_some hw
        obtain ⟨ky, h1, hw⟩ := hw
        replace hw := wt_some hw
        obtain ⟨s, h2, hw⟩ := hw
        replace hw := wt_some hw
        obtain ⟨v0, h3, hw⟩ := hw
        replace hw := wt_some hw
        obtain ⟨σ', h4, hw⟩ := hw
        replace hw := wt_some hw
        obtain ⟨u, h5, hw⟩ := hw
        replace hw := wt_some hw
        obtain ⟨kv, h6, hw⟩ := hw
        replace hw := wt_some hw
        obtain ⟨v', h7, hw⟩ := hw
        replace hw := wt_some hw
        obtain ⟨kd, h8, hw⟩ := hw
        replace hw := wt_some hw
        obtain ⟨vd, h9, hw⟩ := hw
        replace hw := wt_some hw
        obtain ⟨m, h10, hw⟩ := hw
        split at hw
        · rename_i hq
          obtain ⟨l, h11, hw⟩ := hw
          cases h11
          obtain ⟨k1, k2, _, _⟩ := freeze_sound _ h hs h4
          obtain ⟨rfl, e, e1, e2, e3⟩ := mapAt_some h10
          obtain ⟨td, h12, h13⟩ := Option.bind_eq_some_iff.1 h1
          obtain ⟨xu, hx1, hx2⟩ := k1.ev h5
          obtain ⟨yu, hy1, hy2⟩ := k1.ev h6
          obtain ⟨vu, hv1, hv2⟩ := k1.ev h7
          simp only [VR] at hx2
          subst hx2
          obtain ⟨es, clock, m1, m2, m3⟩ := k1.mapAt e1 e2 e3
          obtain ⟨q1, q2⟩ := toKey_ok h8 hy2
          have hkt : C.P.underlying kt = some (kdT ky) := by rw [ht.und _ _ h12, kyOf_some h13]
          obtain ⟨es', clock', w', r1, r2, r3, r4, r5⟩ := run_mapUpdate (ht.und _ _ hu) hkt m1 m2 m3 q1 q2 (valR_of hq h9 hv2)
          refine OW.unit (w' := w') hg hd (fun a ha => ?_) ?_
          · simp only [execOp, ho, ha.ev hx1, ha.ev hy1, ha.ev hv1, Sem.run_bind, r1, Result.andThen_ok]
            rfl
          · have hT := k1.newBS (e := e) (us := [encE es'.toList]) (cs := [.md (.cont ky s.1 (mputD m.2 kd vd))]) e1 (by rw [e3]; exact .inr (.inl ⟨by omega, by omega, es', clock', r2, r3, rfl⟩)) r5 ⟨_, [], rfl, ⟨_, rfl, r4⟩, rfl⟩ (rfl : m.1 = m.1)
            rw [e3] at hT
            exact hk _ hw _ _ ⟨_, _, _, hT, k2⟩
        · exact hw.elim
      · exact hw.elim
    · exact hw.elim
  case h_4 =>
    rename_i t x y c ho
    replace hw := wt_some hw
    obtain ⟨d, hd, hw⟩ := hw
    rw [hd] at hn
    split at hw
    · rename_i kt et hu
      replace hw := wt_some hw
      obtain ⟨ky, h1, hw⟩ := hw
      replace hw := wt_some hw
      obtain ⟨⟨g, nn⟩, h2, hw⟩ := hw
      replace hw := wt_some hw
      obtain ⟨zz, h3, hw⟩ := hw
      replace hw := wt_some hw
      obtain ⟨u, h5, hw⟩ := hw
      replace hw := wt_some hw
      obtain ⟨kv, h6, hw⟩ := hw
      replace hw := wt_some hw
      obtain ⟨kd, h8, hw⟩ := hw
      replace hw := wt_some hw
      obtain ⟨zd, h9, hw⟩ := hw
      replace hw := wt_some hw
      obtain ⟨m, h10, hw⟩ := hw
      split at hw
      · rename_i hq
        obtain ⟨dd, h11, hw⟩ := hw
        cases h11
        replace hw := wt_some hw
        obtain ⟨r, h12, hw⟩ := hw
        obtain ⟨rfl, e, e1, e2, e3⟩ := mapAt_some h10
        obtain ⟨td, h14, h13⟩ := Option.bind_eq_some_iff.1 h1
        obtain ⟨xu, hx1, hx2⟩ := h.ev h5
        obtain ⟨yu, hy1, hy2⟩ := h.ev h6
        simp only [VR] at hx2
        subst hx2
        obtain ⟨es, clock, m1, m2, m3⟩ := h.mapAt e1 e2 e3
        obtain ⟨q1, q2⟩ := toKey_ok h8 hy2
        have hkt : C.P.underlying kt = some (kdT ky) := by rw [ht.und _ _ h14, kyOf_some h13]
        obtain ⟨v, ok, r1, r2⟩ := run_lookup (ht.und _ _ hu) hkt (ht.zer _ _ h3) m1 m3 q1 q2 c
        have hv : valR w O g (mgetD m.2 kd zd) v ∧ ok = mhasD m.2 kd := by
          rcases r2 with ⟨r3, rfl, rfl⟩ | ⟨ds', r3, r4, rfl⟩
          · simp only [mgetD, mhasD, r3, and_true]
            exact valR_of hq h9 (ofV_ok (φ := φ) (α := α) _)
          · simp only [mgetD, mhasD, r3, and_true]
            exact r4
        have hr := aggOf_valR (φ := φ) (α := α) h12 hv.1
        refine OW.val (w' := w) hg hd hn (fun a ha => by
          simp only [execOp, ho, ha.ev hx1, ha.ev hy1, Sem.run_bind, r1, Result.andThen_ok]
          rfl) ?_
        split at hw
        · exact hk _ hw _ _ ⟨_, _, _, h.putS hr, hs⟩
        · obtain ⟨b, h15, hw⟩ := hw
          cases h15
          exact hk _ hw _ _ ⟨_, _, _, h.putS (v := .tup [r, .bool _]) ⟨[v, .bool ok], rfl, v, _, rfl, hr, _, [], rfl, by rw [hv.2]; rfl, rfl⟩, hs⟩
      · exact hw.elim
    · exact hw.elim
  case h_5 =>
    rename_i t x ho
    replace hw := wt_some hw
    obtain ⟨d, hd, hw⟩ := hw
    rw [hd] at hn
    split at hw
    · rename_i kt et hu
      replace hw := wt_some hw
      obtain ⟨ky, h1, hw⟩ := hw
      replace hw := wt_some hw
      obtain ⟨⟨g, nn⟩, h2, hw⟩ := hw
      replace hw := wt_some hw
      obtain ⟨u, h5, hw⟩ := hw
      replace hw := wt_some hw
      obtain ⟨m, h10, hw⟩ := hw
      split at hw
      · rename_i hf
        rw [Bool.and_eq_true] at hf
        have hf1 := Nat.le_of_ble_eq_true hf.1
        obtain ⟨rfl, e, e1, e2, e3⟩ := mapAt_some h10
        obtain ⟨xu, hx1, hx2⟩ := h.ev h5
        simp only [VR] at hx2
        subst hx2
        obtain ⟨es, clock, m1, m2, m3⟩ := h.mapAt e1 e2 e3
        have hlt : φ m.1 < w.heap.size := h.boxLt e1
        have hd2 := h.dropB e1
        have td : Tr O w (fun x => O x ∧ x ≠ φ m.1) w := Tr.drop w fun x hx => hx.1
        refine OW.val (w' := w.alloc (.mapIter (some (φ m.1)) clock #[] clock)) hg hd hn (fun a ha => by
          simp only [execOp, ho, ha.ev hx1, Sem.run_bind, run_range (ht.und _ _ hu) m1, Result.andThen_ok]
          rfl) ?_
        have hx : Ext Nowhere w (w.alloc (.mapIter (some (φ m.1)) clock #[] clock)) := Ext.alloc _ _ _
        have hl : leftL es.toList (#[] : Array Nat).toList = es.toList := by simp [leftL]
        refine hk _ hw _ _ ⟨_, _, _, hd2.newB (T := 2000000) (us := [encI (φ m.1) clock (#[] : Array Nat).toList clock]) hf.2 (.inr (.inr ⟨by omega, φ m.1, clock, #[], clock, heap_alloc_new w _, rfl⟩)) hx (Nat.le_refl _)
          ⟨_, [], rfl, ⟨φ m.1, #[], clock, es, rfl, ⟨m1, m2, fun q => q.2 rfl⟩, by rw [hl]; exact m3.tr td, trivial⟩, rfl⟩ ⟨trivial, trivial⟩, fun y hy => .inr ⟨hs y hy, fun q => ?_⟩⟩
        have h3 := z.hB y hy
        rcases h.bF _ e e1 with h4 | h4
        · omega
        · omega
      · exact hw.elim
    · exact hw.elim
  case h_6 =>
    rename_i x ho
    replace hw := wt_some hw
    obtain ⟨d, hd, hw⟩ := hw
    rw [hd] at hn
    replace hw := wt_some hw
    obtain ⟨u, h5, hw⟩ := hw
    split at hw
    · rename_i b off
      replace hw := wt_some hw
      obtain ⟨e, e1, hw⟩ := hw
      split at hw
      · rename_i ky g cur rem hc
        split at hw
        · rename_i hT
          rw [Bool.and_eq_true] at hT
          have hoff := Nat.eq_of_beq_eq_true hT.1
          subst hoff
          have hT := Nat.eq_of_beq_eq_true hT.2
          obtain ⟨xu, hx1, hx2⟩ := h.ev h5
          simp only [VR] at hx2
          subst hx2
          obtain ⟨_, us, i1, i2⟩ := h.box b e e1
          obtain ⟨mm, since, seen, last, i3, rfl⟩ := i1.iter (by omega)
          rw [hc] at i2
          obtain ⟨uu, us', j1, j2, j3⟩ := i2
          cases j3
          cases j1
          obtain ⟨m', seen', clock', es, j4, ⟨j5, j6, j7⟩, j8, j9⟩ := j2
          obtain ⟨p1, p2, j10, p4⟩ := encI_inj j4
          subst p1 p2 p4
          have j10 : seen = seen' := Array.toList_inj.1 j10
          subst j10
          rcases run_next (P := C.P) (ty := o.type) j5 i3 j6.1 with ⟨r1, r2⟩ | ⟨i, en, r1, w', r2, r3, r4⟩
          · rw [r1] at j8
            have hrem : rem = [] := by
              cases rem with
              | nil => rfl
              | cons _ _ => exact j8.elim
            refine OW.val (v := .tuple #[.bool false]) (w' := w) hg hd hn (fun a ha => by
              simp only [execOp, ho, ha.ev hx1, Nat.add_zero, Sem.run_bind, r2, Result.andThen_ok]
              rfl) (hk _ (hw.1 hrem) _ _ ⟨_, _, _, h.putS (v := .tup [.bool false]) ⟨[.bool false], rfl, _, [], rfl, rfl, rfl⟩, hs⟩)
          · obtain ⟨xx, r5, r6⟩ := j8.get r1
            have hT2 := h.newBS (e := e) (us := [encI mm last (seen.push en.born).toList last]) (cs := [.md (.it ky g (some xx) (rem.eraseIdx i))]) e1 (by rw [hT]; exact .inr (.inr ⟨by omega, mm, last, _, last, r3, rfl⟩)) r2
              ⟨_, [], rfl, ⟨mm, seen.push en.born, last, es, rfl, ⟨j5, j6, j7⟩, by rw [leftL_push j6.2.1 r1]; exact j8.erase i, en.born, en, by simp, find_born en _ j6.2.1 ?_, r6⟩, rfl⟩ (rfl : b = b)
            · rw [hT] at hT2
              exact OW.val (v := .tuple #[.bool true, en.key, en.val]) (w' := w') hg hd hn (fun a ha => by
                simp only [execOp, ho, ha.ev hx1, Nat.add_zero, Sem.run_bind, r4, Result.andThen_ok]
                rfl) (hk _ (hw.2 i xx r5) _ _ ⟨_, _, _, hT2.putS (v := .tup [.bool true, .undef, .undef]) ⟨[.bool true, en.key, en.val], rfl, _, _, rfl, rfl, _, _, rfl, trivial, _, [], rfl, trivial, rfl⟩, hs⟩)
            · have := List.mem_of_getElem? r1
              exact (List.mem_filter.1 this).1
        · exact hw.elim
      · exact hw.elim
    · exact hw.elim
  case h_7 =>
    rename_i x ho
    replace hw := wt_some hw
    obtain ⟨d, hd, hw⟩ := hw
    rw [hd] at hn
    replace hw := wt_some hw
    obtain ⟨u, h5, hw⟩ := hw
    split at hw
    · rename_i b off
      replace hw := wt_some hw
      obtain ⟨e, e1, hw⟩ := hw
      split at hw
      · rename_i ky g kd dd rem hc
        split at hw
        · rename_i hT
          rw [Bool.and_eq_true] at hT
          have hoff := Nat.eq_of_beq_eq_true hT.1
          subst hoff
          have hT := Nat.eq_of_beq_eq_true hT.2
          replace hw := wt_some hw
          obtain ⟨r, h12, hw⟩ := hw
          obtain ⟨xu, hx1, hx2⟩ := h.ev h5
          simp only [VR] at hx2
          subst hx2
          obtain ⟨_, us, i1, i2⟩ := h.box b e e1
          obtain ⟨mm, since, seen, last, i3, rfl⟩ := i1.iter (by omega)
          rw [hc] at i2
          obtain ⟨uu, us', j1, j2, j3⟩ := i2
          cases j3
          cases j1
          obtain ⟨m', seen', clock', es, j4, ⟨j5, j6, j7⟩, j8, bb, en, j9, j11, kk, dd', j12, j13, j14, j15⟩ := j2
          obtain ⟨p1, p2, j10, p4⟩ := encI_inj j4
          subst p1 p2 p4
          have j10 : seen = seen' := Array.toList_inj.1 j10
          subst j10
          cases j12
          refine OW.val (v := .tuple #[en.key, en.val]) (w' := w) hg hd hn (fun a ha => by
            simp only [execOp, ho, ha.ev hx1, Nat.add_zero, Sem.run_bind, run_entry j5 i3 j9 j11, Result.andThen_ok]
            rfl) (hk _ hw _ _ ⟨_, _, _, h.putS (v := .tup [ofD kd, r]) ⟨[en.key, en.val], rfl, _, _, rfl, ofD_ok j14, _, [], rfl, aggOf_valR h12 j15, rfl⟩, hs⟩)
        · exact hw.elim
      · exact hw.elim
    · exact hw.elim
  case h_8 =>
    rename_i c ho
    obtain ⟨cal, cargs, cty'⟩ := c
    simp only at hw
    split at hw
    · rename_i x y t tr ea et
      split at hw
      · rename_i hd
        split at hw
        · rename_i kt et' hu
          replace hw := wt_some hw
          obtain ⟨ky, h1, hw⟩ := hw
          replace hw := wt_some hw
          obtain ⟨s, h2, hw⟩ := hw
          replace hw := wt_some hw
          obtain ⟨u, h5, hw⟩ := hw
          replace hw := wt_some hw
          obtain ⟨kv, h6, hw⟩ := hw
          replace hw := wt_some hw
          obtain ⟨kd, h8, hw⟩ := hw
          replace hw := wt_some hw
          obtain ⟨m, h10, hw⟩ := hw
          obtain ⟨l, h11, hw⟩ := hw
          cases h11
          have ea : cargs = #[x, y] := by apply Array.toList_inj.1; simpa using ea
          subst ea
          obtain ⟨rfl, e, e1, e2, e3⟩ := mapAt_some h10
          obtain ⟨td, h12, h13⟩ := Option.bind_eq_some_iff.1 h1
          obtain ⟨xu, hx1, hx2⟩ := h.ev h5
          obtain ⟨yu, hy1, hy2⟩ := h.ev h6
          simp only [VR] at hx2
          subst hx2
          obtain ⟨es, clock, m1, m2, m3⟩ := h.mapAt e1 e2 e3
          obtain ⟨q1, q2⟩ := toKey_ok h8 hy2
          have hkt : C.P.underlying kt = some (kdT ky) := by rw [ht.und _ _ h12, kyOf_some h13]
          have h0 : cty'[0]? = some t := by rw [← Array.getElem?_toList, et]; rfl
          obtain ⟨es', clock', w', r1, r2, r3, r4, r5⟩ := run_delete (ty := o.type) (ht.und _ _ hu) hkt m1 m2 m3 q1 q2 h0
          have hT := h.newBS (e := e) (us := [encE es'.toList]) (cs := [.md (.cont ky s.1 (mdelD m.2 kd))]) e1 (by rw [e3]; exact .inr (.inl ⟨by omega, by omega, es', clock', r2, r3, rfl⟩)) r5 ⟨_, [], rfl, ⟨_, rfl, r4⟩, rfl⟩ (rfl : m.1 = m.1)
          rw [e3] at hT
          refine OW.valN (v := .tuple #[]) (w' := w') hg hd (fun a ha => ?_) (hk _ hw _ _ ⟨_, _, _, hT, hs⟩)
          simp [execOp, ho, resolve, invoke, builtin, ha.ev hx1, ha.ev hy1, r1]
        · exact hw.elim
      · exact hw.elim
    · exact hw.elim
  case h_9 => exact hw.elim
set_option maxRecDepth 100000 in
theorem act_sound {ds : List Deferred} {tb : Tb} {cty : List (Nat × List (Option (Nat × Nat)))} {ann : Ann} {con : Nat → CIn → COut → Prop} {k : St → Prop} {kp : PV → St → Prop} (ht : TbOk C.P tb) (hg : o.guard = none) (hn : dOk n o.dst = true) (h : Rl z σ V w O φ α) (hs : ∀ x, z.O x → O x)
    (hk : ∀ s, k s → NX z C n ds ops rest K s) (hp : ∀ v s, kp v s → PanOk z C n ds v s)
    (hc : ∀ c x vs f as_ cs, o.op = .call c → c.callee = .value x → σ.evs c.args.toList = some vs → σ.ev x = some (.fn f as_ cs) → callW con σ f (as_ ++ vs ++ cs) (fun v σ => k (σ.put o.dst v)) kp → OW C n ds ops (o :: rest) K V w)
    (hw : act tb cty ann con σ o k kp) : OW C n ds ops (o :: rest) K V w := by
  unfold act at hw
  split at hw
  case h_1 =>
    rename_i T ho
    replace hw := wt_some hw
    obtain ⟨d, hd, hw⟩ := hw
    replace hw := wt_some hw
    obtain ⟨zz, h1, hw⟩ := hw
    split at hw
    · rename_i hb
      rw [Bool.and_eq_true] at hb
      obtain ⟨hb, hT⟩ := hb
      have hT : T < 1000000 := by simpa [Nat.blt_eq] using hT
      rw [hd] at hn
      have hz := ofV_cells (w := w) (O := O) (φ := φ) (α := α) zz
      refine OW.alloc hg hd hn ho (ht.zer _ _ h1) (cs := zz.cells.toList) (by simp) fun b w' hbx x hsz => ?_
      have hnew := h.newB (d := d) hb (.inl ⟨hT, hbx⟩) x hsz hz (cells_key (ofV_key zz))
      split at hw
      · exact hk _ hw _ _ ⟨_, _, _, hnew, fun y hy => .inr (hs y hy)⟩
      · obtain ⟨s, α', k1, k2⟩ := born_sound hnew hw
        exact hk _ k2 _ _ ⟨_, _, _, k1, fun y hy => .inr (hs y hy)⟩
    · exact hw.elim
  case h_2 =>
    rename_i T x ho
    replace hw := wt_some hw
    obtain ⟨d, hd, hw⟩ := hw
    replace hw := wt_some hw
    obtain ⟨v, h1, hw⟩ := hw
    split at hw
    · replace hw := wt_some hw
      obtain ⟨ds', hds, hw⟩ := hw
      split at hw
      · rename_i hb
        rw [hd] at hn
        obtain ⟨u, h2, h3⟩ := h.ev h1
        have hz := h3.cells (by simpa using hb)
        have hrd := toDs_ok hds hz
        refine OW.box hg hd hn ho h2 (cs := u.cells.toList) (by simp) fun b w' hbx x hsz => ?_
        have k4 := h.moveN x
        have t : Tr O w O w' := Tr.of_ext x fun _ _ hh => hh.elim
        have hnb : ¬ O b := fun hO => by have := h.bd b hO; omega
        refine hk _ hw _ _ ⟨_, _, _, k4.putS (v := .cptr ds' 0) ⟨b, 0, by simp, u.cells.toList, (RDs.len hrd), ⟨hnb, _, _, _, hbx, fun j y hj => by simpa using hj⟩, hrd.tr t⟩, hs⟩
      · exact hw.elim
    split at hw
    · rename_i hb
      simp only [Bool.and_eq_true] at hb
      obtain ⟨hb, hT⟩ := hb
      have hT : T < 1000000 := by simpa [Nat.blt_eq] using hT
      rw [hd] at hn
      obtain ⟨u, h2, h3⟩ := h.ev h1
      have hz := h3.cells (by simpa using hb.2)
      refine OW.box hg hd hn ho h2 (cs := u.cells.toList) (by simp) fun b w' hbx x hsz => ?_
      exact hk _ hw _ _ ⟨_, _, _, h.newB hb.1 (.inl ⟨hT, hbx⟩) x hsz hz (cells_key (ev_key (freshB_spec hb.1).2.1 h1)), fun y hy => .inr (hs y hy)⟩
    · exact hw.elim
  case h_3 =>
    rename_i T x y ho
    split at hw
    · rename_i hd
      replace hw := wt_some hw
      obtain ⟨⟨g, m⟩, h1, hw⟩ := hw
      split at hw
      · rename_i d hro
        obtain rfl : _ = Operand.tmp d := roSt_some hro
        replace hw := wt_some hw
        obtain ⟨v0, _, hw⟩ := hw
        replace hw := wt_some hw
        obtain ⟨σ', h6, hw⟩ := hw
        obtain ⟨k1, k2, _, _⟩ := freeze_sound _ h hs h6
        replace hw := wt_some hw
        obtain ⟨u, h2, hw⟩ := hw
        replace hw := wt_some hw
        obtain ⟨v, h3, hw⟩ := hw
        obtain ⟨a, h4, h5⟩ := k1.env d u h2
        split at hw
        · rename_i b off
          replace hw := wt_some hw
          obtain ⟨e, h7, hw⟩ := hw
          replace hw := wt_some hw
          obtain ⟨ds, h8, hw⟩ := hw
          obtain ⟨h7, h7T⟩ := lkB_some h7
          split at hw
          · rename_i hb
            simp only [Bool.and_eq_true] at hb
            obtain ⟨⟨⟨⟨⟨hb1, hb2⟩, hb3⟩, hb4⟩, hb5⟩, hb6⟩ := hb
            have hb1 := Nat.eq_of_beq_eq_true hb1
            have hb2 := Nat.le_of_ble_eq_true hb2
            have hb3 := Nat.eq_of_beq_eq_true hb3
            have hb4 := Nat.eq_of_beq_eq_true hb4
            subst hb1
            obtain ⟨c, h9, h10⟩ := k1.ev h3
            have hu : isUndef v = false := by
              cases v <;> first | rfl | (simp [cellsOf, oneP] at hb5)
            have h11 := h10.cells hu
            have l11 := VRs.len h11
            have h12 := toDs_ok h8 h11
            have l12 := RDs.len h12
            obtain ⟨hOb, us, h13, h14⟩ := k1.box b e h7
            have h13 := h13.un h7T
            have l14 := VRs.len h14
            simp only [VR] at h5
            subst h5
            refine OW.store hg hd ho (ht.shp _ _ h1) h4 h9 (vs := c.cells.toList) (by simp) (by omega) h13 (by rw [Nat.ble_eq]; omega) (VRs.ones h11 hb5) rfl fun w' hbx x => ?_
            have ecs : us.take 0 ++ c.cells.toList ++ us.drop (0 + m) = c.cells.toList := by
              rw [List.drop_eq_nil_of_le (by omega)]
              simp
            rw [l11, hb4, ecs] at hbx
            have t : Tr _ w _ w' := Tr.of_ext (O := DelL O α (lk σ.A) (refsP v0)) x fun y _ hy => by cases hy; exact hOb
            have T1 := k1.newBS h7 (.inl ⟨h7T, hbx⟩) x h11 (rfl : b = b)
            have T2 := T1.dropB (b := b) (e := ⟨e.T, cellsOf v⟩) (lk_setk_eq h7)
            have hz : ∀ y, z.O y → y ≠ φ b := fun y hy q => by
              have h3 := z.hB y hy
              rcases k1.bF _ _ h7 with h4 | h4
              · omega
              · omega
            simp only [St.freeB, Bool.and_eq_true, List.all_eq_true] at hb6
            refine hk _ hw _ _ ⟨_, φ, α, ⟨fun tt vv hv => ?_, fun bb ee he => T2.box bb ee (delk_setk he), T2.arr, fun p q e1 e2 h1 h2 => T2.bb p q e1 e2 (delk_setk h1) (delk_setk h2), T2.aa, fun a p e1 e2 h1 h2 => T2.ab a p e1 e2 h1 (delk_setk h2), fun p e1 h1 => T2.bF p e1 (delk_setk h1), T2.aF, T2.bd, T2.ext, T2.only, T2.gl, T2.keep⟩, fun y hy => ⟨k2 y hy, hz y hy⟩⟩
            rcases lk_cons hv with ⟨rfl, rfl⟩ | ⟨hne, hv⟩
            · refine ⟨_, h4, φ b, 0, rfl, c.cells.toList, by rw [RDs.len h12], ⟨fun hh => hh.2 rfl, _, _, _, hbx, fun j y hj => by simpa using hj⟩, ?_⟩
              exact (h12.tr t).tr (Tr.drop w' fun y hy => hy.1)
            · exact T2.env tt vv hv
          · exact hw.elim
        · exact hw.elim
      replace hw := wt_some hw
      obtain ⟨u, h2, hw⟩ := hw
      replace hw := wt_some hw
      obtain ⟨v, h3, hw⟩ := hw
      obtain ⟨a, h4, h5⟩ := h.ev h2
      split at hw
      · rename_i b off
        replace hw := wt_some hw
        obtain ⟨e, h6, hw⟩ := hw
        obtain ⟨h6, h6T⟩ := lkB_some h6
        replace hw := wt_some hw
        obtain ⟨cs2, hcs, hw⟩ := hw
        unfold stC at hcs
        split at hcs
        · rename_i hb
          cases hcs
          simp only [Bool.and_eq_true] at hb
          obtain ⟨⟨hb1, hb2⟩, hb3⟩ := hb
          have hb1 := Nat.eq_of_beq_eq_true hb1
          have hb2 := Nat.le_of_ble_eq_true hb2
          obtain ⟨c, h7, h8⟩ := h.ev h3
          have hu : isUndef v = false := by
            cases v <;> first | rfl | (simp [cellsOf, oneP] at hb3)
          have h9 := h8.cells hu
          have l9 := VRs.len h9
          obtain ⟨_, us, h10, h11⟩ := h.box b e h6
          have h10 := h10.un h6T
          have l11 := VRs.len h11
          simp only [VR] at h5
          subst h5
          refine OW.store hg hd ho (ht.shp _ _ h1) h4 h7 (vs := c.cells.toList) (by simp) (by omega) h10 (by rw [Nat.ble_eq]; omega) (VRs.ones h9 hb3) rfl fun w' hbx x => ?_
          refine hk _ hw _ _ ⟨_, _, _, h.newBS h6 (.inl ⟨h6T, hbx⟩) x ?_ (rfl : b = b), hs⟩
          rw [l9, hb1]
          exact ((VRs.take off h11).append h9).append (VRs.drop _ h11)
        · cases hcs
      · rename_i ak am ai
        replace hw := wt_some hw
        obtain ⟨σ', h6, hw⟩ := hw
        replace hw := wt_some hw
        obtain ⟨e, h7, hw⟩ := hw
        replace hw := wt_some hw
        obtain ⟨v', h8, hw⟩ := hw
        replace hw := wt_some hw
        obtain ⟨ds, h9, hw⟩ := hw
        split at hw
        · rename_i hb
          simp only [Bool.and_eq_true] at hb
          obtain ⟨⟨⟨hb1, hb2⟩, hb3⟩, hb4⟩ := hb
          have hb1 := Nat.eq_of_beq_eq_true hb1
          have hb2 := Nat.eq_of_beq_eq_true hb2
          have hb3 := Nat.eq_of_beq_eq_true hb3
          obtain ⟨l, h10, hw⟩ := hw
          obtain ⟨k1, k2, k3, _⟩ := freeze_sound _ h hs h6
          obtain ⟨c, h11, h12⟩ := k1.ev h8
          have hu : isUndef v' = false := by
            cases v' <;> first | rfl | (simp [cellsOf, oneP] at hb4)
          have h13 := h12.cells hu
          have h14 := toDs_ok h9 h13
          have l14 := RDs.len h14
          obtain ⟨b, len, cap, j, h15, h16, h17⟩ := h5
          have hjl : l = e.l.set j ds ∧ j < e.l.length := by
            refine ⟨setx_some h10 h16, ?_⟩
            unfold Go.Lk.setx at h10
            split at h10
            · omega
            · cases h10
          obtain ⟨rfl, hj⟩ := hjl
          have h7U := lkO_some h7
          have h7 := h7U.1
          subst hb3
          rcases h7U.2 with h7T | h7T
          case inr =>
            have ho' := (k1.arr ak e h7).mk_ h7T
            exact OW.storeM (m := e.n) (b := b) (j := j) hg hd ho (by rw [← hb2]; exact ht.shp _ _ h1) (by rw [h4, h17]; simp) h11 (vs := c.cells.toList) (by simp) (by omega) h15 ho' hj (VRs.ones h13 hb4) h14 fun w' hown x =>
              hk _ hw _ _ ⟨_, _, _, k1.storeA h7 (.inr (.inr ⟨h7T, hown⟩)) x, k2⟩
          have ho' := (k1.arr ak e h7).un h7T
          refine OW.storeE (f := id) (l := e.l) (a := ds) (m := e.n) (b := b) (q := 0) (j := j) hg hd ho (by rw [← hb2]; exact ht.shp _ _ h1) (by rw [h4, h17]; simp) h11 (vs := c.cells.toList) (by simp) (by omega) h15 (by simpa using ho') hj (VRs.ones h13 hb4) h14 fun w' hown x => ?_
          exact hk _ hw _ _ ⟨_, _, _, k1.storeA h7 (.inl ⟨h7T, by simpa using hown⟩) x, k2⟩
        · exact hw.elim
      · exact hw.elim
    · exact hw.elim
  case h_4 =>
    rename_i t len parts ho
    replace hw := wt_some hw
    obtain ⟨d, hd, hw⟩ := hw
    rw [hd] at hn
    split at hw
    · rename_i e he
      replace hw := wt_some hw
      obtain ⟨us0, _, hw⟩ := hw
      replace hw := wt_some hw
      obtain ⟨σ', h2, hw⟩ := hw
      replace hw := wt_some hw
      obtain ⟨us, h3, hw⟩ := hw
      replace hw := wt_some hw
      obtain ⟨⟨g, m⟩, h4, hw⟩ := hw
      replace hw := wt_some hw
      obtain ⟨zz, h5, hw⟩ := hw
      replace hw := wt_some hw
      obtain ⟨ds, h6, hw⟩ := hw
      split at hw
      · rename_i hb
        simp only [Bool.and_eq_true] at hb
        obtain ⟨⟨⟨⟨⟨⟨b1, b2⟩, b3⟩, b4⟩, b5⟩, b6⟩, b7⟩ := hb
        have b2 := Nat.eq_of_beq_eq_true b2
        have b3 := Nat.eq_of_beq_eq_true b3
        have b5 := Nat.le_of_ble_eq_true b5
        obtain ⟨k1, k2, k3, _⟩ := freeze_sound _ h hs h2
        obtain ⟨xs, h7, h8⟩ := k1.evs h3
        have l8 := VRs.len h8
        have lp : parts.toList.length = us.length := by
          have : ∀ {l : List Operand} {r : List PV}, σ'.evs l = some r → r.length = l.length := by
            intro l
            induction l with
            | nil => intro r hr; cases hr; rfl
            | cons q l ih =>
              intro r hr
              unfold St.evs at hr
              split at hr
              · rename_i hq2
                cases hr
                simp [ih hq2]
              · cases hr
          simpa using (this h3).symm
        obtain ⟨cs, h9, h10, h11, h12⟩ := flat_sound b1 (by simpa using lp) h8 b6 h6 b7
        have lz : ((parts.toList.map (·.1)).zip xs).length = len := by
          rw [List.length_zip, List.length_map, l8, lp]
          omega
        have hml : len ≤ maxLen := by unfold maxLen; omega
        have hd12 : ds.length = len := by omega
        refine OW.buildSlice hg hd hn ho (ht.und _ _ he) (ht.shp _ _ h4) (ht.zer _ _ h5) b3 (zip_evp h7) h9 lz b4 fun b w' hbx x hsz => ?_
        split at hw
        · split at hw
          · rename_i hf
            rw [Bool.and_eq_true] at hf
            exact hk _ hw _ _ ⟨_, _, _, k1.newAN (by simpa [Nat.blt_eq] using hf.2) hf.1 hbx x hsz hd12 hml (by rw [h11, b2]) h10, fun y hy => .inr (k2 y hy)⟩
          · exact hw.elim
        · have k4 := k1.moveN x
          have t : Tr _ w _ w' := Tr.of_ext (O := DelL O α (lk σ.A) (refsP.go us0)) x fun _ _ hh => hh.elim
          exact hk _ hw _ _ ⟨_, _, _, k4.putS (v := .sl e m ds) (RD.of_new hbx k1.bd hsz hd12 hml (by rw [h11, b2]) (h10.tr t)), k2⟩
      · exact hw.elim
    · exact hw.elim
  case h_5 =>
    rename_i x ho
    replace hw := wt_some hw
    obtain ⟨v, h1, hw⟩ := hw
    split at hw
    · obtain ⟨u, h2, h3⟩ := h.ev h1
      have h4 := h3
      obtain ⟨y, rfl, _⟩ := h4
      exact OW.panD hg ho h2 fun a ha hda => hp _ _ hw _ _ _ _ _ _ _ _ h hs h3 a ha hda
    · exact hw.elim
  case h_6 =>
    rename_i s t x ho
    replace hw := wt_some hw
    obtain ⟨d, hd, hw⟩ := hw
    rw [hd] at hn
    replace hw := wt_some hw
    obtain ⟨v, h1, hw⟩ := hw
    obtain ⟨u, h2, h3⟩ := h.ev h1
    split at hw
    · rename_i e e1 e2
      split at hw
      · rename_i e3
        obtain ⟨c1, c2⟩ := chk_dec hw
        simp only [VR] at h3
        subst h3
        split at c2
        · split at c2
          · rename_i hf
            refine OW.toBytesM (O := O) hg hd hn ho (ht.und _ _ e1) (ht.und _ _ e2) (ht.und _ _ e3) h2 c1 fun v' w' x hb hsz hr => ?_
            have t : Tr O w (Ins O w.heap.size) w' := Tr.of_new x (fun _ _ hh => hh.elim) (Nat.le_refl _)
            refine hk _ c2 _ _ ⟨_, _, _, h.newA (e := ⟨true, e + 2000000, 1, bytD _⟩) hf x t (fun y hy => .inr hy) (fun y hy => ?_) (fun y hy => ?_) (fun _ _ _ hh => hh) (fun _ _ _ _ _ hh => hh) (fun _ hh => hh.elim) (.inr (.inr ⟨Nat.le_add_left _ _, ?_⟩)) (fun y hy => ?_) (fun y hy => ?_), fun y hy => .inr (hs y hy)⟩
            · rcases hy with rfl | hy
              · omega
              · have := h.bd y hy; omega
            · rcases hy with rfl | hy
              · exact .inr (Nat.le_refl _)
              · exact .inl hy
            · rw [Nat.add_sub_cancel]
              exact hr _ (.inl rfl)
            · rw [hb] at hy
              cases hy
              exact .inr (Nat.le_refl _)
            · rw [hb] at hy
              cases hy
              exact .inr h.ext.size
          · exact c2.elim
        · refine OW.toBytes hg hd hn ho (ht.und _ _ e1) (ht.und _ _ e2) (ht.und _ _ e3) h2 h.bd c1 fun v' w' x hr => ?_
          exact hk _ c2 _ _ ⟨_, _, _, (h.moveN x).putS (v := .sl e 1 (bytD _)) hr, hs⟩
      · exact hw.elim
    · rename_i T l e e1 e2
      split at hw
      · rename_i e3
        obtain ⟨str, c1, c2⟩ := hw
        obtain ⟨xs, rfl, rfl⟩ := dby_ok c1
        exact OW.toStr hg hd hn ho (ht.und _ _ e1) (ht.und _ _ e3) (ht.und _ _ e2) h2 h3 (hk _ c2 _ _ ⟨_, _, _, h.putS (v := .str _) rfl, hs⟩)
      · exact hw.elim
    · rename_i a e e1 e2
      replace hw := wt_some hw
      obtain ⟨ar, h4, hw⟩ := hw
      split at hw
      · rename_i e3 e4
        obtain ⟨str, c1, c2⟩ := hw
        obtain ⟨xs, c3, rfl⟩ := dby_ok c1
        obtain ⟨_, h5⟩ := (h.arr a ar (lkO_some h4).1).data (lkO_some h4).2
        rw [c3] at h5
        have hn1 := Nat.eq_of_beq_eq_true e4
        rw [hn1] at h5
        rw [← h3.1] at h5
        exact OW.toStr hg hd hn ho (ht.und _ _ e1) (ht.und _ _ e3) (ht.und _ _ e2) h2 h5 (hk _ c2 _ _ ⟨_, _, _, h.putS (v := .str _) rfl, hs⟩)
      · exact hw.elim
    · exact hw.elim
  case h_7 =>
    rename_i c ho
    obtain ⟨cal, cargs, cty'⟩ := c
    simp only at hw
    split at hw
    · rename_i x y ea
      replace hw := wt_some hw
      obtain ⟨d, hd, hw⟩ := hw
      rw [hd] at hn
      replace hw := wt_some hw
      obtain ⟨u, h1, hw⟩ := hw
      replace hw := wt_some hw
      obtain ⟨v0, _, hw⟩ := hw
      split at hw
      · rename_i t t2 et
        have ea : cargs = #[x, y] := by apply Array.toList_inj.1; simpa using ea
        have et : cty' = #[t, t2] := by apply Array.toList_inj.1; simpa using et
        subst ea et
        split at hw
        · rename_i e he
          replace hw := wt_some hw
          obtain ⟨⟨iz, im, ib⟩, h2, hw⟩ := hw
          replace hw := wt_some hw
          obtain ⟨σ', h3, hw⟩ := hw
          replace hw := wt_some hw
          obtain ⟨v, h4, hw⟩ := hw
          replace hw := wt_some hw
          obtain ⟨l2, h5, hw⟩ := hw
          split at hw
          · rename_i hb
            simp only [Bool.and_eq_true] at hb
            obtain ⟨⟨b1, b2⟩, b3⟩ := hb
            have b1 := Nat.eq_of_beq_eq_true b1
            obtain ⟨k1, k2, k3, _⟩ := freeze_sound _ h hs h3
            obtain ⟨uy, h6, h7⟩ := k1.ev h4
            obtain ⟨ux, h8, h9⟩ := h.ev h1
            -- the step itself
            have step : ∀ l r, Own w (DelL O α (lk σ.A) (refsP v0)) e im ux l → Go.Lk.app ib l l2 = some r →
                (∀ v' w' O', Grew w (DelL O α (lk σ.A) (refsP v0)) e im ux w' O' v' r → OW C n ds ops rest K ((d, v') :: V) w') → OW C n ds ops (o :: rest) K V w := by
              intro l r hown happ hnext
              obtain ⟨hr, hbig⟩ := app_some happ
              subst hr
              unfold apL at h5
              split at h5
              · split at h5
                · rename_i hq
                  cases h5
                  simp only [Bool.and_eq_true] at hq
                  have q1 := Nat.eq_of_beq_eq_true hq.1
                  have q2 := Nat.eq_of_beq_eq_true hq.2
                  subst q1 q2
                  exact OW.appendL hg hd hn ho (ht.und _ _ he) (ht.inf _ _ h2) b1 b2 b3 h8 h6 hown k1.bd h7 hbig hnext
                · cases h5
              · split at h5
                · rename_i hq
                  cases h5
                  have q1 := Nat.eq_of_beq_eq_true hq
                  subst q1
                  simp only [VR] at h7
                  subst h7
                  exact OW.appendL hg hd hn ho (ht.und _ _ he) (ht.inf _ _ h2) b1 b2 b3 h8 h6 hown k1.bd (.inl ⟨⟨_, rfl⟩, rfl⟩) hbig hnext
                · cases h5
              · split at h5
                · rename_i e5 e6
                  cases h5
                  cases e6
                  simp only [VR] at h7
                  subst h7
                  refine OW.appendS hg hd hn ho (ht.und _ _ he) (ht.und _ _ e5) (ht.inf _ _ h2) h8 h6 hown k1.bd (by simpa [bytD, unb] using hbig) fun v' w' O' hG => hnext v' w' O' ?_
                  have e7 : ∀ q : List UInt8, bytD q = q.map byteD := fun q => by simp [bytD, unb, byteD, eI]
                  rw [e7]
                  exact hG
                · cases h5
              · cases h5
            split at hw
            · split at hw
              · rename_i hf
                rw [Bool.and_eq_true] at hf
                have hfT : e < 1000000 := by simpa [Nat.blt_eq] using hf.2
                have hf := hf.1
                obtain ⟨r, c1, c2⟩ := hw
                simp only [VR] at h9
                subst h9
                refine step [] r (Own.nil _ _ _ _) c1 fun v' w' O' hG => hk _ c2 _ _ ⟨_, _, _, k1.newA hf hG.ext hG.tr hG.more hG.bd hG.only (fun _ _ _ hh => by simp [Value.ownBlock] at hh) (fun _ _ _ _ _ hh => by simp [Value.ownBlock] at hh) (fun _ hh => by simp [Value.ownBlock] at hh) (.inl ⟨hfT, hG.own⟩) hG.at_ (fun y hy => ?_), fun y hy => hG.more y (k2 y hy)⟩
                rcases hG.at_ y hy with hh | hh
                · simp [Value.ownBlock] at hh
                · exact .inr (Nat.le_trans h.ext.size hh)
              · exact hw.elim
            · rename_i a
              split at hw
              · rename_i ar h10M
                split at hw
                · rename_i hf
                  simp only [Bool.and_eq_true] at hf
                  obtain ⟨⟨⟨f1, f2⟩, f3⟩, f4⟩ := hf
                  have f2 := Nat.eq_of_beq_eq_true f2
                  have f3 := Nat.eq_of_beq_eq_true f3
                  obtain ⟨r, c1, c2⟩ := hw
                  have h10 := (lkM_some h10M).1
                  have h10T := (lkM_some h10M).2
                  have h11 := (k1.arr a ar h10).mk_ h10T
                  have e9 := h9.1
                  rw [f2, Nat.add_sub_cancel, f3, ← e9] at h11
                  obtain ⟨hr, hbig⟩ := app_some c1
                  subst hr
                  have k5 : Rl z { σ' with A := delk a σ'.A } V w (DelL O α (lk σ.A) (refsP v0)) φ α := k1.mono (Le.refl _) (Le.refl _) (fun t v hv => (lk_delk hv).2)
                  cases v <;> simp only [strP, Bool.false_eq_true] at f4
                  rename_i s
                  unfold apL at h5
                  simp only at h5
                  split at h5
                  · rename_i e5 e6
                    cases h5
                    cases e6
                    simp only [VR] at h7
                    subst h7
                    refine OW.appendM hg hd hn ho (ht.und _ _ he) (ht.und _ _ e5) (ht.inf _ _ h2) h8 h6 h11 k1.bd (by simpa [bytD, unb] using hbig) fun v' w' O' hG => hk _ c2 _ _ ⟨_, _, _, k5.newA (e := { ar with l := ar.l ++ bytD s }) f1 hG.ext hG.tr hG.more hG.bd hG.only (fun b e' hb hh => ?_) (fun c e' hc y hy hh => ?_) (fun y hy => ?_) (.inr (.inr ⟨h10T, ?_⟩)) hG.at_ (fun y hy => ?_), fun y hy => hG.more y (k2 y hy)⟩
                    · rw [e9] at hh
                      exact k1.ab a b ar e' h10 hb hh
                    · rw [e9] at hh
                      obtain ⟨n1, hc⟩ := lk_delk hc
                      exact k1.aa c a e' ar hc h10 n1 y hy hh
                    · rw [e9] at hy
                      exact (k1.aF a ar h10 y hy).elim (fun q => .inl q.2) .inr
                    · have e7 : ∀ q : List UInt8, bytD q = q.map byteD := fun q => by simp [bytD, unb, byteD, eI]
                      rw [f2, Nat.add_sub_cancel, f3, e7]
                      exact hG.own
                    · rcases hG.at_ y hy with hh | hh
                      · rw [e9] at hh
                        exact k1.aF a ar h10 y hh
                      · exact .inr (Nat.le_trans h.ext.size hh)
                  · cases h5
                · exact hw.elim
              replace hw := wt_some hw
              obtain ⟨ar, h10, hw⟩ := hw
              split at hw
              · rename_i hf
                simp only [Bool.and_eq_true] at hf
                obtain ⟨⟨f1, f2⟩, f3⟩ := hf
                have f2 := Nat.eq_of_beq_eq_true f2
                have f3 := Nat.eq_of_beq_eq_true f3
                obtain ⟨r, c1, c2⟩ := hw
                have h10U := lkU_some h10
                have h10 := h10U.1
                have h11 := (k1.arr a ar h10).un h10U.2
                have e9 := h9.1
                subst f2 f3
                rw [← e9] at h11
                have k5 : Rl z { σ' with A := delk a σ'.A } V w (DelL O α (lk σ.A) (refsP v0)) φ α := k1.mono (Le.refl _) (Le.refl _) (fun t v hv => (lk_delk hv).2)
                refine step ar.l r h11 c1 fun v' w' O' hG => hk _ c2 _ _ ⟨_, _, _, k5.newA (e := { ar with l := r }) f1 hG.ext hG.tr hG.more hG.bd hG.only (fun b e' hb hh => ?_) (fun c e' hc y hy hh => ?_) (fun y hy => ?_) (.inl ⟨h10U.2, hG.own⟩) hG.at_ (fun y hy => ?_), fun y hy => hG.more y (k2 y hy)⟩
                · rw [e9] at hh
                  exact k1.ab a b ar e' h10 hb hh
                · rw [e9] at hh
                  obtain ⟨n1, hc⟩ := lk_delk hc
                  exact k1.aa c a e' ar hc h10 n1 y hy hh
                · rw [e9] at hy
                  exact (k1.aF a ar h10 y hy).elim (fun q => .inl q.2) .inr
                · rcases hG.at_ y hy with hh | hh
                  · rw [e9] at hh
                    exact k1.aF a ar h10 y hh
                  · exact .inr (Nat.le_trans h.ext.size hh)
              · exact hw.elim
            · exact hw.elim
          · exact hw.elim
        · exact hw.elim
      · exact hw.elim
    · rename_i x
      replace hw := wt_some hw
      obtain ⟨vs, h1, hw⟩ := hw
      split at hw
      · rename_i f as_ cs hx
        exact hc _ _ _ _ _ _ ho rfl h1 hx hw
      · exact hw.elim
    · exact actM_sound ht hg hn h hs hk hw
  case h_8 => exact actM_sound ht hg hn h hs hk hw
end
end
section
open Go.RowKit Go.Lk
/-- What holds of every world. -/
structure GI where
  p : World → (Nat → Prop) → Prop
  tr : ∀ {O w O' w'}, Tr O w O' w' → p w O → p w' O'
/-- The tables of types, and of variables. -/
structure TbG (P : Program) (tb : Tb) (G : GI) : Prop extends TbOk P tb where
  gt : ∀ w O, G.p w O → GtOk tb w O
theorem TbG.nil {P : Program} {tb : Tb} {G : GI} (h : TbOk P tb) (hn : tb.glb = []) : TbG P tb G := ⟨h, fun _ _ _ => GtOk.nil hn⟩
structure Mm (w : World) (O : Nat → Prop) (φ : Nat → Nat) (α : Nat → Value) (B : List Bx) (A : List (Option (Nat × Nat × List (List D)))) : Prop where
  box : ∀ b e, B[b]? = some e → O (φ b) ∧ ∃ us, BoxQ w (φ b) e.T us ∧ VRs w O φ α e.cs us
  arr : ∀ a e, A[a]? = some (some e) → OwnX w O e.1 e.2.1 (α a) e.2.2
  bb : ∀ a b, a < B.length → b < B.length → a ≠ b → φ a ≠ φ b
  aa : ∀ a b e e', A[a]? = some (some e) → A[b]? = some (some e') → a ≠ b → ∀ x, (α a).ownBlock = some x → (α b).ownBlock ≠ some x
  ab : ∀ a b e, A[a]? = some (some e) → b < B.length → (α a).ownBlock ≠ some (φ b)
def FI (i : CIn) (φ : Nat → Nat) (α : Nat → Value) (x : Nat) : Prop := (∃ b, b < i.B.length ∧ φ b = x) ∨ ∃ a, a < i.A.length ∧ (α a).ownBlock = some x
def retU : List Value → Value
  | [u] => u
  | us => .tuple (List.toArray us)
structure DoneOk (i : CIn) (w : World) (O : Nat → Prop) (φ : Nat → Nat) (α : Nat → Value) (vs : List PV) (B : List Bx) (A : List (Option (Nat × Nat × List (List D)))) (w' : World) (us : List Value) (O' : Nat → Prop) (φ' : Nat → Nat) (α' : Nat → Value) : Prop where
  res : VRs w' O' φ' α' vs us
  mm : Mm w' O' φ' α' B A
  same : ∀ b, b < i.B.length → φ' b = φ b
  long : i.B.length ≤ B.length
  bd : Bd O' w'
  tr : Tr O w O' w'
  more : ∀ x, O x → O' x
  only : ∀ x, O' x → O x ∨ w.heap.size ≤ x
  ext : Ext (FI i φ α) w w'
  newB : ∀ b, b < B.length → i.B.length ≤ b → w.heap.size ≤ φ' b
  newA : ∀ a e x, A[a]? = some (some e) → (α' a).ownBlock = some x → (∃ c, c < i.A.length ∧ (α c).ownBlock = some x) ∨ w.heap.size ≤ x
def Done (i : CIn) (w : World) (O : Nat → Prop) (φ : Nat → Nat) (α : Nat → Value) (o : COut) (e : Ending) (w' : World) : Prop := match o with
  | .ok vs B A => ∃ us O' φ' α', e = .returned (retU us) ∧ DoneOk i w O φ α vs B A w' us O' φ' α'
  | .okI vs B A => ∃ us O' φ' α', e = .returned (retU us) ∧ DoneOk i w O φ α vs B A w' us O' φ' α' ∧ ∀ a, a < i.A.length → α' a = α a
  | .pan v => ∃ u O' φ' α', e = .panicked [{ v := u, recovered := false }] ∧ VR w' O' φ' α' v u ∧ Ext (FI i φ α) w w' ∧ Tr O w O' w' ∧ Bd O' w' ∧ ∀ x, O' x → O x ∨ w.heap.size ≤ x
  | .panB v B => ∃ u φv αv us O' φ' α', e = .panicked [{ v := u, recovered := false }] ∧ VR w' O' φv αv v u ∧ DoneOk i w O φ α [] B [] w' us O' φ' α'
structure Con (P : Program) (G : GI) (f : Nat) (i : CIn) (o : COut) : Prop where
  ent : ∀ args w, (callFunc f args).run P w = .ok (.enter f args) w
  nn : Nat.beq f NF = false
  run : ∀ w O φ α us, VRs w O φ α i.vs us → Mm w O φ α i.B (i.A.map some) → Bd O w → G.p w O → Calls P f us.toArray w (Done i w O φ α o)

/-! Names. -/
def idx (x : Nat) : List Nat → Option Nat
  | [] => none
  | y :: r => if y = x then some 0 else (idx x r).map (· + 1)
theorem idx_some {x : Nat} : ∀ {l : List Nat} {j : Nat}, idx x l = some j → l[j]? = some x
  | y :: r, j, h => by
    unfold idx at h
    split at h
    · cases h; simp_all
    · obtain ⟨k, h1, rfl⟩ := Option.map_eq_some_iff.1 h
      simpa using idx_some h1
theorem idx_none {x : Nat} : ∀ {l : List Nat}, idx x l = none → x ∉ l
  | [], _ => by simp
  | y :: r, h => by
    unfold idx at h
    split at h
    · cases h
    · rename_i hy
      have := idx_none (Option.map_eq_none_iff.1 h)
      simp [this, Ne.symm hy]
theorem nodupN_spec : ∀ {l : List Nat}, nodupN l = true → ∀ (i j x : Nat), l[i]? = some x → l[j]? = some x → i = j
  | [], _, i, j, x, h, _ => by simp at h
  | y :: r, hn, i, j, x, h1, h2 => by
    simp only [nodupN, Bool.and_eq_true, Bool.not_eq_true'] at hn
    have hy : ∀ k : Nat, r[k]? ≠ some y := fun k hk => by
      have : r.any (Nat.beq y) = true := List.any_eq_true.2 ⟨y, List.mem_of_getElem? hk, Nat.beq_refl y⟩
      rw [this] at hn
      exact Bool.noConfusion hn.1
    cases i with
    | zero =>
      cases j with
      | zero => rfl
      | succ j =>
        simp at h1 h2
        subst h1
        exact (hy j h2).elim
    | succ i =>
      cases j with
      | zero =>
        simp at h1 h2
        subst h2
        exact (hy i h1).elim
      | succ j => rw [nodupN_spec hn.2 i j x (by simpa using h1) (by simpa using h2)]
theorem idx_of {l : List Nat} (hn : nodupN l = true) {j x : Nat} (h : l[j]? = some x) : idx x l = some j := by
  cases hi : idx x l with
  | none => exact (idx_none hi (List.mem_of_getElem? h)).elim
  | some k => rw [nodupN_spec hn k j x (idx_some hi) h]
def ov {β : Type} (ks : List Nat) (f' f : Nat → β) : Nat → β := fun x => match idx x ks with
  | some j => f' j
  | none => f x
theorem ov_in {β : Type} {ks : List Nat} {f' f : Nat → β} (hn : nodupN ks = true) {j x : Nat} (h : ks[j]? = some x) : ov ks f' f x = f' j := by
  unfold ov; rw [idx_of hn h]
theorem ov_out {β : Type} {ks : List Nat} {f' f : Nat → β} {x : Nat} (h : x ∉ ks) : ov ks f' f x = f x := by
  unfold ov
  split
  · rename_i j hj
    exact (h (List.mem_of_getElem? (idx_some hj))).elim
  · rfl
section
variable {w w' : World} {O O' : Nat → Prop} {φ φ' : Nat → Nat} {α α' : Nat → Value} {bs as_ : List Nat} {nb na : Nat}
theorem blt_lt {a b : Nat} (h : Nat.blt a b = true) : a < b := by simpa [Nat.blt_eq] using h
mutual
/-- From the caller's names to the call's. -/
theorem ren_in (hb : ∀ j x, j < nb → bs[j]? = some x → φ' j = φ x) (ha : ∀ j x, j < na → as_[j]? = some x → α' j = α x) (lb : nb ≤ bs.length) (la : na ≤ as_.length) : ∀ (v : PV) (u : Value), inR nb na v = true → VR w O φ α (renP bs as_ v) u → VR w O φ' α' v u
  | .int k n, u, _, h => h
  | .bool b, u, _, h => h
  | .str s, u, _, h => h
  | .sl T n l, u, _, h => h
  | .nil, u, _, h => h
  | .nilI, u, _, h => h
  | .nilp, u, _, h => h
  | .undef, u, _, h => trivial
  | .gone, u, _, h => h
  | .err _, u, _, h => h
  | .selfp b, u, k, h => by
    have k := blt_lt k
    have e : bs[b]? = some bs[b] := by simp [show b < bs.length by omega]
    unfold renP at h
    rw [e] at h
    simp only [VR] at h ⊢
    rw [hb b _ k e]
    exact h
  | .mp b, u, k, h => by
    have k := blt_lt k
    have e : bs[b]? = some bs[b] := by simp [show b < bs.length by omega]
    unfold renP at h
    rw [e] at h
    simp only [VR] at h ⊢
    rw [hb b _ k e]
    exact h
  | .md _, u, _, h => h
  | .cptr cs off, u, _, h => h
  | .eptr x m i off, u, k, h => by cases k
  | .ref a, u, k, h => by
    have k := blt_lt k
    have e : as_[a]? = some as_[a] := by simp [show a < as_.length by omega]
    unfold renP at h
    rw [e] at h
    simp only [VR] at h ⊢
    rw [ha a _ k e]
    exact h
  | .ptr b off, u, k, h => by
    have k := blt_lt k
    have e : bs[b]? = some bs[b] := by simp [show b < bs.length by omega]
    unfold renP at h
    rw [e] at h
    simp only [VR] at h ⊢
    rw [hb b _ k e]
    exact h
  | .agg cs, u, k, h => by
    obtain ⟨us, h1, h2⟩ := h
    exact ⟨us, h1, rens_in hb ha lb la cs us k h2⟩
  | .tup cs, u, k, h => by
    obtain ⟨us, h1, h2⟩ := h
    exact ⟨us, h1, rens_in hb ha lb la cs us k h2⟩
  | .iface T v, u, k, h => by
    obtain ⟨x, h1, h2⟩ := h
    exact ⟨x, h1, ren_in hb ha lb la v x k h2⟩
  | .fn f as_' cs, u, k, h => by
    simp only [inR, Bool.and_eq_true] at k
    obtain ⟨us, vs, h1, h2, h3⟩ := h
    exact ⟨us, vs, h1, rens_in hb ha lb la as_' us k.1 h2, rens_in hb ha lb la cs vs k.2 h3⟩
theorem rens_in (hb : ∀ j x, j < nb → bs[j]? = some x → φ' j = φ x) (ha : ∀ j x, j < na → as_[j]? = some x → α' j = α x) (lb : nb ≤ bs.length) (la : na ≤ as_.length) : ∀ (vs : List PV) (us : List Value), inR.go nb na vs = true → VRs w O φ α (renP.go bs as_ vs) us → VRs w O φ' α' vs us
  | [], us, _, h => h
  | v :: vs, us, k, h => by
    simp only [inR.go, Bool.and_eq_true] at k
    obtain ⟨u, us', h1, h2, h3⟩ := h
    exact ⟨u, us', h1, ren_in hb ha lb la v u k.1 h2, rens_in hb ha lb la vs us' k.2 h3⟩
end
mutual
/-- From the call's names to the caller's. -/
theorem ren_out (hb : ∀ j x, bs[j]? = some x → φ' x = φ j) (ha : ∀ j x, as_[j]? = some x → α' x = α j) (lb : nb ≤ bs.length) (la : na ≤ as_.length) : ∀ (v : PV) (u : Value), inR nb na v = true → VR w O φ α v u → VR w O φ' α' (renP bs as_ v) u
  | .int k n, u, _, h => h
  | .bool b, u, _, h => h
  | .str s, u, _, h => h
  | .sl T n l, u, _, h => h
  | .nil, u, _, h => h
  | .nilI, u, _, h => h
  | .nilp, u, _, h => h
  | .undef, u, _, h => trivial
  | .gone, u, _, h => h
  | .err _, u, _, h => h
  | .selfp b, u, k, h => by
    have k := blt_lt k
    have e : bs[b]? = some bs[b] := by simp [show b < bs.length by omega]
    unfold renP
    rw [e]
    simp only [VR] at h ⊢
    rw [hb b _ e]
    exact h
  | .mp b, u, k, h => by
    have k := blt_lt k
    have e : bs[b]? = some bs[b] := by simp [show b < bs.length by omega]
    unfold renP
    rw [e]
    simp only [VR] at h ⊢
    rw [hb b _ e]
    exact h
  | .md _, u, _, h => h
  | .cptr cs off, u, _, h => h
  | .eptr x m i off, u, k, h => by cases k
  | .ref a, u, k, h => by
    have k := blt_lt k
    have e : as_[a]? = some as_[a] := by simp [show a < as_.length by omega]
    unfold renP
    rw [e]
    simp only [VR] at h ⊢
    rw [ha a _ e]
    exact h
  | .ptr b off, u, k, h => by
    have k := blt_lt k
    have e : bs[b]? = some bs[b] := by simp [show b < bs.length by omega]
    unfold renP
    rw [e]
    simp only [VR] at h ⊢
    rw [hb b _ e]
    exact h
  | .agg cs, u, k, h => by
    obtain ⟨us, h1, h2⟩ := h
    exact ⟨us, h1, rens_out hb ha lb la cs us k h2⟩
  | .tup cs, u, k, h => by
    obtain ⟨us, h1, h2⟩ := h
    exact ⟨us, h1, rens_out hb ha lb la cs us k h2⟩
  | .iface T v, u, k, h => by
    obtain ⟨x, h1, h2⟩ := h
    exact ⟨x, h1, ren_out hb ha lb la v x k h2⟩
  | .fn f as_' cs, u, k, h => by
    simp only [inR, Bool.and_eq_true] at k
    obtain ⟨us, vs, h1, h2, h3⟩ := h
    exact ⟨us, vs, h1, rens_out hb ha lb la as_' us k.1 h2, rens_out hb ha lb la cs vs k.2 h3⟩
theorem rens_out (hb : ∀ j x, bs[j]? = some x → φ' x = φ j) (ha : ∀ j x, as_[j]? = some x → α' x = α j) (lb : nb ≤ bs.length) (la : na ≤ as_.length) : ∀ (vs : List PV) (us : List Value), inR.go nb na vs = true → VRs w O φ α vs us → VRs w O φ' α' (renP.go bs as_ vs) us
  | [], us, _, h => h
  | v :: vs, us, k, h => by
    simp only [inR.go, Bool.and_eq_true] at k
    obtain ⟨u, us', h1, h2, h3⟩ := h
    exact ⟨u, us', h1, ren_out hb ha lb la v u k.1 h2, rens_out hb ha lb la vs us' k.2 h3⟩
end
mutual
/-- A value without slices hangs on nothing. -/
theorem noSl_ok : ∀ (v : PV) (u : Value), hasSl v = false → VR w O φ α v u → VR w' O' φ α v u
  | .int k n, u, _, h => h
  | .bool b, u, _, h => h
  | .str s, u, _, h => h
  | .sl T n l, u, k, h => by cases k
  | .nil, u, _, h => h
  | .nilI, u, _, h => h
  | .nilp, u, _, h => h
  | .undef, u, _, h => trivial
  | .gone, u, _, h => h
  | .selfp _, u, _, h => h
  | .err _, u, _, h => h
  | .cptr cs off, u, k, h => by cases k
  | .md _, u, k, h => by cases k
  | .mp _, u, k, h => h
  | .eptr x m i off, u, k, h => h
  | .ref a, u, k, h => h
  | .ptr b off, u, k, h => h
  | .agg cs, u, k, h => by
    obtain ⟨us, h1, h2⟩ := h
    exact ⟨us, h1, noSls_ok cs us k h2⟩
  | .tup cs, u, k, h => by
    obtain ⟨us, h1, h2⟩ := h
    exact ⟨us, h1, noSls_ok cs us k h2⟩
  | .iface T v, u, k, h => by
    obtain ⟨x, h1, h2⟩ := h
    exact ⟨x, h1, noSl_ok v x k h2⟩
  | .fn f as_' cs, u, k, h => by
    simp only [hasSl, Bool.or_eq_false_iff] at k
    obtain ⟨us, vs, h1, h2, h3⟩ := h
    exact ⟨us, vs, h1, noSls_ok as_' us k.1 h2, noSls_ok cs vs k.2 h3⟩
theorem noSls_ok : ∀ (vs : List PV) (us : List Value), hasSl.go vs = false → VRs w O φ α vs us → VRs w' O' φ α vs us
  | [], us, _, h => h
  | v :: vs, us, k, h => by
    simp only [hasSl.go, Bool.or_eq_false_iff] at k
    obtain ⟨u, us', h1, h2, h3⟩ := h
    exact ⟨u, us', h1, noSl_ok v u k.1 h2, noSls_ok vs us' k.2 h3⟩
end
end
section
variable {w : World} {φ : Nat → Nat} {α : Nat → Value} {σ : St} {O O2 : Nat → Prop}
mutual
/-- What is lent. -/
theorem nrm_ok (hO : ∀ x, O2 x → O x) (hA : ∀ a e, lk σ.A a = some e → OwnX w O e.T e.n (α a) e.l) (wv : PV) : ∀ (v : PV) (u : Value), (∀ a ∈ lent wv v, ∀ e, lk σ.A a = some e → ∀ x, O2 x → (α a).ownBlock ≠ some x) → VR w O φ α v u → VR w O2 φ α (nrm σ wv v) u
  | .ref a, u, hl, h => by
    cases wv with
    | sl T n l =>
      show VR w O2 φ α (match lkU σ.A a with
        | some e => .sl e.T e.n e.l
        | none => .undef) u
      cases he : lkU σ.A a with
      | none => trivial
      | some e =>
        obtain ⟨he, hU⟩ := lkU_some he
        have h1 := ((hA a e he).un hU).data
        rw [← h.1] at h1
        exact h1.tr (Tr.drop w fun x hx => ⟨hO x hx, by rw [h.1]; exact hl a (by simp [lent]) e he x hx⟩)
    | _ => exact h
  | .nil, u, hl, h => by
    cases wv with
    | sl T n l =>
      simp only [VR] at h
      subst h
      exact .inl ⟨⟨_, rfl⟩, rfl⟩
    | _ => exact h
  | .agg vs, u, hl, h => by
    obtain ⟨us, h1, h2⟩ := h
    cases wv with
    | agg ws => exact ⟨us, h1, nrms_ok hO hA ws vs us hl h2⟩
    | _ => exact ⟨us, h1, VRs.tr (Tr.drop w hO) vs us h2⟩
  | .tup vs, u, hl, h => by
    obtain ⟨us, h1, h2⟩ := h
    cases wv with
    | tup ws => exact ⟨us, h1, nrms_ok hO hA ws vs us hl h2⟩
    | _ => exact ⟨us, h1, VRs.tr (Tr.drop w hO) vs us h2⟩
  | .int k n, u, hl, h => by cases wv <;> exact h
  | .bool b, u, hl, h => by cases wv <;> exact h
  | .str s, u, hl, h => by cases wv <;> exact h
  | .nilI, u, hl, h => by
    cases wv with
    | err _ => exact .inl ⟨rfl, h⟩
    | _ => exact h
  | .nilp, u, hl, h => by cases wv <;> exact h
  | .undef, u, hl, h => by cases wv <;> trivial
  | .gone, u, hl, h => by cases wv <;> exact h
  | .selfp _, u, hl, h => by cases wv <;> exact h
  | .err _, u, hl, h => by cases wv <;> exact h
  | .ptr b off, u, hl, h => by cases wv <;> exact h
  | .eptr x m i off, u, hl, h => by cases wv <;> exact h
  | .sl T n l, u, hl, h => by cases wv <;> exact VR.tr (Tr.drop w hO) (.sl T n l) u h
  | .mp b, u, hl, h => by cases wv <;> exact h
  | .md c, u, hl, h => by cases wv <;> exact VR.tr (Tr.drop w hO) (.md c) u h
  | .cptr cs off, u, hl, h => by cases wv <;> exact VR.tr (Tr.drop w hO) (.cptr cs off) u h
  | .iface T v, u, hl, h => by
    cases wv with
    | err _ =>
      obtain ⟨x, h1, _⟩ := h
      exact .inr ⟨rfl, T, x, h1⟩
    | _ => exact VR.tr (Tr.drop w hO) (.iface T v) u h
  | .fn f as_ cs, u, hl, h => by cases wv <;> exact VR.tr (Tr.drop w hO) (.fn f as_ cs) u h
theorem nrms_ok (hO : ∀ x, O2 x → O x) (hA : ∀ a e, lk σ.A a = some e → OwnX w O e.T e.n (α a) e.l) : ∀ (ws vs : List PV) (us : List Value), (∀ a ∈ lent.go ws vs, ∀ e, lk σ.A a = some e → ∀ x, O2 x → (α a).ownBlock ≠ some x) → VRs w O φ α vs us → VRs w O2 φ α (nrm.go σ ws vs) us
  | [], vs, us, hl, h => by
    have : nrm.go σ [] vs = vs := by cases vs <;> rfl
    rw [this]
    exact VRs.tr (Tr.drop w hO) vs us h
  | wv :: ws, [], us, hl, h => h
  | wv :: ws, v :: vs, us, hl, h => by
    obtain ⟨u, us', h1, h2, h3⟩ := h
    simp only [lent.go, List.mem_append] at hl
    exact ⟨u, us', h1, nrm_ok hO hA wv v u (fun a ha => hl a (.inl ha)) h2, nrms_ok hO hA ws vs us' (fun a ha => hl a (.inr ha)) h3⟩
end
end
theorem boxesOk_get {σ : St} {bs as_ : List Nat} : ∀ {ks : List Nat} {es : List Bx}, boxesOk σ bs as_ ks es → ∀ (j : Nat) (e : Bx), es[j]? = some e → ∃ (b : Nat) (x : Bx), ks[j]? = some b ∧ lk σ.B b = some x ∧ x.T = e.T ∧ nrm.go { σ with A := [] } e.cs x.cs = renP.go bs as_ e.cs
  | _, [], _, j, e, h => by simp at h
  | [], _ :: _, hb, _, _, _ => hb.elim
  | b :: ks, e :: es, hb, j, e', h => by
    obtain ⟨h1, h2⟩ := hb
    cases j with
    | zero =>
      simp at h
      subst h
      split at h1
      · exact ⟨b, _, rfl, by assumption, h1.1, h1.2⟩
      · exact h1.elim
    | succ j => simpa using boxesOk_get h2 j e' (by simpa using h)
theorem arrsOk_get {σ : St} : ∀ {ks : List Nat} {es : List (Nat × Nat × List (List D))}, arrsOk σ ks es → ∀ (j : Nat) (e : Nat × Nat × List (List D)), es[j]? = some e → ∃ (a : Nat) (x : Arr), ks[j]? = some a ∧ lk σ.A a = some x ∧ x.T = e.1 ∧ x.n = e.2.1 ∧ x.l = e.2.2
  | _, [], _, j, e, h => by simp at h
  | [], _ :: _, hb, _, _, _ => hb.elim
  | b :: ks, e :: es, hb, j, e', h => by
    obtain ⟨h1, h2⟩ := hb
    cases j with
    | zero =>
      simp at h
      subst h
      split at h1
      · exact ⟨b, _, rfl, by assumption, h1⟩
      · exact h1.elim
    | succ j => simpa using arrsOk_get h2 j e' (by simpa using h)
theorem lk_append {β : Type} {t : Nat} {v : β} : ∀ {l l2 : List (Nat × β)}, lk (l ++ l2) t = some v → lk l t = some v ∨ lk l2 t = some v
  | [], l2, h => .inr h
  | (s, x) :: r, l2, h => by
    simp only [List.cons_append] at h
    rcases lk_cons h with ⟨rfl, rfl⟩ | ⟨h1, h2⟩
    · left; unfold lk; simp
    · rcases lk_append h2 with h3 | h3
      · left
        show (match Nat.beq s t with
          | true => some x
          | false => lk r t) = some v
        split
        · rename_i e; exact (h1 (Nat.eq_of_beq_eq_true e).symm).elim
        · exact h3
      · exact .inr h3
theorem zipB_get {bs as_ : List Nat} {x : Nat} {e : Bx} : ∀ {ks : List Nat} {es : List Bx}, lk (zipB bs as_ ks es) x = some e → ∃ (j : Nat) (e0 : Bx), ks[j]? = some x ∧ es[j]? = some e0 ∧ e = ⟨e0.T, renP.go bs as_ e0.cs⟩
  | [], [], h => by cases h
  | [], _ :: _, h => by cases h
  | _ :: _, [], h => by cases h
  | b :: ks, e0 :: es, h => by
    simp only [zipB] at h
    rcases lk_cons h with ⟨rfl, rfl⟩ | ⟨_, h⟩
    · exact ⟨0, e0, rfl, rfl, rfl⟩
    · obtain ⟨j, e1, h1, h2, h3⟩ := zipB_get h
      exact ⟨j + 1, e1, by simpa using h1, by simpa using h2, h3⟩
theorem zipA_get {m : Bool} {x : Nat} {e : Arr} : ∀ {ks : List Nat} {es : List (Option (Nat × Nat × List (List D)))}, lk (zipA m ks es) x = some e → ∃ (j : Nat) (e0 : Nat × Nat × List (List D)), ks[j]? = some x ∧ es[j]? = some (some e0) ∧ e = ⟨m, e0.1, e0.2.1, e0.2.2⟩
  | [], [], h => by cases h
  | [], _ :: _, h => by cases h
  | _ :: _, [], h => by cases h
  | b :: ks, some e0 :: es, h => by
    simp only [zipA] at h
    rcases lk_cons h with ⟨rfl, rfl⟩ | ⟨_, h⟩
    · exact ⟨0, e0, rfl, rfl, rfl⟩
    · obtain ⟨j, e1, h1, h2, h3⟩ := zipA_get h
      exact ⟨j + 1, e1, by simpa using h1, by simpa using h2, h3⟩
  | b :: ks, none :: es, h => by
    simp only [zipA] at h
    obtain ⟨j, e1, h1, h2, h3⟩ := zipA_get h
    exact ⟨j + 1, e1, by simpa using h1, by simpa using h2, h3⟩
theorem allMine_get {σ : St} : ∀ {as_ : List Nat}, allMine σ as_ = true → ∀ a ∈ as_, ∀ e, lk σ.A a = some e → e.mine = true
  | b :: as_, h, a, ha, e, he => by
    simp only [allMine, Bool.and_eq_true] at h
    rcases List.mem_cons.1 ha with rfl | ha
    · rw [he] at h; exact h.1
    · exact allMine_get h.2 a ha e he
theorem freeze_B {b : Nat} {e : Bx} : ∀ {ls : List Nat} {σ σ' : St}, σ.freeze ls = some σ' → lk σ'.B b = some e → ∃ e0, lk σ.B b = some e0
  | [], σ, σ', h, k => by cases h; exact ⟨e, k⟩
  | a :: ls, σ, σ', h, k => by
    unfold St.freeze at h
    split at h
    · rename_i ar _
      split at h
      · obtain ⟨e0, h1⟩ := freeze_B h k
        have h2 : (lk σ.B b).map (fun x : Bx => ({ x with cs := x.cs.map (frzP a ar) } : Bx)) = some e0 := (lk_map (fun x : Bx => ({ x with cs := x.cs.map (frzP a ar) } : Bx)) σ.B b).symm.trans h1
        obtain ⟨y, h3, _⟩ := Option.map_eq_some_iff.1 h2
        exact ⟨y, h3⟩
      · cases h
    · exact freeze_B h k
theorem keys_A {σ : St} : ∀ {as_ : List Nat}, as_.all σ.freshA = true → (∀ t v, lk σ.L t = some v → keyP (fun _ => True) (fun x => x ∉ as_) v) ∧ (∀ b e, lk σ.B b = some e → keyP.go (fun _ => True) (fun x => x ∉ as_) e.cs) ∧ ∀ a ∈ as_, lk σ.A a = none
  | [], _ => ⟨fun _ _ _ => keyP.all (fun _ => trivial) (fun _ => by simp), fun _ _ _ => keyP.alls (fun _ => trivial) (fun _ => by simp), fun _ h => by simp at h⟩
  | a :: as_, h => by
    simp only [List.all_cons, Bool.and_eq_true] at h
    obtain ⟨h1, h2, h3⟩ := freshA_spec h.1
    obtain ⟨h4, h5, h6⟩ := keys_A h.2
    refine ⟨fun t v hv => (h2 t v hv).and (fun _ _ _ => trivial) (fun x k1 k2 => by simp [k1, k2]) (h4 t v hv), fun b e he => keyP.ands (fun _ _ _ => trivial) (fun x k1 k2 => by simp [k1, k2]) (h3 b e he) (h5 b e he), fun x hx => ?_⟩
    rcases List.mem_cons.1 hx with rfl | hx
    · exact h1
    · exact h6 x hx
theorem keys_B {σ : St} : ∀ {bs : List Nat}, bs.all σ.freshB = true → (∀ t v, lk σ.L t = some v → keyP (fun x => x ∉ bs) (fun _ => True) v) ∧ (∀ b e, lk σ.B b = some e → keyP.go (fun x => x ∉ bs) (fun _ => True) e.cs) ∧ ∀ a ∈ bs, 1000 ≤ a ∧ lk σ.B a = none
  | [], _ => ⟨fun _ _ _ => keyP.all (fun _ => by simp) (fun _ => trivial), fun _ _ _ => keyP.alls (fun _ => by simp) (fun _ => trivial), fun _ h => by simp at h⟩
  | a :: as_, h => by
    simp only [List.all_cons, Bool.and_eq_true] at h
    obtain ⟨h1, h2, h3⟩ := freshB_spec h.1
    obtain ⟨h4, h5, h6⟩ := keys_B h.2
    refine ⟨fun t v hv => (h2 t v hv).and (fun x k1 k2 => by simp [k1, k2]) (fun _ _ _ => trivial) (h4 t v hv), fun b e he => keyP.ands (fun x k1 k2 => by simp [k1, k2]) (fun _ _ _ => trivial) (h3 b e he) (h5 b e he), fun x hx => ?_⟩
    rcases List.mem_cons.1 hx with rfl | hx
    · exact h1
    · exact h6 x hx
end
section
set_option linter.unusedVariables false
open Go.RowKit Go.Lk Go.Proofs Go.Shelf
variable {P : Program} {ρ : Ren}
theorem VRs.str {w : World} {O : Nat → Prop} {φ : Nat → Nat} {α : Nat → Value} {a : List UInt8} {vs : List PV} {us : List Value} (h : VRs w O φ α (.str a :: vs) us) : ∃ us', us = .string ⟨a.toArray⟩ :: us' ∧ VRs w O φ α vs us' := by
  obtain ⟨u, us', rfl, h1, h2⟩ := h
  simp only [VR] at h1
  exact ⟨us', by rw [h1], h2⟩
theorem VRs.nil {w : World} {O : Nat → Prop} {φ : Nat → Nat} {α : Nat → Value} {us : List Value} (h : VRs w O φ α [] us) : us = [] := h
theorem VRs.gStr {w : World} {O : Nat → Prop} {φ : Nat → Nat} {α : Nat → Value} (a : List UInt8) : VRs w O φ α [.str a] [.string ⟨a.toArray⟩] := ⟨_, [], rfl, rfl, rfl⟩
theorem VRs.gBool {w : World} {O : Nat → Prop} {φ : Nat → Nat} {α : Nat → Value} (a : Bool) : VRs w O φ α [.bool a] [.bool a] := ⟨_, [], rfl, rfl, rfl⟩
/-- A function that takes values, gives values, and turns nothing that was there. -/
theorem Con.lib {G : GI} {f : Nat} {vs rs : List PV} (ent : ∀ args w, (callFunc f args).run P w = .ok (.enter f args) w)
    (h : ∀ w O φ α us, VRs w O φ α vs us → Bd O w → G.p w O → Calls P f us.toArray w fun e w' => ∃ us', e = .returned (retU us') ∧ (∀ O' φ' α', VRs w' O' φ' α' rs us') ∧ Ext Nowhere w w') (hnn : Nat.beq f NF = false := by exact rfl) : Con P G f ⟨vs, [], []⟩ (.ok rs [] []) := by
  refine ⟨ent, hnn, fun w O φ α us hv hm hB hG => (h w O φ α us hv hB hG).mono fun e w' ⟨us', h1, h2, h3⟩ => ?_⟩
  have tr : Tr O w O w' := Tr.of_ext h3 fun _ _ hx => hx.elim
  refine ⟨us', O, φ, α, h1, h2 O φ α, ⟨fun b e he => ?_, fun a e he => ?_, fun a b la _ _ => ?_, fun a b e e' ha _ _ => ?_, fun a b e ha _ => ?_⟩, fun _ _ => rfl, Nat.le_refl _, fun x hx => Nat.lt_of_lt_of_le (hB x hx) h3.size, tr, fun _ hx => hx, fun _ hx => .inl hx, h3.mono fun _ _ hx => hx.elim, fun b h1 _ => ?_, fun a e x he _ => ?_⟩
  · simp at he
  · simp at he
  · exact absurd la (Nat.not_lt_zero _)
  · simp at ha
  · simp at ha
  · exact absurd h1 (Nat.not_lt_zero _)
  · simp at he
end
end Go.Pe
