/- The acting operations, calls apart. It speaks of no program. -/
import Derived.Test.YtcfkkgpnggdlnaaGreatDoorPeS1
set_option linter.all false
namespace Go.Pe
open Go.RowKit Go.Lk

section
variable {z : W0} {fL fL' : FL} {fB fB' : FB} {fA fA' : FA} {V : Env} {w w' : World} {O O' : Nat → Prop} {φ φ' : Nat → Nat} {α α' : Nat → Value} {σ σ' : St}
theorem Ext.after (h : Rel z fL fB fA V w O φ α) {H : Nat → Prop} (x : Ext H w w') (hH : ∀ y, H y → z.F y ∨ z.w.heap.size ≤ y) : Ext z.F z.w w' := h.ext.step x fun y hy hh => by
  rcases hH y hh with h1 | h1
  · exact h1
  · omega
theorem Bd.new {b : Nat} {T : TypeId} {us : List Value} {H : Nat → Prop} (hB : Bd O w) (x : Ext H w w') (hb : BoxAt w' b T us) : Bd (Ins O b) w' := fun y hy => by
  rcases hy with rfl | hy
  · exact hb.lt
  · exact Nat.lt_of_lt_of_le (hB y hy) x.size
theorem Rel.newB (h : Rl z σ V w O φ α) {d key b : Nat} {T : TypeId} {us : List Value} {cs : List PV} (hf : σ.freshB key = true) (hb : BoxAt w' b T us) (x : Ext Nowhere w w') (hw : w.heap.size ≤ b) (hv : VRs w O φ α cs us) (kc : keyP.go (fun y => y ≠ key) (fun _ => True) cs) :
    Rl z { σ with B := (key, ⟨T, cs⟩) :: σ.B, L := (d, .ptr key 0) :: σ.L } ((d, .pointer (some ⟨b, 0, none⟩)) :: V) w' (Ins O b) (ren φ key b) α := by
  have t : Tr O w (Ins O b) w' := Tr.of_new x (fun _ _ hh => hh.elim) hw
  have h1 := h.reB hf b
  have h2 := h1.move x t (fun y hy => .inr hy) (Bd.new h.bd x hb) (fun _ _ _ hh => hh) (fun _ _ _ _ _ hh => hh) (Ext.after h x fun _ hh => hh.elim) fun y hy => by
    rcases hy with rfl | hy
    · exact .inr (Nat.le_trans h.ext.size hw)
    · exact h.only y hy
  have er : ren φ key b key = b := by simp [ren]
  have hv2 : VRs w' (Ins O b) (ren φ key b) α cs us := VRs.re (kb := fun y => y ≠ key) (ka := fun _ => True) (fun y hy => by simp [ren, hy]) (fun _ _ => rfl) _ _ kc (VRs.tr t _ _ hv)
  have h3 := h2.addB (b := key) (e := ⟨T, cs⟩) (us := us) (.inl er) (by rw [er]; exact hb) hv2 (fun c e' hc _ => by
    rw [er]
    have := h1.boxLt hc
    omega) (fun a e' ha hh => by
    rw [er] at hh
    have := h1.arrLt ha hh
    omega) (by rw [er]; exact .inr (Nat.le_trans h.ext.size hw))
  have h4 := h3.put (d := d) (v := .ptr key 0) (u := .pointer (some ⟨b, 0, none⟩)) (by simp only [VR, er])
  exact h4.mono Le.cons Le.cons (Le.refl _)
theorem Rel.newA (h : Rl z σ V w O φ α) {d key : Nat} {v : Value} {e : Arr} {H : Nat → Prop} (hf : σ.freshA key = true) (x : Ext H w w') (t : Tr O w O' w') (more : ∀ y, O y → O' y) (bd' : Bd O' w') (only' : ∀ y, O' y → O y ∨ w.heap.size ≤ y)
    (hB : ∀ b e, lk σ.B b = some e → ¬ H (φ b)) (hA : ∀ a e, lk σ.A a = some e → ∀ y, (α a).ownBlock = some y → ¬ H y) (hH : ∀ y, H y → z.F y ∨ z.w.heap.size ≤ y) (hT : e.T < 1000000) (ho : Own w' O' e.T e.n v e.l)
    (h1 : ∀ y, v.ownBlock = some y → H y ∨ w.heap.size ≤ y) (h3 : ∀ y, v.ownBlock = some y → (e.mine = false ∧ z.F y) ∨ z.w.heap.size ≤ y) :
    Rl z { σ with A := (key, e) :: σ.A, L := (d, .ref key) :: σ.L } ((d, v) :: V) w' O' φ (renA α key v) := by
  have k1 := h.reA hf v
  have er : renA α key v key = v := by simp [renA]
  obtain ⟨f1, f2, f3⟩ := freshA_spec hf
  have hA' : ∀ a e, lk σ.A a = some e → renA α key v a = α a := fun a e ha => by
    have : a ≠ key := fun hh => by subst hh; rw [f1] at ha; cases ha
    simp [renA, this]
  have k2 := k1.move x t more bd' hB (fun a e ha y hy => by rw [hA' a e ha] at hy; exact hA a e ha y hy) (Ext.after h x hH) fun y hy => by
    rcases only' y hy with hy | hy
    · exact h.only y hy
    · exact .inr (Nat.le_trans h.ext.size hy)
  have k3 := k2.addA (a := key) (e := e) (by rw [er]; exact .inl ⟨hT, ho⟩) (fun c e' hc _ y hy => by
    rw [er]
    intro hh
    rw [hA' c e' hc] at hy
    rcases h1 y hh with h2 | h2
    · exact hA c e' hc y hy h2
    · have := h.arrLt hc hy; omega) (fun b e' hb => by
    rw [er]
    intro hh
    rcases h1 _ hh with h2 | h2
    · exact hB b e' hb h2
    · have := h.boxLt hb; omega) (fun y hy => by rw [er] at hy; exact h3 y hy)
  have k4 := k3.put (d := d) (v := .ref key) (u := v) ⟨er.symm, OwnX.one' (.inl ⟨hT, ho⟩)⟩
  exact k4.mono Le.cons (Le.refl _) Le.cons
theorem Rel.putS (h : Rl z σ V w O φ α) {d : Nat} {v : PV} {u : Value} (hv : VR w O φ α v u) : Rl z { σ with L := (d, v) :: σ.L } ((d, u) :: V) w O φ α := (h.put hv).mono Le.cons (Le.refl _) (Le.refl _)
def putE (d : Option Nat) (u : Value) (V : Env) : Env := match d with
  | some d => (d, u) :: V
  | none => V
theorem Rel.putO (h : Rl z σ V w O φ α) (d : Option Nat) {v : PV} {u : Value} (hv : VR w O φ α v u) : Rl z (σ.put d v) (putE d u V) w O φ α := by
  cases d with
  | none => exact h
  | some d => exact h.putS hv
/-- The world turned in nothing that the state knows. -/
theorem Rel.moveN (h : Rl z σ V w O φ α) (x : Ext Nowhere w w') : Rl z σ V w' O φ α :=
  h.move x (Tr.of_ext x fun _ _ hh => hh.elim) (fun _ hy => hy) (h.bd.ext x) (fun _ _ _ hh => hh) (fun _ _ _ _ _ hh => hh) (Ext.after h x fun _ hh => hh.elim) h.only
theorem Rel.newAN (h : Rl z σ V w O φ α) {d key b T m len : Nat} {us : List Value} {l : List (List D)} {mine : Bool} (hT : T < 1000000) (hf : σ.freshA key = true) (hb : BoxAt w' b T us) (x : Ext Nowhere w w') (hw : w.heap.size ≤ b) (hl : l.length = len) (hm : len ≤ maxLen) (hs : us.length = len * m) (hr : RDl w O m l us) :
    Rl z { σ with A := (key, ⟨mine, T, m, l⟩) :: σ.A, L := (d, .ref key) :: σ.L } ((d, .slice (some ⟨b, 0, none⟩) len len) :: V) w' (Ins O b) φ (renA α key (.slice (some ⟨b, 0, none⟩) len len)) := by
  have t : Tr O w (Ins O b) w' := Tr.of_new x (fun _ _ hh => hh.elim) hw
  exact h.newA hf x t (fun y hy => .inr hy) (Bd.new h.bd x hb) (fun y hy => by
    rcases hy with rfl | hy
    · exact .inr hw
    · exact .inl hy) (fun _ _ _ hh => hh) (fun _ _ _ _ _ hh => hh) (fun _ hh => hh.elim) hT (Own.of_new hb hl hm hs (hr.tr t) (.inl rfl)) (fun y hy => by
    simp only [Value.ownBlock, Option.some.injEq] at hy
    subst hy
    exact .inr hw) (fun y hy => by
    simp only [Value.ownBlock, Option.some.injEq] at hy
    subst hy
    exact .inr (Nat.le_trans h.ext.size hw))
theorem Rel.newBS (h : Rl z σ V w O φ α) {key b : Nat} {e : Bx} {us : List Value} {cs : List PV} (hk : lk σ.B key = some e) (hb : BoxAt w' (φ key) e.T us) (x : Ext (At (φ key)) w w') (hv : VRs w O φ α cs us) (_ : b = b) :
    Rl z { σ with B := setk key ⟨e.T, cs⟩ σ.B } V w' O φ α := by
  have ho := (h.box key e hk).1
  have t : Tr O w O w' := Tr.of_ext x fun y _ hy => by cases hy; exact ho
  have h1 := h.mono (Le.refl _) (fB' := del (lk σ.B) key) (fun t v hv => (del_some hv).2) (Le.refl _)
  have h2 := h1.move x t (fun _ hy => hy) (h.bd.ext x) (fun c e' hc hh => by
    obtain ⟨n1, hc⟩ := del_some hc
    exact h.bb c key e' e hc hk n1 hh) (fun a e' ha y hy hh => by
    cases hh
    exact h.ab a key e' e ha hk hy) (Ext.after h x fun y hy => by cases hy; exact (h.bF key e hk).elim (fun q => .inl q.2) .inr) h.only
  have h3 := h2.addB (b := key) (e := ⟨e.T, cs⟩) (us := us) ho hb (VRs.tr t _ _ hv) (fun c e' hc n1 hh => h.bb c key e' e (del_some hc).2 hk n1 hh) (fun a e' ha hh => h.ab a key e' e ha hk hh) (h.bF key e hk)
  exact h3.mono (Le.refl _) Le.setk (Le.refl _)
theorem Rel.storeA (h : Rl z σ V w O φ α) {a : Nat} {e : Arr} {l : List (List D)} (hk : lk σ.A a = some e) (hT : e.T < 1000000) (ho : Own w' O e.T e.n (α a) l) (x : Ext (fun y => (α a).ownBlock = some y) w w') :
    Rl z { σ with A := setk a { e with l := l } σ.A } V w' O φ α := by
  have t : Tr O w O w' := Tr.of_ext x fun y _ hy => h.arrO hk hy
  have h1 := h.mono (Le.refl _) (Le.refl _) (fA' := del (lk σ.A) a) (fun t v hv => (del_some hv).2)
  have h2 := h1.move x t (fun _ hy => hy) (h.bd.ext x) (fun c e' hc hh => h.ab a c e e' hk hc hh) (fun c e' hc y hy hh => by
    obtain ⟨n1, hc⟩ := del_some hc
    exact h.aa c a e' e hc hk n1 y hy hh) (Ext.after h x fun y hy => (h.aF a e hk y hy).elim (fun q => .inl q.2) .inr) h.only
  have h3 := h2.addA (a := a) (e := { e with l := l }) (.inl ⟨hT, ho⟩) (fun c e' hc n1 y hy hh => h.aa c a e' e (del_some hc).2 hk n1 y hy hh) (fun b e' hb hh => h.ab a b e e' hk hb hh) (h.aF a e hk)
  exact h3.mono (Le.refl _) (Le.refl _) Le.setk
/-! Elements. -/
theorem RDs.len {w : World} {O : Nat → Prop} : ∀ {l : List D} {us : List Value}, RDs w O l us → us.length = l.length
  | [], us, h => by cases h; rfl
  | d :: l, us, h => by
    obtain ⟨v, vs, rfl, _, h⟩ := h
    simp [RDs.len h]
theorem toD_ok {c : Option (Nat × Nat)} {v : PV} {d : D} {u : Value} (e : toD c v = some d) (h : VR w O φ α v u) : RD w O d u := by
  unfold toD at e
  split at e
  · cases e; simpa [VR, RD] using h
  · cases e; simpa [VR, RD] using h
  · cases e; simpa [VR, RD] using h
  · cases e; exact h
  · split at e
    · cases e
      simp only [VR] at h
      subst h
      exact .inl ⟨⟨_, rfl⟩, rfl⟩
    · cases e
  · cases e
theorem toDs_ok : ∀ {cs : List PV} {ct : List (Option (Nat × Nat))} {ds : List D} {us : List Value}, toDs ct cs = some ds → VRs w O φ α cs us → RDs w O ds us
  | [], ct, ds, us, e, h => by
    unfold toDs at e
    cases e
    exact h
  | v :: vs, ct, ds, us, e, h => by
    obtain ⟨u, us', rfl, h2, h3⟩ := h
    cases ct with
    | nil =>
      simp only [toDs] at e
      split at e
      · rename_i d ds' h4 h5
        cases e
        exact ⟨u, us', rfl, toD_ok h4 h2, toDs_ok h5 h3⟩
      · cases e
    | cons c ct =>
      simp only [toDs] at e
      split at e
      · rename_i d ds' h4 h5
        cases e
        exact ⟨u, us', rfl, toD_ok h4 h2, toDs_ok h5 h3⟩
      · cases e
theorem flat_sound {ct : List (Option (Nat × Nat))} {m : Nat} : ∀ {us : List PV} {is : List Nat} {xs : List Value} {ds : List (List D)} {i : Nat}, rangeOk i is = true → is.length = us.length → VRs w O φ α us xs → us.all (fun x => !(isUndef x)) = true → elsD ct us = some ds → ds.all (fun x => Nat.beq x.length m) = true →
    ∃ cs, flat m i (is.zip xs) = some cs ∧ RDl w O m ds cs ∧ cs.length = us.length * m ∧ ds.length = us.length
  | [], is, xs, ds, i, _, hl, h, _, e, _ => by
    cases h
    unfold elsD at e
    cases e
    simp only [List.zip_nil_right, flat]
    exact ⟨[], rfl, trivial, by simp, rfl⟩
  | u :: us, is, xs, ds, i, hr, hl, h, hu, e, hm => by
    obtain ⟨x, xs', rfl, h2, h3⟩ := h
    cases is with
    | nil => simp at hl
    | cons j is =>
      simp only [rangeOk, Bool.and_eq_true] at hr
      simp only [List.all_cons, Bool.and_eq_true] at hu
      unfold elsD at e
      split at e
      · rename_i d ds' h4 h5
        cases e
        simp only [List.all_cons, Bool.and_eq_true] at hm
        obtain ⟨cs, k1, k2, k3, k4⟩ := flat_sound hr.2 (by simpa using hl) h3 hu.2 h5 hm.2
        have h6 := toDs_ok h4 (h2.cells (by simpa using hu.1))
        have h7 := RDs.len h6
        have h8 := Nat.eq_of_beq_eq_true hm.1
        have h9 : x.cells.size = m := by rw [← h8, ← h7, Array.length_toList]
        refine ⟨x.cells.toList ++ cs, ?_, ?_, ?_, by simp [k4]⟩
        · simp only [List.zip_cons_cons]
          unfold flat
          rw [hr.1, k1, h9, Nat.beq_refl]
        · refine ⟨?_, ?_⟩
          · have : (x.cells.toList ++ cs).take m = x.cells.toList := by rw [← h9, ← Array.length_toList]; exact List.take_left
            rw [this]; exact h6
          · have : (x.cells.toList ++ cs).drop m = cs := by rw [← h9, ← Array.length_toList]; exact List.drop_left
            rw [this]; exact k2
        · rw [List.length_append, k3, Array.length_toList, h9, List.length_cons, Nat.succ_mul]; omega
      · cases e
theorem dby_ok : ∀ {l : List (List D)} {s : List UInt8}, dby l = some s → ∃ xs : List Int, l = xs.map (eI .u8) ∧ s = byt xs
  | [], s, e => by cases e; exact ⟨[], rfl, rfl⟩
  | x :: r, s, e => by
    unfold dby at e
    split at e
    · cases e; exact ⟨[], by assumption, rfl⟩
    · rename_i n r' hx
      split at e
      · rename_i s' h1
        cases e
        simp only [List.cons.injEq] at hx
        obtain ⟨rfl, rfl⟩ := hx
        obtain ⟨xs, rfl, rfl⟩ := dby_ok h1
        exact ⟨n :: xs, rfl, rfl⟩
      · cases e
    · cases e
end
/-- The state is true of the slots and the world. -/
def RS (z : W0) (σ : St) (V : Env) (w : World) : Prop := ∃ O φ α, Rl z σ V w O φ α ∧ ∀ x, z.O x → O x
/-- What is to be shown where a panic leaves the function. -/
def PanOk (z : W0) (C : Cx) (n : Nat) (ds : List Deferred) (v : PV) (s : St) : Prop := ∀ V w O φ α u φ' α', Rl z s V w O φ α → (∀ x, z.O x → O x) → VR w O φ' α' v u → ∀ a, Has n V a → a.defers = ds → PN C a [{ v := u, recovered := false }] w
def NX (z : W0) (C : Cx) (n : Nat) (ds : List Deferred) (ops : Array Oper) (rest : List Oper) (K : Act → World → Prop) (s : St) : Prop := ∀ V w, RS z s V w → OW C n ds ops rest K V w
theorem Rel.tr0 {z : W0} {fL : FL} {fB : FB} {fA : FA} {V : Env} {w : World} {O : Nat → Prop} {φ : Nat → Nat} {α : Nat → Value} (h : Rel z fL fB fA V w O φ α) : Tr z.O z.w O w :=
  ⟨h.ext.size, fun b hb ho => h.ext.block b hb fun hf => ho (z.hF b hf), fun b hb ho ho' => by
    rcases h.only b ho' with h1 | h1
    · exact ho h1
    · omega⟩
theorem ofV1_key {kb ka : Nat → Prop} (v : Value) : keyP kb ka (ofV1 v) := by
  unfold ofV1
  split <;> trivial
theorem ofV1s_key {kb ka : Nat → Prop} : ∀ (l : List Value), keyP.go kb ka (l.map ofV1)
  | [] => trivial
  | v :: l => ⟨ofV1_key v, ofV1s_key l⟩
theorem ofV_key {kb ka : Nat → Prop} (v : Value) : keyP kb ka (ofV v) := by
  unfold ofV
  split
  · exact ofV1s_key _
  · exact ofV1_key v
theorem cells_key {kb ka : Nat → Prop} {v : PV} (h : keyP kb ka v) : keyP.go kb ka (cellsOf v) := by
  cases v with
  | agg cs => exact h
  | _ => exact ⟨h, trivial⟩
theorem ev_key {kb ka : Nat → Prop} {σ : St} (hL : ∀ t v, lk σ.L t = some v → keyP kb ka v) {x : Operand} {v : PV} (e : σ.ev x = some v) : keyP kb ka v := by
  cases x with
  | tmp t => exact hL t v e
  | const c => cases e; exact ofV_key c
  | global g => cases e
  | func f => cases e; exact ⟨trivial, trivial⟩
section
variable {z : W0} {V : Env} {w : World} {O : Nat → Prop} {φ : Nat → Nat} {α : Nat → Value} {σ : St} {C : Cx} {n : Nat} {ops : Array Oper} {o : Oper} {rest : List Oper} {K : Act → World → Prop}
theorem born_sound {key E : Nat} {k : St → Prop} (h : Rl z σ V w O φ α) (hw : σ.born key E k) : ∃ s α', Rl z s V w O φ α' ∧ k s := by
  unfold St.born at hw
  obtain ⟨s, e1, hw⟩ := wt_some hw
  obtain ⟨α', h2⟩ := home_sound _ h e1
  split at hw
  · rename_i e2
    exact ⟨_, α', set_sound h2 e2 fun u hu => by simp only [VR] at hu ⊢; exact .inl hu, hw⟩
  · exact hw.elim
theorem OW.panD {ds : List Deferred} {x : Operand} {T : TypeId} {u : Value} (hg : o.guard = none) (ho : o.op = .panic x) (hx : Lk.ev V x = some (.iface T u)) (h : ∀ a, Has n V a → a.defers = ds → PN C a [{ v := .iface T u, recovered := false }] w) : OW C n ds ops (o :: rest) K V w := fun a ha hds =>
  wpList_plain hg fun K hK => by
    have hr : (execOp a.eval o).run C.P w = .halt (.panic (.iface T u)) w := by simp [execOp, ho, ha.ev hx, Instr.panic]
    unfold Oper.wp
    rw [hr, Oper.upon_panic]
    exact h a ha hds
set_option maxRecDepth 100000 in
theorem act_sound {ds : List Deferred} {tb : Tb} {cty : List (Nat × List (Option (Nat × Nat)))} {ann : Ann} {con : Nat → CIn → COut → Prop} {k : St → Prop} {kp : PV → St → Prop} (ht : TbOk C.P tb) (hg : o.guard = none) (hn : dOk n o.dst = true) (h : Rl z σ V w O φ α) (hs : ∀ x, z.O x → O x)
    (hk : ∀ s, k s → NX z C n ds ops rest K s) (hp : ∀ v s, kp v s → PanOk z C n ds v s)
    (hc : ∀ c x vs f as cs, o.op = .call c → c.callee = .value x → σ.evs c.args.toList = some vs → σ.ev x = some (.fn f as cs) → callW con σ f (as ++ vs ++ cs) (fun v σ => k (σ.put o.dst v)) kp → OW C n ds ops (o :: rest) K V w)
    (hw : act tb cty ann con σ o k kp) : OW C n ds ops (o :: rest) K V w := by
  unfold act at hw
  split at hw
  case h_1 =>
    rename_i T ho
    replace hw := wt_some hw
    obtain ⟨d, hd, hw⟩ := hw
    replace hw := wt_some hw
    obtain ⟨zz, h1, hw⟩ := hw
    split at hw
    · rename_i hb
      simp only [Bool.and_eq_true] at hb
      rw [hd] at hn
      have hz := ofV_cells (w := w) (O := O) (φ := φ) (α := α) zz
      refine OW.alloc hg hd hn ho (ht.zer _ _ h1) (cs := zz.cells.toList) (by simp) fun b w' hbx x hsz => ?_
      have hnew := h.newB (d := d) hb.1 hbx x hsz hz (cells_key (ofV_key zz))
      split at hw
      · exact hk _ hw _ _ ⟨_, _, _, hnew, fun y hy => .inr (hs y hy)⟩
      · obtain ⟨s, α', k1, k2⟩ := born_sound hnew hw
        exact hk _ k2 _ _ ⟨_, _, _, k1, fun y hy => .inr (hs y hy)⟩
    · exact hw.elim
  case h_2 =>
    rename_i T x ho
    replace hw := wt_some hw
    obtain ⟨d, hd, hw⟩ := hw
    replace hw := wt_some hw
    obtain ⟨v, h1, hw⟩ := hw
    split at hw
    · replace hw := wt_some hw
      obtain ⟨ds', hds, hw⟩ := hw
      split at hw
      · rename_i hb
        rw [hd] at hn
        obtain ⟨u, h2, h3⟩ := h.ev h1
        have hz := h3.cells (by simpa using hb)
        have hrd := toDs_ok hds hz
        refine OW.box hg hd hn ho h2 (cs := u.cells.toList) (by simp) fun b w' hbx x hsz => ?_
        have k4 := h.moveN x
        have t : Tr O w O w' := Tr.of_ext x fun _ _ hh => hh.elim
        have hnb : ¬ O b := fun hO => by have := h.bd b hO; omega
        refine hk _ hw _ _ ⟨_, _, _, k4.putS (v := .cptr ds' 0) ⟨b, 0, by simp, u.cells.toList, (RDs.len hrd), ⟨hnb, _, _, _, hbx, fun j y hj => by simpa using hj⟩, hrd.tr t⟩, hs⟩
      · exact hw.elim
    split at hw
    · rename_i hb
      simp only [Bool.and_eq_true] at hb
      rw [hd] at hn
      obtain ⟨u, h2, h3⟩ := h.ev h1
      have hz := h3.cells (by simpa using hb.2)
      refine OW.box hg hd hn ho h2 (cs := u.cells.toList) (by simp) fun b w' hbx x hsz => ?_
      exact hk _ hw _ _ ⟨_, _, _, h.newB hb.1 hbx x hsz hz (cells_key (ev_key (freshB_spec hb.1).2.1 h1)), fun y hy => .inr (hs y hy)⟩
    · exact hw.elim
  case h_3 =>
    rename_i T x y ho
    split at hw
    · rename_i hd
      replace hw := wt_some hw
      obtain ⟨⟨g, m⟩, h1, hw⟩ := hw
      replace hw := wt_some hw
      obtain ⟨u, h2, hw⟩ := hw
      replace hw := wt_some hw
      obtain ⟨v, h3, hw⟩ := hw
      obtain ⟨a, h4, h5⟩ := h.ev h2
      split at hw
      · rename_i b off
        replace hw := wt_some hw
        obtain ⟨e, h6, hw⟩ := hw
        split at hw
        · rename_i hb
          simp only [Bool.and_eq_true] at hb
          obtain ⟨⟨hb1, hb2⟩, hb3⟩ := hb
          have hb1 := Nat.eq_of_beq_eq_true hb1
          have hb2 := Nat.le_of_ble_eq_true hb2
          obtain ⟨c, h7, h8⟩ := h.ev h3
          have hu : isUndef v = false := by
            cases v <;> first | rfl | (simp [cellsOf, oneP] at hb3)
          have h9 := h8.cells hu
          have l9 := VRs.len h9
          obtain ⟨_, us, h10, h11⟩ := h.box b e h6
          have l11 := VRs.len h11
          simp only [VR] at h5
          subst h5
          refine OW.store hg hd ho (ht.shp _ _ h1) h4 h7 (vs := c.cells.toList) (by simp) (by omega) h10 (by rw [Nat.ble_eq]; omega) (VRs.ones h9 hb3) rfl fun w' hbx x => ?_
          refine hk _ hw _ _ ⟨_, _, _, h.newBS h6 hbx x ?_ (rfl : b = b), hs⟩
          rw [l9, hb1]
          exact ((VRs.take off h11).append h9).append (VRs.drop _ h11)
        · exact hw.elim
      · rename_i ak am ai
        replace hw := wt_some hw
        obtain ⟨σ', h6, hw⟩ := hw
        replace hw := wt_some hw
        obtain ⟨e, h7, hw⟩ := hw
        replace hw := wt_some hw
        obtain ⟨v', h8, hw⟩ := hw
        replace hw := wt_some hw
        obtain ⟨ds, h9, hw⟩ := hw
        split at hw
        · rename_i hb
          simp only [Bool.and_eq_true] at hb
          obtain ⟨⟨⟨hb1, hb2⟩, hb3⟩, hb4⟩ := hb
          have hb1 := Nat.eq_of_beq_eq_true hb1
          have hb2 := Nat.eq_of_beq_eq_true hb2
          have hb3 := Nat.eq_of_beq_eq_true hb3
          obtain ⟨l, h10, hw⟩ := hw
          obtain ⟨k1, k2, k3, _⟩ := freeze_sound _ h hs h6
          obtain ⟨c, h11, h12⟩ := k1.ev h8
          have hu : isUndef v' = false := by
            cases v' <;> first | rfl | (simp [cellsOf, oneP] at hb4)
          have h13 := h12.cells hu
          have h14 := toDs_ok h9 h13
          have l14 := RDs.len h14
          obtain ⟨b, len, cap, j, h15, h16, h17⟩ := h5
          have hjl : l = e.l.set j ds ∧ j < e.l.length := by
            refine ⟨setx_some h10 h16, ?_⟩
            unfold Go.Lk.setx at h10
            split at h10
            · omega
            · cases h10
          obtain ⟨rfl, hj⟩ := hjl
          have h7U := lkU_some h7
          have h7 := h7U.1
          have ho' := (k1.arr ak e h7).un h7U.2
          subst hb3
          refine OW.storeE (f := id) (l := e.l) (a := ds) (m := e.n) (b := b) (q := 0) (j := j) hg hd ho (by rw [← hb2]; exact ht.shp _ _ h1) (by rw [h4, h17]; simp) h11 (vs := c.cells.toList) (by simp) (by omega) h15 (by simpa using ho') hj (VRs.ones h13 hb4) h14 fun w' hown x => ?_
          exact hk _ hw _ _ ⟨_, _, _, k1.storeA h7 h7U.2 (by simpa using hown) x, k2⟩
        · exact hw.elim
      · exact hw.elim
    · exact hw.elim
  case h_4 =>
    rename_i t len parts ho
    replace hw := wt_some hw
    obtain ⟨d, hd, hw⟩ := hw
    rw [hd] at hn
    split at hw
    · rename_i e he
      replace hw := wt_some hw
      obtain ⟨us0, _, hw⟩ := hw
      replace hw := wt_some hw
      obtain ⟨σ', h2, hw⟩ := hw
      replace hw := wt_some hw
      obtain ⟨us, h3, hw⟩ := hw
      replace hw := wt_some hw
      obtain ⟨⟨g, m⟩, h4, hw⟩ := hw
      replace hw := wt_some hw
      obtain ⟨zz, h5, hw⟩ := hw
      replace hw := wt_some hw
      obtain ⟨ds, h6, hw⟩ := hw
      split at hw
      · rename_i hb
        simp only [Bool.and_eq_true] at hb
        obtain ⟨⟨⟨⟨⟨⟨b1, b2⟩, b3⟩, b4⟩, b5⟩, b6⟩, b7⟩ := hb
        have b2 := Nat.eq_of_beq_eq_true b2
        have b3 := Nat.eq_of_beq_eq_true b3
        have b5 := Nat.le_of_ble_eq_true b5
        obtain ⟨k1, k2, k3, _⟩ := freeze_sound _ h hs h2
        obtain ⟨xs, h7, h8⟩ := k1.evs h3
        have l8 := VRs.len h8
        have lp : parts.toList.length = us.length := by
          have : ∀ {l : List Operand} {r : List PV}, σ'.evs l = some r → r.length = l.length := by
            intro l
            induction l with
            | nil => intro r hr; cases hr; rfl
            | cons q l ih =>
              intro r hr
              unfold St.evs at hr
              split at hr
              · rename_i hq2
                cases hr
                simp [ih hq2]
              · cases hr
          simpa using (this h3).symm
        obtain ⟨cs, h9, h10, h11, h12⟩ := flat_sound b1 (by simpa using lp) h8 b6 h6 b7
        have lz : ((parts.toList.map (·.1)).zip xs).length = len := by
          rw [List.length_zip, List.length_map, l8, lp]
          omega
        have hml : len ≤ maxLen := by unfold maxLen; omega
        have hd12 : ds.length = len := by omega
        refine OW.buildSlice hg hd hn ho (ht.und _ _ he) (ht.shp _ _ h4) (ht.zer _ _ h5) b3 (zip_evp h7) h9 lz b4 fun b w' hbx x hsz => ?_
        split at hw
        · split at hw
          · rename_i hf
            rw [Bool.and_eq_true] at hf
            exact hk _ hw _ _ ⟨_, _, _, k1.newAN (by simpa [Nat.blt_eq] using hf.2) hf.1 hbx x hsz hd12 hml (by rw [h11, b2]) h10, fun y hy => .inr (k2 y hy)⟩
          · exact hw.elim
        · have k4 := k1.moveN x
          have t : Tr _ w _ w' := Tr.of_ext (O := DelL O α (lk σ.A) (refsP.go us0)) x fun _ _ hh => hh.elim
          exact hk _ hw _ _ ⟨_, _, _, k4.putS (v := .sl e m ds) (RD.of_new hbx k1.bd hsz hd12 hml (by rw [h11, b2]) (h10.tr t)), k2⟩
      · exact hw.elim
    · exact hw.elim
  case h_5 =>
    rename_i x ho
    replace hw := wt_some hw
    obtain ⟨v, h1, hw⟩ := hw
    split at hw
    · obtain ⟨u, h2, h3⟩ := h.ev h1
      have h4 := h3
      obtain ⟨y, rfl, _⟩ := h4
      exact OW.panD hg ho h2 fun a ha hda => hp _ _ hw _ _ _ _ _ _ _ _ h hs h3 a ha hda
    · exact hw.elim
  case h_6 =>
    rename_i s t x ho
    replace hw := wt_some hw
    obtain ⟨d, hd, hw⟩ := hw
    rw [hd] at hn
    replace hw := wt_some hw
    obtain ⟨v, h1, hw⟩ := hw
    obtain ⟨u, h2, h3⟩ := h.ev h1
    split at hw
    · rename_i e e1 e2
      split at hw
      · rename_i e3
        obtain ⟨c1, c2⟩ := chk_dec hw
        simp only [VR] at h3
        subst h3
        refine OW.toBytes hg hd hn ho (ht.und _ _ e1) (ht.und _ _ e2) (ht.und _ _ e3) h2 h.bd c1 fun v' w' x hr => ?_
        exact hk _ c2 _ _ ⟨_, _, _, (h.moveN x).putS (v := .sl e 1 (bytD _)) hr, hs⟩
      · exact hw.elim
    · rename_i T l e e1 e2
      split at hw
      · rename_i e3
        obtain ⟨str, c1, c2⟩ := hw
        obtain ⟨xs, rfl, rfl⟩ := dby_ok c1
        exact OW.toStr hg hd hn ho (ht.und _ _ e1) (ht.und _ _ e3) (ht.und _ _ e2) h2 h3 (hk _ c2 _ _ ⟨_, _, _, h.putS (v := .str _) rfl, hs⟩)
      · exact hw.elim
    · rename_i a e e1 e2
      replace hw := wt_some hw
      obtain ⟨ar, h4, hw⟩ := hw
      split at hw
      · rename_i e3 e4
        obtain ⟨str, c1, c2⟩ := hw
        obtain ⟨xs, c3, rfl⟩ := dby_ok c1
        have h5 := ((h.arr a ar (lkU_some h4).1).un (lkU_some h4).2).data
        rw [c3] at h5
        have hn1 := Nat.eq_of_beq_eq_true e4
        rw [hn1] at h5
        rw [← h3.1] at h5
        exact OW.toStr hg hd hn ho (ht.und _ _ e1) (ht.und _ _ e3) (ht.und _ _ e2) h2 h5 (hk _ c2 _ _ ⟨_, _, _, h.putS (v := .str _) rfl, hs⟩)
      · exact hw.elim
    · exact hw.elim
  case h_7 =>
    rename_i c ho
    obtain ⟨cal, cargs, cty'⟩ := c
    simp only at hw
    split at hw
    · rename_i x y ea
      replace hw := wt_some hw
      obtain ⟨d, hd, hw⟩ := hw
      rw [hd] at hn
      replace hw := wt_some hw
      obtain ⟨u, h1, hw⟩ := hw
      replace hw := wt_some hw
      obtain ⟨v0, _, hw⟩ := hw
      split at hw
      · rename_i t t2 et
        have ea : cargs = #[x, y] := by apply Array.toList_inj.1; simpa using ea
        have et : cty' = #[t, t2] := by apply Array.toList_inj.1; simpa using et
        subst ea et
        split at hw
        · rename_i e he
          replace hw := wt_some hw
          obtain ⟨⟨iz, im, ib⟩, h2, hw⟩ := hw
          replace hw := wt_some hw
          obtain ⟨σ', h3, hw⟩ := hw
          replace hw := wt_some hw
          obtain ⟨v, h4, hw⟩ := hw
          replace hw := wt_some hw
          obtain ⟨l2, h5, hw⟩ := hw
          split at hw
          · rename_i hb
            simp only [Bool.and_eq_true] at hb
            obtain ⟨⟨b1, b2⟩, b3⟩ := hb
            have b1 := Nat.eq_of_beq_eq_true b1
            obtain ⟨k1, k2, k3, _⟩ := freeze_sound _ h hs h3
            obtain ⟨uy, h6, h7⟩ := k1.ev h4
            obtain ⟨ux, h8, h9⟩ := h.ev h1
            -- the step itself
            have step : ∀ l r, Own w (DelL O α (lk σ.A) (refsP v0)) e im ux l → Go.Lk.app ib l l2 = some r →
                (∀ v' w' O', Grew w (DelL O α (lk σ.A) (refsP v0)) e im ux w' O' v' r → OW C n ds ops rest K ((d, v') :: V) w') → OW C n ds ops (o :: rest) K V w := by
              intro l r hown happ hnext
              obtain ⟨hr, hbig⟩ := app_some happ
              subst hr
              unfold apL at h5
              split at h5
              · split at h5
                · rename_i hq
                  cases h5
                  simp only [Bool.and_eq_true] at hq
                  have q1 := Nat.eq_of_beq_eq_true hq.1
                  have q2 := Nat.eq_of_beq_eq_true hq.2
                  subst q1 q2
                  exact OW.appendL hg hd hn ho (ht.und _ _ he) (ht.inf _ _ h2) b1 b2 b3 h8 h6 hown k1.bd h7 hbig hnext
                · cases h5
              · split at h5
                · rename_i hq
                  cases h5
                  have q1 := Nat.eq_of_beq_eq_true hq
                  subst q1
                  simp only [VR] at h7
                  subst h7
                  exact OW.appendL hg hd hn ho (ht.und _ _ he) (ht.inf _ _ h2) b1 b2 b3 h8 h6 hown k1.bd (.inl ⟨⟨_, rfl⟩, rfl⟩) hbig hnext
                · cases h5
              · split at h5
                · rename_i e5 e6
                  cases h5
                  cases e6
                  simp only [VR] at h7
                  subst h7
                  refine OW.appendS hg hd hn ho (ht.und _ _ he) (ht.und _ _ e5) (ht.inf _ _ h2) h8 h6 hown k1.bd (by simpa [bytD, unb] using hbig) fun v' w' O' hG => hnext v' w' O' ?_
                  have e7 : ∀ q : List UInt8, bytD q = q.map byteD := fun q => by simp [bytD, unb, byteD, eI]
                  rw [e7]
                  exact hG
                · cases h5
              · cases h5
            split at hw
            · split at hw
              · rename_i hf
                rw [Bool.and_eq_true] at hf
                have hfT : e < 1000000 := by simpa [Nat.blt_eq] using hf.2
                have hf := hf.1
                obtain ⟨r, c1, c2⟩ := hw
                simp only [VR] at h9
                subst h9
                refine step [] r (Own.nil _ _ _ _) c1 fun v' w' O' hG => hk _ c2 _ _ ⟨_, _, _, k1.newA hf hG.ext hG.tr hG.more hG.bd hG.only (fun _ _ _ hh => by simp [Value.ownBlock] at hh) (fun _ _ _ _ _ hh => by simp [Value.ownBlock] at hh) (fun _ hh => by simp [Value.ownBlock] at hh) hfT hG.own hG.at_ (fun y hy => ?_), fun y hy => hG.more y (k2 y hy)⟩
                rcases hG.at_ y hy with hh | hh
                · simp [Value.ownBlock] at hh
                · exact .inr (Nat.le_trans h.ext.size hh)
              · exact hw.elim
            · rename_i a
              replace hw := wt_some hw
              obtain ⟨ar, h10, hw⟩ := hw
              split at hw
              · rename_i hf
                simp only [Bool.and_eq_true] at hf
                obtain ⟨⟨f1, f2⟩, f3⟩ := hf
                have f2 := Nat.eq_of_beq_eq_true f2
                have f3 := Nat.eq_of_beq_eq_true f3
                obtain ⟨r, c1, c2⟩ := hw
                have h10U := lkU_some h10
                have h10 := h10U.1
                have h11 := (k1.arr a ar h10).un h10U.2
                have e9 := h9.1
                subst f2 f3
                rw [← e9] at h11
                have k5 : Rl z { σ' with A := delk a σ'.A } V w (DelL O α (lk σ.A) (refsP v0)) φ α := k1.mono (Le.refl _) (Le.refl _) (fun t v hv => (lk_delk hv).2)
                refine step ar.l r h11 c1 fun v' w' O' hG => hk _ c2 _ _ ⟨_, _, _, k5.newA (e := { ar with l := r }) f1 hG.ext hG.tr hG.more hG.bd hG.only (fun b e' hb hh => ?_) (fun c e' hc y hy hh => ?_) (fun y hy => ?_) h10U.2 hG.own hG.at_ (fun y hy => ?_), fun y hy => hG.more y (k2 y hy)⟩
                · rw [e9] at hh
                  exact k1.ab a b ar e' h10 hb hh
                · rw [e9] at hh
                  obtain ⟨n1, hc⟩ := lk_delk hc
                  exact k1.aa c a e' ar hc h10 n1 y hy hh
                · rw [e9] at hy
                  exact (k1.aF a ar h10 y hy).elim (fun q => .inl q.2) .inr
                · rcases hG.at_ y hy with hh | hh
                  · rw [e9] at hh
                    exact k1.aF a ar h10 y hh
                  · exact .inr (Nat.le_trans h.ext.size hh)
              · exact hw.elim
            · exact hw.elim
          · exact hw.elim
        · exact hw.elim
      · exact hw.elim
    · rename_i x
      replace hw := wt_some hw
      obtain ⟨vs, h1, hw⟩ := hw
      split at hw
      · rename_i f as cs hx
        exact hc _ _ _ _ _ _ ho rfl h1 hx hw
      · exact hw.elim
    · exact hw.elim
  case h_8 => exact hw.elim
end
end Go.Pe
