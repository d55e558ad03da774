/- Regions of open order. It speaks of no program. -/
import Derived.Test.YtcfkkgpnggdlnaaGreatDoorPeS4
import Derived.Test.YtcfkkgpnggdlnaaGreatDoorLkG
set_option linter.all false
namespace Go.Pe
open Go.RowKit Go.Lk

def Vr (ops : Array Oper) (o : Oper) (V : Env) : Env := (o.looksAt ops).filterMap fun t => (Env.get V t).map fun v => (t, v)
theorem Vr_get {ops : Array Oper} {o : Oper} {V : Env} {t : Nat} {v : Value} (h : Env.get (Vr ops o V) t = some v) : t ∈ o.looksAt ops ∧ Env.get V t = some v := by
  unfold Vr at h
  revert h
  induction o.looksAt ops with
  | nil => intro h; cases h
  | cons s l ih =>
    intro h
    simp only [List.filterMap_cons] at h
    cases hs : Env.get V s with
    | none =>
      rw [hs] at h
      obtain ⟨h1, h2⟩ := ih h
      exact ⟨List.mem_cons_of_mem _ h1, h2⟩
    | some x =>
      rw [hs] at h
      simp only [Option.map_some] at h
      unfold Env.get at h
      split at h
      · rename_i e
        cases h
        have e := Nat.eq_of_beq_eq_true e
        subst e
        exact ⟨List.mem_cons_self, hs⟩
      · obtain ⟨h1, h2⟩ := ih h
        exact ⟨List.mem_cons_of_mem _ h1, h2⟩
theorem Vr_of {ops : Array Oper} {o : Oper} {V : Env} {t : Nat} {v : Value} (ht : t ∈ o.looksAt ops) (h : Env.get V t = some v) : Env.get (Vr ops o V) t = some v := by
  unfold Vr
  revert ht
  induction o.looksAt ops with
  | nil => intro ht; cases ht
  | cons s l ih =>
    intro ht
    simp only [List.filterMap_cons]
    by_cases e : s = t
    · subst e
      rw [h]
      simp [Env.get]
    · have ht2 : t ∈ l := by
        rcases List.mem_cons.1 ht with rfl | ht
        · exact (e rfl).elim
        · exact ht
      cases hs : Env.get V s with
      | none => exact ih ht2
      | some x =>
        simp only [Option.map_some]
        unfold Env.get
        split
        · rename_i e2
          exact (e (Nat.eq_of_beq_eq_true e2)).elim
        · exact ih ht2
theorem keepK_mem {β : Type} {t : Nat} {v : β} : ∀ {ks : List Nat} {l : List (Nat × β)}, lk (keepK ks l) t = some v → t ∈ ks
  | [], l, h => by cases h
  | x :: r, l, h => by
    unfold keepK at h
    split at h
    · rcases lk_cons h with ⟨rfl, rfl⟩ | ⟨_, h2⟩
      · exact List.mem_cons_self
      · exact List.mem_cons_of_mem _ (keepK_mem h2)
    · exact List.mem_cons_of_mem _ (keepK_mem h)
section
variable {z : W0} {V V' : Env} {w w' : World} {O O' : Nat → Prop} {φ : Nat → Nat} {α : Nat → Value} {σ σ1 : St} {C : Cx} {n : Nat} {ops : Array Oper} {o : Oper} {K : Act → World → Prop} {G : GI} {con : Nat → CIn → COut → Prop} {tb : Tb} {cty : List (Nat × List (Option (Nat × Nat)))} {ann : Ann} {ds : List Deferred}
theorem evs_eq {σ σ' : St} : ∀ {xs : List Operand}, (∀ x ∈ xs, σ'.ev x = σ.ev x) → σ'.evs xs = σ.evs xs
  | [], _ => rfl
  | x :: xs, h => by simp only [St.evs, h x List.mem_cons_self, evs_eq fun y hy => h y (List.mem_cons_of_mem _ hy)]
theorem qop_only {σ' : St} {op : Op} {k : PV → Prop} (hev : ∀ x ∈ op.operands, σ'.ev x = σ.ev x) (hB : σ'.B = σ.B) (hA : σ'.A = σ.A) (h : qop tb σ op k) : qop tb σ' op k := by
  have hl : ∀ td u (kk : Int → Prop), lenW td σ u kk → lenW td σ' u kk := fun td u kk => by
    unfold lenW
    rw [hA]
    exact id
  have hload : ∀ g m u, loadE σ g m u k → loadE σ' g m u k := fun g m u => by
    unfold loadE loadP
    rw [hA, hB]
    exact id
  revert h
  unfold qop
  split
  case h_1 => rw [hev _ (by simp [Op.operands])]; exact id
  case h_2 => rw [hev _ (by simp [Op.operands])]; exact id
  case h_3 => rename_i c x y; rw [hev c (by simp [Op.operands]), hev x (by simp [Op.operands]), hev y (by simp [Op.operands])]; exact id
  case h_4 => rename_i x y _; rw [hev x (by simp [Op.operands]), hev y (by simp [Op.operands])]; exact id
  case h_5 => rw [hev _ (by simp [Op.operands])]; exact id
  case h_6 => rw [hev _ (by simp [Op.operands])]; exact id
  case h_7 => rw [hev _ (by simp [Op.operands])]; exact id
  case h_8 => rename_i as cs; rw [evs_eq (xs := as.toList) fun x hx => hev x (by simp [Op.operands]; exact .inl (by simpa using hx)), evs_eq (xs := cs.toList) fun x hx => hev x (by simp [Op.operands]; exact .inr (by simpa using hx))]; exact id
  case h_9 => rw [hev _ (by simp [Op.operands])]; exact id
  case h_10 => rw [hev _ (by simp [Op.operands])]; exact id
  case h_11 => rw [hev _ (by simp [Op.operands])]; exact id
  case h_12 => rw [hev _ (by simp [Op.operands])]; exact id
  case h_13 => rw [hev _ (by simp [Op.operands])]; exact wt_mono fun _ => wt_mono fun _ => hload _ _ _
  case h_14 => rename_i x y; rw [hev x (by simp [Op.operands]), hev y (by simp [Op.operands])]; exact id
  case h_15 =>
    rename_i x y
    rw [hev y (by simp [Op.operands]), hA]
    split
    · exact id
    · rename_i hx
      rw [hev x (by simp [Op.operands])]
      exact id
  case h_16 =>
    rename_i t x lo hi
    have hlo : ∀ y, lo = some y → σ'.ev y = σ.ev y := fun y hy => hev y (by subst hy; simp [Op.operands])
    have hhi : ∀ y, hi = some y → σ'.ev y = σ.ev y := fun y hy => hev y (by subst hy; simp [Op.operands])
    rw [hev x (by simp [Op.operands])]
    refine wt_mono fun _ => wt_mono fun _ => ?_
    have e1 : ∀ kk : Int → Prop, loW σ lo kk → loW σ' lo kk := fun kk => by
      unfold loW
      cases lo with
      | none => exact id
      | some y => simp only [hlo y rfl]; exact id
    have e2 : ∀ td u (kk : Int → Prop), hiW td σ u hi kk → hiW td σ' u hi kk := fun td u kk => by
      unfold hiW
      cases hi with
      | none => exact hl td u kk
      | some y => simp only [hhi y rfl]; exact id
    exact fun hh => e1 _ (loW_mono (fun _ => e2 _ _ _) hh)
  case h_17 =>
    rename_i c
    split
    · rename_i x t e1 e2 e3
      rw [hev x (by
        have e4 : c.args = #[x] := by apply Array.toList_inj.1; simpa using e2
        simp [Op.operands, Call.operands, e4])]
      exact wt_mono fun _ => wt_mono fun _ => hl _ _ _
    · rename_i x y e1 e2
      have e4 : c.args = #[x, y] := by apply Array.toList_inj.1; simpa using e2
      rw [hev x (by simp [Op.operands, Call.operands, e4]), hev y (by simp [Op.operands, Call.operands, e4])]
      exact id
    · rename_i x y e1 e2
      have e4 : c.args = #[x, y] := by apply Array.toList_inj.1; simpa using e2
      rw [hev x (by simp [Op.operands, Call.operands, e4]), hev y (by simp [Op.operands, Call.operands, e4])]
      exact id
    · exact id
  case h_18 => rw [hev _ (by simp [Op.operands])]; exact id
  case h_19 => rename_i parts; rw [evs_eq (xs := parts.toList.map (·.2)) fun x hx => hev x (by simpa [Op.operands] using hx)]; exact id
  case h_20 => rename_i x hi mx; rw [hev x (by simp [Op.operands]), hev hi (by simp [Op.operands]), hev mx (by simp [Op.operands])]; exact id
  case h_21 => exact id
theorem only_ev {x : Operand} (hx : x ∈ o.op.operands) : (σ.only ops o).ev x = σ.ev x := by
  cases x with
  | tmp t =>
    have ht : t ∈ o.looksAt ops := by
      unfold Oper.looksAt
      exact List.mem_append_left _ (List.mem_filterMap.2 ⟨.tmp t, by simpa using hx, rfl⟩)
    show lk (keepK (o.looksAt ops) σ.L) t = lk σ.L t
    revert ht
    induction o.looksAt ops with
    | nil => intro ht; cases ht
    | cons s l ih =>
      intro ht
      unfold keepK
      by_cases e : s = t
      · subst e
        cases hs : lk σ.L s with
        | none =>
          simp only
          by_cases hl : s ∈ l
          · rw [ih hl, hs]
          · cases hq : lk (keepK l σ.L) s with
            | none => rfl
            | some y => exact (hl (keepK_mem hq)).elim
        | some v => simp [lk]
      · have ht2 : t ∈ l := by
          rcases List.mem_cons.1 ht with rfl | ht
          · exact (e rfl).elim
          · exact ht
        cases hs : lk σ.L s with
        | none => exact ih ht2
        | some v =>
          simp only
          show (match Nat.beq s t with
            | true => some v
            | false => lk (keepK l σ.L) t) = _
          split
          · rename_i e2; exact (e (Nat.eq_of_beq_eq_true e2)).elim
          · exact ih ht2
  | const v => rfl
  | global g => rfl
  | func f => rfl
theorem only_stb : stb (σ.only ops o) o.op = stb σ o.op := by
  unfold stb
  split
  · rename_i x ho
    rw [only_ev (by rw [ho]; simp [Op.operands])]
  · rfl
theorem Rel.lim (h : Rl z σ V w O φ α) (o : Oper) : Rl z (σ.only ops o) (Vr ops o V) w O φ α :=
  ⟨fun t v hv => by
    obtain ⟨u, h1, h2⟩ := h.env t v (lk_keepK hv)
    exact ⟨u, Vr_of (keepK_mem hv) h1, h2⟩, h.box, h.arr, h.bb, h.aa, h.ab, h.bF, h.aF, h.bd, h.ext, h.only, h.gl, h.keep⟩
theorem Rel.setB (h : Rl z σ V w O φ α) {s : Nat} {b : Bool} (e : Env.get V s = some (.bool b)) : Rl z (σ.setB s b) V w O φ α := ⟨fun t v hv => by
    rcases lk_cons hv with ⟨rfl, rfl⟩ | ⟨_, h2⟩
    · exact ⟨_, e, rfl⟩
    · exact h.env t v h2, h.box, h.arr, h.bb, h.aa, h.ab, h.bF, h.aF, h.bd, h.ext, h.only, h.gl, h.keep⟩
/-- The quiet operation q has been done: it is as if it were done again. -/
def KQ (C : Cx) (n : Nat) (ops : Array Oper) (V : Env) (w : World) (O : Nat → Prop) (p : Nat × Bool) : Prop :=
  ∃ (o : Oper) (d : Nat) (u : Value), ops[p.1]? = some o ∧ o.dst = some d ∧ Env.get V d = some u ∧ d ∉ o.looksAt ops ∧
    ((u = Go.undef ∧ p.2 = true ∧ ∃ j b s x, o.guard = some (j, b) ∧ (ops[j]?).bind (·.dst) = some s ∧ Env.get V s = some x ∧ (x = .bool (!b) ∨ x = Go.undef)) ∨
     ((o.guard = none ∨ ∃ j b s, o.guard = some (j, b) ∧ (ops[j]?).bind (·.dst) = some s ∧ Env.get V s = some (.bool b)) ∧ (p.2 = true → ∀ w' O', Tr O w O' w' → EX C n (Vr ops o V) w' o u)))
/-- .. and in this very world. -/
def KN (C : Cx) (n : Nat) (ops : Array Oper) (V : Env) (w : World) (q : Nat) : Prop :=
  ∃ (o : Oper) (d : Nat) (u : Value), ops[q]? = some o ∧ o.dst = some d ∧ Env.get V d = some u ∧
    ((u = Go.undef ∧ ∃ j b s x, o.guard = some (j, b) ∧ (ops[j]?).bind (·.dst) = some s ∧ Env.get V s = some x ∧ (x = .bool (!b) ∨ x = Go.undef)) ∨
     ((o.guard = none ∨ ∃ j b s, o.guard = some (j, b) ∧ (ops[j]?).bind (·.dst) = some s ∧ Env.get V s = some (.bool b)) ∧ EX C n (Vr ops o V) w o u))
theorem guard_looks {j s : Nat} {b : Bool} (hg : o.guard = some (j, b)) (hj : (ops[j]?).bind (·.dst) = some s) : s ∈ o.looksAt ops := by
  unfold Oper.looksAt
  rw [hg]
  exact List.mem_append_right _ (by simp [hj])
/-- V' says what V says of what o looks at. -/
theorem Vr_eq (h : ∀ t ∈ o.looksAt ops, Env.get V' t = Env.get V t) : Vr ops o V' = Vr ops o V := by
  unfold Vr
  revert h
  induction o.looksAt ops with
  | nil => intro _; rfl
  | cons s l ih =>
    intro h
    simp only [List.filterMap_cons, h s List.mem_cons_self, ih fun t ht => h t (List.mem_cons_of_mem _ ht)]
theorem KQ.move {p : Nat × Bool} (h : KQ C n ops V w O p) (t : Tr O w O' w') (he : ∀ o, ops[p.1]? = some o → ∀ d, o.dst = some d → Env.get V' d = Env.get V d ∧ ∀ t ∈ o.looksAt ops, Env.get V' t = Env.get V t) : KQ C n ops V' w' O' p := by
  obtain ⟨o, d, u, h1, h2, h3, h4, h5⟩ := h
  obtain ⟨e1, e2⟩ := he o h1 d h2
  refine ⟨o, d, u, h1, h2, by rw [e1]; exact h3, h4, ?_⟩
  rcases h5 with ⟨k1, k2, j, b, s, x, k3, k4, k5, k6⟩ | ⟨k1, k2⟩
  · exact .inl ⟨k1, k2, j, b, s, x, k3, k4, by rw [e2 s (guard_looks k3 k4)]; exact k5, k6⟩
  · refine .inr ⟨?_, fun hp w2 O2 t2 => by rw [Vr_eq e2]; exact k2 hp w2 O2 (t.trans t2)⟩
    rcases k1 with k1 | ⟨j, b, s, k3, k4, k5⟩
    · exact .inl k1
    · exact .inr ⟨j, b, s, k3, k4, by rw [e2 s (guard_looks k3 k4)]; exact k5⟩
theorem KN.move {q : Nat} (h : KN C n ops V w q) (he : ∀ o, ops[q]? = some o → ∀ d, o.dst = some d → Env.get V' d = Env.get V d ∧ ∀ t ∈ o.looksAt ops, Env.get V' t = Env.get V t) : KN C n ops V' w q := by
  obtain ⟨o, d, u, h1, h2, h3, h5⟩ := h
  obtain ⟨e1, e2⟩ := he o h1 d h2
  refine ⟨o, d, u, h1, h2, by rw [e1]; exact h3, ?_⟩
  rcases h5 with ⟨k1, j, b, s, x, k3, k4, k5, k6⟩ | ⟨k1, k2⟩
  · exact .inl ⟨k1, j, b, s, x, k3, k4, by rw [e2 s (guard_looks k3 k4)]; exact k5, k6⟩
  · refine .inr ⟨?_, by rw [Vr_eq e2]; exact k2⟩
    rcases k1 with k1 | ⟨j, b, s, k3, k4, k5⟩
    · exact .inl k1
    · exact .inr ⟨j, b, s, k3, k4, by rw [e2 s (guard_looks k3 k4)]; exact k5⟩
theorem clearD_get {d : Nat} : ∀ {dn : List Nat}, clearD ops d dn = true → ∀ p ∈ dn, ∀ o, ops[p]? = some o → ∀ e, o.dst = some e → e ≠ d ∧ d ∉ o.looksAt ops
  | q :: r, h, p, hp, o, ho, e, he => by
    simp only [clearD, Bool.and_eq_true] at h
    rcases List.mem_cons.1 hp with rfl | hp
    · have h1 := h.1
      rw [ho] at h1
      simp only [he, Bool.and_eq_true, Bool.not_eq_true'] at h1
      refine ⟨Nat.ne_of_beq_eq_false h1.1, fun hm => ?_⟩
      have : (o.looksAt ops).any (Nat.beq d) = true := List.any_eq_true.2 ⟨d, hm, Nat.beq_refl d⟩
      rw [this] at h1
      exact Bool.noConfusion h1.2
    · exact clearD_get h.2 p hp o ho e he
theorem get_cons_ne {d t : Nat} {u : Value} (h : t ≠ d) : Env.get ((d, u) :: V) t = Env.get V t := by
  show (match Nat.beq d t with
    | true => some u
    | false => Env.get V t) = _
  split
  · rename_i e; exact (h (Nat.eq_of_beq_eq_true e).symm).elim
  · rfl
/-- A quiet operation. -/
theorem exq_sound {dn : List (Nat × Bool)} {ix : List Nat} {q : Nat} {k : St → List (Nat × Bool) → Prop} (ht : TbOk C.P tb) (hgt : ∀ w O, z.G w O → GtOk tb w O) (h : Rl z σ V w O φ α) (hn : ∀ o, ops[q]? = some o → dOk n o.dst = true) (hcq : clrQ ops [q] ix = true) (hw : exq tb ops σ dn q k) :
    ∃ d u b σ1 o, ops[q]? = some o ∧ o.dst = some d ∧ Nat.blt d n = true ∧ clearD ops d ix = true ∧ k σ1 ((q, b) :: dn) ∧ Rl z σ1 ((d, u) :: V) w O φ α ∧ KQ C n ops ((d, u) :: V) w O (q, b) ∧ KN C n ops ((d, u) :: V) w q := by
  unfold exq at hw
  simp only [St.go_eq, opAt_eq] at hw
  split at hw
  · exact hw.elim
  · rename_i o ho
    have hn := hn o ho
    split at hw
    · rename_i d hd hq
      · have hcl := hcq
        simp only [clrQ, ho, hd, Bool.and_eq_true, Bool.not_eq_true', and_true] at hcl
        have hdl : d ∉ o.looksAt ops := fun hm => by
          have : (o.looksAt ops).any (Nat.beq d) = true := List.any_eq_true.2 ⟨d, hm, Nat.beq_refl d⟩
          rw [this] at hcl
          exact Bool.noConfusion hcl.2
        rw [hd] at hn
        have gd : ∀ u : Value, Env.get ((d, u) :: V) d = some u := fun u => by simp [Env.get]
        have ev : ∀ u : Value, Vr ops o ((d, u) :: V) = Vr ops o V := fun u => Vr_eq fun t ht' => get_cons_ne fun e => hdl (e ▸ ht')
        -- wanted
        have yes : ∀ (σ' : St), Rl z σ' V w O φ α → (o.guard = none ∨ ∃ j b s, o.guard = some (j, b) ∧ (ops[j]?).bind (·.dst) = some s ∧ Env.get V s = some (.bool b)) → (qop tb σ' o.op fun v => k (σ'.put (some d) v) ((q, stb σ' o.op) :: dn)) →
            ∃ d u b σ1 o, ops[q]? = some o ∧ o.dst = some d ∧ Nat.blt d n = true ∧ clearD ops d ix = true ∧ k σ1 ((q, b) :: dn) ∧ Rl z σ1 ((d, u) :: V) w O φ α ∧ KQ C n ops ((d, u) :: V) w O (q, b) ∧ KN C n ops ((d, u) :: V) w q := fun σ' h' hg hw' => by
          obtain ⟨v, u, k1, k2, k3, k4⟩ := qop_sound (n := n) ht hgt (h'.lim (ops := ops) o) (qop_only (fun x hx => only_ev hx) rfl rfl hw')
          rw [only_stb] at k4
          have hg' : o.guard = none ∨ ∃ j b s, o.guard = some (j, b) ∧ (ops[j]?).bind (·.dst) = some s ∧ Env.get ((d, u) :: V) s = some (.bool b) := by
            rcases hg with hg | ⟨j, b, s, g1, g2, g3⟩
            · exact .inl hg
            · exact .inr ⟨j, b, s, g1, g2, by rw [get_cons_ne (t := s) (d := d) fun e => hdl (by rw [← e]; exact guard_looks g1 g2)]; exact g3⟩
          exact ⟨d, u, _, _, o, ho, hd, hn, hcl.1, k1, h'.putS k2, ⟨o, d, u, ho, hd, gd u, hdl, .inr ⟨hg', fun hs w2 O2 t2 => by rw [ev]; exact k4 hs w2 O2 t2⟩⟩, ⟨o, d, u, ho, hd, gd u, .inr ⟨hg', by rw [ev]; exact k3⟩⟩⟩
        have no : ∀ (σ' : St) (j s : Nat) (b : Bool) (x : Value), Rl z σ' V w O φ α → o.guard = some (j, b) → (ops[j]?).bind (·.dst) = some s → Env.get V s = some x → (x = .bool (!b) ∨ x = Go.undef) → k (σ'.put (some d) .gone) ((q, true) :: dn) →
            ∃ d u b σ1 o, ops[q]? = some o ∧ o.dst = some d ∧ Nat.blt d n = true ∧ clearD ops d ix = true ∧ k σ1 ((q, b) :: dn) ∧ Rl z σ1 ((d, u) :: V) w O φ α ∧ KQ C n ops ((d, u) :: V) w O (q, b) ∧ KN C n ops ((d, u) :: V) w q := fun σ' j s b x h' g1 g2 g3 g4 hk => by
          have g5 : Env.get ((d, Go.undef) :: V) s = some x := by rw [get_cons_ne (t := s) (d := d) fun e => hdl (by rw [← e]; exact guard_looks g1 g2)]; exact g3
          exact ⟨d, Go.undef, true, _, o, ho, hd, hn, hcl.1, hk, h'.putS (v := .gone) rfl, ⟨o, d, _, ho, hd, gd _, hdl, .inl ⟨rfl, rfl, j, b, s, x, g1, g2, g5, g4⟩⟩, ⟨o, d, _, ho, hd, gd _, .inl ⟨rfl, j, b, s, x, g1, g2, g5, g4⟩⟩⟩
        split at hw
        · rename_i hg
          exact yes σ h (.inl hg) hw
        · rename_i j b hg
          split at hw
          · exact hw.elim
          · rename_i s hj
            split at hw
            · rename_i c hc
              obtain ⟨x, h1, h2⟩ := h.env s _ hc
              simp only [VR] at h2
              subst h2
              split at hw
              · rcases cond_tf hw with ⟨rfl, hw⟩ | ⟨rfl, hw⟩
                · exact yes _ (h.setB h1) (.inr ⟨j, _, s, hg, hj, h1⟩) hw
                · exact no _ j s _ _ (h.setB h1) hg hj h1 (.inl rfl) hw
              · rcases cond_tf hw with ⟨rfl, hw⟩ | ⟨rfl, hw⟩
                · exact no _ j s _ _ (h.setB h1) hg hj h1 (.inl rfl) hw
                · exact yes _ (h.setB h1) (.inr ⟨j, _, s, hg, hj, h1⟩) hw
            · rename_i hc
              obtain ⟨x, h1, h2⟩ := h.env s _ hc
              exact no σ j s b x h hg hj h1 (.inr h2) hw
            · exact hw.elim
    · exact hw.elim
theorem exqs_sound {k : St → List (Nat × Bool) → Prop} (ht : TbOk C.P tb) (hgt : ∀ w O, z.G w O → GtOk tb w O) (hn : ∀ (q : Nat) (o : Oper), ops[q]? = some o → dOk n o.dst = true) : ∀ (qs : List Nat) {σ : St} {V : Env} {dn : List (Nat × Bool)}, Rl z σ V w O φ α → clrQ ops qs (dn.map (·.1)) = true → exqs tb ops qs σ dn k → (∀ p ∈ dn, KQ C n ops V w O p) →
    ∃ (qv : Env) (σ1 : St) (dn1 : List (Nat × Bool)), qvOk ops n qs qv = true ∧ k σ1 dn1 ∧ Rl z σ1 (qv ++ V) w O φ α ∧ (∀ p ∈ dn1, KQ C n ops (qv ++ V) w O p) ∧ (∀ q ∈ qs, KN C n ops (qv ++ V) w q) ∧ (∀ p ∈ dn, p ∈ dn1) ∧ (∀ q ∈ qs, ∃ b, (q, b) ∈ dn1) ∧ dn1.map (·.1) = qs.reverse ++ dn.map (·.1) ∧
      (∀ p ∈ dn, ∀ o, ops[p.1]? = some o → ∀ d, o.dst = some d → Env.get (qv ++ V) d = Env.get V d ∧ ∀ t ∈ o.looksAt ops, Env.get (qv ++ V) t = Env.get V t)
  | [], σ, V, dn, h, _, hw, hd => ⟨[], σ, dn, rfl, hw, h, hd, by simp, fun _ h => h, by simp, by simp, fun _ _ _ _ _ _ => ⟨rfl, fun _ _ => rfl⟩⟩
  | q :: r, σ, V, dn, h, hc, hw, hd => by
    have hc1 : clrQ ops [q] (dn.map (·.1)) = true := by
      simp only [clrQ, Bool.and_eq_true] at hc ⊢
      exact ⟨hc.1, trivial⟩
    have hc2 : clrQ ops r (q :: dn.map (·.1)) = true := by
      simp only [clrQ, Bool.and_eq_true] at hc
      exact hc.2
    obtain ⟨d, u, b, σ2, o, ho, hod, hdn, hcl, hk, h2, hq, hqn⟩ := exq_sound ht hgt h (hn q) hc1 hw
    have keep : ∀ p ∈ dn, ∀ o, ops[p.1]? = some o → ∀ e, o.dst = some e → Env.get ((d, u) :: V) e = Env.get V e ∧ ∀ t ∈ o.looksAt ops, Env.get ((d, u) :: V) t = Env.get V t := fun p hp o' ho' e he => by
      obtain ⟨n1, n2⟩ := clearD_get hcl p.1 (List.mem_map.2 ⟨p, hp, rfl⟩) o' ho' e he
      exact ⟨get_cons_ne n1, fun t ht' => get_cons_ne fun e => n2 (e ▸ ht')⟩
    obtain ⟨qv, σ1, dn1, k1, k2, k3, k4, k5, k6, k7, k9, k8⟩ := exqs_sound ht hgt hn r h2 (by simpa using hc2) hk (fun p hp => by
      rcases List.mem_cons.1 hp with rfl | hp
      · exact hq
      · exact (hd p hp).move (Tr.refl _ _) (keep p hp))
    have ee : qv ++ (d, u) :: V = (qv ++ [(d, u)]) ++ V := by simp
    rw [ee] at k3 k4 k5 k8
    refine ⟨qv ++ [(d, u)], σ1, dn1, ?_, k2, k3, k4, fun q' hq' => ?_, fun p hp => k6 p (List.mem_cons_of_mem _ hp), fun p hp => ?_, by rw [k9]; simp, fun p hp o' ho' e he => ?_⟩
    · unfold qvOk at k1 ⊢
      rw [List.all_append, Bool.and_eq_true]
      refine ⟨List.all_eq_true.2 fun p hp => ?_, ?_⟩
      · have := List.all_eq_true.1 k1 p hp
        simp only [Bool.and_eq_true, List.any_cons, Bool.or_eq_true] at this ⊢
        exact ⟨this.1, .inr this.2⟩
      · simp only [List.all_cons, List.all_nil, Bool.and_true, List.any_cons, Bool.and_eq_true, Bool.or_eq_true]
        exact ⟨hdn, .inl (by simp [dstOf, ho, hod])⟩
    · rcases List.mem_cons.1 hq' with rfl | hq'
      · exact hqn.move fun o' ho' e he => k8 (q', b) List.mem_cons_self o' ho' e he
      · exact k5 q' hq'
    · rcases List.mem_cons.1 hp with rfl | hp
      · exact ⟨b, k6 _ List.mem_cons_self⟩
      · exact k7 p hp
    · obtain ⟨a1, a2⟩ := k8 p (List.mem_cons_of_mem _ hp) o' ho' e he
      obtain ⟨b1, b2⟩ := keep p hp o' ho' e he
      exact ⟨a1.trans b1, fun t ht' => (a2 t ht').trans (b2 t ht')⟩
mutual
theorem det_eq : ∀ (v : PV) (u u' : Value), detP v = true → VR w O φ α v u → VR w O φ α v u' → u = u'
  | .int _ _, u, u', _, h, h' => by simp only [VR] at h h'; rw [h, h']
  | .bool _, u, u', _, h, h' => by simp only [VR] at h h'; rw [h, h']
  | .str _, u, u', _, h, h' => by simp only [VR] at h h'; rw [h, h']
  | .nil, u, u', _, h, h' => by simp only [VR] at h h'; rw [h, h']
  | .ref _, u, u', _, h, h' => by simp only [VR] at h h'; rw [h.1, h'.1]
  | .ptr _ _, u, u', _, h, h' => by simp only [VR] at h h'; rw [h, h']
  | .nilI, u, u', _, h, h' => by simp only [VR] at h h'; rw [h, h']
  | .nilp, u, u', _, h, h' => by simp only [VR] at h h'; rw [h, h']
  | .agg cs, u, u', hd, h, h' => by
    obtain ⟨us, rfl, h⟩ := h
    obtain ⟨us', rfl, h'⟩ := h'
    rw [dets_eq cs us us' hd h h']
  | .tup cs, u, u', hd, h, h' => by
    obtain ⟨us, rfl, h⟩ := h
    obtain ⟨us', rfl, h'⟩ := h'
    rw [dets_eq cs us us' hd h h']
  | .iface T v, u, u', hd, h, h' => by
    obtain ⟨x, rfl, h⟩ := h
    obtain ⟨x', rfl, h'⟩ := h'
    rw [det_eq v x x' hd h h']
  | .sl _ _ _, _, _, hd, _, _ => by cases hd
  | .cptr _ _, _, _, hd, _, _ => by cases hd
  | .eptr _ _ _ _, _, _, hd, _, _ => by cases hd
  | .fn _ _ _, _, _, hd, _, _ => by cases hd
  | .undef, _, _, hd, _, _ => by cases hd
  | .gone, _, _, hd, _, _ => by cases hd
  | .selfp _, _, _, hd, _, _ => by cases hd
  | .err _, _, _, hd, _, _ => by cases hd
theorem dets_eq : ∀ (vs : List PV) (us us' : List Value), detP.go vs = true → VRs w O φ α vs us → VRs w O φ α vs us' → us = us'
  | [], us, us', _, h, h' => by rw [show us = [] from h, show us' = [] from h']
  | v :: vs, us, us', hd, h, h' => by
    simp only [detP.go, Bool.and_eq_true] at hd
    obtain ⟨u, r, rfl, h1, h2⟩ := h
    obtain ⟨u', r', rfl, h1', h2'⟩ := h'
    rw [det_eq v u u' hd.1 h1 h1', dets_eq vs r r' hd.2 h2 h2']
end
theorem rechk_sound (ht : TbOk C.P tb) (hgt : ∀ w O, z.G w O → GtOk tb w O) (h : Rl z σ V w O φ α) : ∀ {dn : List (Nat × Bool)}, rechk tb ops σ dn → (∀ p ∈ dn, KQ C n ops V w O p) → ∀ p ∈ dn, KN C n ops V w p.1
  | [], _, _, p, hp => by cases hp
  | (q, st) :: r, hw, hd, p, hp => by
    have hr : rechk tb ops σ r := by
      cases st with
      | true => exact hw
      | false => exact hw.2
    rcases List.mem_cons.1 hp with rfl | hp
    · obtain ⟨o, d, u, h1, h2, h3, h4, h5⟩ := hd _ List.mem_cons_self
      refine ⟨o, d, u, h1, h2, h3, ?_⟩
      rcases h5 with ⟨k1, k2, k3⟩ | ⟨k1, k2⟩
      · exact .inl ⟨k1, k3⟩
      · refine .inr ⟨k1, ?_⟩
        cases st with
        | true => exact k2 rfl w O (Tr.refl _ _)
        | false =>
          have hw := hw.1
          simp only [h1, h2] at hw
          split at hw
          · rename_i v hv
            obtain ⟨hdet, hw⟩ := hw
            obtain ⟨v', u', e1, e2, e3, _⟩ := qop_sound (n := n) ht hgt (h.lim (ops := ops) o) (qop_only (fun x hx => only_ev hx) rfl rfl hw)
            subst e1
            obtain ⟨u2, e4, e5⟩ := h.env d _ hv
            rw [h3] at e4
            cases e4
            rw [det_eq v' u u' hdet e5 e2]
            exact e3
          · exact hw.elim
    · exact rechk_sound ht hgt h hr (fun p hp => hd p (List.mem_cons_of_mem _ hp)) p hp
/-- What is known of slots is known of the act. -/
theorem KN.stab {q : Nat} {b : Act} (h : KN C n ops V w q) (hb : Has n V b) : StabOp C.P ops b w q := by
  obtain ⟨o, d, u, h1, h2, h3, h4⟩ := h
  intro o' ho' d' hd'
  rw [h1] at ho'
  cases ho'
  rw [h2] at hd'
  cases hd'
  have hu := hb.get d u h3
  rcases h4 with ⟨rfl, j, bb, s, x, g1, g2, g3, g4⟩ | ⟨g, hx⟩
  · have hw : Region.wanted o (yielded ops b.tmps) = false := by
      rcases g4 with rfl | rfl <;> cases bb <;> simp [Region.wanted, g1, yielded, g2, hb.get s _ g3, Go.undef]
    exact ⟨fun hh => (by rw [hw] at hh; cases hh), fun _ => hu⟩
  · have hw : Region.wanted o (yielded ops b.tmps) = true := by
      rcases g with g | ⟨j, bb, s, g1, g2, g3⟩
      · simp [Region.wanted, g]
      · simp [Region.wanted, g1, yielded, g2, hb.get s _ g3]
    exact ⟨fun _ => ⟨u, hu, hx b ⟨hb.size, fun t v e => hb.get t v (Vr_get e).2⟩⟩, fun hh => (by rw [hw] at hh; cases hh)⟩
/-- An operation turns the slot alone that it is told in. -/
theorem wp_frame {b : Act} (h : wpList C.P ops (QT C ds fun a' w' => (∀ t, o.dst ≠ some t → a'.tmps[t]? = b.tmps[t]?) → K a' w') [o] b w) : wpList C.P ops (QT C ds K) [o] b w := by
  have put : ∀ dd v t, o.dst ≠ some t → (({ b with defers := dd } : Act).put o.dst v).tmps[t]? = b.tmps[t]? := fun dd v t hne => by
    unfold Act.put
    cases hd : o.dst with
    | none => rfl
    | some d =>
      rw [hd] at hne
      exact Array.getElem?_setIfInBounds_ne fun e => hne (by rw [e])
  unfold wpList at h ⊢
  split at h
  · rename_i hw
    rw [if_pos hw]
    rcases h with h | h
    · left
      unfold Oper.wp at h ⊢
      refine upon_alike (o := o) (a := b) (b := b) (fun dd v w hh => ?_) (fun _ _ hh => hh) QT_out _ h
      exact ⟨hh.1, hh.2 (put _ v)⟩
    · exact (QT_out h.2).elim
  · rename_i hw
    rw [if_neg hw]
    exact ⟨h.1, h.2 (put b.defers _)⟩
def envA (a : Act) : Env := (List.range a.tmps.size).filterMap fun t => (a.tmps[t]?).map fun v => (t, v)
theorem envA_get {a : Act} {t : Nat} {v : Value} : Env.get (envA a) t = some v ↔ a.tmps[t]? = some v := by
  have key : ∀ l : List Nat, (Env.get (l.filterMap fun t => (a.tmps[t]?).map fun v => (t, v)) t = some v ↔ t ∈ l ∧ a.tmps[t]? = some v) := by
    intro l
    induction l with
    | nil => simp [Env.get]
    | cons s l ih =>
      simp only [List.filterMap_cons]
      cases hs : a.tmps[s]? with
      | none =>
        simp only [Option.map_none]
        rw [ih]
        constructor
        · exact fun h => ⟨List.mem_cons_of_mem _ h.1, h.2⟩
        · rintro ⟨h1, h2⟩
          rcases List.mem_cons.1 h1 with rfl | h1
          · rw [hs] at h2; cases h2
          · exact ⟨h1, h2⟩
      | some x =>
        simp only [Option.map_some]
        by_cases e : s = t
        · subst e
          simp [Env.get, hs]
        · rw [get_cons_ne (Ne.symm e), ih]
          constructor
          · exact fun h => ⟨List.mem_cons_of_mem _ h.1, h.2⟩
          · rintro ⟨h1, h2⟩
            rcases List.mem_cons.1 h1 with rfl | h1
            · exact (e rfl).elim
            · exact ⟨h1, h2⟩
  unfold envA
  rw [key]
  constructor
  · exact fun h => h.2
  · exact fun h => ⟨List.mem_range.2 (Array.getElem?_eq_some_iff.1 h).1, h⟩
theorem envA_has {a : Act} (h : a.tmps.size = n) : Has n (envA a) a := ⟨h, fun _ _ e => envA_get.1 e⟩
theorem Rel.envA {a : Act} (h : Rl z σ V w O φ α) (ha : Has n V a) : Rl z σ (Pe.envA a) w O φ α := ⟨fun t v hv => by
    obtain ⟨u, h1, h2⟩ := h.env t v hv
    exact ⟨u, envA_get.2 (ha.get t u h1), h2⟩, h.box, h.arr, h.bb, h.aa, h.ab, h.bF, h.aF, h.bd, h.ext, h.only, h.gl, h.keep⟩
/-- The world of now is remembered. -/
def W0.mark (z : W0) (w : World) (O : Nat → Prop) : W0 := { z with G := fun w' O' => z.G w' O' ∧ Tr O w O' w', hG := fun t h => ⟨z.hG t h.1, h.2.trans t⟩ }
theorem Rel.mark (h : Rl z σ V w O φ α) : Rl (z.mark w O) σ V w O φ α := ⟨h.env, h.box, h.arr, h.bb, h.aa, h.ab, h.bF, h.aF, h.bd, h.ext, h.only, ⟨h.gl, Tr.refl _ _⟩, h.keep⟩
theorem Rel.unmark {w0 : World} {O0 : Nat → Prop} (h : Rl (z.mark w0 O0) σ V w O φ α) : Rl z σ V w O φ α ∧ Tr O0 w0 O w := ⟨⟨h.env, h.box, h.arr, h.bb, h.aa, h.ab, h.bF, h.aF, h.bd, h.ext, h.only, h.gl.1, h.keep⟩, h.gl.2⟩
theorem kept_mem {kp : List Nat} {dn : List (Nat × Bool)} {p : Nat × Bool} (h : p ∈ keptOf kp dn) : p ∈ dn ∧ p.1 ∈ kp := by
  unfold keptOf at h
  obtain ⟨h1, h2⟩ := List.mem_filter.1 h
  obtain ⟨x, h3, h4⟩ := List.any_eq_true.1 h2
  exact ⟨h1, (Nat.eq_of_beq_eq_true h4) ▸ h3⟩
theorem fullA (a : Act) (t : Nat) : Env.get (Pe.envA a) t = a.tmps[t]? := by
  cases hx : a.tmps[t]? with
  | some x => exact envA_get.2 hx
  | none =>
    cases hy : Env.get (Pe.envA a) t with
    | none => rfl
    | some y => rw [envA_get.1 hy] at hx; cases hx
theorem fullV {a b : Act} {qv : Env} (hb : Has n (qv ++ Pe.envA a) b) (hz : a.tmps.size = n) (t : Nat) : Env.get (qv ++ Pe.envA a) t = b.tmps[t]? := by
  cases hg : Env.get (qv ++ Pe.envA a) t with
  | some x => exact (hb.get t x hg).symm
  | none =>
    have : ∀ {l l2 : Env}, Env.get (l ++ l2) t = none → Env.get l2 t = none := by
      intro l l2
      induction l with
      | nil => exact id
      | cons p l ih =>
        intro hh
        obtain ⟨s, y⟩ := p
        simp only [List.cons_append] at hh
        unfold Env.get at hh
        split at hh
        · cases hh
        · exact ih hh
    have h1 := this hg
    have h2 : a.tmps[t]? = none := by
      cases hx : a.tmps[t]? with
      | none => rfl
      | some x => rw [envA_get.2 hx] at h1; cases h1
    have h3 := hb.size
    rw [Array.getElem?_eq_none_iff] at h2
    symm
    rw [Array.getElem?_eq_none_iff]
    omega
/-- A group's quiet operations, from an act on. -/
theorem group_sound {k : St → List (Nat × Bool) → Prop} (ht : TbOk C.P tb) (hgt : ∀ w O, z.G w O → GtOk tb w O) (hn : ∀ (q : Nat) (o : Oper), ops[q]? = some o → dOk n o.dst = true) (qs done : List Nat) {dn : List (Nat × Bool)} (a : Act) (hsz : a.tmps.size = n) (hda : a.defers = ds) (h : Rl z σ (Pe.envA a) w O φ α)
    (hd : ∀ p ∈ dn, KQ C n ops (Pe.envA a) w O p) (hdone : ∀ q ∈ done, ∃ b, (q, b) ∈ dn) (hc : clrQ ops qs (dn.map (·.1)) = true) (hw : exqs tb ops qs σ dn fun σ1 dn1 => rechk tb ops σ1 dn ∧ k σ1 dn1) :
    ∃ (b : Act) (σ1 : St) (dn1 : List (Nat × Bool)), Off ops qs a b ∧ b.tmps.size = n ∧ b.defers = ds ∧ Rl z σ1 (Pe.envA b) w O φ α ∧ (∀ p ∈ dn1, KQ C n ops (Pe.envA b) w O p) ∧ (∀ q ∈ done ++ qs, StabOp C.P ops b w q) ∧ (∀ q ∈ done ++ qs, ∃ st, (q, st) ∈ dn1) ∧ dn1.map (·.1) = qs.reverse ++ dn.map (·.1) ∧ k σ1 dn1 := by
  obtain ⟨qv, σ1, dn1, e1, ⟨e2, e3⟩, e4, e5, e6, e7, e8, e10, _⟩ := exqs_sound ht hgt hn qs h hc hw hd
  obtain ⟨b, hb, hoff⟩ := (envA_has hsz).off e1
  have fb := fullV hb hsz
  refine ⟨b, σ1, dn1, hoff, hb.size, by rw [← hoff.defers]; exact hda, e4.envA hb, fun p hp => (e5 p hp).move (Tr.refl _ _) fun o _ d _ => ⟨(fullA b d).trans (fb d).symm, fun t _ => (fullA b t).trans (fb t).symm⟩, fun q hq => ?_, fun q hq => ?_, e10, e3⟩
  · rcases List.mem_append.1 hq with hq | hq
    · obtain ⟨st, hst⟩ := hdone q hq
      exact (rechk_sound ht hgt e4 e2 (fun p hp => e5 p (e7 p hp)) (q, st) hst).stab hb
    · exact (e6 q hq).stab hb
  · rcases List.mem_append.1 hq with hq | hq
    · obtain ⟨st, hst⟩ := hdone q hq
      exact ⟨st, e7 _ hst⟩
    · exact e8 q hq
/-- A choice: the operation, and the quiet ones behind it. -/
theorem alt_step {anc : Anc} {k : St → Prop} {kp : PV → St → Prop} {e : Nat} {o : Oper} {kpl qs2 : List Nat} {g : Gt} {rem wai done : List Nat} {dn : List (Nat × Bool)} (ht : TbG C.P tb G) (hcon : ∀ f i o, con f i o → Con C.P G f i o) (hz : ∀ w O, z.G w O → G.p w O) (hn : ∀ (q : Nat) (o : Oper), ops[q]? = some o → dOk n o.dst = true) (hp : ∀ v s, kp v s → PanOk z C n ds v s)
    (_hk : ∀ s, k s → ∀ V w, RS z s V w → ∀ a, Has n V a → a.defers = ds → K a w) (ho : ops[e]? = some o) (hnode : nodeOk anc rem wai done e kpl qs2 = true) (hal : altsOk anc (without rem [e]) (without wai qs2) (kpl ++ qs2) g = true)
    (hc2 : (match (some o : Option Oper) with
      | some o => match o.dst with
        | some d => clearD ops d (keepN kpl (dn.map (·.1)))
        | none => true
      | none => true) = true) (hcq : clrQ ops qs2 (keepN kpl (dn.map (·.1))) = true) (hca : clrA ops g (qs2.reverse ++ keepN kpl (dn.map (·.1))) = true)
    (ih : ∀ (dn : List (Nat × Bool)) (rem wai done : List Nat) (σ : St) (w : World) (O : Nat → Prop) (φ : Nat → Nat) (α : Nat → Value) (b : Act), b.tmps.size = n → b.defers = ds → Rl z σ (Pe.envA b) w O φ α → (∀ x, z.O x → O x) → (∀ p ∈ dn, KQ C n ops (Pe.envA b) w O p) →
      (∀ q ∈ done, StabOp C.P ops b w q) → (∀ q ∈ done, ∃ st, (q, st) ∈ dn) → altsOk anc rem wai done g = true → clrA ops g (dn.map (·.1)) = true → exalt tb cty ann con ops kp k g dn σ → DRa C ds ops K done g b w)
    (b : Act) (hsz : b.tmps.size = n) (hda : b.defers = ds) (h : Rl z σ (Pe.envA b) w O φ α) (hs : ∀ x, z.O x → O x) (hd : ∀ p ∈ dn, KQ C n ops (Pe.envA b) w O p) (hdone : ∀ q ∈ done, ∃ st, (q, st) ∈ dn)
    (hw : exo tb cty ann con ops σ o (fun σ2 => exqs tb ops qs2 σ2 (keptOf kpl dn) fun σ3 dn3 => rechk tb ops σ3 (keptOf kpl dn) ∧ exalt tb cty ann con ops kp k g dn3 σ3) kp) :
    wpList C.P ops (QT C ds (fun a' w' => ∃ b', Off ops qs2 a' b' ∧ DRa C ds ops K (kpl ++ qs2) g b' w')) [o] b w := by
  have ekept : (keptOf kpl dn).map (·.1) = keepN kpl (dn.map (·.1)) := by
    unfold keptOf keepN
    rw [List.filter_map]
    rfl
  have hb : Has n (Pe.envA b) b := envA_has hsz
  refine wp_frame (exo_sound (z := z.mark w O) (rest := []) (K := fun a' w' => (∀ t, o.dst ≠ some t → a'.tmps[t]? = b.tmps[t]?) → ∃ b', Off ops qs2 a' b' ∧ DRa C ds ops K (kpl ++ qs2) g b' w') ht hcon (fun w O h => hz w O h.1) (hn e o ho) h.mark hs (fun σ2 hσ2 V2 w2 hr => ?_) (fun v s hv V w O φ α u φ' α' r s2 hr a ha hda => hp v s hv V w O φ α u φ' α' r.unmark.1 s2 hr a ha hda) hw b hb hda)
  obtain ⟨O2, φ2, α2, r, s2⟩ := hr
  obtain ⟨r', t⟩ := r.unmark
  refine OW.fin fun a' ha' hda' hag => ?_
  simp only [nodeOk, Bool.and_eq_true] at hnode
  have hmv : ∀ p ∈ keptOf kpl dn, KQ C n ops (Pe.envA a') w2 O2 p := fun p hp => by
    obtain ⟨hp1, hp2⟩ := kept_mem hp
    refine (hd p hp1).move t fun o' ho' d hd' => ?_
    have hne : ∀ x, o.dst = some x → d ≠ x ∧ x ∉ o'.looksAt ops := fun x hx => by
      simp only [hx] at hc2
      exact clearD_get hc2 p.1 (by rw [← ekept]; exact List.mem_map.2 ⟨p, hp, rfl⟩) o' ho' d hd'
    refine ⟨?_, fun t ht' => ?_⟩
    · rw [fullA, fullA]
      exact hag d fun e => (hne d e).1 rfl
    · rw [fullA, fullA]
      exact hag t fun e => (hne t e).2 ht'
  have hkd : ∀ q ∈ kpl, ∃ st, (q, st) ∈ keptOf kpl dn := fun q hq => by
    have hc := List.all_eq_true.1 hnode.1.2 q hq
    have hm : q ∈ done := by simpa using hc
    obtain ⟨st, hst⟩ := hdone q hm
    exact ⟨st, List.mem_filter.2 ⟨hst, List.any_eq_true.2 ⟨q, hq, Nat.beq_refl q⟩⟩⟩
  obtain ⟨b', σ3, dn3, e1, e2, e3, e4, e5, e6, e7, e8, e9⟩ := group_sound (k := fun σ3 dn3 => exalt tb cty ann con ops kp k g dn3 σ3) ht.toTbOk (fun w O h => ht.gt w O (hz w O h)) hn qs2 kpl a' ha'.size hda' (r'.envA ha') hmv hkd (by rw [ekept]; exact hcq) hσ2
  exact ⟨b', e1, ih dn3 _ _ _ σ3 w2 O2 φ2 α2 b' e2 e3 e4 s2 e5 e6 e7 hal (by rw [e8, ekept]; exact hca) e9⟩
theorem exalt_sound {anc : Anc} {k : St → Prop} {kp : PV → St → Prop} (ht : TbG C.P tb G) (hcon : ∀ f i o, con f i o → Con C.P G f i o) (hz : ∀ w O, z.G w O → G.p w O) (hn : ∀ (q : Nat) (o : Oper), ops[q]? = some o → dOk n o.dst = true) (hp : ∀ v s, kp v s → PanOk z C n ds v s)
    (hk : ∀ s, k s → ∀ V w, RS z s V w → ∀ a, Has n V a → a.defers = ds → K a w) :
    ∀ (g : Gt) (dn : List (Nat × Bool)) (rem wai done : List Nat) {σ : St} {w : World} {O : Nat → Prop} {φ : Nat → Nat} {α : Nat → Value} (b : Act), b.tmps.size = n → b.defers = ds → Rl z σ (Pe.envA b) w O φ α → (∀ x, z.O x → O x) → (∀ p ∈ dn, KQ C n ops (Pe.envA b) w O p) →
      (∀ q ∈ done, StabOp C.P ops b w q) → (∀ q ∈ done, ∃ st, (q, st) ∈ dn) → altsOk anc rem wai done g = true → clrA ops g (dn.map (·.1)) = true → exalt tb cty ann con ops kp k g dn σ → DRa C ds ops K done g b w
  | .fin, dn, rem, wai, done, σ, w, O, φ, α, b, hsz, hda, h, hs, _, hst, _, _, _, hw => ⟨hst, hk σ hw _ _ ⟨_, _, _, h, hs⟩ b (envA_has hsz) hda⟩
  | .one e kpl qs2 g, dn, rem, wai, done, σ, w, O, φ, α, b, hsz, hda, h, hs, hd, hst, hdone, hal, hcl, hw => by
    simp only [altsOk, Bool.and_eq_true] at hal
    simp only [clrA, clrN, Bool.and_eq_true] at hcl
    refine ⟨hst, fun o ho => ?_⟩
    unfold exalt at hw
    rw [opAt_eq, ho] at hw
    rw [ho] at hcl
    exact alt_step ht hcon hz hn hp hk ho hal.1.1 hal.2 hcl.1.1 hcl.1.2 hcl.2 (fun dn rem wai done σ w O φ α b => exalt_sound ht hcon hz hn hp hk g dn rem wai done b) b hsz hda h hs hd hdone hw
  | .alt e kpl qs2 g r, dn, rem, wai, done, σ, w, O, φ, α, b, hsz, hda, h, hs, hd, hst, hdone, hal, hcl, hw => by
    simp only [altsOk, Bool.and_eq_true] at hal
    simp only [clrA, clrN, Bool.and_eq_true] at hcl
    unfold exalt at hw
    refine ⟨fun o ho => ?_, exalt_sound ht hcon hz hn hp hk r dn rem wai done b hsz hda h hs hd hst hdone hal.2 hcl.2 hw.2⟩
    have hw := hw.1
    rw [opAt_eq, ho] at hw
    rw [ho] at hcl
    exact alt_step ht hcon hz hn hp hk ho hal.1.1.1 hal.1.2 hcl.1.1.1 hcl.1.1.2 hcl.1.2 (fun dn rem wai done σ w O φ α b => exalt_sound ht hcon hz hn hp hk g dn rem wai done b) b hsz hda h hs hd hdone hw
theorem draw_region {k : St → Prop} {kp : PV → St → Prop} {d : Drw} {id : Nat} {todo : List Item} (ht : TbG C.P tb G) (hcon : ∀ f i o, con f i o → Con C.P G f i o) (hz : ∀ w O, z.G w O → G.p w O) (hok : drawOk ops d.anc n d.E d.qs d.g = true) (hcg : clrG ops d.g d.qs = true) (hn : ops.toList.all (fun o => dOk n o.dst) = true)
    (hw : exreg tb cty ann con ops kp k d σ) (hk : ∀ s, k s → ∀ V w, RS z s V w → TW C n ds todo V w) (hp : ∀ v s, kp v s → PanOk z { C with lv := false } n ds v s) (V : Env) (w : World) (hr : RS z σ V w) : TW C n ds (.code (.region id ops true) :: todo) V w := by
  obtain ⟨k0, hw, hk⟩ : ∃ k0 : St → Prop, exdraw tb cty ann con ops kp k0 d.g d.qs σ ∧ ∀ s, k0 s → ∀ V w, RS z s V w → TW C n ds todo V w := by
    revert hw
    unfold exreg
    split
    · exact fun hw => ⟨_, hw, hk⟩
    · rintro ⟨J, h1, h2⟩
      refine ⟨_, h1, fun s hs V w hr => ?_⟩
      obtain ⟨s', e, hj⟩ := wt_some hs
      exact hk s' (h2 s' hj) V w (hr.cut e)
  obtain ⟨O, φ, α, h, hs⟩ := hr
  have hn' : ∀ (q : Nat) (o : Oper), ops[q]? = some o → dOk n o.dst = true := fun q o ho => List.all_eq_true.1 hn o (by
    have := List.mem_of_getElem? (l := ops.toList) (i := q) (a := o) (by simpa using ho)
    exact this)
  have hal : altsOk d.anc d.E (without (quietOf ops d.E) d.qs) d.qs d.g = true := by
    simp only [drawOk, Bool.and_eq_true] at hok
    exact hok.2
  simp only [clrG, Bool.and_eq_true] at hcg
  have := TW.drawP (C := C) (n := n) (ds := ds) (k := todo) (L := V) (w := w) (id := id) (l := ops.toList) d.anc d.E d.qs d.g ht.mix (by simpa using hok) fun w' x a ha hda => by
    have h2 := h.moveN x
    unfold exdraw at hw
    obtain ⟨b, σ1, dn1, e1, e2, e3, e4, e5, e6, e7, e8, e9⟩ := group_sound (C := { C with lv := false }) (ds := ds) (done := []) (k := fun σ1 dn1 => exalt tb cty ann con ops kp k0 d.g dn1 σ1) ht.toTbOk (fun w O h => ht.gt w O (hz w O h)) hn' d.qs a ha.size hda (h2.envA ha) (by simp) (by simp) (by simpa using hcg.1) hw
    refine ⟨b, by simpa using e1, ?_⟩
    have := exalt_sound (C := { C with lv := false }) (K := TWa C todo) (G := G) (z := z) (anc := d.anc) ht hcon hz hn' hp (fun s hks V w hr a ha hda => hk s hks V w hr a ha hda) d.g dn1 _ _ d.qs b e2 e3 e4 hs e5 (by simpa using e6) (by simpa using e7) hal (by rw [e8]; simpa using hcg.2) e9
    simpa using this
  simpa using this
end
end Go.Pe
