import Derived.Test.YtfhgkcjhgmoceaaGreatDoorCiW
set_option linter.all false
namespace Go.Ci
open Go.RowKit Go.Lk
def RK (C : Cx) (z : Bs) (n N0 : Nat) (Φ0 : Ph) (K : Act → World → Prop) : Rs → Prop
  | .ok σ => ∀ N Φ a w, Ag N0 Φ0 Φ → N0 ≤ N → SR z n N Φ σ a w → K a w
  | .pan v σ => ∀ N Φ a w, Ag N0 Φ0 Φ → N0 ≤ N → SR z n N Φ σ a w → Ok N Φ v → PN C a [{ v := enc Φ v, recovered := false }] w
  | .no => False
theorem nd_len : ∀ {l m : List Nat}, l.Nodup → (∀ x ∈ l, x ∈ m) → l.length ≤ m.length
  | [], _, _, _ => Nat.zero_le _
  | x :: l, m, hn, hs => by
    rw [List.nodup_cons] at hn
    have h1 := hs x List.mem_cons_self
    have h2 := nd_len (m := m.erase x) hn.2 fun y hy => (List.mem_erase_of_ne (fun e => hn.1 (by rw [← e]; exact hy))).2 (hs y (List.mem_cons_of_mem _ hy))
    rw [List.length_erase_of_mem h1] at h2
    have h3 : 0 < m.length := List.length_pos_of_mem h1
    simp only [List.length_cons]
    omega
/-- Which operations act, which are quiet. -/
structure SE (ops : List Oper) (anc : Anc) (fl E Q g0 : List Nat) : Prop where
  op : ∀ e ∈ E, (∃ o, ops[e]? = some o) ∧ e ∉ g0
  grp : ∀ e ∈ E, ∀ q ∈ grpOf anc E Q e, q ∉ g0 ∧ q ∉ E
  fl : ∀ f ∈ fl, f ∈ E
section
variable {C : Cx} {z : Bs} {n N0 : Nat} {Φ0 : Ph} {ds : List Deferred} {ops : List Oper} {g0 fl : List Nat} {obf : Nat → Obj} {pvf : Nat → Nat → Value} {call : Call'} {anc : Anc} {E Q : List Nat} {K : Act → World → Prop}
theorem TI.sub {σ : St} {b : Act} {w : World} {N : Nat} {Φ : Ph} {pds : List (Nat × Nat)} {frem frem' : List Nat} (h : TI C z n N0 Φ0 ds ops fl obf pvf σ b w N Φ pds frem) (hs : ∀ x ∈ frem', x ∈ frem) : TI C z n N0 Φ0 ds ops fl obf pvf σ b w N Φ pds frem' :=
  ⟨h.ag, h.le, h.hz, h.lr, h.eds, h.dk, h.dfs, h.pd, h.nd, h.rf, fun f hf => h.nf f (hs f hf)⟩
theorem exIt_cons (P : Program) (e : Nat) (kp g : List Nat) (r : List Itm) (σ : St) : exIt P call ops ((e, kp, g) :: r) σ = (match exN P call ops σ (nth ops e) with
  | .ok σ => stbF P ops (rcI ops (e, kp, g)) (exIt P call ops r) (exG P call ops g σ)
  | .pan v σ => .pan v σ
  | .no => .no) := rfl
theorem stbF_ok {P : Program} {qs : List Nat} {f : St → Rs} {r : Rs} (h : RK C z n N0 Φ0 K (stbF P ops qs f r)) : ∃ σ, r = .ok σ ∧ (∀ q ∈ qs, stbO P ops σ (nth ops q) = true) ∧ RK C z n N0 Φ0 K (f σ) := by
  unfold stbF at h
  split at h
  · split at h
    · rename_i e
      exact ⟨_, rfl, stbs_mem e, h⟩
    · exact h.elim
  · exact h.elim
theorem keep_mem {done : List Nat} {e q : Nat} (h : q ∈ keep anc done e) : q ∈ done := (List.mem_filter.1 h).1
theorem keepF_mem {done : List Nat} {e q : Nat} (h : q ∈ keepF anc fl done e) : q ∈ done := by
  unfold keepF at h
  split at h
  · exact h
  · exact keep_mem h
theorem keep_sub {done dabs : List Nat} {e : Nat} (hs : ∀ q ∈ done, q ∈ dabs) : ∀ q ∈ keep anc done e, q ∈ keepF anc fl dabs e := fun q hq => by
  unfold keepF
  obtain ⟨h1, h2⟩ := List.mem_filter.1 hq
  split
  · exact hs q h1
  · exact List.mem_filter.2 ⟨hs q h1, h2⟩
theorem abs_ok (R : RI C z n N0 Φ0 ds ops g0 fl obf pvf call) (S : SE ops anc fl E Q g0) {w : World} : ∀ (Er : List Nat) {dabs : List Nat} {σ : St} {b : Act} {N : Nat} {Φ : Ph} {pds : List (Nat × Nat)}, (∀ e ∈ Er, e ∈ E) → Er.Nodup → TI C z n N0 Φ0 ds ops fl obf pvf σ b w N Φ pds Er → (pds.map (·.1)).Nodup → (∀ q ∈ pds, q.1 ∈ Er) →
    RK C z n N0 Φ0 K (exIt C.P call ops (itms anc fl E Q Er dabs) σ) → (∀ q ∈ dabs, stbO C.P ops σ (nth ops q) = true) →
    ∃ Er' dabs' σ' b' N' Φ' pds', (abs1 (itms anc fl E Q Er dabs) (pds.map (·.1))).2.1 = itms anc fl E Q Er' dabs' ∧ (abs1 (itms anc fl E Q Er dabs) (pds.map (·.1))).2.2 = pds'.map (·.1) ∧ Off ops.toArray (abs1 (itms anc fl E Q Er dabs) (pds.map (·.1))).1 b b' ∧
      TI C z n N0 Φ0 ds ops fl obf pvf σ' b' w N' Φ' pds' Er' ∧ (pds'.map (·.1)).Nodup ∧ (∀ q ∈ pds', q.1 ∈ Er') ∧ RK C z n N0 Φ0 K (exIt C.P call ops (itms anc fl E Q Er' dabs') σ') ∧ (∀ q ∈ dabs', stbO C.P ops σ' (nth ops q) = true) ∧
      (∀ q ∈ dabs ++ (abs1 (itms anc fl E Q Er dabs) (pds.map (·.1))).1, q ∈ dabs') ∧ (∀ e ∈ Er', e ∈ E) ∧ Er'.Nodup ∧ (∀ e r, Er' = e :: r → e ∉ pds'.map (·.1)) ∧ Er'.length + pds.length ≤ Er.length + pds'.length ∧ Er'.length ≤ Er.length
  | [], dabs, σ, b, N, Φ, pds, hE, hn, h, hd, hp, hk, hst => ⟨[], dabs, σ, b, N, Φ, pds, rfl, rfl, offRfl _ _ _, h, hd, hp, hk, hst, fun q hq => by simpa [itms, abs1] using hq, hE, hn, fun e r k => (by cases k), Nat.le_refl _, Nat.le_refl _⟩
  | e :: r, dabs, σ, b, N, Φ, pds, hE, hn, h, hd, hp, hk, hst => by
    have hi : itms anc fl E Q (e :: r) dabs = (e, keepF anc fl dabs e, grpOf anc E Q e) :: itms anc fl E Q r (keepF anc fl dabs e ++ grpOf anc E Q e) := rfl
    rw [List.nodup_cons] at hn
    cases hc : (pds.map (·.1)).contains e with
    | false =>
      have ha : abs1 (itms anc fl E Q (e :: r) dabs) (pds.map (·.1)) = ([], itms anc fl E Q (e :: r) dabs, pds.map (·.1)) := by
        rw [hi]
        simp only [abs1, hc]
      rw [ha]
      refine ⟨e :: r, dabs, σ, b, N, Φ, pds, rfl, rfl, offRfl _ _ _, h, hd, hp, hk, hst, fun q hq => by simpa using hq, hE, List.nodup_cons.2 hn, fun e' r' k => ?_, Nat.le_refl _, Nat.le_refl _⟩
      cases k
      intro k
      rw [List.contains_iff_mem.2 k] at hc
      cases hc
    | true =>
      obtain ⟨q, hq, rfl⟩ := List.mem_map.1 (List.contains_iff_mem.1 hc)
      obtain ⟨f, p⟩ := q
      have hfl : f ∈ fl := (h.pd _ hq).1
      have hfE := hE f List.mem_cons_self
      obtain ⟨⟨o, ho⟩, hg0⟩ := S.op f hfE
      have hkf : keepF anc fl dabs f = dabs := by unfold keepF; rw [List.contains_iff_mem.2 hfl]
      simp only [hkf] at hi
      rw [hi, exIt_cons, nth_eq, ho] at hk
      have hno : exo C.P call ops σ o ≠ .no := fun e => by
        have : exN C.P call ops σ (some o) = .no := e
        rw [this] at hk
        exact hk
      obtain ⟨σ1, N1, Φ1, e1, h1⟩ := absorb_ok R h hq ho (frem' := r) hn.1 (fun x hx => List.mem_cons_of_mem _ hx) hno
      have e1 : exN C.P call ops σ (some o) = .ok σ1 := e1
      rw [e1] at hk
      obtain ⟨σ2, e2, st2, hk2⟩ := stbF_ok hk
      replace st2 := rcI_ok (it := (f, dabs, grpOf anc E Q f)) R.nod ho e1 e2 hst st2
      have hmem : ∀ x ∈ pds.filter (fun q => q.1 != f), x ∈ pds ∧ x.1 ≠ f := fun x hx => by simpa using List.mem_filter.1 hx
      obtain ⟨b2, o2, h2⟩ := exG_ok R _ h1 (fun q hq' => by
        obtain ⟨g1, g2⟩ := S.grp f hfE q hq'
        refine ⟨g1, fun k => ?_, fun k => g2 (hE q (List.mem_cons_of_mem _ k))⟩
        obtain ⟨x, m1, rfl⟩ := List.mem_map.1 k
        exact g2 (S.fl _ (h.pd _ (hmem x m1).1).1)) e2
      have hmap : (pds.filter (fun q => q.1 != f)).map (·.1) = (pds.map (·.1)).filter (· != f) := by
        rw [List.filter_map]; rfl
      have hd2 : ((pds.filter (fun q => q.1 != f)).map (·.1)).Nodup := by rw [hmap]; exact hd.sublist List.filter_sublist
      obtain ⟨Er', dabs', σ', b', N', Φ', pds', a1, a2, a3, a4, a5, a6, a7, a8, a9, a10, a11, a12, a13, a14⟩ := abs_ok R S r (fun x hx => hE x (List.mem_cons_of_mem _ hx)) hn.2 h2 hd2 (fun q hq' => by
        obtain ⟨m1, m2⟩ := hmem q hq'
        rcases List.mem_cons.1 (hp q m1) with k | k
        · exact (m2 k).elim
        · exact k) hk2 st2
      have ha : abs1 (itms anc fl E Q (f :: r) dabs) (pds.map (·.1)) = (grpOf anc E Q f ++ (abs1 (itms anc fl E Q r (dabs ++ grpOf anc E Q f)) ((pds.filter (fun q => q.1 != f)).map (·.1))).1, (abs1 (itms anc fl E Q r (dabs ++ grpOf anc E Q f)) ((pds.filter (fun q => q.1 != f)).map (·.1))).2) := by
        rw [hi, hmap]
        simp only [abs1, hc]
      rw [ha]
      have hlen : (pds.filter (fun q => q.1 != f)).length + 1 ≤ pds.length := by
        have : (pds.filter (fun q => q.1 != f)).length < pds.length := by
          refine Nat.lt_of_le_of_ne (List.length_filter_le _ _) fun k => ?_
          have := List.length_filter_eq_length_iff.1 k _ hq
          simp at this
        omega
      refine ⟨Er', dabs', σ', b', N', Φ', pds', a1, a2, offTrans o2 a3, a4, a5, a6, a7, a8, fun q hq' => a9 q (by rw [List.append_assoc]; exact hq'), a10, a11, a12, ?_, ?_⟩
      · have hd3 : pds.length ≤ (pds.filter (fun q => q.1 != f)).length + 1 := by
          have k1 := nd_len (l := pds.map (·.1)) (m := f :: (pds.filter (fun q => q.1 != f)).map (·.1)) hd fun x hx => by
            obtain ⟨y, m1, rfl⟩ := List.mem_map.1 hx
            by_cases k : y.1 = f
            · rw [k]; exact List.mem_cons_self
            · exact List.mem_cons_of_mem _ (List.mem_map_of_mem (List.mem_filter.2 ⟨m1, by simpa using k⟩))
          simpa using k1
        simp only [List.length_cons]
        omega
      · simp only [List.length_cons]; omega
theorem gt_ok (R : RI C z n N0 Φ0 ds ops g0 fl obf pvf call) (S : SE ops anc fl E Q g0) : ∀ (fuel : Nat) {Er dabs done : List Nat} {σ : St} {b : Act} {w : World} {N : Nat} {Φ : Ph} {pds : List (Nat × Nat)}, 2 * Er.length ≤ fuel + pds.length → (∀ e ∈ Er, e ∈ E) → Er.Nodup → TI C z n N0 Φ0 ds ops fl obf pvf σ b w N Φ pds Er → (pds.map (·.1)).Nodup → (∀ q ∈ pds, q.1 ∈ Er) → (∀ e r, Er = e :: r → e ∉ pds.map (·.1)) →
    (∀ q ∈ done, q ∈ dabs) → (∀ q ∈ dabs, stbO C.P ops σ (nth ops q) = true) → RK C z n N0 Φ0 K (exIt C.P call ops (itms anc fl E Q Er dabs) σ) → DRa C ds ops.toArray K done (gtF anc fl fuel done (itms anc fl E Q Er dabs) (pds.map (·.1))) b w := by
  have fin : ∀ {dabs done : List Nat} {σ : St} {b : Act} {w : World} {N : Nat} {Φ : Ph} {pds : List (Nat × Nat)}, TI C z n N0 Φ0 ds ops fl obf pvf σ b w N Φ pds [] → (∀ q ∈ done, q ∈ dabs) → (∀ q ∈ dabs, stbO C.P ops σ (nth ops q) = true) → RK C z n N0 Φ0 K (.ok σ) → DRa C ds ops.toArray K done .fin b w :=
    fun {dabs done σ b w N Φ pds} h h1 h2 hk => ⟨fun q hq => h.stab (h2 q (h1 q hq)), hk N Φ b w h.ag h.le (h.sr R.zfr)⟩
  intro fuel
  induction fuel with
  | zero =>
    intro Er dabs done σ b w N Φ pds hf hE hn h hd hp hh h1 h2 hk
    have := nd_len hd (m := Er) fun x hx => by
      obtain ⟨y, m1, rfl⟩ := List.mem_map.1 hx
      exact hp y m1
    have h0 : Er = [] := List.eq_nil_of_length_eq_zero (by rw [List.length_map] at this; omega)
    subst h0
    exact fin h h1 h2 hk
  | succ fuel ih =>
    intro Er dabs done σ b w N Φ pds hf hE hn h hd hp hh h1 h2 hk
    cases Er with
    | nil => exact fin h h1 h2 hk
    | cons e r =>
      have hn' := List.nodup_cons.1 hn
      have hep := hh e r rfl
      have heE := hE e List.mem_cons_self
      obtain ⟨⟨o, ho⟩, hg0⟩ := S.op e heE
      have stab : ∀ q ∈ done, StabOp C.P ops.toArray b w q := fun q hq => h.stab (h2 q (h1 q hq))
      show DRa C ds ops.toArray K done ((early anc fl _ _ (pds.map (·.1))).foldr _ _) b w
      have hmem : ∀ f ∈ early anc fl (e, keepF anc fl dabs e, grpOf anc E Q e) (itms anc fl E Q r (keepF anc fl dabs e ++ grpOf anc E Q e)) (pds.map (·.1)), f ∈ r ∧ f ∈ fl ∧ f ∉ pds.map (·.1) := fun f hf => by
        unfold early at hf
        rw [List.mem_filter] at hf
        simp only [Bool.and_eq_true, Bool.not_eq_true', List.contains_iff_mem] at hf
        obtain ⟨m1, ⟨m2, m3⟩, _⟩ := hf
        refine ⟨?_, m2, fun k => by rw [List.contains_iff_mem.2 k] at m3; cases m3⟩
        have : ∀ (l d : List Nat), (itms anc fl E Q l d).map (·.1) = l := by
          intro l
          induction l with
          | nil => intro d; rfl
          | cons x l ih => intro d; show x :: _ = _; rw [ih]
        rw [this] at m1
        exact m1
      revert hmem
      generalize early anc fl (e, keepF anc fl dabs e, grpOf anc E Q e) (itms anc fl E Q r (keepF anc fl dabs e ++ grpOf anc E Q e)) (pds.map (·.1)) = fs
      intro hmem
      induction fs with
      | nil =>
        refine ⟨stab, fun o' ho' => ?_⟩
        have ho' : ops[e]? = some o' := by simpa using ho'
        rw [ho] at ho'
        cases ho'
        refine head_ok R (h.sub fun x hx => List.mem_cons_of_mem _ hx) ho hg0 hep hn'.1 ?_
        have hk : RK C z n N0 Φ0 K (exIt C.P call ops ((e, keepF anc fl dabs e, grpOf anc E Q e) :: itms anc fl E Q r (keepF anc fl dabs e ++ grpOf anc E Q e)) σ) := hk
        rw [exIt_cons, nth_eq, ho] at hk
        have hk : RK C z n N0 Φ0 K (match exo C.P call ops σ o with
          | .ok σ => stbF C.P ops (rcI ops (e, keepF anc fl dabs e, grpOf anc E Q e)) (exIt C.P call ops (itms anc fl E Q r (keepF anc fl dabs e ++ grpOf anc E Q e))) (exG C.P call ops (grpOf anc E Q e) σ)
          | .pan v σ => .pan v σ
          | .no => .no) := hk
        cases hex : exo C.P call ops σ o with
        | ok σ1 =>
          rw [hex] at hk
          obtain ⟨σ2, e2, st2, hk2⟩ := stbF_ok hk
          replace st2 := rcI_ok (it := (e, keepF anc fl dabs e, grpOf anc E Q e)) R.nod ho hex e2 (fun q hq => h2 q (keepF_mem hq)) st2
          intro N' Φ' v w' t1
          obtain ⟨b2, o2, t2⟩ := exG_ok R _ t1 (fun q hq' => by
            obtain ⟨g1, g2⟩ := S.grp e heE q hq'
            refine ⟨g1, fun k => ?_, fun k => g2 (hE q (List.mem_cons_of_mem _ k))⟩
            obtain ⟨x, m1, rfl⟩ := List.mem_map.1 k
            exact g2 (S.fl _ (h.pd _ m1).1)) e2
          obtain ⟨Er', dabs', σ', b', N2, Φ2, pds', a1, a2, a3, a4, a5, a6, a7, a8, a9, a10, a11, a12, a13, a14⟩ := abs_ok R S r (fun x hx => hE x (List.mem_cons_of_mem _ hx)) hn'.2 t2 hd (fun q hq => by
            rcases List.mem_cons.1 (hp q hq) with k | k
            · exact (hep (k ▸ List.mem_map_of_mem hq)).elim
            · exact k) hk2 st2
          refine ⟨b', offTrans o2 a3, ?_⟩
          rw [a1, a2]
          refine ih ?_ a10 a11 a4 a5 a6 a12 (fun q hq => ?_) a8 a7
          · simp only [List.length_cons] at hf
            omega
          · refine a9 q ?_
            rcases List.mem_append.1 hq with k | k
            · exact List.mem_append_left _ (List.mem_append_left _ (keep_sub h1 q k))
            · rcases List.mem_append.1 k with k | k
              · exact List.mem_append_left _ (List.mem_append_right _ k)
              · exact List.mem_append_right _ k
        | pan v σ1 =>
          rw [hex] at hk
          exact fun N' Φ' w' ag hl hs hv => hk N' Φ' b w' ag hl hs hv
        | no => rw [hex] at hk; exact hk
      | cons f fs ihf =>
        refine ⟨fun o' ho' => ?_, ihf fun f' hf' => hmem f' (List.mem_cons_of_mem _ hf')⟩
        have ho' : ops[f]? = some o' := by simpa using ho'
        obtain ⟨m1, m2, m3⟩ := hmem f List.mem_cons_self
        have hfr : f ∈ e :: r := List.mem_cons_of_mem _ m1
        refine early_ok R h ho' m2 (S.op f (hE f hfr)).2 m3 hfr fun p w' t1 => ?_
        refine ⟨_, offRfl _ _ _, ?_⟩
        rw [List.append_nil]
        refine ih (pds := (f, p) :: pds) ?_ hE hn t1 ?_ ?_ ?_ (fun q hq => h1 q (keep_mem hq)) h2 hk
        · simp only [List.length_cons] at hf ⊢
          omega
        · rw [List.map_cons, List.nodup_cons]
          exact ⟨m3, hd⟩
        · intro q hq
          rcases List.mem_cons.1 hq with rfl | hq
          · exact hfr
          · exact hp q hq
        · intro e' r' k
          cases k
          intro k
          rcases List.mem_cons.1 k with k | k
          · exact hn'.1 (k ▸ m1)
          · exact hep k
end
end Go.Ci
