import Derived.Test.YtfhgkcjhgmoceaaGreatDoorCiH
set_option linter.all false
namespace Go.Ci
open Go.RowKit Go.Lk
theorem twa_draw {C : Cx} {n : Nat} {ds : List Deferred} {k : List Item} {id : Nat} {l : List Oper} {anc : Anc} {E qs : List Nat} {g : Gt} {a : Act} {w : World} (hm : C.P.follows .mixedOrders = true) (hok : drawOk l.toArray anc n E qs g = true) (hlv : DrOk C l.toArray) (hd : a.defers = ds)
    (h : ∀ w', Ext Nowhere w w' → DK C n ds l.toArray (TWa C k) [] qs g a w') : TWa C (.code (.region id l.toArray true) :: k) a w := fun cs => by
  obtain ⟨b, hoff, h2⟩ := h { w with drawn := w.drawn + 1 } ⟨rfl, rfl, rfl, Nat.le_refl _, fun _ _ _ => rfl⟩
  have hsound := draw_sound (C := C) (ds := ds) (K := TWa C k) hlv (drawOk.stat hok) l.toArray.size (Array.replicate l.toArray.size false) E (without (quietOf l.toArray E) qs) qs g a b { w with drawn := w.drawn + 1 }
    (Nat.le_trans (List.length_filter_le _ _) (by simp)) hd (init_inv hok hoff) h2
  refine (?_ : Goes C cs _).of_steps (.one step_region_draw)
  simp only [Region.schedule, hm, Bool.true_or, if_true]
  exact twa_of_ops (C := C) (wpAny_sound _ _ _ _ _ hsound) cs
theorem idxs_mem {f : Nat → Oper → Bool} : ∀ {ops : List Oper} {k i : Nat}, i ∈ idxs f ops k → k ≤ i ∧ ∃ o, ops[i - k]? = some o ∧ f i o = true
  | o :: ops, k, i, h => by
    have h2 : i ∈ (Bool.rec (idxs f ops (k + 1)) (k :: idxs f ops (k + 1)) (f k o) : List Nat) := h
    clear h
    cases e : f k o with
    | true =>
      rw [e] at h2
      rcases List.mem_cons.1 h2 with rfl | h3
      · exact ⟨Nat.le_refl _, o, by simp, e⟩
      · obtain ⟨h4, o', h5, h6⟩ := idxs_mem h3
        refine ⟨by omega, o', ?_, h6⟩
        rw [show i - k = (i - (k + 1)) + 1 by omega]
        simpa using h5
    | false =>
      rw [e] at h2
      obtain ⟨h4, o', h5, h6⟩ := idxs_mem h2
      refine ⟨by omega, o', ?_, h6⟩
      rw [show i - k = (i - (k + 1)) + 1 by omega]
      simpa using h5
theorem idxs_nodup {f : Nat → Oper → Bool} : ∀ {ops : List Oper} {k : Nat}, (idxs f ops k).Nodup
  | [], k => List.nodup_nil
  | o :: ops, k => by
    show (Bool.rec (idxs f ops (k + 1)) (k :: idxs f ops (k + 1)) (f k o) : List Nat).Nodup
    cases f k o with
    | true =>
      refine List.nodup_cons.2 ⟨fun h => ?_, idxs_nodup⟩
      have := (idxs_mem h).1
      omega
    | false => exact idxs_nodup
theorem actE_mem {P : Program} {ops : List Oper} {i : Nat} (h : i ∈ actE P ops) : ∃ o, ops[i]? = some o ∧ actQ P ops i o = true := by
  obtain ⟨_, o, h1, h2⟩ := idxs_mem h
  exact ⟨o, by simpa using h1, h2⟩
theorem quiE_mem {P : Program} {ops : List Oper} {i : Nat} (h : i ∈ quiE P ops) : ∃ o, ops[i]? = some o ∧ actQ P ops i o = false := by
  obtain ⟨_, o, h1, h2⟩ := idxs_mem h
  exact ⟨o, by simpa using h1, by simpa using h2⟩
theorem qui_act {P : Program} {ops : List Oper} {i : Nat} (h : i ∈ quiE P ops) (k : i ∈ actE P ops) : False := by
  obtain ⟨o, h1, h2⟩ := quiE_mem h
  obtain ⟨o', k1, k2⟩ := actE_mem k
  rw [h1] at k1
  cases k1
  rw [h2] at k2
  cases k2
theorem itms_len {anc : Anc} {fl E Q : List Nat} : ∀ {l d : List Nat}, (itms anc fl E Q l d).length = l.length
  | [], _ => rfl
  | x :: l, d => by show (itms anc fl E Q l _).length + 1 = _; rw [itms_len]; rfl
theorem clrL_get {ops : List Oper} {L : T CV} {t : Nat} {v : CV} : ∀ {fs : List Nat}, (clrL ops fs L).get t = some v → L.get t = some v ∧ ∀ f ∈ fs, dstOf ops.toArray f ≠ some t
  | [], h => ⟨h, fun f hf => by cases hf⟩
  | f :: fs, h => by
    have h2 : ((match dstAt (nth ops f) with
      | some d => (clrL ops fs L).put none d
      | none => clrL ops fs L) : T CV).get t = some v := h
    clear h
    have hdst : dstAt (nth ops f) = dstOf ops.toArray f := dstAt_eq ops f
    rw [hdst] at h2
    split at h2
    · rename_i d hd
      rw [T.get_put] at h2
      split at h2
      · cases h2
      · rename_i hne
        obtain ⟨h3, h4⟩ := clrL_get h2
        refine ⟨h3, fun f' hf' => ?_⟩
        rcases List.mem_cons.1 hf' with rfl | hf'
        · intro k
          rw [hd] at k
          cases k
          exact hne rfl
        · exact h4 f' hf'
    · rename_i hd
      obtain ⟨h3, h4⟩ := clrL_get h2
      refine ⟨h3, fun f' hf' => ?_⟩
      rcases List.mem_cons.1 hf' with rfl | hf'
      · intro k
        rw [hd] at k
        cases k
      · exact h4 f' hf'
section
variable {P : Program} {z : Bs} {n N : Nat} {Φ : Ph} {ops : List Oper} {σ' : St} {w : World} {call : Call'}
theorem exG0_ok (hok : dOks n ops = true) : ∀ (g : List Nat) {σ : St} {b : Act}, SR z n N Φ σ b w → exG P call ops g σ = .ok σ' → ∃ b', Off ops.toArray g b b' ∧ SR z n N Φ σ' b' w ∧ ∀ t, (∀ q ∈ g, dstOf ops.toArray q ≠ some t) → σ'.L.get t = σ.L.get t
  | [], σ, b, h, e => by
    cases e
    exact ⟨b, offRfl _ _ _, h, fun _ _ => rfl⟩
  | q :: g, σ, b, h, e => by
    obtain ⟨o, σ1, ho, hq, e1, e2⟩ := exG_step e
    obtain ⟨v, rfl, hv⟩ := quiet_step hq h.hr h.lr e1
    obtain ⟨b', k1, k2, k3⟩ := exG0_ok hok g (h.put (d := o.dst) (dok_mem hok ho) hv) e2
    refine ⟨b', ?_, k2, fun t ht => ?_⟩
    · exact offTrans (offPut (ops := ops.toArray) (j := q) (a := b) (enc Φ v)) (by rw [dstOf_of ho]; exact k1)
    · rw [k3 t fun q' hq' => ht q' (List.mem_cons_of_mem _ hq')]
      have := ht q List.mem_cons_self
      rw [dstOf_of ho] at this
      cases hd : o.dst with
      | none => rfl
      | some d =>
        show (σ.put d v).L.get t = _
        rw [St.get_put, if_neg (fun k => this (by rw [hd, k]))]
theorem newsQ_mem {σ : St} : ∀ {fs : List Nat}, newsQ P ops σ fs = true → ∀ f ∈ fs, newO P σ (nth ops f) = true
  | f :: fs, h, f', hf => by
    obtain ⟨h1, h2⟩ := recB (b := newO P σ (nth ops f)) (c := newsQ P ops σ fs) h
    rcases List.mem_cons.1 hf with rfl | hf
    · exact h1
    · exact newsQ_mem h2 f' hf
end
theorem drwQ_ok {C : Cx} {n : Nat} {ops : List Oper} {call : Call'} (hm : C.P.follows .mixedOrders = true) (hc : CallOk C.P call) (hok : dOks n ops = true) (h : drwQ C.P n ops = true) (hlv : DrOk C ops.toArray) : DrawnOk C call n ops := by
  intro z N0 Φ0 id todo σ hf N Φ a w ag hl hs
  unfold drwQ at h
  simp only [Bool.and_eq_true] at h
  obtain ⟨⟨hdr, hfl⟩, hnd⟩ := h
  refine twa_draw hm hdr hlv rfl fun w' x => ?_
  have hf : RK C z n N0 Φ0 (TWa C todo) (stbF C.P ops (rcG ops (planG C.P ops)) (begF C.P ops (planC C.P ops) (exIt C.P call ops (planI C.P ops))) (exG C.P call ops (planG C.P ops) ⟨clrL ops (planC C.P ops) σ.L, σ.H, σ.ds⟩)) := by
    unfold exD at hf
    cases e : (stbF C.P ops (rcG ops (planG C.P ops)) (begF C.P ops (planC C.P ops) (exIt C.P call ops (planI C.P ops))) (exG C.P call ops (planG C.P ops) ⟨clrL ops (planC C.P ops) σ.L, σ.H, σ.ds⟩)) <;> rw [e] at hf <;> exact hf
  obtain ⟨σ1, e1, st1, hk⟩ := stbF_ok hf
  replace st1 := exG_stb (fun i o ho => List.all_eq_true.1 hnd o (List.mem_of_getElem? ho)) _ e1 st1
  have hs0 : SR z n N Φ ⟨clrL ops (planC C.P ops) σ.L, σ.H, σ.ds⟩ a w' := ⟨hs.hr.same x, ⟨hs.lr.size, fun t v e => hs.lr.get t v (clrL_get e).1⟩, hs.ds, hs.dk⟩
  obtain ⟨b, hoff, hs1, hL⟩ := exG0_ok hok _ hs0 e1
  refine ⟨b, hoff, ?_⟩
  unfold begF at hk
  split at hk
  rotate_left
  · exact hk.elim
  rename_i hnews
  have hflt : ∀ f ∈ planC C.P ops, ∃ (o : Oper) (d : Nat), ops[f]? = some o ∧ newQ o.op = true ∧ o.guard = none ∧ o.dst = some d ∧ ∀ j e, dstOf ops.toArray j = some e → (j = f ∨ e ≠ d) ∧ (j ∈ planG C.P ops ∨ e ∉ o.looksAt ops.toArray) := fun f hf' => by
    have h1 := List.all_eq_true.1 hfl f hf'
    unfold fltOk at h1
    rw [nth_eq] at h1
    split at h1
    · rename_i o ho
      unfold fltO at h1
      simp only [Bool.and_eq_true] at h1
      obtain ⟨⟨h2, h3⟩, h4⟩ := h1
      split at h4
      · rename_i d hd
        refine ⟨o, d, ho, h2, by simpa using h3, hd, fun j e hj => ?_⟩
        have hjl : j < ops.length := by
          unfold dstOf at hj
          rcases Nat.lt_or_ge j ops.length with k | k
          · exact k
          · simp [List.getElem?_eq_none k] at hj
        have h5 := List.all_eq_true.1 h4 j (List.mem_range.2 hjl)
        have hda : dstAt (nth ops j) = some e := (dstAt_eq ops j).trans hj
        rw [hda] at h5
        simp only [Bool.and_eq_true, Bool.or_eq_true, Bool.not_eq_true'] at h5
        obtain ⟨h6, h7⟩ := h5
        refine ⟨h6.imp (fun k => Nat.eq_of_beq_eq_true k) (fun k => Nat.ne_of_beq_eq_false k), h7.imp (fun k => List.contains_iff_mem.1 k) fun k m => ?_⟩
        have := List.any_eq_false.1 k e m
        exact this (Nat.beq_refl e)
      · cases h4
    · cases h1
  have hrun : ∀ f, ∃ op : Obj × (Nat → Value), f ∈ planC C.P ops → ∀ (o : Oper), ops[f]? = some o → ∀ w2, (execOp b.eval o).run C.P w2 = .ok (.value (op.2 w2.heap.size)) (w2.alloc op.1) := fun f => by
    by_cases hf' : f ∈ planC C.P ops
    · have h1 := newsQ_mem hnews f hf'
      obtain ⟨o, d, k1, k2, _⟩ := hflt f hf'
      rw [nth_eq, k1] at h1
      rcases newA_or (P := C.P) (L := σ1.L) (H := σ1.H) (op := o.op) with e | ⟨v, H', e⟩
      · have h1 : valQ (newA C.P σ1.L σ1.H o.op) = true := h1
        rw [e] at h1
        cases h1
      · obtain ⟨cs, U, mk, pv, _, _, _, _, _, _, c5⟩ := newA_new hs1.lr e
        exact ⟨(_, pv), fun _ o' ho' w2 => by
          rw [k1] at ho'
          cases ho'
          exact c5 w2⟩
    · exact ⟨(.stringIter default 0, fun _ => undef), fun k => (hf' k).elim⟩
  obtain ⟨op, hop⟩ := Classical.axiomOfChoice hrun
  have R : RI C z n N0 Φ0 a.defers ops (planG C.P ops) (planC C.P ops) (fun f => (op f).1) (fun f => (op f).2) call := by
    refine ⟨hc, hs.hr.fr, hok, fun i o ho => ?_, fun f hf' => ?_, fun f hf' o d ho hd j e hj => ?_, fun i o ho => ?_⟩
    · exact List.all_eq_true.1 hnd o (List.mem_of_getElem? ho)
    · obtain ⟨o, d, k1, k2, k3, k4, _⟩ := hflt f hf'
      exact ⟨o, d, k1, k2, k3, k4⟩
    · obtain ⟨o', d', k1, _, _, k4, k5⟩ := hflt f hf'
      rw [k1] at ho
      cases ho
      rw [k4] at hd
      cases hd
      exact k5 j e hj
    · exact (drawOk.stat hdr).sel i o (by simpa using ho)
  have S : SE ops (ancL ops) (planC C.P ops) (actE C.P ops) (quiE C.P ops) (planG C.P ops) := by
    refine ⟨fun e he => ?_, fun e he q hq => ?_, fun f hf' => (List.mem_filter.1 hf').1⟩
    · obtain ⟨o, h1, _⟩ := actE_mem he
      exact ⟨⟨o, h1⟩, fun k => qui_act (List.mem_filter.1 k).1 he⟩
    · obtain ⟨h1, h2⟩ := List.mem_filter.1 hq
      simp only [Bool.and_eq_true] at h2
      refine ⟨fun k => ?_, fun k => qui_act h1 k⟩
      have := List.all_eq_true.1 (List.mem_filter.1 k).2 e he
      rw [h2.1] at this
      cases this
  have T1 : TI C z n N0 Φ0 a.defers ops (planC C.P ops) (fun f => (op f).1) (fun f => (op f).2) σ1 b w' N Φ [] (actE C.P ops) := by
    refine ⟨ag, hl, ⟨z, fun x => by simp, Ext.refl _ _, hs1.hr⟩, hs1.lr, hs1.ds, hs1.dk, hoff.defers.symm, fun q hq => (by cases hq), List.nodup_nil, fun f hf' o ho w2 => hop f hf' o ho w2, fun f hfE hf' d hd => ?_⟩
    have h1 : ∀ q ∈ planG C.P ops, dstOf ops.toArray q ≠ some d := fun q hq k => by
      obtain ⟨o', d', k1, _, _, k4, k5⟩ := hflt f hf'
      rw [dstOf_of k1, k4] at hd
      cases hd
      rcases (k5 q _ k).1 with m | m
      · subst m
        exact qui_act (List.mem_filter.1 hq).1 hfE
      · exact m rfl
    rw [hL d h1]
    cases e : (clrL ops (planC C.P ops) σ.L).get d with
    | none => rfl
    | some v => exact ((clrL_get e).2 f hf' hd).elim
  have := gt_ok (K := TWa C todo) (anc := ancL ops) (E := actE C.P ops) (Q := quiE C.P ops) R S (2 * (planI C.P ops).length) (Er := actE C.P ops) (dabs := planG C.P ops) (done := planG C.P ops) (pds := []) (by
    unfold planI
    rw [itms_len]
    exact Nat.le_refl _) (fun _ h => h) idxs_nodup T1 List.nodup_nil (fun q hq => by cases hq) (fun e r _ k => by cases k) (fun _ h => h) st1 hk
  exact this
theorem ndR_ok {C : Cx} {ops : List Oper} (h : C.lv = false ∨ ndR (C.fn.results.toList.map rslot) ops = true) : DrOk C ops.toArray := by
  refine h.imp id fun h q t hq r hr e => ?_
  unfold dstOf at hq
  have hq : (ops[q]?).bind (fun x => x.dst) = some t := by simpa using hq
  obtain ⟨o, h1, h2⟩ := Option.bind_eq_some_iff.1 hq
  have h3 := List.all_eq_true.1 h o (List.mem_of_getElem? h1)
  rw [h2] at h3
  simp only [Bool.not_eq_true', List.any_eq_false] at h3
  exact h3 (rslot r) (List.mem_map_of_mem hr) (by rw [e]; exact Nat.beq_refl t)
theorem drAll_ok {P : Program} (hm : P.follows .mixedOrders = true) {call : Call'} (hc : CallOk P call) : DrAll P call := by
  intro C n c hP
  subst hP
  induction c with
  | region id ops dr =>
    intro hok hlv
    cases dr with
    | false => trivial
    | true =>
      obtain ⟨h1, h2⟩ := recB (b := dOks n ops.toList) (c := drwQ C.P n ops.toList) hok
      exact drwQ_ok hm hc h1 h2 (ndR_ok hlv)
  | seq a b iha ihb =>
    intro hok hlv
    obtain ⟨h1, h2⟩ := recB (b := okD C.P n a) (c := okD C.P n b) hok
    have hlv' : C.lv = false ∨ (ndQ (C.fn.results.toList.map rslot) a = true ∧ ndQ (C.fn.results.toList.map rslot) b = true) := hlv.imp id fun h => recB (b := ndQ _ a) (c := ndQ _ b) h
    exact ⟨iha h1 (hlv'.imp id And.left), ihb h2 (hlv'.imp id And.right)⟩
  | cond x a b iha ihb =>
    intro hok hlv
    obtain ⟨h1, h2⟩ := recB (b := okD C.P n a) (c := okD C.P n b) hok
    have hlv' : C.lv = false ∨ (ndQ (C.fn.results.toList.map rslot) a = true ∧ ndQ (C.fn.results.toList.map rslot) b = true) := hlv.imp id fun h => recB (b := ndQ _ a) (c := ndQ _ b) h
    exact ⟨iha h1 (hlv'.imp id And.left), ihb h2 (hlv'.imp id And.right)⟩
  | block i a ih => exact fun hok hlv => ih hok hlv
  | loop a ih => exact fun hok hlv => ih hok hlv
  | _ => intros; trivial
/-- Whatever a call comes to here, it comes to there. -/
theorem call_ok {P : Program} {ext : Xt} {okt : Nat → Bool} (hko : ∀ f, okt f = true → okF P f = true) (hm : P.follows .mixedOrders = true) (hE : Ents P) (hX : ExtOk P ext) (n : Nat) : CallOk P (callR P ext okt n) := callR_ok hko hE (fun _ hc => drAll_ok hm hc) hX n
end Go.Ci
