import Derived.Test.YtfhgkcjhgmoceaaGreatDoorPfQ
import Derived.KernelRfl
set_option linter.all false
namespace Go.Pe
open Go.RowKit Go.Lk
section
theorem retV_ok {w : World} {O : Nat → Prop} {φ : Nat → Nat} {α : Nat → Value} : ∀ {vs : List PV} {us : List Value}, VRs w O φ α vs us → VR w O φ α (retV vs) (retU us)
  | [], us, h => by cases h; exact ⟨[], rfl, rfl⟩
  | [v], us, h => by
    obtain ⟨u, us', rfl, h2, h3⟩ := h
    cases h3
    exact h2
  | v :: v' :: vs, us, h => by
    have h' := h
    obtain ⟨u, us', rfl, h2, u', us'', rfl, h3⟩ := h
    exact ⟨_, rfl, h'⟩
theorem inR_all {nb na : Nat} {B : List Bx} (h : B.all (fun e => inR.go nb na e.cs) = true) {j : Nat} {e : Bx} (he : B[j]? = some e) : inR.go nb na e.cs = true := List.all_eq_true.1 h e (List.mem_of_getElem? he)
theorem any_get {B : List Bx} (h : (B.any fun e => hasSl.go e.cs) = false) {j : Nat} {e : Bx} (he : B[j]? = some e) : hasSl.go e.cs = false := by
  rw [List.any_eq_false] at h
  simpa using h e (List.mem_of_getElem? he)
section
variable {z : W0} {V : Env} {w w' : World} {O O' : Nat → Prop} {φ φ' : Nat → Nat} {α α' : Nat → Value} {σ s : St} {bs as_ as_' : List Nat} {i : CIn} {vs : List PV} {B : List Bx} {A : List (Option (Nat × Nat × List (List D)))}
/-- What a call leaves. -/
theorem left_ok {Ob Oc : Nat → Prop} {us : List Value} (h : Rl z σ V w O φ α) (hb : Rl z s V w Ob φ α) (hbO : ∀ x, Ob x → O x) (hc : ∀ x, Oc x → Ob x)
    (sB : ∀ b e, lk s.B b = some e → ∃ e0, lk σ.B b = some e0) (sA : ∀ a e, lk s.A a = some e → ∃ e0, lk σ.A a = some e0)
    (nb : nodupN bs = true) (na : nodupN as_' = true) (lb : i.B.length ≤ bs.length) (la : i.A.length = as_.length) (pB : ∀ j b, j < i.B.length → bs[j]? = some b → ∃ e, lk σ.B b = some e) (pA : ∀ j a, j < i.A.length → as_[j]? = some a → ∃ e, lk σ.A a = some e)
    (lB : B.length = bs.length) (lA : A.length = as_'.length) (rv : inR.go B.length A.length vs = true) (rB : B.all (fun e => inR.go B.length A.length e.cs) = true)
    (fA : as_'.all ({ s with B := delks bs s.B, A := delks as_ s.A } : St).freshA = true) (fB : (bs.drop i.B.length).all ({ s with B := delks bs s.B, A := delks as_ s.A } : St).freshB = true)
    (hd : DoneOk i w Oc (fun j => φ (bs.getD j 0)) (fun j => α (as_.getD j 0)) vs B A w' us O' φ' α') (hl : (∀ x, Ob x → O' x) ∨ lends vs B A = false) :
    ∃ O2 φ2 α2, Rl z (left (allMine σ as_) bs as_ as_' B A s) V w' O2 φ2 α2 ∧ (∀ x, Ob x → O2 x) ∧ VR w' O2 φ2 α2 (retV (renP.go bs as_' vs)) (retU us) ∧ α2 = ov as_' α' α := by
  have gb : ∀ j b, bs[j]? = some b → bs.getD j 0 = b := fun j b e => by simp [List.getD, e]
  have ga : ∀ j b, as_[j]? = some b → as_.getD j 0 = b := fun j b e => by simp [List.getD, e]
  have bsj : ∀ j, j < i.B.length → ∃ b, bs[j]? = some b := fun j hj => ⟨bs[j]'(by omega), by simp [show j < bs.length by omega]⟩
  have asj : ∀ j, j < i.A.length → ∃ b, as_[j]? = some b := fun j hj => ⟨as_[j]'(by omega), by simp [show j < as_.length by omega]⟩
  -- the blocks that the call may turn
  have fiB : ∀ x, FI i (fun j => φ (bs.getD j 0)) (fun j => α (as_.getD j 0)) x → (∃ b e, b ∈ bs ∧ lk σ.B b = some e ∧ φ b = x) ∨ ∃ a e, a ∈ as_ ∧ lk σ.A a = some e ∧ (α a).ownBlock = some x := fun x hx => by
    rcases hx with ⟨j, hj, hx⟩ | ⟨j, hj, hx⟩
    · obtain ⟨b, e⟩ := bsj j hj
      obtain ⟨y, hy⟩ := pB j b hj e
      exact .inl ⟨b, y, List.mem_of_getElem? e, hy, by simp only [gb j b e] at hx; exact hx⟩
    · obtain ⟨a, e⟩ := asj j hj
      obtain ⟨y, hy⟩ := pA j a hj e
      exact .inr ⟨a, y, List.mem_of_getElem? e, hy, by simp only [ga j a e] at hx; exact hx⟩
  have hH : ∀ x, FI i (fun j => φ (bs.getD j 0)) (fun j => α (as_.getD j 0)) x → z.F x ∨ z.w.heap.size ≤ x := fun x hx => by
    rcases fiB x hx with ⟨b, e, _, h1, rfl⟩ | ⟨a, e, _, h1, h2⟩
    · exact (h.bF b e h1).elim (fun q => .inl q.2) .inr
    · exact (h.aF a e h1 x h2).elim (fun q => .inl q.2) .inr
  have tr2 : Tr Ob w (fun x => O' x ∨ Ob x) w' := ⟨hd.tr.size, fun b hb' hn => hd.tr.block b hb' fun hh => hn (hc b hh), fun b hb' hn hh => by
    rcases hh with hh | hh
    · exact hd.tr.owned b hb' (fun h' => hn (hc b h')) hh
    · exact hn hh⟩
  have nB : ∀ b e, lk (delks bs s.B) b = some e → ¬ FI i (fun j => φ (bs.getD j 0)) (fun j => α (as_.getD j 0)) (φ b) := fun b e he hx => by
    obtain ⟨n1, h1⟩ := lk_delks he
    obtain ⟨e0, h2⟩ := sB b e h1
    rcases fiB _ hx with ⟨b', e', m1, h3, h4⟩ | ⟨a, e', m1, h3, h4⟩
    · exact h.bb b' b e' e0 h3 h2 (fun q => n1 (q ▸ m1)) h4
    · exact h.ab a b e' e0 h3 h2 h4
  have nA : ∀ a e, lk (delks as_ s.A) a = some e → ∀ y, (α a).ownBlock = some y → ¬ FI i (fun j => φ (bs.getD j 0)) (fun j => α (as_.getD j 0)) y := fun a e he y hy hx => by
    obtain ⟨n1, h1⟩ := lk_delks he
    obtain ⟨e0, h2⟩ := sA a e h1
    rcases fiB _ hx with ⟨b', e', m1, h3, h4⟩ | ⟨a', e', m1, h3, h4⟩
    · exact h.ab a b' e0 e' h2 h3 (by rw [h4]; exact hy)
    · exact h.aa a' a e' e0 h3 h2 (fun q => n1 (q ▸ m1)) y h4 hy
  have b1 : Rl z { s with B := delks bs s.B, A := delks as_ s.A } V w Ob φ α := hb.mono (Le.refl _) (fun t v hv => (lk_delks hv).2) (fun t v hv => (lk_delks hv).2)
  have b2 : Rl z { s with B := delks bs s.B, A := delks as_ s.A } V w' (fun x => O' x ∨ Ob x) φ α := b1.move hd.ext tr2 (fun y hy => .inr hy) (fun x hx => by
      rcases hx with hx | hx
      · exact hd.bd x hx
      · exact Nat.lt_of_lt_of_le (hb.bd x hx) hd.tr.size) nB nA (Ext.after h hd.ext hH) (fun x hx => by
      rcases hx with hx | hx
      · rcases hd.only x hx with h1 | h1
        · exact hb.only x (hc x h1)
        · exact .inr (Nat.le_trans h.ext.size h1)
      · exact hb.only x hx)
  -- the names
  obtain ⟨kA1, kA2, kA3⟩ := keys_A fA
  obtain ⟨kB1, kB2, kB3⟩ := keys_B fB
  have eφ : ∀ x, x ∉ bs.drop i.B.length → ov bs φ' φ x = φ x := fun x hx => by
    by_cases hm : x ∈ bs
    · obtain ⟨j, hj⟩ := List.getElem?_of_mem hm
      have : j < i.B.length := by
        rcases Nat.lt_or_ge j i.B.length with h1 | h1
        · exact h1
        · exact (hx (List.mem_of_getElem? (i := j - i.B.length) (by rw [List.getElem?_drop]; rw [show i.B.length + (j - i.B.length) = j by omega]; exact hj))).elim
      rw [ov_in nb hj, hd.same j this, gb j x hj]
    · exact ov_out hm
  have eα : ∀ x, x ∉ as_' → ov as_' α' α x = α x := fun x hx => ov_out hx
  have b3 : Rl z { s with B := delks bs s.B, A := delks as_ s.A } V w' (fun x => O' x ∨ Ob x) (ov bs φ' φ) (ov as_' α' α) := b2.re (kb := fun x => x ∉ bs.drop i.B.length) (ka := fun x => x ∉ as_') (fun x hx hm => by have := (kB3 x hm).1; omega) eφ eα
    (fun t v hv => (kB1 t v hv).and (fun _ k1 _ => k1) (fun _ _ k2 => k2) (kA1 t v hv)) (fun b e he => ⟨fun hm => (lk_delks he).1 (List.mem_of_mem_drop hm), keyP.ands (fun _ k1 _ => k1) (fun _ _ k2 => k2) (kB2 b e he) (kA2 b e he)⟩) (fun a e he hm => by
      have := kA3 a hm
      rw [this] at he
      cases he)
  -- what comes back
  have up : ∀ v u, (lends vs B A = false → hasSl v = false) → VR w' O' φ' α' v u → VR w' (fun x => O' x ∨ Ob x) φ' α' v u := fun v u hv hr => by
    rcases hl with hl | hl
    · exact hr.tr (Tr.drop w' fun x hx => hx.elim id (hl x))
    · exact noSl_ok v u (hv hl) hr
  have ups : ∀ vs' us', (lends vs B A = false → hasSl.go vs' = false) → VRs w' O' φ' α' vs' us' → VRs w' (fun x => O' x ∨ Ob x) φ' α' vs' us' := fun v u hv hr => by
    rcases hl with hl | hl
    · exact VRs.tr (Tr.drop w' fun x hx => hx.elim id (hl x)) _ _ hr
    · exact noSls_ok v u (hv hl) hr
  have lends_p : lends vs B A = false → hasSl.go vs = false ∧ (B.any fun e => hasSl.go e.cs) = false ∧ (A.any fun e => e.isSome) = false := fun hh => by
    simp only [lends, Bool.or_eq_false_iff] at hh
    exact ⟨hh.1.1, hh.1.2, hh.2⟩
  have ro : ∀ {cs : List PV} {us' : List Value}, inR.go B.length A.length cs = true → VRs w' (fun x => O' x ∨ Ob x) φ' α' cs us' → VRs w' (fun x => O' x ∨ Ob x) (ov bs φ' φ) (ov as_' α' α) (renP.go bs as_' cs) us' := fun {cs us'} hi hr =>
    rens_out (fun j x e => ov_in nb e) (fun j x e => ov_in na e) (by omega) (by omega) cs us' hi hr
  have upA : ∀ a e, A[a]? = some (some e) → OwnX w' (fun x => O' x ∨ Ob x) e.1 e.2.1 (α' a) e.2.2 := fun a e he => by
    have h1 := hd.mm.arr a e he
    rcases hl with hl | hl
    · exact h1.down (fun x hx => hx.elim id (hl x)) fun x hx => .inl (h1.mem x hx)
    · have := (lends_p hl).2.2
      rw [List.any_eq_false] at this
      exact (this _ (List.mem_of_getElem? he) rfl).elim
  have rest_old : ∀ b e, lk (delks bs s.B) b = some e → φ b < w.heap.size ∧ ∃ e0, lk σ.B b = some e0 ∧ b ∉ bs := fun b e he => ⟨b1.boxLt he, by
    obtain ⟨n1, h1⟩ := lk_delks he
    obtain ⟨e0, h2⟩ := sB b e h1
    exact ⟨e0, h2, n1⟩⟩
  have rest_oldA : ∀ a e, lk (delks as_ s.A) a = some e → (∀ x, (α a).ownBlock = some x → x < w.heap.size) ∧ (∃ e0, lk σ.A a = some e0) ∧ a ∉ as_ ∧ a ∉ as_' := fun a e he => ⟨fun x hx => b1.arrLt he hx, sA a e (lk_delks he).2, (lk_delks he).1, fun hm => by
    have h1 : lk (delks as_ s.A) a = none := kA3 a hm
    rw [h1] at he; cases he⟩
  have boxL : ∀ b e, lk (zipB bs as_' bs B ++ delks bs s.B) b = some e → (∃ j e0, bs[j]? = some b ∧ B[j]? = some e0 ∧ e = ⟨e0.T, renP.go bs as_' e0.cs⟩ ∧ ov bs φ' φ b = φ' j) ∨ (lk (delks bs s.B) b = some e ∧ b ∉ bs ∧ ov bs φ' φ b = φ b) := fun b e he => by
    rcases lk_append he with h1 | h1
    · obtain ⟨j, e0, k1, k2, k3⟩ := zipB_get h1
      exact .inl ⟨j, e0, k1, k2, k3, ov_in nb k1⟩
    · exact .inr ⟨h1, (lk_delks h1).1, ov_out (lk_delks h1).1⟩
  have arrL : ∀ a e, lk (zipA (allMine σ as_) as_' A ++ delks as_ s.A) a = some e → (∃ j e0, as_'[j]? = some a ∧ A[j]? = some (some e0) ∧ e = ⟨allMine σ as_, e0.1, e0.2.1, e0.2.2⟩ ∧ ov as_' α' α a = α' j) ∨ (lk (delks as_ s.A) a = some e ∧ ov as_' α' α a = α a) := fun a e he => by
    rcases lk_append he with h1 | h1
    · obtain ⟨j, e0, k1, k2, k3⟩ := zipA_get h1
      exact .inl ⟨j, e0, k1, k2, k3, ov_in na k1⟩
    · exact .inr ⟨h1, ov_out (rest_oldA a e h1).2.2.2⟩
  have newBlk : ∀ j e0 x, A[j]? = some (some e0) → (α' j).ownBlock = some x → (∃ a e, a ∈ as_ ∧ lk σ.A a = some e ∧ (α a).ownBlock = some x) ∨ w.heap.size ≤ x := fun j e0 x he hx => by
    rcases hd.newA j e0 x he hx with ⟨c, k1, k2⟩ | k1
    · obtain ⟨a, e⟩ := asj c k1
      obtain ⟨y, hy⟩ := pA c a k1 e
      exact .inl ⟨a, y, List.mem_of_getElem? e, hy, by simp only [ga c a e] at k2; exact k2⟩
    · exact .inr k1
  have boxBlk : ∀ j b, bs[j]? = some b → j < B.length → (∃ e, b ∈ bs ∧ lk σ.B b = some e ∧ φ' j = φ b) ∨ w.heap.size ≤ φ' j := fun j b hj hlt => by
    rcases Nat.lt_or_ge j i.B.length with h1 | h1
    · obtain ⟨y, hy⟩ := pB j b h1 hj
      exact .inl ⟨y, List.mem_of_getElem? hj, hy, by rw [hd.same j h1, gb j b hj]⟩
    · exact .inr (hd.newB j hlt h1)
  have jlt : ∀ {j : Nat} {e0 : Bx}, B[j]? = some e0 → j < B.length := fun {j e0} hj => (List.getElem?_eq_some_iff.1 hj).1
  refine ⟨fun x => O' x ∨ Ob x, ov bs φ' φ, ov as_' α' α, ⟨b3.env, fun b e he => ?_, fun a e he => ?_, fun a b e e' ha hb' hn => ?_, fun a b e e' ha hb' hn x hx => ?_, fun a b e e' ha hb' => ?_, fun b e he => ?_, fun a e he x hx => ?_, b2.bd, b2.ext, b2.only, b2.gl, b3.keep⟩, fun x hx => .inr hx, ?_⟩
  · rcases boxL b e he with ⟨j, e0, k1, k2, rfl, k4⟩ | ⟨k1, _, _⟩
    · obtain ⟨k5, us', k6, k7⟩ := hd.mm.box j e0 k2
      rw [k4]
      exact ⟨.inl k5, us', k6, ro (inR_all rB k2) (ups _ _ (fun hh => any_get (lends_p hh).2.1 k2) k7)⟩
    · exact b3.box b e k1
  · rcases arrL a e he with ⟨j, e0, k1, k2, rfl, k4⟩ | ⟨k1, _⟩
    · rw [k4]; exact upA j e0 k2
    · exact b3.arr a e k1
  · rcases boxL a e ha with ⟨j, e0, k1, k2, rfl, k4⟩ | ⟨k1, k5, k4⟩ <;> rcases boxL b e' hb' with ⟨j', e0', k1', k2', rfl, k4'⟩ | ⟨k1', k5', k4'⟩
    · rw [k4, k4']
      exact hd.mm.bb j j' (jlt k2) (jlt k2') fun q => hn (by subst q; rw [k1] at k1'; exact Option.some.inj k1')
    · rw [k4, k4']
      obtain ⟨q1, e1, q2, q3⟩ := rest_old b e' k1'
      rcases boxBlk j a k1 (jlt k2) with ⟨y, m1, m2, m3⟩ | m1
      · rw [m3]; exact h.bb a b y e1 m2 q2 hn
      · omega
    · rw [k4, k4']
      obtain ⟨q1, e1, q2, q3⟩ := rest_old a e k1
      rcases boxBlk j' b k1' (jlt k2') with ⟨y, m1, m2, m3⟩ | m1
      · rw [m3]; exact h.bb a b e1 y q2 m2 hn
      · omega
    · exact b3.bb a b e e' k1 k1' hn
  · rcases arrL a e ha with ⟨j, e0, k1, k2, rfl, k4⟩ | ⟨k1, k4⟩ <;> rcases arrL b e' hb' with ⟨j', e0', k1', k2', rfl, k4'⟩ | ⟨k1', k4'⟩
    · rw [k4] at hx
      rw [k4']
      exact hd.mm.aa j j' e0 e0' k2 k2' (fun q => hn (by subst q; rw [k1] at k1'; exact Option.some.inj k1')) x hx
    · rw [k4] at hx
      rw [k4']
      intro hh
      obtain ⟨q1, ⟨e1, q2⟩, q3, _⟩ := rest_oldA b e' k1'
      rcases newBlk j e0 x k2 hx with ⟨a', y, m1, m2, m3⟩ | m1
      · exact h.aa a' b y e1 m2 q2 (fun q => q3 (q ▸ m1)) x m3 hh
      · have := q1 x hh; omega
    · rw [k4] at hx
      rw [k4']
      intro hh
      obtain ⟨q1, ⟨e1, q2⟩, q3, _⟩ := rest_oldA a e k1
      rcases newBlk j' e0' x k2' hh with ⟨a', y, m1, m2, m3⟩ | m1
      · exact h.aa a' a y e1 m2 q2 (fun q => q3 (q ▸ m1)) x m3 hx
      · have := q1 x hx; omega
    · exact b3.aa a b e e' k1 k1' hn x hx
  · rcases arrL a e ha with ⟨j, e0, k1, k2, rfl, k4⟩ | ⟨k1, k4⟩ <;> rcases boxL b e' hb' with ⟨j', e0', k1', k2', rfl, k4'⟩ | ⟨k1', k5', k4'⟩
    · rw [k4, k4']
      exact hd.mm.ab j j' e0 k2 (jlt k2')
    · rw [k4, k4']
      intro hh
      obtain ⟨q1, e1, q2, q3⟩ := rest_old b e' k1'
      rcases newBlk j e0 _ k2 hh with ⟨a', y, m1, m2, m3⟩ | m1
      · exact h.ab a' b y e1 m2 q2 m3
      · omega
    · rw [k4, k4']
      intro hh
      obtain ⟨q1, ⟨e1, q2⟩, q3, _⟩ := rest_oldA a e k1
      rcases boxBlk j' b k1' (jlt k2') with ⟨y, m1, m2, m3⟩ | m1
      · rw [m3] at hh; exact h.ab a b e1 y q2 m2 hh
      · have := q1 _ hh; omega
    · exact b3.ab a b e e' k1 k1'
  · rcases boxL b e he with ⟨j, e0, k1, k2, rfl, k4⟩ | ⟨k1, _, _⟩
    · rw [k4]
      rcases boxBlk j b k1 (jlt k2) with ⟨y, m1, m2, m3⟩ | m1
      · rw [m3]; exact h.bF b y m2
      · exact .inr (Nat.le_trans h.ext.size m1)
    · exact b3.bF b e k1
  · rcases arrL a e he with ⟨j, e0, k1, k2, rfl, k4⟩ | ⟨k1, k4⟩
    · rw [k4] at hx
      rcases newBlk j e0 x k2 hx with ⟨a', y, m1, m2, m3⟩ | m1
      · rcases h.aF a' y m2 x m3 with ⟨m4, m5⟩ | m4
        · left
          refine ⟨?_, m5⟩
          simp only
          cases hm : allMine σ as_ with
          | false => rfl
          | true => rw [allMine_get hm a' m1 y m2] at m4; cases m4
        · exact .inr m4
      · exact .inr (Nat.le_trans h.ext.size m1)
    · exact b3.aF a e k1 x hx
  · exact ⟨retV_ok (ro rv (ups _ _ (fun hh => (lends_p hh).1) hd.res)), rfl⟩
theorem Rel.backA : ∀ (as_ as_' : List Nat) {σ : St}, Rl z σ V w O φ α → (∀ (j a a' : Nat), as_[j]? = some a → as_'[j]? = some a' → α a = α a') → Rl z (σ.backA as_ as_') V w O φ α
  | [], _, σ, h, _ => h
  | _ :: _, [], σ, h, _ => h
  | a :: as_, a' :: as_', σ, h, he => by
    have hr : ∀ (j b b' : Nat), as_[j]? = some b → as_'[j]? = some b' → α b = α b' := fun j b b' h1 h2 => he (j + 1) b b' (by simpa using h1) (by simpa using h2)
    have e0 : α a = α a' := he 0 a a' rfl rfl
    unfold St.backA Go.Pe.backA
    split
    · rename_i e hk
      have hget : ∀ t x, lk ((a, e) :: delk a' σ.A) t = some x → (t = a ∧ x = e) ∨ (t ≠ a' ∧ t ≠ a ∧ lk σ.A t = some x) := fun t x ht => by
        simp only [lk] at ht
        split at ht
        · rename_i hb
          cases ht
          exact .inl ⟨(Nat.eq_of_beq_eq_true hb).symm, rfl⟩
        · rename_i hb
          obtain ⟨k1, k2⟩ := lk_delk ht
          exact .inr ⟨k1, fun q => (by subst q; simp at hb), k2⟩
      have h2 : Rl z { σ with A := (a, e) :: delk a' σ.A } V w O φ α := by
        refine ⟨h.env, h.box, fun t x ht => ?_, h.bb, fun t u x y ht hu hn v hv => ?_, fun t b x y ht hb => ?_, h.bF, fun t x ht => ?_, h.bd, h.ext, h.only, h.gl, h.keep⟩
        · rcases hget t x ht with ⟨rfl, rfl⟩ | ⟨k1, k2, k3⟩
          · rw [e0]; exact h.arr _ _ hk
          · exact h.arr _ _ k3
        · rcases hget t x ht with ⟨rfl, rfl⟩ | ⟨k1, k2, k3⟩ <;> rcases hget u y hu with ⟨rfl, rfl⟩ | ⟨l1, l2, l3⟩
          · exact (hn rfl).elim
          · rw [e0] at hv
            exact h.aa _ _ _ _ hk l3 (fun q => l1 q.symm) v hv
          · rw [e0]
            exact h.aa _ _ _ _ k3 hk k1 v hv
          · exact h.aa _ _ _ _ k3 l3 hn v hv
        · rcases hget t x ht with ⟨rfl, rfl⟩ | ⟨k1, k2, k3⟩
          · rw [e0]; exact h.ab _ _ _ _ hk hb
          · exact h.ab _ _ _ _ k3 hb
        · rcases hget t x ht with ⟨rfl, rfl⟩ | ⟨k1, k2, k3⟩
          · rw [e0]; exact h.aF _ _ hk
          · exact h.aF _ _ k3
      exact Rel.backA as_ as_' h2 hr
    · exact Rel.backA as_ as_' h hr
end
section
variable {z : W0} {V : Env} {w : World} {O : Nat → Prop} {φ : Nat → Nat} {α : Nat → Value} {σ : St} {C : Cx} {n : Nat} {ops : Array Oper} {o : Oper} {rest : List Oper} {K : Act → World → Prop}
theorem call_sound {ds : List Deferred} {G : GI} {con : Nat → CIn → COut → Prop} {k : St → Prop} {kp : PV → St → Prop} (hcon : ∀ f i o, con f i o → Con C.P G f i o) (hz : ∀ w O, z.G w O → G.p w O) (hg : o.guard = none) (hn : dOk n o.dst = true) (h : Rl z σ V w O φ α) (hs : ∀ x, z.O x → O x)
    (hk : ∀ s, k s → NX z C n ds ops rest K s) (hp : ∀ v s, kp v s → PanOk z C n ds v s) {c : Call} {x : Operand} {vs : List PV} {f : Nat} {as0 cs0 : List PV} (ho : o.op = .call c) (hcx : c.callee = .value x) (hvs : σ.evs c.args.toList = some vs) (hx : σ.ev x = some (.fn f as0 cs0))
    (hw : callW con σ f (as0 ++ vs ++ cs0) (fun v σ => k (σ.put o.dst v)) kp) : OW C n ds ops (o :: rest) K V w := by
  obtain ⟨bs, as_, as_', i, out, hco, h1, h2, h3, h4, h5⟩ := hw
  have hC := hcon _ _ _ hco
  obtain ⟨cal, cargs, cty⟩ := c
  simp only at hcx hvs
  subst hcx
  obtain ⟨ux, e1, us0, uc0, hux, e2, e3⟩ := h.ev hx
  rw [fnV_f hC.nn] at hux
  subst hux
  obtain ⟨ua, e4, e5⟩ := h.evs hvs
  have e6 : VRs w O φ α (as0 ++ vs ++ cs0) (us0 ++ ua ++ uc0) := (VRs.append (VRs.append e2 e5) e3)
  simp only [callOk, Bool.and_eq_true] at h4
  obtain ⟨⟨⟨⟨⟨⟨q1, q2⟩, q3⟩, q4⟩, q5⟩, q6⟩, q7⟩ := h4
  have q3 := Nat.le_of_ble_eq_true q3
  have q4 := Nat.eq_of_beq_eq_true q4
  -- what is owned for the call
  have hOc : ∀ y, DelL O α (lk σ.A) (lent.go i.vs (as0 ++ vs ++ cs0)) y → O y := fun y hy => hy.1
  have ls : ∀ a ∈ lent.go i.vs (as0 ++ vs ++ cs0), (∃ e, lk σ.A a = some e) ∧ a ∉ as_ := fun a ha => by
    have := List.all_eq_true.1 q7 a ha
    simp only [Bool.and_eq_true, Bool.not_eq_true'] at this
    refine ⟨Option.isSome_iff_exists.1 this.1, fun hm => ?_⟩
    have h' : as_.any (Nat.beq a) = true := List.any_eq_true.2 ⟨a, hm, Nat.beq_refl a⟩
    rw [h'] at this
    exact Bool.noConfusion this.2
  have gb : ∀ j b, bs[j]? = some b → bs.getD j 0 = b := fun j b e => by simp [List.getD, e]
  have ga : ∀ j b, as_[j]? = some b → as_.getD j 0 = b := fun j b e => by simp [List.getD, e]
  have td : Tr O w (DelL O α (lk σ.A) (lent.go i.vs (as0 ++ vs ++ cs0))) w := Tr.drop w hOc
  have hin : VRs w (DelL O α (lk σ.A) (lent.go i.vs (as0 ++ vs ++ cs0))) (fun j => φ (bs.getD j 0)) (fun j => α (as_.getD j 0)) i.vs (us0 ++ ua ++ uc0) := by
    have := nrms_ok (σ := σ) (O := O) (φ := φ) (α := α) (O2 := DelL O α (lk σ.A) (lent.go i.vs (as0 ++ vs ++ cs0))) hOc h.arr i.vs _ _ (fun a ha _ _ y hy => hy.2 a ha (by obtain ⟨e, he⟩ := (ls a ha).1; rw [he]; rfl)) e6
    rw [h1] at this
    exact rens_in (fun j y _ e => by rw [gb j y e]) (fun j y _ e => by rw [ga j y e]) q3 (by omega) _ _ q5 this
  have pB : ∀ (j : Nat) (e : Bx), i.B[j]? = some e → ∃ (b : Nat) (y : Bx), bs[j]? = some b ∧ lk σ.B b = some y ∧ y.T = e.T ∧ nrm.go { σ with A := [] } e.cs y.cs = renP.go bs as_ e.cs := boxesOk_get h2
  have pA : ∀ (j : Nat) (e : Nat × Nat × List (List D)), i.A[j]? = some e → ∃ (a : Nat) (y : Arr), as_[j]? = some a ∧ lk σ.A a = some y ∧ y.T = e.1 ∧ y.n = e.2.1 ∧ y.l = e.2.2 := arrsOk_get h3
  have geB : ∀ j (hj : j < i.B.length), i.B[j]? = some i.B[j] := fun j hj => by simp
  have geA : ∀ j (hj : j < i.A.length), i.A[j]? = some i.A[j] := fun j hj => by simp
  have ownIn : ∀ a y, lk σ.A a = some y → a ∈ as_ → ∀ b, (α a).ownBlock = some b → DelL O α (lk σ.A) (lent.go i.vs (as0 ++ vs ++ cs0)) b := fun a y hy hm b hb => ⟨h.arrO hy hb, fun a' ha' _ hh => by
    obtain ⟨⟨e', he'⟩, hna⟩ := ls a' ha'
    exact h.aa a' a e' y he' hy (fun q => hna (q ▸ hm)) b hh hb⟩
  have aget : ∀ (j : Nat) (e : Nat × Nat × List (List D)), (i.A.map some)[j]? = some (some e) → i.A[j]? = some e := fun j e he => by
    rw [List.getElem?_map] at he
    obtain ⟨y, k1, k2⟩ := Option.map_eq_some_iff.1 he
    cases k2
    exact k1
  have hmm : Mm w (DelL O α (lk σ.A) (lent.go i.vs (as0 ++ vs ++ cs0))) (fun j => φ (bs.getD j 0)) (fun j => α (as_.getD j 0)) i.B (i.A.map some) := by
    refine ⟨fun j e he => ?_, fun j e he => ?_, fun a b la lb hn => ?_, fun a b e e' ha hb hn y hy => ?_, fun a b e ha lb => ?_⟩
    · obtain ⟨b, y, k1, k2, k3, k4⟩ := pB j e he
      obtain ⟨k5, us, k6, k7⟩ := h.box b y k2
      simp only [gb j b k1]
      refine ⟨⟨k5, fun a ha _ => h.ab a b _ y ((ls a ha).1.choose_spec) k2⟩, us, k3 ▸ k6, ?_⟩
      have h8 := nrms_ok (σ := { σ with A := [] }) (O := DelL O α (lk σ.A) (lent.go i.vs (as0 ++ vs ++ cs0))) (φ := φ) (α := α) (O2 := DelL O α (lk σ.A) (lent.go i.vs (as0 ++ vs ++ cs0))) (fun _ hx => hx) (fun _ _ hx => by cases hx) e.cs _ _ (fun _ _ _ hx => by cases hx) (VRs.tr td _ _ k7)
      rw [k4] at h8
      exact rens_in (fun j y _ e => by rw [gb j y e]) (fun j y _ e => by rw [ga j y e]) q3 (by omega) _ _ (inR_all q6 he) h8
    · obtain ⟨a, y, k1, k2, k3, k4, k5⟩ := pA j e (aget j e he)
      simp only [ga j a k1]
      have := (h.arr a y k2).down hOc (ownIn a y k2 (List.mem_of_getElem? k1))
      rw [k3, k4, k5] at this
      exact this
    · obtain ⟨b1, y1, k1, k2, _⟩ := pB a _ (geB a la)
      obtain ⟨b2, y2, k3, k4, _⟩ := pB b _ (geB b lb)
      simp only [gb a b1 k1, gb b b2 k3]
      exact h.bb b1 b2 y1 y2 k2 k4 fun q => hn (nodupN_spec q1 a b b1 k1 (q ▸ k3))
    · obtain ⟨b1, y1, k1, k2, _⟩ := pA a e (aget a e ha)
      obtain ⟨b2, y2, k3, k4, _⟩ := pA b e' (aget b e' hb)
      simp only [ga a b1 k1] at hy
      simp only [ga b b2 k3]
      exact h.aa b1 b2 y1 y2 k2 k4 (fun q => hn (nodupN_spec q2 a b b1 k1 (q ▸ k3))) y hy
    · obtain ⟨b1, y1, k1, k2, _⟩ := pA a e (aget a e ha)
      obtain ⟨b2, y2, k3, k4, _⟩ := pB b _ (geB b lb)
      simp only [ga a b1 k1, gb b b2 k3]
      exact h.ab b1 b2 y1 y2 k2 k4
  have pB' : ∀ j b, j < i.B.length → bs[j]? = some b → ∃ e, lk σ.B b = some e := fun j b hj hb => by
    obtain ⟨b1, y1, k1, k2, _⟩ := pB j _ (geB j hj)
    rw [hb] at k1
    cases k1
    exact ⟨y1, k2⟩
  have pA' : ∀ j a, j < i.A.length → as_[j]? = some a → ∃ e, lk σ.A a = some e := fun j b hj hb => by
    obtain ⟨b1, y1, k1, k2, _⟩ := pA j _ (geA j hj)
    rw [hb] at k1
    cases k1
    exact ⟨y1, k2⟩
  refine OW.callM hg rfl hn ho e1 e4 hC.ent ((hC.run w _ _ _ _ hin hmm (fun y hy => h.bd y hy.1) (hz _ _ (z.hG td h.gl))).mono fun e w' hdone => ?_)
  cases out with
  | ok rvs B A =>
    obtain ⟨us, O', φ', α', rfl, hd⟩ := hdone
    replace h5 := wt_some h5
    obtain ⟨s, hf, hok, hkk⟩ := h5
    simp only [outOk, Bool.and_eq_true] at hok
    obtain ⟨⟨⟨⟨⟨⟨r1, r2⟩, r3⟩, r4⟩, r5⟩, r6⟩, r7⟩ := hok
    have r2 := Nat.eq_of_beq_eq_true r2
    have r3 := Nat.eq_of_beq_eq_true r3
    have key : ∃ Ob, Rl z s V w Ob φ α ∧ (∀ y, Ob y → O y) ∧ (∀ y, DelL O α (lk σ.A) (lent.go i.vs (as0 ++ vs ++ cs0)) y → Ob y) ∧ (∀ y, z.O y → Ob y) ∧ (∀ b e, lk s.B b = some e → ∃ e0, lk σ.B b = some e0) ∧ (∀ b e, lk s.A b = some e → ∃ e0, lk σ.A b = some e0) ∧ ((∀ x, Ob x → O' x) ∨ lends rvs B A = false) := by
      cases hl : lends rvs B A with
      | true =>
        rw [hl] at hf
        obtain ⟨k1, k2, k3, _⟩ := freeze_sound _ h hs hf
        exact ⟨_, k1, fun y hy => hy.1, fun y hy => hy, k2, fun b e => freeze_B hf, fun b e he => ⟨e, k3 b e he⟩, .inl fun x hx => hd.more x hx⟩
      | false =>
        rw [hl] at hf
        cases hf
        exact ⟨O, h, fun _ hy => hy, fun y hy => hy.1, hs, fun b e he => ⟨e, he⟩, fun b e he => ⟨e, he⟩, .inr rfl⟩
    obtain ⟨Ob, k1, k2, k3, k4, k5, k6, k7⟩ := key
    obtain ⟨O2, φ2, α2, m1, m2, m3, _⟩ := left_ok h k1 k2 k3 k5 k6 q1 r1 q3 q4 pB' pA' r2 r3 r4 r5 r6 r7 hd k7
    have m4 := m1.putO o.dst m3
    have m5 := hk _ (by rw [St.frcIf_eq] at hkk; exact hkk) _ _ ⟨O2, φ2, α2, m4, fun y hy => m2 y (k4 y hy)⟩
    unfold CallK
    revert m5
    unfold putE
    exact id
  | okI rvs B A =>
    obtain ⟨us, O', φ', α', rfl, hd, hin'⟩ := hdone
    replace h5 := wt_some h5
    obtain ⟨s, hf, hok, hkk⟩ := h5
    simp only [outOk, Bool.and_eq_true] at hok
    obtain ⟨⟨⟨⟨⟨⟨⟨r1, r2⟩, r3⟩, r4⟩, r5⟩, r6⟩, r7⟩, r8⟩ := hok
    have r2 := Nat.eq_of_beq_eq_true r2
    have r3 := Nat.eq_of_beq_eq_true r3
    have key : ∃ Ob, Rl z s V w Ob φ α ∧ (∀ y, Ob y → O y) ∧ (∀ y, DelL O α (lk σ.A) (lent.go i.vs (as0 ++ vs ++ cs0)) y → Ob y) ∧ (∀ y, z.O y → Ob y) ∧ (∀ b e, lk s.B b = some e → ∃ e0, lk σ.B b = some e0) ∧ (∀ b e, lk s.A b = some e → ∃ e0, lk σ.A b = some e0) ∧ ((∀ x, Ob x → O' x) ∨ lends rvs B A = false) := by
      cases hl : lends rvs B A with
      | true =>
        rw [hl] at hf
        obtain ⟨k1, k2, k3, _⟩ := freeze_sound _ h hs hf
        exact ⟨_, k1, fun y hy => hy.1, fun y hy => hy, k2, fun b e => freeze_B hf, fun b e he => ⟨e, k3 b e he⟩, .inl fun x hx => hd.more x hx⟩
      | false =>
        rw [hl] at hf
        cases hf
        exact ⟨O, h, fun _ hy => hy, fun y hy => hy.1, hs, fun b e he => ⟨e, he⟩, fun b e he => ⟨e, he⟩, .inr rfl⟩
    obtain ⟨Ob, k1, k2, k3, k4, k5, k6, k7⟩ := key
    obtain ⟨O2, φ2, α2, m1, m2, m3, m0⟩ := left_ok h k1 k2 k3 k5 k6 q1 r1 q3 q4 pB' pA' r2 r3 r4 r5 r6 r7 hd k7
    have m1 := Rel.backA as_ as_' m1 fun j a a' ha ha' => by
      have hlt : j < i.A.length := by
        have := (List.getElem?_eq_some_iff.1 ha).1
        omega
      have hna : a ∉ as_' := fun hm => by
        have := List.all_eq_true.1 r8 a (List.mem_of_getElem? ha)
        rw [Bool.not_eq_true', List.any_eq_false] at this
        exact this a hm (Nat.beq_refl a)
      rw [m0, ov_out hna, ov_in r1 ha', hin' j hlt]
      show α a = α (as_.getD j 0)
      rw [ga j a ha]
    have m4 := m1.putO o.dst m3
    have m5 := hk _ (by rw [St.frcIf_eq] at hkk; exact hkk) _ _ ⟨O2, φ2, α2, m4, fun y hy => m2 y (k4 y hy)⟩
    unfold CallK
    revert m5
    unfold putE
    exact id
  | pan v =>
    obtain ⟨u, O', φ', α', rfl, d1, d2, d3, d4, d5⟩ := hdone
    have fi : ∀ y, FI i (fun j => φ (bs.getD j 0)) (fun j => α (as_.getD j 0)) y → z.F y ∨ z.w.heap.size ≤ y := fun y hy => by
      rcases hy with ⟨j, hj, rfl⟩ | ⟨j, hj, hy⟩
      · obtain ⟨b, e, k1, k2, _⟩ := pB j _ (geB j hj)
        simp only [gb j b k1]
        exact (h.bF b e k2).elim (fun q => .inl q.2) .inr
      · obtain ⟨b, e, k1, k2, _⟩ := pA j _ (geA j hj)
        simp only [ga j b k1] at hy
        exact (h.aF b e k2 y hy).elim (fun q => .inl q.2) .inr
    obtain ⟨hsl, hkp⟩ := h5
    have h6 : Rl z (σ.lost bs (as_ ++ lent.go i.vs (as0 ++ vs ++ cs0))) V w O φ α := h.mono (Le.refl _) (fun t v hv => (lk_delks hv).2) (fun t v hv => (lk_delks hv).2)
    have fiB : ∀ x, FI i (fun j => φ (bs.getD j 0)) (fun j => α (as_.getD j 0)) x → (∃ b e, b ∈ bs ∧ lk σ.B b = some e ∧ φ b = x) ∨ ∃ a e, a ∈ as_ ∧ lk σ.A a = some e ∧ (α a).ownBlock = some x := fun x hx => by
      rcases hx with ⟨j, hj, hx⟩ | ⟨j, hj, hx⟩
      · obtain ⟨b, e, k1, k2, _⟩ := pB j _ (geB j hj)
        exact .inl ⟨b, e, List.mem_of_getElem? k1, k2, by simp only [gb j b k1] at hx; exact hx⟩
      · obtain ⟨b, e, k1, k2, _⟩ := pA j _ (geA j hj)
        exact .inr ⟨b, e, List.mem_of_getElem? k1, k2, by simp only [ga j b k1] at hx; exact hx⟩
    have h7 := h6.move d2 (O' := fun x => O' x ∨ O x) ⟨d3.size, fun b hb' hn => d3.block b hb' fun hh => hn hh.1, fun b hb' hn hh => by
        rcases hh with hh | hh
        · exact d3.owned b hb' (fun h' => hn h'.1) hh
        · exact hn hh⟩ (fun y hy => .inr hy) (fun x hx => by
        rcases hx with hx | hx
        · exact d4 x hx
        · exact Nat.lt_of_lt_of_le (h.bd x hx) d3.size) (fun b e he hx => by
        obtain ⟨n1, k1⟩ := lk_delks he
        rcases fiB _ hx with ⟨b', e', m1, m2, m3⟩ | ⟨a, e', m1, m2, m3⟩
        · exact h.bb b' b e' e m2 k1 (fun q => n1 (q ▸ m1)) m3
        · exact h.ab a b e' e m2 k1 m3) (fun a e he y hy hx => by
        obtain ⟨n1, k1⟩ := lk_delks he
        rcases fiB _ hx with ⟨b', e', m1, m2, m3⟩ | ⟨a', e', m1, m2, m3⟩
        · exact h.ab a b' e e' k1 m2 (by rw [m3]; exact hy)
        · exact h.aa a' a e' e m2 k1 (fun q => n1 (List.mem_append_left _ (q ▸ m1))) y m3 hy) (Ext.after h d2 fi) (fun x hx => by
        rcases hx with hx | hx
        · rcases d5 x hx with h1 | h1
          · exact h.only x h1.1
          · exact .inr (Nat.le_trans h.ext.size h1)
        · exact h.only x hx)
    exact fun a ha hda => hp v _ hkp V w' _ φ α u φ' α' h7 (fun x hx => .inr (hs x hx)) (noSl_ok v u hsl d1) a ha hda
  | panB v B =>
    obtain ⟨u, φv, αv, us, O', φ', α', rfl, hv, hd⟩ := hdone
    replace h5 := wt_some h5
    obtain ⟨s, hf, hok, hkk⟩ := h5
    simp only [outOk, Bool.and_eq_true, Bool.not_eq_true'] at hok
    obtain ⟨⟨⟨⟨⟨⟨⟨r1, r2⟩, r3⟩, r4⟩, r5⟩, r6⟩, r7⟩, r8⟩ := hok
    have r2 := Nat.eq_of_beq_eq_true r2
    have r3 := Nat.eq_of_beq_eq_true r3
    have key : ∃ Ob, Rl z s V w Ob φ α ∧ (∀ y, Ob y → O y) ∧ (∀ y, DelL O α (lk σ.A) (lent.go i.vs (as0 ++ vs ++ cs0)) y → Ob y) ∧ (∀ y, z.O y → Ob y) ∧ (∀ b e, lk s.B b = some e → ∃ e0, lk σ.B b = some e0) ∧ (∀ b e, lk s.A b = some e → ∃ e0, lk σ.A b = some e0) ∧ ((∀ x, Ob x → O' x) ∨ lends [] B [] = false) := by
      cases hl : lends [] B [] with
      | true =>
        rw [hl] at hf
        obtain ⟨k1, k2, k3, _⟩ := freeze_sound _ h hs hf
        exact ⟨_, k1, fun y hy => hy.1, fun y hy => hy, k2, fun b e => freeze_B hf, fun b e he => ⟨e, k3 b e he⟩, .inl fun x hx => hd.more x hx⟩
      | false =>
        rw [hl] at hf
        cases hf
        exact ⟨O, h, fun _ hy => hy, fun y hy => hy.1, hs, fun b e he => ⟨e, he⟩, fun b e he => ⟨e, he⟩, .inr rfl⟩
    obtain ⟨Ob, k1, k2, k3, k4, k5, k6, k7⟩ := key
    obtain ⟨O2, φ2, α2, m1, m2, m3, _⟩ := left_ok h k1 k2 k3 k5 k6 q1 r1 q3 q4 pB' pA' r2 r3 r4 r5 r6 r7 hd k7
    exact fun a ha hda => hp v _ (St.frc_eq.mp hkk) V w' O2 φ2 α2 u φv αv m1 (fun y hy => m2 y (k4 y hy)) (noSl_ok v u r8 hv) a ha hda
end
end
section
section
variable {z : W0} {V : Env} {w : World} {O : Nat → Prop} {φ : Nat → Nat} {α : Nat → Value} {σ : St} {C : Cx} {n : Nat} {ops : Array Oper} {o : Oper} {rest : List Oper} {K : Act → World → Prop} {G : GI} {con : Nat → CIn → COut → Prop} {tb : Tb} {cty : List (Nat × List (Option (Nat × Nat)))} {ann : Ann} {ds : List Deferred}
theorem OW.valO {v : Value} {w' : World} (hg : o.guard = none) (hn : dOk n o.dst = true)
    (hr : ∀ a, Has n V a → (execOp a.eval o).run C.P w = .ok (.value v) w') (h : OW C n ds ops rest K (putE o.dst v V) w') : OW C n ds ops (o :: rest) K V w := fun a ha hds =>
  wpList_plain hg fun K hK => by
    unfold Oper.wp
    rw [hr a ha, Oper.upon_value]
    revert h hn
    cases o.dst with
    | none => exact fun _ h => hK _ _ (h _ ha.same (by simpa [Act.put] using hds))
    | some d => exact fun hn h => hK _ _ (h _ (ha.put (by simpa [dOk, Nat.blt_eq] using hn)) (by simpa [Act.put] using hds))
theorem OW.notO {j s : Nat} {b : Bool} {x : Value} (hg : o.guard = some (j, b)) (hj : (ops[j]?).bind (·.dst) = some s) (hs : Env.get V s = some x) (hx : (x = .bool (!b)) ∨ x = Go.undef)
    (hn : dOk n o.dst = true) (h : OW C n ds ops rest K (putE o.dst Go.undef V) w) : OW C n ds ops (o :: rest) K V w := fun a ha hds =>
  wpList_step fun K hK => by
    have hw : Region.wanted o (yielded ops a.tmps) = false := by
      rcases hx with rfl | rfl <;> cases b <;> simp [Region.wanted, hg, yielded, hj, ha.get s _ hs, Go.undef]
    rw [if_neg (by simp [hw])]
    revert h hn
    cases o.dst with
    | none => exact fun _ h => hK _ _ (h _ ha.same (by simpa [Act.put] using hds))
    | some d => exact fun hn h => hK _ _ (h _ (ha.put (by simpa [dOk, Nat.blt_eq] using hn)) (by simpa [Act.put] using hds))
theorem run_sound {k : St → Prop} {kp : PV → St → Prop} (ht : TbG C.P tb G) (hcon : ∀ f i o, con f i o → Con C.P G f i o) (hz : ∀ w O, z.G w O → G.p w O) (hg : o.guard = none) (hn : dOk n o.dst = true) (h : Rl z σ V w O φ α) (hs : ∀ x, z.O x → O x)
    (hk : ∀ s, k s → NX z C n ds ops rest K s) (hp : ∀ v s, kp v s → PanOk z C n ds v s) (hw : run tb cty ann con σ o k kp) : OW C n ds ops (o :: rest) K V w := by
  unfold run at hw
  simp only [St.go_eq, St.frs_eq] at hw
  split at hw
  · obtain ⟨v, u, h1, h2, h3, _⟩ := qop_sound (n := n) ht.toTbOk (fun w O h => ht.gt w O (hz w O h)) h hw
    exact OW.valO hg hn h3 (hk _ h1 _ _ ⟨_, _, _, h.putO o.dst h2, hs⟩)
  · exact act_sound ht.toTbOk hg hn h hs hk hp (fun c x vs f as_ cs ho hcx hvs hx hcw => call_sound hcon hz hg hn h hs hk hp ho hcx hvs hx hcw) hw
theorem exo_sound {k : St → Prop} {kp : PV → St → Prop} (ht : TbG C.P tb G) (hcon : ∀ f i o, con f i o → Con C.P G f i o) (hz : ∀ w O, z.G w O → G.p w O) (hn : dOk n o.dst = true) (h : Rl z σ V w O φ α) (hs : ∀ x, z.O x → O x)
    (hk : ∀ s, k s → NX z C n ds ops rest K s) (hp : ∀ v s, kp v s → PanOk z C n ds v s) (hw : exo tb cty ann con ops σ o k kp) : OW C n ds ops (o :: rest) K V w := by
  unfold exo at hw
  simp only [St.go_eq, opAt_eq] at hw
  split at hw
  · rename_i hg
    exact run_sound ht hcon hz hg hn h hs hk hp hw
  · rename_i j b hg
    split at hw
    · exact hw.elim
    · rename_i s hj
      have hB : ∀ b', Env.get V s = some (.bool b') → Rl z (σ.setB s b') V w O φ α := fun b' e => ⟨fun t v hv => by
          rcases lk_cons hv with ⟨rfl, rfl⟩ | ⟨_, h2⟩
          · exact ⟨_, e, rfl⟩
          · exact h.env t v h2, h.box, h.arr, h.bb, h.aa, h.ab, h.bF, h.aF, h.bd, h.ext, h.only, h.gl, h.keep⟩
      have yes : run tb cty ann con (σ.setB s b) o k kp → Env.get V s = some (.bool b) → OW C n ds ops (o :: rest) K V w := fun hw hu =>
        OW.yes hg hj hu (run_sound (o := { o with guard := none }) ht hcon hz rfl hn (hB _ hu) hs hk hp hw)
      have no : k ((σ.setB s (!b)).put o.dst .gone) → Env.get V s = some (.bool (!b)) → OW C n ds ops (o :: rest) K V w := fun hw hu =>
        OW.notO hg hj hu (.inl rfl) hn (hk _ hw _ _ ⟨_, _, _, (hB _ hu).putO o.dst (v := .gone) rfl, hs⟩)
      have gone : k (σ.put o.dst .gone) → ∀ u, Env.get V s = some u → u = Go.undef → OW C n ds ops (o :: rest) K V w := fun hw u hu e =>
        OW.notO hg hj hu (.inr e) hn (hk _ hw _ _ ⟨_, _, _, h.putO o.dst (v := .gone) rfl, hs⟩)
      split at hw
      · rename_i c hc
        obtain ⟨u, h1, h2⟩ := h.env s _ hc
        simp only [VR] at h2
        subst h2
        split at hw
        · rcases cond_tf hw with ⟨rfl, hw⟩ | ⟨rfl, hw⟩
          · exact yes hw h1
          · exact no hw h1
        · rcases cond_tf hw with ⟨rfl, hw⟩ | ⟨rfl, hw⟩
          · exact no hw h1
          · exact yes hw h1
      · rename_i hc
        obtain ⟨u, h1, h2⟩ := h.env s _ hc
        exact gone hw u h1 h2
      · exact hw.elim
theorem exops_sound {k : St → Prop} {kp : PV → St → Prop} (ht : TbG C.P tb G) (hcon : ∀ f i o, con f i o → Con C.P G f i o) (hz : ∀ w O, z.G w O → G.p w O) (hk : ∀ s, k s → NX z C n ds ops rest K s) (hp : ∀ v s, kp v s → PanOk z C n ds v s) :
    ∀ (os : List Oper) (σ : St), os.all (fun o => dOk n o.dst) = true → exops tb cty ann con ops kp k os σ → NX z C n ds ops (os ++ rest) K σ
  | [], σ, _, hw => hk σ hw
  | o :: os, σ, hn, hw => fun V w ⟨O, φ, α, h, hs⟩ => by
    simp only [List.all_cons, Bool.and_eq_true] at hn
    exact exo_sound ht hcon hz hn.1 h hs (fun s hks => exops_sound ht hcon hz hk hp os s hn.2 hks) hp hw
theorem RS.cut {s : St} {c : Cut} (h : RS z σ V w) (e : σ.cut c = some s) : RS z s V w := by
  obtain ⟨O, φ, α, h, hs⟩ := h
  obtain ⟨O', α', h', hs'⟩ := cut_sound h hs e
  exact ⟨O', φ, α', h', hs'⟩
theorem all_take {β : Type} {p : β → Bool} {l : List β} (h : l.all p = true) (m : Nat) : (l.take m).all p = true ∧ (l.drop m).all p = true := by
  rw [← List.take_append_drop m l, List.all_append, Bool.and_eq_true] at h
  exact h
theorem exsegs_sound {k : St → Prop} {kp : PV → St → Prop} (ht : TbG C.P tb G) (hcon : ∀ f i o, con f i o → Con C.P G f i o) (hz : ∀ w O, z.G w O → G.p w O) (hk : ∀ s, k s → NX z C n ds ops [] K s) (hp : ∀ v s, kp v s → PanOk z C n ds v s) :
    ∀ (l : List (Nat × Nat × Cut)) (os : List Oper) (σ : St), os.all (fun o => dOk n o.dst) = true → exsegs tb cty ann con ops kp k l os σ → NX z C n ds ops os K σ
  | [], os, σ, hn, hw => by
    have := exops_sound (rest := []) ht hcon hz hk hp os σ hn hw
    rwa [List.append_nil] at this
  | (n0, m, c) :: r, os, σ, hn, hw => by
    have hn0 := all_take hn n0
    have := exops_sound (rest := os.drop n0) ht hcon hz (fun σ1 ⟨J, h1, h2⟩ => by
      have hn2 := all_take hn0.2 m
      have := exops_sound (rest := (os.drop n0).drop m) (k := fun s => s.cutK c J) ht hcon hz (fun s hs => by
        obtain ⟨s', e, hj⟩ := cutK_some hs
        exact fun V w hr => exsegs_sound ht hcon hz hk hp r _ s' hn2.2 (St.frc_eq.mp (h2 s' hj)) V w (hr.cut e)) hp ((os.drop n0).take m) σ1 hn2.1 h1
      rwa [List.take_append_drop] at this) hp (os.take n0) σ hn0.1 hw
    rwa [List.take_append_drop] at this

end
end
section
def Vr (ops : Array Oper) (o : Oper) (V : Env) : Env := (o.looksAt ops).filterMap fun t => (Env.get V t).map fun v => (t, v)
theorem Vr_get {ops : Array Oper} {o : Oper} {V : Env} {t : Nat} {v : Value} (h : Env.get (Vr ops o V) t = some v) : t ∈ o.looksAt ops ∧ Env.get V t = some v := by
  unfold Vr at h
  revert h
  induction o.looksAt ops with
  | nil => intro h; cases h
  | cons s l ih =>
    intro h
    simp only [List.filterMap_cons] at h
    cases hs : Env.get V s with
    | none =>
      rw [hs] at h
      obtain ⟨h1, h2⟩ := ih h
      exact ⟨List.mem_cons_of_mem _ h1, h2⟩
    | some x =>
      rw [hs] at h
      simp only [Option.map_some] at h
      unfold Env.get at h
      split at h
      · rename_i e
        cases h
        have e := Nat.eq_of_beq_eq_true e
        subst e
        exact ⟨List.mem_cons_self, hs⟩
      · obtain ⟨h1, h2⟩ := ih h
        exact ⟨List.mem_cons_of_mem _ h1, h2⟩
theorem Vr_of {ops : Array Oper} {o : Oper} {V : Env} {t : Nat} {v : Value} (ht : t ∈ o.looksAt ops) (h : Env.get V t = some v) : Env.get (Vr ops o V) t = some v := by
  unfold Vr
  revert ht
  induction o.looksAt ops with
  | nil => intro ht; cases ht
  | cons s l ih =>
    intro ht
    simp only [List.filterMap_cons]
    by_cases e : s = t
    · subst e
      rw [h]
      simp [Env.get]
    · have ht2 : t ∈ l := by
        rcases List.mem_cons.1 ht with rfl | ht
        · exact (e rfl).elim
        · exact ht
      cases hs : Env.get V s with
      | none => exact ih ht2
      | some x =>
        simp only [Option.map_some]
        unfold Env.get
        split
        · rename_i e2
          exact (e (Nat.eq_of_beq_eq_true e2)).elim
        · exact ih ht2
theorem keepK_mem {β : Type} {t : Nat} {v : β} : ∀ {ks : List Nat} {l : List (Nat × β)}, lk (keepK ks l) t = some v → t ∈ ks
  | [], l, h => by cases h
  | x :: r, l, h => by
    unfold keepK at h
    split at h
    · rcases lk_cons h with ⟨rfl, rfl⟩ | ⟨_, h2⟩
      · exact List.mem_cons_self
      · exact List.mem_cons_of_mem _ (keepK_mem h2)
    · exact List.mem_cons_of_mem _ (keepK_mem h)
section
variable {z : W0} {V V' : Env} {w w' : World} {O O' : Nat → Prop} {φ : Nat → Nat} {α : Nat → Value} {σ σ1 : St} {C : Cx} {n : Nat} {ops : Array Oper} {o : Oper} {K : Act → World → Prop} {G : GI} {con : Nat → CIn → COut → Prop} {tb : Tb} {cty : List (Nat × List (Option (Nat × Nat)))} {ann : Ann} {ds : List Deferred}
theorem evs_eq {σ σ' : St} : ∀ {xs : List Operand}, (∀ x ∈ xs, σ'.ev x = σ.ev x) → σ'.evs xs = σ.evs xs
  | [], _ => rfl
  | x :: xs, h => by simp only [St.evs, h x List.mem_cons_self, evs_eq fun y hy => h y (List.mem_cons_of_mem _ hy)]
theorem qop_only {σ' : St} {op : Op} {k : PV → Prop} (hev : ∀ x ∈ op.operands, σ'.ev x = σ.ev x) (hB : σ'.B = σ.B) (hA : σ'.A = σ.A) (h : qop tb σ op k) : qop tb σ' op k := by
  have hl : ∀ td u (kk : Int → Prop), lenW td σ u kk → lenW td σ' u kk := fun td u kk => by
    unfold lenW lenM
    rw [hA, hB]
    exact id
  have hload : ∀ g m u, loadE σ g m u k → loadE σ' g m u k := fun g m u => by
    unfold loadE loadP
    rw [hA, hB]
    exact id
  revert h
  unfold qop
  split
  case h_1 => rw [hev _ (by simp [Op.operands])]; exact id
  case h_2 => rw [hev _ (by simp [Op.operands])]; exact id
  case h_3 => rename_i c x y; rw [hev c (by simp [Op.operands]), hev x (by simp [Op.operands]), hev y (by simp [Op.operands])]; exact id
  case h_4 => rename_i x y _; rw [hev x (by simp [Op.operands]), hev y (by simp [Op.operands])]; exact id
  case h_5 => rw [hev _ (by simp [Op.operands])]; exact id
  case h_6 => rw [hev _ (by simp [Op.operands])]; exact id
  case h_7 => rw [hev _ (by simp [Op.operands])]; exact id
  case h_8 => rename_i as_ cs; rw [evs_eq (xs := as_.toList) fun x hx => hev x (by simp [Op.operands]; exact .inl (by simpa using hx)), evs_eq (xs := cs.toList) fun x hx => hev x (by simp [Op.operands]; exact .inr (by simpa using hx))]; exact id
  case h_9 => rw [hev _ (by simp [Op.operands])]; exact id
  case h_10 => rw [hev _ (by simp [Op.operands])]; exact id
  case h_11 => rw [hev _ (by simp [Op.operands])]; exact id
  case h_12 => rw [hev _ (by simp [Op.operands])]; exact id
  case h_13 => rw [hev _ (by simp [Op.operands])]; exact wt_mono fun _ => wt_mono fun _ => hload _ _ _
  case h_14 => rename_i x y; rw [hev x (by simp [Op.operands]), hev y (by simp [Op.operands])]; exact id
  case h_15 =>
    rename_i x y
    rw [hev y (by simp [Op.operands]), hA]
    split
    · exact id
    · rename_i hx
      rw [hev x (by simp [Op.operands])]
      exact id
  case h_16 =>
    rename_i t x lo hi
    have hlo : ∀ y, lo = some y → σ'.ev y = σ.ev y := fun y hy => hev y (by subst hy; simp [Op.operands])
    have hhi : ∀ y, hi = some y → σ'.ev y = σ.ev y := fun y hy => hev y (by subst hy; simp [Op.operands])
    rw [hev x (by simp [Op.operands])]
    refine wt_mono fun _ => wt_mono fun _ => ?_
    have e1 : ∀ kk : Int → Prop, loW σ lo kk → loW σ' lo kk := fun kk => by
      unfold loW
      cases lo with
      | none => exact id
      | some y => simp only [hlo y rfl]; exact id
    have e2 : ∀ td u (kk : Int → Prop), hiW td σ u hi kk → hiW td σ' u hi kk := fun td u kk => by
      unfold hiW
      cases hi with
      | none => exact hl td u kk
      | some y => simp only [hhi y rfl]; exact id
    exact fun hh => e1 _ (loW_mono (fun _ => e2 _ _ _) hh)
  case h_17 =>
    rename_i c
    split
    · rename_i x t e1 e2 e3
      rw [hev x (by
        have e4 : c.args = #[x] := by apply Array.toList_inj.1; simpa using e2
        simp [Op.operands, Call.operands, e4])]
      exact wt_mono fun _ => wt_mono fun _ => hl _ _ _
    · rename_i x y e1 e2
      have e4 : c.args = #[x, y] := by apply Array.toList_inj.1; simpa using e2
      rw [hev x (by simp [Op.operands, Call.operands, e4]), hev y (by simp [Op.operands, Call.operands, e4])]
      exact id
    · rename_i x y e1 e2
      have e4 : c.args = #[x, y] := by apply Array.toList_inj.1; simpa using e2
      rw [hev x (by simp [Op.operands, Call.operands, e4]), hev y (by simp [Op.operands, Call.operands, e4])]
      exact id
    · exact id
  case h_18 => rw [hev _ (by simp [Op.operands])]; exact id
  case h_19 => rename_i parts; rw [evs_eq (xs := parts.toList.map (·.2)) fun x hx => hev x (by simpa [Op.operands] using hx)]; exact id
  case h_20 => rename_i x hi mx; rw [hev x (by simp [Op.operands]), hev hi (by simp [Op.operands]), hev mx (by simp [Op.operands])]; exact id
  case h_21 => exact id
theorem only_ev {x : Operand} (hx : x ∈ o.op.operands) : (σ.only ops o).ev x = σ.ev x := by
  cases x with
  | tmp t =>
    have ht : t ∈ o.looksAt ops := by
      unfold Oper.looksAt
      exact List.mem_append_left _ (List.mem_filterMap.2 ⟨.tmp t, by simpa using hx, rfl⟩)
    show lk (keepK (o.looksAt ops) σ.L) t = lk σ.L t
    revert ht
    induction o.looksAt ops with
    | nil => intro ht; cases ht
    | cons s l ih =>
      intro ht
      unfold keepK
      by_cases e : s = t
      · subst e
        cases hs : lk σ.L s with
        | none =>
          simp only
          by_cases hl : s ∈ l
          · rw [ih hl, hs]
          · cases hq : lk (keepK l σ.L) s with
            | none => rfl
            | some y => exact (hl (keepK_mem hq)).elim
        | some v => simp [lk]
      · have ht2 : t ∈ l := by
          rcases List.mem_cons.1 ht with rfl | ht
          · exact (e rfl).elim
          · exact ht
        cases hs : lk σ.L s with
        | none => exact ih ht2
        | some v =>
          simp only
          show (match Nat.beq s t with
            | true => some v
            | false => lk (keepK l σ.L) t) = _
          split
          · rename_i e2; exact (e (Nat.eq_of_beq_eq_true e2)).elim
          · exact ih ht2
  | const v => rfl
  | global g => rfl
  | func f => rfl
theorem only_stb : stb (σ.only ops o) o.op = stb σ o.op := by
  unfold stb
  split
  · rename_i x ho
    rw [only_ev (by rw [ho]; simp [Op.operands])]
  · rename_i c ho
    split
    · rename_i x hx
      have : x ∈ c.args := by rw [← Array.mem_toList_iff, hx]; simp
      rw [only_ev (by rw [ho]; simp only [Op.operands, Call.operands]; cases c.callee <;> simp [this])]
    · rfl
  · rfl
theorem Rel.lim (h : Rl z σ V w O φ α) (o : Oper) : Rl z (σ.only ops o) (Vr ops o V) w O φ α :=
  ⟨fun t v hv => by
    obtain ⟨u, h1, h2⟩ := h.env t v (lk_keepK hv)
    exact ⟨u, Vr_of (keepK_mem hv) h1, h2⟩, h.box, h.arr, h.bb, h.aa, h.ab, h.bF, h.aF, h.bd, h.ext, h.only, h.gl, h.keep⟩
theorem Rel.setB (h : Rl z σ V w O φ α) {s : Nat} {b : Bool} (e : Env.get V s = some (.bool b)) : Rl z (σ.setB s b) V w O φ α := ⟨fun t v hv => by
    rcases lk_cons hv with ⟨rfl, rfl⟩ | ⟨_, h2⟩
    · exact ⟨_, e, rfl⟩
    · exact h.env t v h2, h.box, h.arr, h.bb, h.aa, h.ab, h.bF, h.aF, h.bd, h.ext, h.only, h.gl, h.keep⟩
/-- The quiet operation q has been done: it is as_ if it were done again. -/
def KQ (C : Cx) (n : Nat) (ops : Array Oper) (V : Env) (w : World) (O : Nat → Prop) (p : Nat × Bool) : Prop :=
  ∃ (o : Oper) (d : Nat) (u : Value), ops[p.1]? = some o ∧ o.dst = some d ∧ Env.get V d = some u ∧ d ∉ o.looksAt ops ∧
    ((u = Go.undef ∧ ∃ j b s x, o.guard = some (j, b) ∧ (ops[j]?).bind (·.dst) = some s ∧ Env.get V s = some x ∧ (x = .bool (!b) ∨ x = Go.undef)) ∨
     ((o.guard = none ∨ ∃ j b s, o.guard = some (j, b) ∧ (ops[j]?).bind (·.dst) = some s ∧ Env.get V s = some (.bool b)) ∧ (p.2 = true → ∀ w' O', Tr O w O' w' → EX C n (Vr ops o V) w' o u)))
/-- .. and in this very world. -/
def KN (C : Cx) (n : Nat) (ops : Array Oper) (V : Env) (w : World) (q : Nat) : Prop :=
  ∃ (o : Oper) (d : Nat) (u : Value), ops[q]? = some o ∧ o.dst = some d ∧ Env.get V d = some u ∧
    ((u = Go.undef ∧ ∃ j b s x, o.guard = some (j, b) ∧ (ops[j]?).bind (·.dst) = some s ∧ Env.get V s = some x ∧ (x = .bool (!b) ∨ x = Go.undef)) ∨
     ((o.guard = none ∨ ∃ j b s, o.guard = some (j, b) ∧ (ops[j]?).bind (·.dst) = some s ∧ Env.get V s = some (.bool b)) ∧ EX C n (Vr ops o V) w o u))
theorem guard_looks {j s : Nat} {b : Bool} (hg : o.guard = some (j, b)) (hj : (ops[j]?).bind (·.dst) = some s) : s ∈ o.looksAt ops := by
  unfold Oper.looksAt
  rw [hg]
  exact List.mem_append_right _ (by simp [hj])
/-- V' says what V says of what o looks at. -/
theorem Vr_eq (h : ∀ t ∈ o.looksAt ops, Env.get V' t = Env.get V t) : Vr ops o V' = Vr ops o V := by
  unfold Vr
  revert h
  induction o.looksAt ops with
  | nil => intro _; rfl
  | cons s l ih =>
    intro h
    simp only [List.filterMap_cons, h s List.mem_cons_self, ih fun t ht => h t (List.mem_cons_of_mem _ ht)]
theorem KQ.move {p : Nat × Bool} (h : KQ C n ops V w O p) (t : Tr O w O' w') (he : ∀ o, ops[p.1]? = some o → ∀ d, o.dst = some d → Env.get V' d = Env.get V d ∧ ∀ t ∈ o.looksAt ops, Env.get V' t = Env.get V t) : KQ C n ops V' w' O' p := by
  obtain ⟨o, d, u, h1, h2, h3, h4, h5⟩ := h
  obtain ⟨e1, e2⟩ := he o h1 d h2
  refine ⟨o, d, u, h1, h2, by rw [e1]; exact h3, h4, ?_⟩
  rcases h5 with ⟨k1, j, b, s, x, k3, k4, k5, k6⟩ | ⟨k1, k2⟩
  · exact .inl ⟨k1, j, b, s, x, k3, k4, by rw [e2 s (guard_looks k3 k4)]; exact k5, k6⟩
  · refine .inr ⟨?_, fun hp w2 O2 t2 => by rw [Vr_eq e2]; exact k2 hp w2 O2 (t.trans t2)⟩
    rcases k1 with k1 | ⟨j, b, s, k3, k4, k5⟩
    · exact .inl k1
    · exact .inr ⟨j, b, s, k3, k4, by rw [e2 s (guard_looks k3 k4)]; exact k5⟩
theorem KN.move {q : Nat} (h : KN C n ops V w q) (he : ∀ o, ops[q]? = some o → ∀ d, o.dst = some d → Env.get V' d = Env.get V d ∧ ∀ t ∈ o.looksAt ops, Env.get V' t = Env.get V t) : KN C n ops V' w q := by
  obtain ⟨o, d, u, h1, h2, h3, h5⟩ := h
  obtain ⟨e1, e2⟩ := he o h1 d h2
  refine ⟨o, d, u, h1, h2, by rw [e1]; exact h3, ?_⟩
  rcases h5 with ⟨k1, j, b, s, x, k3, k4, k5, k6⟩ | ⟨k1, k2⟩
  · exact .inl ⟨k1, j, b, s, x, k3, k4, by rw [e2 s (guard_looks k3 k4)]; exact k5, k6⟩
  · refine .inr ⟨?_, by rw [Vr_eq e2]; exact k2⟩
    rcases k1 with k1 | ⟨j, b, s, k3, k4, k5⟩
    · exact .inl k1
    · exact .inr ⟨j, b, s, k3, k4, by rw [e2 s (guard_looks k3 k4)]; exact k5⟩
theorem clearD_get {d : Nat} : ∀ {dn : List Nat}, clearD ops d dn = true → ∀ p ∈ dn, ∀ o, ops[p]? = some o → ∀ e, o.dst = some e → e ≠ d ∧ d ∉ o.looksAt ops
  | q :: r, h, p, hp, o, ho, e, he => by
    simp only [clearD, Bool.and_eq_true] at h
    rcases List.mem_cons.1 hp with rfl | hp
    · have h1 := h.1
      rw [ho] at h1
      simp only [he, Bool.and_eq_true, Bool.not_eq_true'] at h1
      refine ⟨Nat.ne_of_beq_eq_false h1.1, fun hm => ?_⟩
      have : (o.looksAt ops).any (Nat.beq d) = true := List.any_eq_true.2 ⟨d, hm, Nat.beq_refl d⟩
      rw [this] at h1
      exact Bool.noConfusion h1.2
    · exact clearD_get h.2 p hp o ho e he
theorem get_cons_ne {d t : Nat} {u : Value} (h : t ≠ d) : Env.get ((d, u) :: V) t = Env.get V t := by
  show (match Nat.beq d t with
    | true => some u
    | false => Env.get V t) = _
  split
  · rename_i e; exact (h (Nat.eq_of_beq_eq_true e).symm).elim
  · rfl
theorem synQ_stb {op : Op} (h : synQ op = true) : stb σ op = true := by
  cases op <;> first | rfl | cases h
/-- A quiet operation. -/
theorem exq_sound {dn : List (Nat × Bool)} {ix : List Nat} {q : Nat} {k : St → List (Nat × Bool) → Prop} (ht : TbOk C.P tb) (hgt : ∀ w O, z.G w O → GtOk tb w O) (h : Rl z σ V w O φ α) (hn : ∀ o, ops[q]? = some o → dOk n o.dst = true) (hcq : clrQ ops [q] ix = true) (hw : exq tb ops σ dn q k) :
    ∃ d u b σ1 o, ops[q]? = some o ∧ o.dst = some d ∧ Nat.blt d n = true ∧ clearD ops d ix = true ∧ k σ1 ((q, b) :: dn) ∧ Rl z σ1 ((d, u) :: V) w O φ α ∧ KQ C n ops ((d, u) :: V) w O (q, b) ∧ KN C n ops ((d, u) :: V) w q ∧ (synQ o.op = true → b = true) := by
  unfold exq at hw
  simp only [St.go_eq, opAt_eq] at hw
  split at hw
  · exact hw.elim
  · rename_i o ho
    have hn := hn o ho
    split at hw
    · rename_i d hd hq
      · have hcl := hcq
        simp only [clrQ, ho, hd, Bool.and_eq_true, Bool.not_eq_true', and_true] at hcl
        have hdl : d ∉ o.looksAt ops := fun hm => by
          have : (o.looksAt ops).any (Nat.beq d) = true := List.any_eq_true.2 ⟨d, hm, Nat.beq_refl d⟩
          rw [this] at hcl
          exact Bool.noConfusion hcl.2
        rw [hd] at hn
        have gd : ∀ u : Value, Env.get ((d, u) :: V) d = some u := fun u => by simp [Env.get]
        have ev : ∀ u : Value, Vr ops o ((d, u) :: V) = Vr ops o V := fun u => Vr_eq fun t ht' => get_cons_ne fun e => hdl (e ▸ ht')
        -- wanted
        have yes : ∀ (σ' : St), Rl z σ' V w O φ α → (o.guard = none ∨ ∃ j b s, o.guard = some (j, b) ∧ (ops[j]?).bind (·.dst) = some s ∧ Env.get V s = some (.bool b)) → (qop tb σ' o.op fun v => k (σ'.put (some d) v) ((q, stb σ' o.op) :: dn)) →
            ∃ d u b σ1 o, ops[q]? = some o ∧ o.dst = some d ∧ Nat.blt d n = true ∧ clearD ops d ix = true ∧ k σ1 ((q, b) :: dn) ∧ Rl z σ1 ((d, u) :: V) w O φ α ∧ KQ C n ops ((d, u) :: V) w O (q, b) ∧ KN C n ops ((d, u) :: V) w q ∧ (synQ o.op = true → b = true) := fun σ' h' hg hw' => by
          obtain ⟨v, u, k1, k2, k3, k4⟩ := qop_sound (n := n) ht hgt (h'.lim (ops := ops) o) (qop_only (fun x hx => only_ev hx) rfl rfl hw')
          rw [only_stb] at k4
          have hg' : o.guard = none ∨ ∃ j b s, o.guard = some (j, b) ∧ (ops[j]?).bind (·.dst) = some s ∧ Env.get ((d, u) :: V) s = some (.bool b) := by
            rcases hg with hg | ⟨j, b, s, g1, g2, g3⟩
            · exact .inl hg
            · exact .inr ⟨j, b, s, g1, g2, by rw [get_cons_ne (t := s) (d := d) fun e => hdl (by rw [← e]; exact guard_looks g1 g2)]; exact g3⟩
          exact ⟨d, u, _, _, o, ho, hd, hn, hcl.1, k1, h'.putS k2, ⟨o, d, u, ho, hd, gd u, hdl, .inr ⟨hg', fun hs w2 O2 t2 => by rw [ev]; exact k4 hs w2 O2 t2⟩⟩, ⟨o, d, u, ho, hd, gd u, .inr ⟨hg', by rw [ev]; exact k3⟩⟩, synQ_stb⟩
        have no : ∀ (σ' : St) (j s : Nat) (b : Bool) (x : Value), Rl z σ' V w O φ α → o.guard = some (j, b) → (ops[j]?).bind (·.dst) = some s → Env.get V s = some x → (x = .bool (!b) ∨ x = Go.undef) → k (σ'.put (some d) .gone) ((q, true) :: dn) →
            ∃ d u b σ1 o, ops[q]? = some o ∧ o.dst = some d ∧ Nat.blt d n = true ∧ clearD ops d ix = true ∧ k σ1 ((q, b) :: dn) ∧ Rl z σ1 ((d, u) :: V) w O φ α ∧ KQ C n ops ((d, u) :: V) w O (q, b) ∧ KN C n ops ((d, u) :: V) w q ∧ (synQ o.op = true → b = true) := fun σ' j s b x h' g1 g2 g3 g4 hk => by
          have g5 : Env.get ((d, Go.undef) :: V) s = some x := by rw [get_cons_ne (t := s) (d := d) fun e => hdl (by rw [← e]; exact guard_looks g1 g2)]; exact g3
          exact ⟨d, Go.undef, true, _, o, ho, hd, hn, hcl.1, hk, h'.putS (v := .gone) rfl, ⟨o, d, _, ho, hd, gd _, hdl, .inl ⟨rfl, j, b, s, x, g1, g2, g5, g4⟩⟩, ⟨o, d, _, ho, hd, gd _, .inl ⟨rfl, j, b, s, x, g1, g2, g5, g4⟩⟩, fun _ => rfl⟩
        split at hw
        · rename_i hg
          exact yes σ h (.inl hg) hw
        · rename_i j b hg
          split at hw
          · exact hw.elim
          · rename_i s hj
            split at hw
            · rename_i c hc
              obtain ⟨x, h1, h2⟩ := h.env s _ hc
              simp only [VR] at h2
              subst h2
              split at hw
              · rcases cond_tf hw with ⟨rfl, hw⟩ | ⟨rfl, hw⟩
                · exact yes _ (h.setB h1) (.inr ⟨j, _, s, hg, hj, h1⟩) hw
                · exact no _ j s _ _ (h.setB h1) hg hj h1 (.inl rfl) hw
              · rcases cond_tf hw with ⟨rfl, hw⟩ | ⟨rfl, hw⟩
                · exact no _ j s _ _ (h.setB h1) hg hj h1 (.inl rfl) hw
                · exact yes _ (h.setB h1) (.inr ⟨j, _, s, hg, hj, h1⟩) hw
            · rename_i hc
              obtain ⟨x, h1, h2⟩ := h.env s _ hc
              exact no σ j s b x h hg hj h1 (.inr h2) hw
            · exact hw.elim
    · exact hw.elim
theorem exqs_sound {k : St → List (Nat × Bool) → Prop} (ht : TbOk C.P tb) (hgt : ∀ w O, z.G w O → GtOk tb w O) (hn : ∀ (q : Nat) (o : Oper), ops[q]? = some o → dOk n o.dst = true) : ∀ (qs : List Nat) {σ : St} {V : Env} {dn : List (Nat × Bool)}, Rl z σ V w O φ α → clrQ ops qs (dn.map (·.1)) = true → exqs tb ops qs σ dn k → (∀ p ∈ dn, KQ C n ops V w O p) →
    ∃ (qv : Env) (σ1 : St) (dn1 : List (Nat × Bool)), qvOk ops n qs qv = true ∧ k σ1 dn1 ∧ Rl z σ1 (qv ++ V) w O φ α ∧ (∀ p ∈ dn1, KQ C n ops (qv ++ V) w O p) ∧ (∀ q ∈ qs, KN C n ops (qv ++ V) w q) ∧ (∀ p ∈ dn, p ∈ dn1) ∧ (∀ q ∈ qs, ∃ b, (q, b) ∈ dn1) ∧ dn1.map (·.1) = qs.reverse ++ dn.map (·.1) ∧
      (∀ p ∈ dn, ∀ o, ops[p.1]? = some o → ∀ d, o.dst = some d → Env.get (qv ++ V) d = Env.get V d ∧ ∀ t ∈ o.looksAt ops, Env.get (qv ++ V) t = Env.get V t)
  | [], σ, V, dn, h, _, hw, hd => ⟨[], σ, dn, rfl, hw, h, hd, by simp, fun _ h => h, by simp, by simp, fun _ _ _ _ _ _ => ⟨rfl, fun _ _ => rfl⟩⟩
  | q :: r, σ, V, dn, h, hc, hw, hd => by
    have hc1 : clrQ ops [q] (dn.map (·.1)) = true := by
      simp only [clrQ, Bool.and_eq_true] at hc ⊢
      exact ⟨hc.1, trivial⟩
    have hc2 : clrQ ops r (q :: dn.map (·.1)) = true := by
      simp only [clrQ, Bool.and_eq_true] at hc
      exact hc.2
    obtain ⟨d, u, b, σ2, o, ho, hod, hdn, hcl, hk, h2, hq, hqn, _⟩ := exq_sound ht hgt h (hn q) hc1 hw
    have keep : ∀ p ∈ dn, ∀ o, ops[p.1]? = some o → ∀ e, o.dst = some e → Env.get ((d, u) :: V) e = Env.get V e ∧ ∀ t ∈ o.looksAt ops, Env.get ((d, u) :: V) t = Env.get V t := fun p hp o' ho' e he => by
      obtain ⟨n1, n2⟩ := clearD_get hcl p.1 (List.mem_map.2 ⟨p, hp, rfl⟩) o' ho' e he
      exact ⟨get_cons_ne n1, fun t ht' => get_cons_ne fun e => n2 (e ▸ ht')⟩
    obtain ⟨qv, σ1, dn1, k1, k2, k3, k4, k5, k6, k7, k9, k8⟩ := exqs_sound ht hgt hn r h2 (by simpa using hc2) hk (fun p hp => by
      rcases List.mem_cons.1 hp with rfl | hp
      · exact hq
      · exact (hd p hp).move (Tr.refl _ _) (keep p hp))
    have ee : qv ++ (d, u) :: V = (qv ++ [(d, u)]) ++ V := by simp
    rw [ee] at k3 k4 k5 k8
    refine ⟨qv ++ [(d, u)], σ1, dn1, ?_, k2, k3, k4, fun q' hq' => ?_, fun p hp => k6 p (List.mem_cons_of_mem _ hp), fun p hp => ?_, by rw [k9]; simp, fun p hp o' ho' e he => ?_⟩
    · unfold qvOk at k1 ⊢
      rw [List.all_append, Bool.and_eq_true]
      refine ⟨List.all_eq_true.2 fun p hp => ?_, ?_⟩
      · have := List.all_eq_true.1 k1 p hp
        simp only [Bool.and_eq_true, List.any_cons, Bool.or_eq_true] at this ⊢
        exact ⟨this.1, .inr this.2⟩
      · simp only [List.all_cons, List.all_nil, Bool.and_true, List.any_cons, Bool.and_eq_true, Bool.or_eq_true]
        exact ⟨hdn, .inl (by simp [dstOf, ho, hod])⟩
    · rcases List.mem_cons.1 hq' with rfl | hq'
      · exact hqn.move fun o' ho' e he => k8 (q', b) List.mem_cons_self o' ho' e he
      · exact k5 q' hq'
    · rcases List.mem_cons.1 hp with rfl | hp
      · exact ⟨b, k6 _ List.mem_cons_self⟩
      · exact k7 p hp
    · obtain ⟨a1, a2⟩ := k8 p (List.mem_cons_of_mem _ hp) o' ho' e he
      obtain ⟨b1, b2⟩ := keep p hp o' ho' e he
      exact ⟨a1.trans b1, fun t ht' => (a2 t ht').trans (b2 t ht')⟩
mutual
theorem det_eq : ∀ (v : PV) (u u' : Value), detP v = true → VR w O φ α v u → VR w O φ α v u' → u = u'
  | .int _ _, u, u', _, h, h' => by simp only [VR] at h h'; rw [h, h']
  | .bool _, u, u', _, h, h' => by simp only [VR] at h h'; rw [h, h']
  | .str _, u, u', _, h, h' => by simp only [VR] at h h'; rw [h, h']
  | .nil, u, u', _, h, h' => by simp only [VR] at h h'; rw [h, h']
  | .ref _, u, u', _, h, h' => by simp only [VR] at h h'; rw [h.1, h'.1]
  | .ptr _ _, u, u', _, h, h' => by simp only [VR] at h h'; rw [h, h']
  | .nilI, u, u', _, h, h' => by simp only [VR] at h h'; rw [h, h']
  | .nilp, u, u', _, h, h' => by simp only [VR] at h h'; rw [h, h']
  | .agg cs, u, u', hd, h, h' => by
    obtain ⟨us, rfl, h⟩ := h
    obtain ⟨us', rfl, h'⟩ := h'
    rw [dets_eq cs us us' hd h h']
  | .tup cs, u, u', hd, h, h' => by
    obtain ⟨us, rfl, h⟩ := h
    obtain ⟨us', rfl, h'⟩ := h'
    rw [dets_eq cs us us' hd h h']
  | .iface T v, u, u', hd, h, h' => by
    obtain ⟨x, rfl, h⟩ := h
    obtain ⟨x', rfl, h'⟩ := h'
    rw [det_eq v x x' hd h h']
  | .sl _ _ _, _, _, hd, _, _ => by cases hd
  | .cptr _ _, _, _, hd, _, _ => by cases hd
  | .eptr _ _ _ _, _, _, hd, _, _ => by cases hd
  | .fn _ _ _, _, _, hd, _, _ => by cases hd
  | .undef, _, _, hd, _, _ => by cases hd
  | .gone, _, _, hd, _, _ => by cases hd
  | .selfp _, _, _, hd, _, _ => by cases hd
  | .err _, _, _, hd, _, _ => by cases hd
  | .mp _, _, _, hd, _, _ => by cases hd
  | .md _, _, _, hd, _, _ => by cases hd
theorem dets_eq : ∀ (vs : List PV) (us us' : List Value), detP.go vs = true → VRs w O φ α vs us → VRs w O φ α vs us' → us = us'
  | [], us, us', _, h, h' => by rw [show us = [] from h, show us' = [] from h']
  | v :: vs, us, us', hd, h, h' => by
    simp only [detP.go, Bool.and_eq_true] at hd
    obtain ⟨u, r, rfl, h1, h2⟩ := h
    obtain ⟨u', r', rfl, h1', h2'⟩ := h'
    rw [det_eq v u u' hd.1 h1 h1', dets_eq vs r r' hd.2 h2 h2']
end
theorem rechk_sound (ht : TbOk C.P tb) (hgt : ∀ w O, z.G w O → GtOk tb w O) (h : Rl z σ V w O φ α) : ∀ {dn : List (Nat × Bool)}, rechk tb ops σ dn → (∀ p ∈ dn, KQ C n ops V w O p) → ∀ p ∈ dn, KN C n ops V w p.1
  | [], _, _, p, hp => by cases hp
  | (q, st) :: r, hw, hd, p, hp => by
    have hr : rechk tb ops σ r := by
      cases st with
      | true => exact hw
      | false => exact hw.2
    rcases List.mem_cons.1 hp with rfl | hp
    · obtain ⟨o, d, u, h1, h2, h3, h4, h5⟩ := hd _ List.mem_cons_self
      refine ⟨o, d, u, h1, h2, h3, ?_⟩
      rcases h5 with ⟨k1, k3⟩ | ⟨k1, k2⟩
      · exact .inl ⟨k1, k3⟩
      · refine .inr ⟨k1, ?_⟩
        cases st with
        | true => exact k2 rfl w O (Tr.refl _ _)
        | false =>
          have hw := hw.1
          simp only [h1, h2] at hw
          split at hw
          · rename_i v hv
            obtain ⟨hdet, hw⟩ := hw
            obtain ⟨v', u', e1, e2, e3, _⟩ := qop_sound (n := n) ht hgt (h.lim (ops := ops) o) (qop_only (fun x hx => only_ev hx) rfl rfl hw)
            subst e1
            obtain ⟨u2, e4, e5⟩ := h.env d _ hv
            rw [h3] at e4
            cases e4
            rw [det_eq v' u u' hdet e5 e2]
            exact e3
          · exact hw.elim
    · exact rechk_sound ht hgt h hr (fun p hp => hd p (List.mem_cons_of_mem _ hp)) p hp
/-- What is known of slots is known of the act. -/
theorem KN.stab {q : Nat} {b : Act} (h : KN C n ops V w q) (hb : Has n V b) : StabOp C.P ops b w q := by
  obtain ⟨o, d, u, h1, h2, h3, h4⟩ := h
  intro o' ho' d' hd'
  rw [h1] at ho'
  cases ho'
  rw [h2] at hd'
  cases hd'
  have hu := hb.get d u h3
  rcases h4 with ⟨rfl, j, bb, s, x, g1, g2, g3, g4⟩ | ⟨g, hx⟩
  · have hw : Region.wanted o (yielded ops b.tmps) = false := by
      rcases g4 with rfl | rfl <;> cases bb <;> simp [Region.wanted, g1, yielded, g2, hb.get s _ g3, Go.undef]
    exact ⟨fun hh => (by rw [hw] at hh; cases hh), fun _ => hu⟩
  · have hw : Region.wanted o (yielded ops b.tmps) = true := by
      rcases g with g | ⟨j, bb, s, g1, g2, g3⟩
      · simp [Region.wanted, g]
      · simp [Region.wanted, g1, yielded, g2, hb.get s _ g3]
    exact ⟨fun _ => ⟨u, hu, hx b ⟨hb.size, fun t v e => hb.get t v (Vr_get e).2⟩⟩, fun hh => (by rw [hw] at hh; cases hh)⟩
/-- An operation turns the slot alone that it is told in. -/
theorem wp_frame {b : Act} (h : wpList C.P ops (QT C ds fun a' w' => (∀ t, o.dst ≠ some t → a'.tmps[t]? = b.tmps[t]?) → K a' w') [o] b w) : wpList C.P ops (QT C ds K) [o] b w := by
  have put : ∀ dd v t, o.dst ≠ some t → (({ b with defers := dd } : Act).put o.dst v).tmps[t]? = b.tmps[t]? := fun dd v t hne => by
    unfold Act.put
    cases hd : o.dst with
    | none => rfl
    | some d =>
      rw [hd] at hne
      exact Array.getElem?_setIfInBounds_ne fun e => hne (by rw [e])
  unfold wpList at h ⊢
  split at h
  · rename_i hw
    rw [if_pos hw]
    rcases h with h | h
    · left
      unfold Oper.wp at h ⊢
      refine upon_alike (o := o) (a := b) (b := b) (fun dd v w hh => ?_) (fun _ _ hh => hh) QT_out _ h
      exact ⟨hh.1, hh.2 (put _ v)⟩
    · exact (QT_out h.2).elim
  · rename_i hw
    rw [if_neg hw]
    exact ⟨h.1, h.2 (put b.defers _)⟩
def envA (a : Act) : Env := (List.range a.tmps.size).filterMap fun t => (a.tmps[t]?).map fun v => (t, v)
theorem envA_get {a : Act} {t : Nat} {v : Value} : Env.get (envA a) t = some v ↔ a.tmps[t]? = some v := by
  have key : ∀ l : List Nat, (Env.get (l.filterMap fun t => (a.tmps[t]?).map fun v => (t, v)) t = some v ↔ t ∈ l ∧ a.tmps[t]? = some v) := by
    intro l
    induction l with
    | nil => simp [Env.get]
    | cons s l ih =>
      simp only [List.filterMap_cons]
      cases hs : a.tmps[s]? with
      | none =>
        simp only [Option.map_none]
        rw [ih]
        constructor
        · exact fun h => ⟨List.mem_cons_of_mem _ h.1, h.2⟩
        · rintro ⟨h1, h2⟩
          rcases List.mem_cons.1 h1 with rfl | h1
          · rw [hs] at h2; cases h2
          · exact ⟨h1, h2⟩
      | some x =>
        simp only [Option.map_some]
        by_cases e : s = t
        · subst e
          simp [Env.get, hs]
        · rw [get_cons_ne (Ne.symm e), ih]
          constructor
          · exact fun h => ⟨List.mem_cons_of_mem _ h.1, h.2⟩
          · rintro ⟨h1, h2⟩
            rcases List.mem_cons.1 h1 with rfl | h1
            · exact (e rfl).elim
            · exact ⟨h1, h2⟩
  unfold envA
  rw [key]
  constructor
  · exact fun h => h.2
  · exact fun h => ⟨List.mem_range.2 (Array.getElem?_eq_some_iff.1 h).1, h⟩
theorem envA_has {a : Act} (h : a.tmps.size = n) : Has n (envA a) a := ⟨h, fun _ _ e => envA_get.1 e⟩
theorem Rel.envA {a : Act} (h : Rl z σ V w O φ α) (ha : Has n V a) : Rl z σ (Pe.envA a) w O φ α := ⟨fun t v hv => by
    obtain ⟨u, h1, h2⟩ := h.env t v hv
    exact ⟨u, envA_get.2 (ha.get t u h1), h2⟩, h.box, h.arr, h.bb, h.aa, h.ab, h.bF, h.aF, h.bd, h.ext, h.only, h.gl, h.keep⟩
/-- The world of now is remembered. -/
def W0.mark (z : W0) (w : World) (O : Nat → Prop) : W0 := { z with G := fun w' O' => z.G w' O' ∧ Tr O w O' w', hG := fun t h => ⟨z.hG t h.1, h.2.trans t⟩ }
theorem Rel.mark (h : Rl z σ V w O φ α) : Rl (z.mark w O) σ V w O φ α := ⟨h.env, h.box, h.arr, h.bb, h.aa, h.ab, h.bF, h.aF, h.bd, h.ext, h.only, ⟨h.gl, Tr.refl _ _⟩, h.keep⟩
theorem Rel.unmark {w0 : World} {O0 : Nat → Prop} (h : Rl (z.mark w0 O0) σ V w O φ α) : Rl z σ V w O φ α ∧ Tr O0 w0 O w := ⟨⟨h.env, h.box, h.arr, h.bb, h.aa, h.ab, h.bF, h.aF, h.bd, h.ext, h.only, h.gl.1, h.keep⟩, h.gl.2⟩
theorem kept_mem {kp : List Nat} {dn : List (Nat × Bool)} {p : Nat × Bool} (h : p ∈ keptOf kp dn) : p ∈ dn ∧ p.1 ∈ kp := by
  unfold keptOf at h
  obtain ⟨h1, h2⟩ := List.mem_filter.1 h
  obtain ⟨x, h3, h4⟩ := List.any_eq_true.1 h2
  exact ⟨h1, (Nat.eq_of_beq_eq_true h4) ▸ h3⟩
theorem fullA (a : Act) (t : Nat) : Env.get (Pe.envA a) t = a.tmps[t]? := by
  cases hx : a.tmps[t]? with
  | some x => exact envA_get.2 hx
  | none =>
    cases hy : Env.get (Pe.envA a) t with
    | none => rfl
    | some y => rw [envA_get.1 hy] at hx; cases hx
theorem fullV {a b : Act} {qv : Env} (hb : Has n (qv ++ Pe.envA a) b) (hz : a.tmps.size = n) (t : Nat) : Env.get (qv ++ Pe.envA a) t = b.tmps[t]? := by
  cases hg : Env.get (qv ++ Pe.envA a) t with
  | some x => exact (hb.get t x hg).symm
  | none =>
    have : ∀ {l l2 : Env}, Env.get (l ++ l2) t = none → Env.get l2 t = none := by
      intro l l2
      induction l with
      | nil => exact id
      | cons p l ih =>
        intro hh
        obtain ⟨s, y⟩ := p
        simp only [List.cons_append] at hh
        unfold Env.get at hh
        split at hh
        · cases hh
        · exact ih hh
    have h1 := this hg
    have h2 : a.tmps[t]? = none := by
      cases hx : a.tmps[t]? with
      | none => rfl
      | some x => rw [envA_get.2 hx] at h1; cases h1
    have h3 := hb.size
    rw [Array.getElem?_eq_none_iff] at h2
    symm
    rw [Array.getElem?_eq_none_iff]
    omega
/-- A group's quiet operations, from an act on. -/
theorem group_sound {k : St → List (Nat × Bool) → Prop} (ht : TbOk C.P tb) (hgt : ∀ w O, z.G w O → GtOk tb w O) (hn : ∀ (q : Nat) (o : Oper), ops[q]? = some o → dOk n o.dst = true) (qs done : List Nat) {dn : List (Nat × Bool)} (a : Act) (hsz : a.tmps.size = n) (hda : a.defers = ds) (h : Rl z σ (Pe.envA a) w O φ α)
    (hd : ∀ p ∈ dn, KQ C n ops (Pe.envA a) w O p) (hdone : ∀ q ∈ done, ∃ b, (q, b) ∈ dn) (hc : clrQ ops qs (dn.map (·.1)) = true) (hw : exqs tb ops qs σ dn fun σ1 dn1 => rechk tb ops σ1 dn ∧ k σ1 dn1) :
    ∃ (b : Act) (σ1 : St) (dn1 : List (Nat × Bool)), Off ops qs a b ∧ b.tmps.size = n ∧ b.defers = ds ∧ Rl z σ1 (Pe.envA b) w O φ α ∧ (∀ p ∈ dn1, KQ C n ops (Pe.envA b) w O p) ∧ (∀ q ∈ done ++ qs, StabOp C.P ops b w q) ∧ (∀ q ∈ done ++ qs, ∃ st, (q, st) ∈ dn1) ∧ dn1.map (·.1) = qs.reverse ++ dn.map (·.1) ∧ k σ1 dn1 := by
  obtain ⟨qv, σ1, dn1, e1, ⟨e2, e3⟩, e4, e5, e6, e7, e8, e10, _⟩ := exqs_sound ht hgt hn qs h hc hw hd
  obtain ⟨b, hb, hoff⟩ := (envA_has hsz).off e1
  have fb := fullV hb hsz
  refine ⟨b, σ1, dn1, hoff, hb.size, by rw [← hoff.defers]; exact hda, e4.envA hb, fun p hp => (e5 p hp).move (Tr.refl _ _) fun o _ d _ => ⟨(fullA b d).trans (fb d).symm, fun t _ => (fullA b t).trans (fb t).symm⟩, fun q hq => ?_, fun q hq => ?_, e10, e3⟩
  · rcases List.mem_append.1 hq with hq | hq
    · obtain ⟨st, hst⟩ := hdone q hq
      exact (rechk_sound ht hgt e4 e2 (fun p hp => e5 p (e7 p hp)) (q, st) hst).stab hb
    · exact (e6 q hq).stab hb
  · rcases List.mem_append.1 hq with hq | hq
    · obtain ⟨st, hst⟩ := hdone q hq
      exact ⟨st, e7 _ hst⟩
    · exact e8 q hq
theorem rst_RS {cs : List (Nat × Cut)} {e : Nat} {k : St → Prop} {w' : World} {V' : Env} (h : rst cs e σ k) (hr : RS z σ V' w') : ∃ s, RS z s V' w' ∧ k s := by
  unfold rst at h
  split at h
  · obtain ⟨J, h1, h2⟩ := h
    obtain ⟨s, e1, hj⟩ := wt_some h1
    exact ⟨s, hr.cut e1, St.frc_eq.mp (h2 s (St.frc_eq.mp hj))⟩
  · exact ⟨σ, hr, h⟩
theorem alt_step {cs : List (Nat × Cut)} {anc : Anc} {k : St → Prop} {kp : PV → St → Prop} {e : Nat} {o : Oper} {kpl qs2 : List Nat} {g : Gt} {rem wai done : List Nat} {dn : List (Nat × Bool)} (ht : TbG C.P tb G) (hcon : ∀ f i o, con f i o → Con C.P G f i o) (hz : ∀ w O, z.G w O → G.p w O) (hn : ∀ (q : Nat) (o : Oper), ops[q]? = some o → dOk n o.dst = true) (hp : ∀ v s, kp v s → PanOk z C n ds v s)
    (_hk : ∀ s, k s → ∀ V w, RS z s V w → ∀ a, Has n V a → a.defers = ds → K a w) (ho : ops[e]? = some o) (hnode : nodeOk anc rem wai done e kpl qs2 = true) (hal : altsOk anc (without rem [e]) (without wai qs2) (kpl ++ qs2) g = true)
    (hc2 : (match (some o : Option Oper) with
      | some o => match o.dst with
        | some d => clearD ops d (keepN kpl (dn.map (·.1)))
        | none => true
      | none => true) = true) (hcq : clrQ ops qs2 (keepN kpl (dn.map (·.1))) = true) (hca : clrA ops g (qs2.reverse ++ keepN kpl (dn.map (·.1))) = true)
    (ih : ∀ (dn : List (Nat × Bool)) (rem wai done : List Nat) (σ : St) (w : World) (O : Nat → Prop) (φ : Nat → Nat) (α : Nat → Value) (b : Act), b.tmps.size = n → b.defers = ds → Rl z σ (Pe.envA b) w O φ α → (∀ x, z.O x → O x) → (∀ p ∈ dn, KQ C n ops (Pe.envA b) w O p) →
      (∀ q ∈ done, StabOp C.P ops b w q) → (∀ q ∈ done, ∃ st, (q, st) ∈ dn) → altsOk anc rem wai done g = true → clrA ops g (dn.map (·.1)) = true → exalt tb cty ann con ops cs kp k g dn σ → DRa C ds ops K done g b w)
    (b : Act) (hsz : b.tmps.size = n) (hda : b.defers = ds) (h : Rl z σ (Pe.envA b) w O φ α) (hs : ∀ x, z.O x → O x) (hd : ∀ p ∈ dn, KQ C n ops (Pe.envA b) w O p) (hdone : ∀ q ∈ done, ∃ st, (q, st) ∈ dn)
    (hw : exo tb cty ann con ops σ o (fun σ2 => rst cs e σ2 fun σ2 => exqs tb ops qs2 σ2 (keptOf kpl dn) fun σ3 dn3 => rechk tb ops σ3 (keptOf kpl dn) ∧ exalt tb cty ann con ops cs kp k g dn3 σ3) kp) :
    wpList C.P ops (QT C ds (fun a' w' => ∃ b', Off ops qs2 a' b' ∧ DRa C ds ops K (kpl ++ qs2) g b' w')) [o] b w := by
  have ekept : (keptOf kpl dn).map (·.1) = keepN kpl (dn.map (·.1)) := by
    unfold keptOf keepN
    rw [List.filter_map]
    rfl
  have hb : Has n (Pe.envA b) b := envA_has hsz
  refine wp_frame (exo_sound (z := z.mark w O) (rest := []) (K := fun a' w' => (∀ t, o.dst ≠ some t → a'.tmps[t]? = b.tmps[t]?) → ∃ b', Off ops qs2 a' b' ∧ DRa C ds ops K (kpl ++ qs2) g b' w') ht hcon (fun w O h => hz w O h.1) (hn e o ho) h.mark hs (fun σ2 hσ2 V2 w2 hr => ?_) (fun v s hv V w O φ α u φ' α' r s2 hr a ha hda => hp v s hv V w O φ α u φ' α' r.unmark.1 s2 hr a ha hda) hw b hb hda)
  obtain ⟨σ2', hr, hσ2⟩ := rst_RS hσ2 hr
  obtain ⟨O2, φ2, α2, r, s2⟩ := hr
  obtain ⟨r', t⟩ := r.unmark
  refine OW.fin fun a' ha' hda' hag => ?_
  simp only [nodeOk, Bool.and_eq_true] at hnode
  have hmv : ∀ p ∈ keptOf kpl dn, KQ C n ops (Pe.envA a') w2 O2 p := fun p hp => by
    obtain ⟨hp1, hp2⟩ := kept_mem hp
    refine (hd p hp1).move t fun o' ho' d hd' => ?_
    have hne : ∀ x, o.dst = some x → d ≠ x ∧ x ∉ o'.looksAt ops := fun x hx => by
      simp only [hx] at hc2
      exact clearD_get hc2 p.1 (by rw [← ekept]; exact List.mem_map.2 ⟨p, hp, rfl⟩) o' ho' d hd'
    refine ⟨?_, fun t ht' => ?_⟩
    · rw [fullA, fullA]
      exact hag d fun e => (hne d e).1 rfl
    · rw [fullA, fullA]
      exact hag t fun e => (hne t e).2 ht'
  have hkd : ∀ q ∈ kpl, ∃ st, (q, st) ∈ keptOf kpl dn := fun q hq => by
    have hc := List.all_eq_true.1 hnode.1.2 q hq
    have hm : q ∈ done := by simpa using hc
    obtain ⟨st, hst⟩ := hdone q hm
    exact ⟨st, List.mem_filter.2 ⟨hst, List.any_eq_true.2 ⟨q, hq, Nat.beq_refl q⟩⟩⟩
  obtain ⟨b', σ3, dn3, e1, e2, e3, e4, e5, e6, e7, e8, e9⟩ := group_sound (k := fun σ3 dn3 => exalt tb cty ann con ops cs kp k g dn3 σ3) ht.toTbOk (fun w O h => ht.gt w O (hz w O h)) hn qs2 kpl a' ha'.size hda' (r'.envA ha') hmv hkd (by rw [ekept]; exact hcq) hσ2
  exact ⟨b', e1, ih dn3 _ _ _ σ3 w2 O2 φ2 α2 b' e2 e3 e4 s2 e5 e6 e7 hal (by rw [e8, ekept]; exact hca) e9⟩
theorem exalt_sound {cs : List (Nat × Cut)} {anc : Anc} {k : St → Prop} {kp : PV → St → Prop} (ht : TbG C.P tb G) (hcon : ∀ f i o, con f i o → Con C.P G f i o) (hz : ∀ w O, z.G w O → G.p w O) (hn : ∀ (q : Nat) (o : Oper), ops[q]? = some o → dOk n o.dst = true) (hp : ∀ v s, kp v s → PanOk z C n ds v s)
    (hk : ∀ s, k s → ∀ V w, RS z s V w → ∀ a, Has n V a → a.defers = ds → K a w) :
    ∀ (g : Gt) (dn : List (Nat × Bool)) (rem wai done : List Nat) {σ : St} {w : World} {O : Nat → Prop} {φ : Nat → Nat} {α : Nat → Value} (b : Act), b.tmps.size = n → b.defers = ds → Rl z σ (Pe.envA b) w O φ α → (∀ x, z.O x → O x) → (∀ p ∈ dn, KQ C n ops (Pe.envA b) w O p) →
      (∀ q ∈ done, StabOp C.P ops b w q) → (∀ q ∈ done, ∃ st, (q, st) ∈ dn) → altsOk anc rem wai done g = true → clrA ops g (dn.map (·.1)) = true → exalt tb cty ann con ops cs kp k g dn σ → DRa C ds ops K done g b w
  | .fin, dn, rem, wai, done, σ, w, O, φ, α, b, hsz, hda, h, hs, _, hst, _, _, _, hw => ⟨hst, hk σ hw _ _ ⟨_, _, _, h, hs⟩ b (envA_has hsz) hda⟩
  | .one e kpl qs2 g, dn, rem, wai, done, σ, w, O, φ, α, b, hsz, hda, h, hs, hd, hst, hdone, hal, hcl, hw => by
    simp only [altsOk, Bool.and_eq_true] at hal
    simp only [clrA, clrN, Bool.and_eq_true] at hcl
    refine ⟨hst, fun o ho => ?_⟩
    unfold exalt at hw
    rw [opAt_eq, ho] at hw
    rw [ho] at hcl
    exact alt_step ht hcon hz hn hp hk ho hal.1.1 hal.2 hcl.1.1 hcl.1.2 hcl.2 (fun dn rem wai done σ w O φ α b => exalt_sound ht hcon hz hn hp hk g dn rem wai done b) b hsz hda h hs hd hdone hw
  | .alt e kpl qs2 g r, dn, rem, wai, done, σ, w, O, φ, α, b, hsz, hda, h, hs, hd, hst, hdone, hal, hcl, hw => by
    simp only [altsOk, Bool.and_eq_true] at hal
    simp only [clrA, clrN, Bool.and_eq_true] at hcl
    unfold exalt at hw
    refine ⟨fun o ho => ?_, exalt_sound ht hcon hz hn hp hk r dn rem wai done b hsz hda h hs hd hst hdone hal.2 hcl.2 hw.2⟩
    have hw := hw.1
    rw [opAt_eq, ho] at hw
    rw [ho] at hcl
    exact alt_step ht hcon hz hn hp hk ho hal.1.1.1 hal.1.2 hcl.1.1.1 hcl.1.1.2 hcl.1.2 (fun dn rem wai done σ w O φ α b => exalt_sound ht hcon hz hn hp hk g dn rem wai done b) b hsz hda h hs hd hdone hw
/-! A chain of acting operations, as_ one row. -/
theorem wp_mono1 {K' : Act → World → Prop} {b : Act} (hK : ∀ a w, K a w → K' a w) (h : wpList C.P ops (QT C ds K) [o] b w) : wpList C.P ops (QT C ds K') [o] b w := by
  unfold wpList at h ⊢
  split at h
  · rename_i hw
    rw [if_pos hw]
    rcases h with h | h
    · left
      unfold Oper.wp at h ⊢
      refine upon_alike (o := o) (a := b) (b := b) (fun dd v w hh => ?_) (fun _ _ hh => hh) QT_out _ h
      exact ⟨hh.1, hK _ _ hh.2⟩
    · exact (QT_out h.2).elim
  · rename_i hw
    rw [if_neg hw]
    exact ⟨h.1, hK _ _ h.2⟩
def SI (C : Cx) (ds : List Deferred) (ops : Array Oper) (K : List Nat → Act → World → Prop) : List It → List Nat → Act → World → Prop
  | [], done, b, w => K done b w
  | .q q :: r, done, b, w => ∃ b', Off ops [q] b b' ∧ SI C ds ops K r (done ++ [q]) b' w
  | .a e kpl :: r, done, b, w => (∀ q ∈ done, StabOp C.P ops b w q) ∧ ∀ o, ops[e]? = some o → wpList C.P ops (QT C ds (fun a' w' => SI C ds ops K r kpl a' w')) [o] b w
theorem SI.app {K : List Nat → Act → World → Prop} : ∀ (l r : List It), SI C ds ops K (l ++ r) = SI C ds ops (SI C ds ops K r) l
  | [], r => by funext done b w; simp only [List.nil_append, SI]
  | .q q :: l, r => by funext done b w; simp only [List.cons_append, SI, SI.app l r]
  | .a e kpl :: l, r => by funext done b w; simp only [List.cons_append, SI, SI.app l r]
theorem offTr {q : Nat} {qs : List Nat} {a b c : Act} (h1 : Off ops [q] a b) (h2 : Off ops qs b c) : Off ops (q :: qs) a c :=
  ⟨h1.size.trans h2.size, h1.defers.trans h2.defers, fun t ht => (h1.get t fun x hx => ht x (by rw [List.mem_singleton] at hx; rw [hx]; exact List.mem_cons_self)).trans (h2.get t fun x hx => ht x (List.mem_cons_of_mem _ hx))⟩
theorem SI.qs {K : List Nat → Act → World → Prop} {K2 : List Nat → Act → World → Prop} {r : List It} (h : ∀ done b w, SI C ds ops K r done b w → K2 done b w) : ∀ (qs done : List Nat) (b : Act) (w : World), SI C ds ops K (qsIt qs r) done b w → ∃ b', Off ops qs b b' ∧ K2 (done ++ qs) b' w
  | [], done, b, w, hs => ⟨b, ⟨rfl, rfl, fun _ _ => rfl⟩, by rw [List.append_nil]; exact h _ _ _ hs⟩
  | q :: qs, done, b, w, ⟨b1, h1, h2⟩ => by
    obtain ⟨b', h3, h4⟩ := SI.qs h qs _ _ _ h2
    exact ⟨b', offTr h1 h3, by rw [List.append_assoc] at h4; exact h4⟩
theorem SI.g : ∀ (g : Gt), chainG g = true → ∀ done b w, SI C ds ops (fun done b w => (∀ q ∈ done, StabOp C.P ops b w q) ∧ K b w) (itsOf g) done b w → DRa C ds ops K done g b w
  | .fin, _, done, b, w, h => h
  | .one e kpl qs sub, hg, done, b, w, ⟨h1, h2⟩ => ⟨h1, fun o ho => wp_mono1 (fun a' w' hs => SI.qs (SI.g sub hg) qs kpl a' w' hs) (h2 o ho)⟩
  | .alt _ _ _ _ _, hg, _, _, _, _ => by simp [chainG] at hg
def Inv (z : W0) (C : Cx) (n : Nat) (ds : List Deferred) (ops : Array Oper) (σ : St) (dn : List (Nat × Bool)) (b : Act) (w : World) : Prop := ∃ O φ α, b.tmps.size = n ∧ b.defers = ds ∧ Rl z σ (Pe.envA b) w O φ α ∧ (∀ x, z.O x → O x) ∧ ∀ p ∈ dn, KQ C n ops (Pe.envA b) w O p ∧ KN C n ops (Pe.envA b) w p.1 ∧ ∀ o, ops[p.1]? = some o → synQ o.op = true → p.2 = true
theorem allT_mem : ∀ {dn : List (Nat × Bool)}, allT dn = true → ∀ p ∈ dn, p.2 = true
  | (_, b) :: r, h, p, hp => by
    simp only [allT, Bool.and_eq_true] at h
    rcases List.mem_cons.1 hp with rfl | hp
    · exact h.1
    · exact allT_mem h.2 p hp
theorem Inv.stab {dn : List (Nat × Bool)} {done : List Nat} {b : Act} (h : Inv z C n ds ops σ dn b w) (hdone : ∀ q ∈ done, ∃ st, (q, st) ∈ dn) : ∀ q ∈ done, StabOp C.P ops b w q := by
  obtain ⟨O, φ, α, h1, h2, h3, h4, h5⟩ := h
  intro q hq
  obtain ⟨st, hst⟩ := hdone q hq
  exact (h5 (q, st) hst).2.1.stab (envA_has h1)
theorem KQ.now {q : Nat} (h : KQ C n ops V w O (q, true)) : KN C n ops V w q := by
  obtain ⟨o, d, u, h1, h2, h3, h4, h5⟩ := h
  refine ⟨o, d, u, h1, h2, h3, ?_⟩
  rcases h5 with ⟨k1, k3⟩ | ⟨k1, k2⟩
  · exact .inl ⟨k1, k3⟩
  · exact .inr ⟨k1, k2 rfl w O (Tr.refl _ _)⟩
theorem keptOf_map {kpl : List Nat} {dn : List (Nat × Bool)} : (keptOf kpl dn).map (·.1) = keepN kpl (dn.map (·.1)) := by
  unfold keptOf keepN
  rw [List.filter_map]
  rfl
theorem ex1_sound {K : List Nat → Act → World → Prop} {k : St → List (Nat × Bool) → Prop} {kp : PV → St → Prop} (ht : TbG C.P tb G) (hcon : ∀ f i o, con f i o → Con C.P G f i o) (hz : ∀ w O, z.G w O → G.p w O) (hn : ∀ (q : Nat) (o : Oper), ops[q]? = some o → dOk n o.dst = true) (hp : ∀ v s, kp v s → PanOk z C n ds v s)
    (i : It) (dn : List (Nat × Bool)) (done : List Nat) (b : Act) (w : World) (hc : clrI ops [i] (dn.map (·.1)) = true) (hk : ∀ σ' dn' done' b' w', k σ' dn' → Inv z C n ds ops σ' dn' b' w' → dn'.map (·.1) = dnI i (dn.map (·.1)) → (∀ q ∈ done', ∃ st, (q, st) ∈ dn') → K done' b' w')
    (hw : ex1 tb cty ann con ops kp i σ dn k) (hi : Inv z C n ds ops σ dn b w) (hdone : ∀ q ∈ done, ∃ st, (q, st) ∈ dn) : SI C ds ops K [i] done b w := by
  cases i with
  | q q =>
    obtain ⟨O, φ, α, h1, h2, h3, h4, h5⟩ := hi
    simp only [clrI, Bool.and_eq_true, and_true] at hc
    obtain ⟨d, u, b1, σ1, o, ho, hod, hdn, hcl, hk1, hr1, hq1, hn1, hs1⟩ := exq_sound (k := k) ht.toTbOk (fun w O h => ht.gt w O (hz w O h)) h3 (hn q) hc hw
    have hqv : qvOk ops n [q] [(d, u)] = true := by
      simp only [qvOk, List.all_cons, List.all_nil, List.any_cons, List.any_nil, hdn, dstOf, ho, hod, Option.bind_some, Bool.and_true, Bool.or_false, Bool.true_and, beq_self_eq_true]
    have e4 : Rl z σ1 ([(d, u)] ++ Pe.envA b) w O φ α := hr1
    obtain ⟨b', hb, hoff⟩ := (envA_has h1).off hqv
    have fb := fullV hb h1
    have same : ∀ t, Env.get (Pe.envA b') t = Env.get ((d, u) :: Pe.envA b) t := fun t => (fullA b' t).trans (fb t).symm
    have keep : ∀ p ∈ dn, ∀ o, ops[p.1]? = some o → ∀ e, o.dst = some e → Env.get (Pe.envA b') e = Env.get (Pe.envA b) e ∧ ∀ t ∈ o.looksAt ops, Env.get (Pe.envA b') t = Env.get (Pe.envA b) t := fun p hp o' ho' e he => by
      obtain ⟨n1, n2⟩ := clearD_get hcl p.1 (List.mem_map.2 ⟨p, hp, rfl⟩) o' ho' e he
      exact ⟨(same e).trans (get_cons_ne n1), fun t ht' => (same t).trans (get_cons_ne fun e => n2 (e ▸ ht'))⟩
    refine ⟨b', hoff, hk σ1 _ _ b' w hk1 ⟨O, φ, α, hb.size, by rw [← hoff.defers]; exact h2, e4.envA hb, h4, fun p hp => ?_⟩ rfl fun x hx => ?_⟩
    · rcases List.mem_cons.1 hp with rfl | hp
      · exact ⟨hq1.move (Tr.refl _ _) fun _ _ d _ => ⟨same d, fun t _ => same t⟩, hn1.move fun _ _ d _ => ⟨same d, fun t _ => same t⟩, fun o' ho' => by rw [ho] at ho'; cases ho'; exact hs1⟩
      · obtain ⟨g1, g2, g3⟩ := h5 p hp
        exact ⟨g1.move (Tr.refl _ _) (keep p hp), g2.move (keep p hp), g3⟩
    · rcases List.mem_append.1 hx with hx | hx
      · obtain ⟨st, hst⟩ := hdone x hx
        exact ⟨st, List.mem_cons_of_mem _ hst⟩
      · rw [List.mem_singleton] at hx
        subst hx
        exact ⟨b1, List.mem_cons_self⟩
  | a e kpl =>
    simp only [ex1, frDn_eq] at hw
    split at hw
    · rename_i hT
      split at hw
      · rename_i o ho
        rw [opAt_eq] at ho
        refine ⟨hi.stab hdone, fun o' ho' => ?_⟩
        rw [ho] at ho'
        cases ho'
        simp only [clrI, ho, Bool.and_eq_true, and_true] at hc
        obtain ⟨O, φ, α, h1, h2, h3, h4, h5⟩ := hi
        have hb : Has n (Pe.envA b) b := envA_has h1
        refine wp_frame (exo_sound (z := z.mark w O) (rest := []) (K := fun a' w' => (∀ t, o.dst ≠ some t → a'.tmps[t]? = b.tmps[t]?) → SI C ds ops K [] kpl a' w') ht hcon (fun w O h => hz w O h.1) (hn e o ho) h3.mark h4 (fun σ2 hσ2 V2 w2 hr => ?_) (fun v s hv V w O φ α u φ' α' r s2 hr a ha hda => hp v s hv V w O φ α u φ' α' r.unmark.1 s2 hr a ha hda) hw b hb h2)
        obtain ⟨O2, φ2, α2, r, s2⟩ := hr
        obtain ⟨r', t⟩ := r.unmark
        refine OW.fin fun a' ha' hda' hag => ?_
        have hmv : ∀ p ∈ keptOf kpl dn, KQ C n ops (Pe.envA a') w2 O2 p ∧ KN C n ops (Pe.envA a') w2 p.1 ∧ ∀ o, ops[p.1]? = some o → synQ o.op = true → p.2 = true := fun p hp => by
          obtain ⟨hp1, hp2⟩ := kept_mem hp
          have hq := (h5 p hp1).1.move (V' := Pe.envA a') t fun o' ho' d hd' => by
            have hne : ∀ x, o.dst = some x → d ≠ x ∧ x ∉ o'.looksAt ops := fun x hx => by
              have hc1 := hc.1
              simp only [hx] at hc1
              exact clearD_get hc1 p.1 (by rw [← keptOf_map]; exact List.mem_map.2 ⟨p, hp, rfl⟩) o' ho' d hd'
            refine ⟨?_, fun t ht' => ?_⟩
            · rw [fullA, fullA]
              exact hag d fun e => (hne d e).1 rfl
            · rw [fullA, fullA]
              exact hag t fun e => (hne t e).2 ht'
          have h2 := allT_mem hT p hp
          obtain ⟨q, st⟩ := p
          simp only at h2
          subst h2
          exact ⟨hq, hq.now, fun _ _ _ => rfl⟩
        refine hk σ2 _ kpl a' w2 hσ2 ⟨O2, φ2, α2, ha'.size, hda', r'.envA ha', s2, hmv⟩ keptOf_map fun q hq => ?_
        have hm := List.all_eq_true.1 hc.2 q hq
        obtain ⟨x, hx, e⟩ := List.any_eq_true.1 hm
        obtain ⟨p, hp1, hp2⟩ := List.mem_map.1 hx
        have e := Nat.eq_of_beq_eq_true e
        subst hp2
        exact ⟨p.2, List.mem_filter.2 ⟨by rw [e]; exact hp1, List.any_eq_true.2 ⟨q, hq, by rw [e]; exact Nat.beq_refl _⟩⟩⟩
      · exact hw.elim
    · exact hw.elim
theorem clrI_cons {i : It} {r : List It} {dn : List Nat} (h : clrI ops (i :: r) dn = true) : clrI ops [i] dn = true ∧ clrI ops r (dnI i dn) = true := by
  cases i with
  | q q =>
    simp only [clrI, Bool.and_eq_true, and_true] at h ⊢
    exact h
  | a e kpl =>
    simp only [clrI, Bool.and_eq_true, and_true] at h ⊢
    exact h
theorem clrI_app : ∀ {l r : List It} {dn : List Nat}, clrI ops (l ++ r) dn = true → clrI ops l dn = true ∧ clrI ops r (dnIs l dn) = true
  | [], _, _, h => ⟨rfl, h⟩
  | i :: l, r, dn, h => by
    obtain ⟨h1, h2⟩ := clrI_cons h
    obtain ⟨h3, h4⟩ := clrI_app h2
    refine ⟨?_, h4⟩
    cases i with
    | q q =>
      simp only [clrI, Bool.and_eq_true, and_true] at h1 ⊢
      exact ⟨h1, h3⟩
    | a e kpl =>
      simp only [clrI, Bool.and_eq_true, and_true] at h1 ⊢
      exact ⟨h1, h3⟩
theorem exits_sound {K : List Nat → Act → World → Prop} {k : St → List (Nat × Bool) → Prop} {kp : PV → St → Prop} (ht : TbG C.P tb G) (hcon : ∀ f i o, con f i o → Con C.P G f i o) (hz : ∀ w O, z.G w O → G.p w O) (hn : ∀ (q : Nat) (o : Oper), ops[q]? = some o → dOk n o.dst = true) (hp : ∀ v s, kp v s → PanOk z C n ds v s) :
    ∀ (l : List It) (σ : St) (dn : List (Nat × Bool)) (done : List Nat) (b : Act) (w : World), clrI ops l (dn.map (·.1)) = true → (∀ σ' dn' done' b' w', k σ' dn' → Inv z C n ds ops σ' dn' b' w' → dn'.map (·.1) = dnIs l (dn.map (·.1)) → (∀ q ∈ done', ∃ st, (q, st) ∈ dn') → K done' b' w') →
      exits tb cty ann con ops kp k l σ dn → Inv z C n ds ops σ dn b w → (∀ q ∈ done, ∃ st, (q, st) ∈ dn) → SI C ds ops K l done b w
  | [], σ, dn, done, b, w, _, hk, hw, hi, hd => hk σ dn done b w hw hi rfl hd
  | i :: r, σ, dn, done, b, w, hc, hk, hw, hi, hd => by
    obtain ⟨hc1, hc2⟩ := clrI_cons hc
    have := ex1_sound (K := SI C ds ops K r) ht hcon hz hn hp i dn done b w hc1 (fun σ' dn' done' b' w' hk' hi' e hd' =>
      exits_sound ht hcon hz hn hp r σ' dn' done' b' w' (by rw [e]; exact hc2) (fun σ2 dn2 done2 b2 w2 k2 i2 e2 d2 => hk σ2 dn2 done2 b2 w2 k2 i2 (by rw [e2, e]; rfl) d2) hk' hi' hd') hw hi hd
    rw [← SI.app] at this
    exact this
theorem Inv.cut {s : St} {c : Cut} {dn : List (Nat × Bool)} {l : List Nat} {b : Act} (h : Inv z C n ds ops σ dn b w) (e : σ.cut c = some s) (hm : l = dn.map (·.1)) : Inv z C n ds ops s (l.map fun q => (q, synO ops q)) b w := by
  obtain ⟨O, φ, α, h1, h2, h3, h4, h5⟩ := h
  obtain ⟨O', α', h', hs'⟩ := cut_sound h3.mark h4 e
  obtain ⟨h'', t⟩ := h'.unmark
  refine ⟨O', φ, α', h1, h2, h'', hs', fun p hp => ?_⟩
  obtain ⟨q, hq, rfl⟩ := List.mem_map.1 hp
  rw [hm] at hq
  obtain ⟨p, hp2, rfl⟩ := List.mem_map.1 hq
  obtain ⟨g1, g2, g3⟩ := h5 p hp2
  have g4 : synO ops p.1 = true → p.2 = true := fun hs => by
    obtain ⟨o, d, u, k1, _⟩ := g1
    unfold synO at hs
    rw [opAt_eq, k1] at hs
    exact g3 o k1 hs
  refine ⟨?_, g2, fun o ho hs => by show synO ops p.1 = true; unfold synO; rw [opAt_eq, ho]; exact hs⟩
  have hmv := g1.move (V' := Pe.envA b) t fun _ _ _ _ => ⟨rfl, fun _ _ => rfl⟩
  obtain ⟨o, d, u, k1, k2, k3, k4, k5⟩ := hmv
  refine ⟨o, d, u, k1, k2, k3, k4, ?_⟩
  rcases k5 with k5 | ⟨k5, k6⟩
  · exact .inl k5
  · exact .inr ⟨k5, fun hs => k6 (g4 hs)⟩
theorem names_of {done l : List Nat} {dn : List (Nat × Bool)} (h : ∀ q ∈ done, ∃ st, (q, st) ∈ dn) (hm : l = dn.map (·.1)) : ∀ q ∈ done, ∃ st, (q, st) ∈ l.map fun q => (q, synO ops q) := fun q hq => by
  obtain ⟨st, hst⟩ := h q hq
  exact ⟨_, List.mem_map.2 ⟨q, by rw [hm]; exact List.mem_map.2 ⟨_, hst, rfl⟩, rfl⟩⟩
theorem exlin_sound {K : List Nat → Act → World → Prop} {k : St → Prop} {kp : PV → St → Prop} (ht : TbG C.P tb G) (hcon : ∀ f i o, con f i o → Con C.P G f i o) (hz : ∀ w O, z.G w O → G.p w O) (hn : ∀ (q : Nat) (o : Oper), ops[q]? = some o → dOk n o.dst = true) (hp : ∀ v s, kp v s → PanOk z C n ds v s)
    (hk : ∀ σ' dn' done' b' w', k σ' → Inv z C n ds ops σ' dn' b' w' → (∀ q ∈ done', ∃ st, (q, st) ∈ dn') → K done' b' w') :
    ∀ (l : List (Nat × Nat × Cut)) (its : List It) (σ : St) (dn : List (Nat × Bool)) (done : List Nat) (b : Act) (w : World), clrI ops its (dn.map (·.1)) = true → exlin tb cty ann con ops kp k l its σ dn → Inv z C n ds ops σ dn b w → (∀ q ∈ done, ∃ st, (q, st) ∈ dn) → SI C ds ops K its done b w
  | [], its, σ, dn, done, b, w, hc, hw, hi, hd => exits_sound ht hcon hz hn hp its σ dn done b w hc (fun σ' dn' done' b' w' hk' hi' _ hd' => hk σ' dn' done' b' w' hk' hi' hd') hw hi hd
  | (n0, m, c) :: r, its, σ, dn, done, b, w, hc, hw, hi, hd => by
    rw [← List.take_append_drop n0 its] at hc ⊢
    obtain ⟨hc1, hc2⟩ := clrI_app hc
    rw [SI.app]
    refine exits_sound ht hcon hz hn hp (its.take n0) σ dn done b w hc1 (fun σ1 dn1 done1 b1 w1 hk1 hi1 e1 hd1 => ?_) hw hi hd
    obtain ⟨J, h1, h2⟩ := hk1
    rw [← e1] at hc2
    rw [← List.take_append_drop m (its.drop n0)] at hc2 ⊢
    obtain ⟨hc3, hc4⟩ := clrI_app hc2
    rw [SI.app]
    refine exits_sound ht hcon hz hn hp ((its.drop n0).take m) σ1 dn1 done1 b1 w1 hc3 (fun σ2 dn2 done2 b2 w2 hk2 hi2 e2 hd2 => ?_) h1 hi1 hd1
    obtain ⟨s', e, hj⟩ := wt_some hk2
    exact exlin_sound ht hcon hz hn hp hk r _ s' _ done2 b2 w2 (by unfold dnA; rw [List.map_map]; simpa [Function.comp_def] using hc4) (St.frc_eq.mp (h2 s' (St.frc_eq.mp hj))) (hi2.cut e e2.symm) (names_of hd2 e2.symm)
theorem draw_region {k : St → Prop} {kp : PV → St → Prop} {d : Drw} {id : Nat} {todo : List Item} (ht : TbG C.P tb G) (hcon : ∀ f i o, con f i o → Con C.P G f i o) (hz : ∀ w O, z.G w O → G.p w O) (hdo : DrOk C ops) (hok : drawOk ops d.anc n d.E d.qs d.g = true) (hcg : clrG ops d.g d.qs = true) (hli : (match d.lin with | some _ => chainG d.g && clrI ops (qsIt d.qs (itsOf d.g)) [] | none => true) = true) (hn : ops.toList.all (fun o => dOk n o.dst) = true)
    (hw : exreg tb cty ann con ops kp k d σ) (hk : ∀ s, k s → ∀ V w, RS z s V w → TW C n ds todo V w) (hp : ∀ v s, kp v s → PanOk z C n ds v s) (V : Env) (w : World) (hr : RS z σ V w) : TW C n ds (.code (.region id ops true) :: todo) V w := by
  have hn' : ∀ (q : Nat) (o : Oper), ops[q]? = some o → dOk n o.dst = true := fun q o ho => List.all_eq_true.1 hn o (by
    have := List.mem_of_getElem? (l := ops.toList) (i := q) (a := o) (by simpa using ho)
    exact this)
  cases hl : d.lin with
  | some l =>
    rw [hl] at hli
    simp only [Bool.and_eq_true] at hli
    unfold exreg at hw
    rw [hl] at hw
    obtain ⟨O, φ, α, h, hs⟩ := hr
    have := TW.drawP (C := C) (n := n) (ds := ds) (k := todo) (L := V) (w := w) (id := id) (l := ops.toList) d.anc d.E d.qs d.g ht.mix (by simpa using hok) (by simpa using hdo) fun w' x a ha hda => by
      have h2 := h.moveN x
      have := exlin_sound (C := C) (ds := ds) (G := G) (z := z) (K := fun done b w => (∀ q ∈ done, StabOp C.P ops b w q) ∧ TWa C todo b w) ht hcon hz hn' hp (fun σ' dn' done' b' w' hks hi hd => by
        refine ⟨hi.stab hd, ?_⟩
        obtain ⟨O, φ, α, h1, h2, h3, h4, h5⟩ := hi
        exact hk σ' hks _ _ ⟨_, _, _, h3, h4⟩ b' (envA_has h1) h2) l (qsIt d.qs (itsOf d.g)) σ [] [] a w' hli.2 hw ⟨O, φ, α, ha.size, hda, h2.envA ha, hs, by simp⟩ (by simp)
      obtain ⟨b, e1, e2⟩ := SI.qs (SI.g (C := C) d.g hli.1) d.qs [] a w' this
      exact ⟨b, by simpa using e1, by simpa using e2⟩
    simpa using this
  | none =>
  obtain ⟨k0, hw, hk⟩ : ∃ k0 : St → Prop, exdraw tb cty ann con ops d.cs kp k0 d.g d.qs σ ∧ ∀ s, k0 s → ∀ V w, RS z s V w → TW C n ds todo V w := by
    revert hw
    unfold exreg
    rw [hl]
    simp only
    split
    · exact fun hw => ⟨_, hw, hk⟩
    · rintro ⟨J, h1, h2⟩
      refine ⟨_, h1, fun s hs V w hr => ?_⟩
      obtain ⟨s', e, hj⟩ := cutK_some hs
      exact hk s' (St.frc_eq.mp (h2 s' hj)) V w (hr.cut e)
  obtain ⟨O, φ, α, h, hs⟩ := hr
  have hal : altsOk d.anc d.E (without (quietOf ops d.E) d.qs) d.qs d.g = true := by
    simp only [drawOk, Bool.and_eq_true] at hok
    exact hok.2
  simp only [clrG, Bool.and_eq_true] at hcg
  have := TW.drawP (C := C) (n := n) (ds := ds) (k := todo) (L := V) (w := w) (id := id) (l := ops.toList) d.anc d.E d.qs d.g ht.mix (by simpa using hok) (by simpa using hdo) fun w' x a ha hda => by
    have h2 := h.moveN x
    unfold exdraw at hw
    obtain ⟨b, σ1, dn1, e1, e2, e3, e4, e5, e6, e7, e8, e9⟩ := group_sound (C := C) (ds := ds) (done := []) (k := fun σ1 dn1 => exalt tb cty ann con ops d.cs kp k0 d.g dn1 σ1) ht.toTbOk (fun w O h => ht.gt w O (hz w O h)) hn' d.qs a ha.size hda (h2.envA ha) (by simp) (by simp) (by simpa using hcg.1) hw
    refine ⟨b, by simpa using e1, ?_⟩
    have := exalt_sound (C := C) (K := TWa C todo) (G := G) (z := z) (anc := d.anc) ht hcon hz hn' hp (fun s hks V w hr a ha hda => hk s hks V w hr a ha hda) d.g dn1 _ _ d.qs b e2 e3 e4 hs e5 (by simpa using e6) (by simpa using e7) hal (by rw [e8]; simpa using hcg.2) e9
    simpa using this
  simpa using this
end
end
section
section
variable {z : W0} {V : Env} {w : World} {O : Nat → Prop} {φ : Nat → Nat} {α : Nat → Value} {σ : St} {C : Cx} {n : Nat} {ops : Array Oper} {o : Oper} {rest : List Oper} {K : Act → World → Prop} {G : GI} {con : Nat → CIn → COut → Prop} {tb : Tb} {cty : List (Nat × List (Option (Nat × Nat)))} {ann : Ann} {ds : List Deferred}
/-! Control. -/
def KS (z : W0) (C : Cx) (n : Nat) (ds : List Deferred) (todo : List Item) (s : St) : Prop := ∀ V w, RS z s V w → TW C n ds todo V w
def FS (z : W0) (C : Cx) (n : Nat) (ds : List Deferred) (todo : List Item) : Flow → St → Prop
  | .normal, s => KS z C n ds todo s
  | .exit i, s => ∃ k', exitTo i todo = some k' ∧ KS z C n ds k' s
  | .ret, s => ∀ k', KS z C n ds (.code .ret :: k') s
  | .pan v, s => PanOk z C n ds v s
theorem KS.cut {todo : List Item} {s : St} {c : Cut} (e : σ.cut c = some s) (h : KS z C n ds todo s) : KS z C n ds todo σ := fun V w hr => h V w (hr.cut e)
theorem FS.code {c : Code} {todo : List Item} {fl : Flow} {s : St} (h : FS z C n ds todo fl s) (hn : fl ≠ .normal) : FS z C n ds (.code c :: todo) fl s := by
  cases fl with
  | normal => exact (hn rfl).elim
  | exit i => exact h
  | ret => exact h
  | pan v => exact h
theorem FS.loop {c : Code} {todo : List Item} {fl : Flow} {s : St} (h : FS z C n ds todo fl s) (hn : fl ≠ .normal) : FS z C n ds (.inLoop c :: todo) fl s := by
  cases fl with
  | normal => exact (hn rfl).elim
  | exit i => exact h
  | ret => exact h
  | pan v => exact h
/-- Every operation's slot is the function's. -/
def okC (ann : Ann) (n : Nat) : Code → Bool
  | .region id ops dr => (ops.toList.all fun o => dOk n o.dst) && (match dr with
    | true => match lk ann.drw id with
      | some d => drawOk ops d.anc n d.E d.qs d.g && clrG ops d.g d.qs && (match d.lin with | some _ => chainG d.g && clrI ops (qsIt d.qs (itsOf d.g)) [] | none => true)
      | none => false
    | false => true)
  | .seq a b => okC ann n a && okC ann n b
  | .cond _ a b => okC ann n a && okC ann n b
  | .block _ a => okC ann n a
  | .loop a => okC ann n a
  | _ => true
/-- No region of open order that tells a slot of a result. -/
def noDraw (fn : Func) : Code → Bool
  | .region _ ops dr => !dr || ops.toList.all fun o => match o.dst with
    | some d => fn.results.toList.all fun r => !Nat.beq (rslot r) d
    | none => true
  | .seq a b => noDraw fn a && noDraw fn b
  | .cond _ a b => noDraw fn a && noDraw fn b
  | .block _ a => noDraw fn a
  | .loop a => noDraw fn a
  | _ => true
theorem noDraw_ok {C : Cx} {id : Nat} {ops : Array Oper} (h : C.lv = false ∨ noDraw C.fn (.region id ops true) = true) : DrOk C ops := by
  rcases h with h | h
  · exact .inl h
  · refine .inr fun q t hq r hr e => ?_
    simp only [noDraw, Bool.not_true, Bool.false_or, List.all_eq_true] at h
    unfold dstOf at hq
    obtain ⟨o, ho, hd⟩ := Option.bind_eq_some_iff.1 hq
    have h1 := h o (by simpa using Array.mem_of_getElem? ho)
    rw [hd] at h1
    have h2 := List.all_eq_true.1 h1 r hr
    rw [e] at h2
    simp at h2
theorem ex_sound (ht : TbG C.P tb G) (hcon : ∀ f i o, con f i o → Con C.P G f i o) (hz : ∀ w O, z.G w O → G.p w O) : ∀ (c : Code) (σ : St) (k : Flow → St → Prop) (todo : List Item), okC ann n c = true → (C.lv = false ∨ noDraw C.fn c = true) → ex tb cty ann con c σ k → (∀ fl s, k fl s → FS z C n ds todo fl s) → KS z C n ds (.code c :: todo) σ
  | .skip, σ, k, todo, _, _, hw, hk => fun V w hr => TW.skip (hk _ _ hw V w hr)
  | .label _, σ, k, todo, _, _, hw, hk => fun V w hr => TW.label (hk _ _ hw V w hr)
  | .ret, σ, k, todo, _, _, hw, hk => fun V w hr => hk _ _ hw todo V w hr
  | .exit i, σ, k, todo, _, _, hw, hk => fun V w hr => by
    obtain ⟨k', h1, h2⟩ := hk _ _ hw
    exact TW.exit h1 (h2 V w hr)
  | .region id ops dr, σ, k, todo, hn, hdr, hw, hk => by
    simp only [okC, Bool.and_eq_true] at hn
    cases dr with
    | true =>
      obtain ⟨d, hd, hw⟩ := wt_some hw
      have hok := hn.2
      simp only [hd, Bool.and_eq_true] at hok
      intro V w hr
      exact draw_region ht hcon hz (noDraw_ok hdr) hok.1.1 hok.1.2 hok.2 hn.1 hw (fun s hs V w hr => hk _ _ hs V w hr) (fun v s hs => hk _ _ hs) V w hr
    | false =>
      have hn := hn.1
      intro V w hr
      have := exsegs_sound (K := TWa C todo) (ops := ops) (G := G) ht hcon hz (k := fun s => k .normal s) (kp := fun v s => k (.pan v) s) (fun s hs V w hr => OW.done (hk _ _ hs V w hr)) (fun v s hs => hk _ _ hs) _ ops.toList σ hn hw V w hr
      have h2 := TW.region (id := id) (l := ops.toList) (k := todo) (by simpa using this)
      simpa using h2
  | .seq a b, σ, k, todo, hn, hdr, hw, hk => by
    simp only [okC, Bool.and_eq_true] at hn
    have hda : C.lv = false ∨ noDraw C.fn a = true := hdr.imp id fun hh => by simp only [noDraw, Bool.and_eq_true] at hh; exact hh.1
    have hdb : C.lv = false ∨ noDraw C.fn b = true := hdr.imp id fun hh => by simp only [noDraw, Bool.and_eq_true] at hh; exact hh.2
    intro V w hr
    refine TW.seq ?_
    unfold ex at hw
    split at hw
    · rename_i c _
      obtain ⟨J, h1, h2⟩ := hw
      refine ex_sound ht hcon hz a σ _ (.code b :: todo) hn.1 hda h1 (fun fl s hs => ?_) V w hr
      cases fl with
      | normal =>
        obtain ⟨s', e, hj⟩ := cutK_some hs
        exact (ex_sound ht hcon hz b s' k todo hn.2 hdb (St.frc_eq.mp (h2 s' hj)) hk).cut e
      | exit i => exact (hk _ _ hs).code (by simp)
      | ret => exact (hk _ _ hs).code (by simp)
      | pan v => exact (hk _ _ hs).code (by simp)
    · refine ex_sound ht hcon hz a σ _ (.code b :: todo) hn.1 hda hw (fun fl s hs => ?_) V w hr
      cases fl with
      | normal => exact ex_sound ht hcon hz b s k todo hn.2 hdb hs hk
      | exit i => exact (hk _ _ hs).code (by simp)
      | ret => exact (hk _ _ hs).code (by simp)
      | pan v => exact (hk _ _ hs).code (by simp)
  | .cond c a b, σ, k, todo, hn, hdr, hw, hk => by
    simp only [okC, Bool.and_eq_true] at hn
    have hda : C.lv = false ∨ noDraw C.fn a = true := hdr.imp id fun hh => by simp only [noDraw, Bool.and_eq_true] at hh; exact hh.1
    have hdb : C.lv = false ∨ noDraw C.fn b = true := hdr.imp id fun hh => by simp only [noDraw, Bool.and_eq_true] at hh; exact hh.2
    intro V w hr
    unfold ex at hw
    split at hw
    · rename_i x hx
      obtain ⟨O, φ, α, h, hs⟩ := hr
      obtain ⟨u, h1, h2⟩ := h.ev hx
      simp only [VR] at h2
      subst h2
      refine TW.cond h1 (fun e => ?_) (fun e => ?_)
      · subst e
        exact ex_sound ht hcon hz a σ k todo hn.1 hda hw hk V w ⟨O, φ, α, h, hs⟩
      · subst e
        exact ex_sound ht hcon hz b σ k todo hn.2 hdb hw hk V w ⟨O, φ, α, h, hs⟩
    · exact hw.elim
  | .block i a, σ, k, todo, hn, hdr, hw, hk => by
    intro V w hr
    refine TW.block ?_
    unfold ex at hw
    refine ex_sound ht hcon hz a σ _ (.inBlock i :: todo) hn hdr hw (fun fl s hs => ?_) V w hr
    cases fl with
    | normal => exact fun V w hr => TW.inBlock (hk _ _ hs V w hr)
    | exit j =>
      simp only [kBlk] at hs
      cases e : Nat.beq i j with
      | true =>
        rw [e] at hs
        have e := Nat.eq_of_beq_eq_true e
        subst e
        exact ⟨todo, by simp [exitTo], hk _ _ hs⟩
      | false =>
        rw [e] at hs
        have e := Nat.ne_of_beq_eq_false e
        obtain ⟨k', h1, h2⟩ := hk _ _ hs
        exact ⟨k', by simp [exitTo, e, h1], h2⟩
    | ret => exact hk _ _ hs
    | pan v => exact hk _ _ hs
  | .loop a, σ, k, todo, hn, hdr, hw, hk => by
    unfold ex at hw
    obtain ⟨c, hc, hw⟩ := wt_some hw
    obtain ⟨s0, e0, hw⟩ := wt_some hw
    rw [St.frc_eq] at hw
    have key : KS z C n ds (.code a :: .inLoop a :: todo) s0 := hw (KS z C n ds (.code a :: .inLoop a :: todo)) fun s hs => by
      refine ex_sound ht hcon hz a s _ (.inLoop a :: todo) hn hdr (St.frc_eq.mp hs) (fun fl s' hs' => ?_)
      cases fl with
      | normal =>
        obtain ⟨s2, e2, hj⟩ := cutK_some hs'
        exact fun V w hr => TW.inLoop (hj V w (hr.cut e2))
      | exit i => exact (hk _ _ hs').loop (by simp)
      | ret => exact (hk _ _ hs').loop (by simp)
      | pan v => exact (hk _ _ hs').loop (by simp)
    exact fun V w hr => TW.loop (key V w (hr.cut e0))
  | .rangeFunc .., σ, k, todo, hn, _, hw, hk => hw.elim
  | .scope _, σ, k, todo, hn, _, hw, hk => hw.elim
  | .goto _, σ, k, todo, hn, _, hw, hk => hw.elim
  | .refuse _, σ, k, todo, hn, _, hw, hk => hw.elim

/-! A function's end and beginning. -/
theorem agg_true {m : Nat} {cs : List PV} {v : PV} (h : aggOf true m cs = some v) : v = .agg cs := by
  simp only [aggOf] at h
  split at h
  · cases h; rfl
  · cases h
theorem agg_false {m : Nat} {cs : List PV} {v : PV} (h : aggOf false m cs = some v) : cs = [v] := by
  cases cs with
  | nil => simp [aggOf] at h
  | cons c cs =>
    cases cs with
    | nil => simp [aggOf] at h; rw [h]
    | cons d cs => simp [aggOf] at h
theorem resV_ok (ht : TbG C.P tb G) (h : Rl z σ V w O φ α) : ∀ {res : List ResultVar} {rs : List PV}, resV tb σ res = some rs → ∃ us, RVs C V w res us ∧ VRs w O φ α rs us
  | [], rs, e => by cases e; exact ⟨[], rfl, rfl⟩
  | .tmp t :: r, rs, e => by
    unfold resV at e
    split at e
    · rename_i v vs h1 h2
      cases e
      obtain ⟨u, h3, h4⟩ := h.env t v h1
      obtain ⟨us, h5, h6⟩ := resV_ok ht h h2
      exact ⟨u :: us, ⟨u, us, rfl, h3, h5⟩, u, us, rfl, h4, h6⟩
    · cases e
  | .cell t T :: r, rs, e => by
    unfold resV at e
    split at e
    · rename_i b hb
      split at e
      · rename_i ex s h1 h2
        split at e
        · rename_i v vs h0 h3 h4
          cases e
          obtain ⟨u, h5, h6⟩ := h.env t _ hb
          simp only [VR] at h6
          subst h6
          obtain ⟨_, xs, h7, h8⟩ := h.box b ex (lkB_some h1).1
          have h7 := h7.un (lkB_some h1).2
          obtain ⟨us, h9, h10⟩ := resV_ok ht h h4
          have hl := VRs.len h8
          have h0 := Nat.eq_of_beq_eq_true h0
          obtain ⟨g, m⟩ := s
          cases g with
          | true =>
            obtain rfl := agg_true h3
            exact ⟨_ :: us, ⟨_, us, rfl, ⟨_, _, xs, true, m, h5, ht.shp _ _ h2, h7, by rw [hl]; exact h0, rfl⟩, h9⟩, _, us, rfl, ⟨xs, rfl, h8⟩, h10⟩
          | false =>
            rw [agg_false h3] at h8 h0
            obtain ⟨x, xs', rfl, k1, k2⟩ := h8
            cases k2
            exact ⟨x :: us, ⟨x, us, rfl, ⟨_, _, [x], false, m, h5, ht.shp _ _ h2, h7, h0, rfl⟩, h9⟩, x, us, rfl, k1, h10⟩
        · cases e
      · cases e
    · cases e
theorem rng_get : ∀ {n i j x : Nat}, (rng n i)[j]? = some x ↔ j < n ∧ x = i + j
  | 0, i, j, x => by simp [rng]
  | n + 1, i, 0, x => by simp [rng]; exact ⟨fun h => h.symm, fun h => h.symm⟩
  | n + 1, i, j + 1, x => by
    simp only [rng, List.getElem?_cons_succ]
    rw [rng_get]
    omega
theorem rng_len : ∀ {n i : Nat}, (rng n i).length = n
  | 0, i => rfl
  | n + 1, i => by simp [rng, rng_len]
theorem arrsOut_get {σ : St} : ∀ {A : List (Option (Nat × Nat × List (List D)))} {i : Nat}, arrsOut σ i A → ∀ (j : Nat) (e : Nat × Nat × List (List D)), A[j]? = some (some e) → ∃ x, lk σ.A (i + j) = some x ∧ x.T = e.1 ∧ x.n = e.2.1 ∧ x.l = e.2.2
  | [], i, _, j, e, h => by simp at h
  | none :: r, i, hb, j, e, h => by
    cases j with
    | zero => simp at h
    | succ j =>
      obtain ⟨x, k1, k2⟩ := arrsOut_get (i := i + 1) hb j e (by simpa using h)
      exact ⟨x, by rw [show i + (j + 1) = i + 1 + j by omega]; exact k1, k2⟩
  | some e0 :: r, i, hb, j, e, h => by
    obtain ⟨h1, h2⟩ := hb
    cases j with
    | zero =>
      simp at h
      subst h
      split at h1
      · exact ⟨_, by assumption, h1⟩
      · exact h1.elim
    | succ j =>
      obtain ⟨x, k1, k2⟩ := arrsOut_get h2 j e (by simpa using h)
      exact ⟨x, by rw [show i + (j + 1) = i + 1 + j by omega]; exact k1, k2⟩
theorem en_get {β : Type} : ∀ {l : List β} {i t : Nat} {v : β}, lk (en i l) t = some v → i ≤ t ∧ l[t - i]? = some v
  | [], _, _, _, h => by cases h
  | x :: l, i, t, v, h => by
    unfold en at h
    rcases lk_cons h with ⟨rfl, rfl⟩ | ⟨h1, h2⟩
    · exact ⟨Nat.le_refl _, by simp⟩
    · obtain ⟨h3, h4⟩ := en_get h2
      refine ⟨by omega, ?_⟩
      rw [show t - i = (t - (i + 1)) + 1 by omega]
      simpa using h4
end
/-- What a call begins with. -/
def w0Of (G : GI) (i : CIn) (w : World) (O : Nat → Prop) (φ : Nat → Nat) (α : Nat → Value) (hF : ∀ x, FI i φ α x → O x) (hB : Bd O w) : W0 := ⟨w, O, FI i φ α, G.p, hF, hB, G.tr, φ⟩
theorem Out.of {C : Cx} {n : Nat} {V : Env} {w : World} {res : List ResultVar} {us : List Value} (h : C.fn.results = res.toArray) (hr : RVs C V w res us) : Out C n V w (retU us) := by
  have hl : us.length = res.length := by
    clear h
    induction res generalizing us with
    | nil => cases hr; rfl
    | cons r res ih =>
      obtain ⟨v, vs, rfl, _, h2⟩ := hr
      simp [ih h2]
  match res, us, hr, hl, h with
  | [r], [u], hr, _, h =>
    obtain ⟨v, vs, e, h1, h2⟩ := hr
    cases e
    exact Out.single h h1
  | [], [], hr, _, h => exact Out.many h hr rfl
  | r :: r2 :: rs, u :: u2 :: us, hr, _, h => exact Out.many h hr rfl
theorem finO_ok0 {C : Cx} {n : Nat} {tb : Tb} {ann : Ann} {G : GI} {i : CIn} {w w' : World} {O O' : Nat → Prop} {φ φ' : Nat → Nat} {α α' : Nat → Value} {hF : ∀ x, FI i φ α x → O x} {hB : Bd O w} {σ : St} {V : Env} {vs : List PV} {B : List Bx} {A : List (Option (Nat × Nat × List (List D)))} {res : List ResultVar}
    (ht : TbG C.P tb G) {g : Nat → Nat} (hkp : ∀ b, b < i.B.length → φ' b = φ b) (h : Rl { w0Of G i w O φ α hF hB with φ0 := g } σ V w' O' φ' α') (hs : ∀ x, O x → O' x) (hnb : ann.nb = i.B.length) (h1000 : i.B.length ≤ 1000) (hw : finO tb ann res σ vs B A) :
    ∃ us, (C.fn.results = res.toArray → Out C n V w' (retU us)) ∧ ∃ O' φ' α', DoneOk i w O φ α vs B A w' us O' φ' α' := by
  obtain ⟨σ1, e1, hw⟩ := wt_some hw
  obtain ⟨rs, e2, hw⟩ := wt_some hw
  obtain ⟨σ2, e3, hw⟩ := wt_some hw
  obtain ⟨nk, e4, e5, e6, e7, e8⟩ := wt_some hw
  obtain ⟨α2, h1⟩ := home_sound _ (σ := { σ with L := keepK (rslots res) σ.L }) (h.mono (fun _ _ => lk_keepK) (Le.refl _) (Le.refl _)) e1
  obtain ⟨us, h2, h3⟩ := resV_ok (C := C) ht h1 e2
  obtain ⟨h4, h5, h6, h7⟩ := freeze_sound _ h1 hs e3
  simp only [Bool.and_eq_true] at e8
  obtain ⟨⟨⟨⟨r1, r2⟩, r3⟩, r4⟩, r5⟩ := e8
  have r5 := Nat.eq_of_beq_eq_true r5
  have r4 : ∀ x ∈ nk, 1000 ≤ x := fun x hx => Nat.le_of_ble_eq_true (List.all_eq_true.1 r4 x hx)
  rw [hnb] at e5 e6 r5
  have lk' : (rng i.B.length 0 ++ nk).length = B.length := by rw [List.length_append, rng_len, r5]
  have kget : ∀ j x, (rng i.B.length 0 ++ nk)[j]? = some x → (j < i.B.length ∧ x = j) ∨ (i.B.length ≤ j ∧ nk[j - i.B.length]? = some x ∧ 1000 ≤ x) := fun j x hx => by
    rcases Nat.lt_or_ge j i.B.length with hj | hj
    · rw [List.getElem?_append_left (by rw [rng_len]; exact hj)] at hx
      have := rng_get.1 hx
      exact .inl ⟨hj, by omega⟩
    · rw [List.getElem?_append_right (by rw [rng_len]; exact hj), rng_len] at hx
      exact .inr ⟨hj, hx, r4 x (List.mem_of_getElem? hx)⟩
  have kinj : ∀ j j' x, (rng i.B.length 0 ++ nk)[j]? = some x → (rng i.B.length 0 ++ nk)[j']? = some x → j = j' := fun j j' x hx hx' => by
    rcases kget j x hx with ⟨k1, k2⟩ | ⟨k1, k2, k3⟩ <;> rcases kget j' x hx' with ⟨m1, m2⟩ | ⟨m1, m2, m3⟩
    · omega
    · omega
    · omega
    · have := nodupN_spec r3 _ _ x k2 m2
      omega
  have kd : ∀ j x, (rng i.B.length 0 ++ nk)[j]? = some x → (rng i.B.length 0 ++ nk).getD j 0 = x := fun j x e => by simp only [List.getD, e]; rfl
  have kex : ∀ j, j < B.length → ∃ x, (rng i.B.length 0 ++ nk)[j]? = some x := fun j hj => ⟨(rng i.B.length 0 ++ nk)[j]'(by omega), by simp [show j < (rng i.B.length 0 ++ nk).length by omega]⟩
  have hb : ∀ j x, j < B.length → (rng i.B.length 0 ++ nk)[j]? = some x → (fun j => φ' ((rng i.B.length 0 ++ nk).getD j 0)) j = φ' x := fun j x _ e => by simp only [kd j x e]
  have ha : ∀ j x, j < A.length → (rng A.length 0)[j]? = some x → α2 j = α2 x := fun j x _ e => by
    have := (rng_get.1 e).2
    rw [this, Nat.zero_add]
  have toCall : ∀ {Q : Nat → Prop} {vs : List PV} {us : List Value}, inR.go B.length A.length vs = true → VRs w' Q φ' α2 (renP.go (rng i.B.length 0 ++ nk) (rng A.length 0) vs) us → VRs w' Q (fun j => φ' ((rng i.B.length 0 ++ nk).getD j 0)) α2 vs us :=
    fun {Q vs us} hi hr => rens_in hb ha (by omega) (by rw [rng_len]; exact Nat.le_refl _) vs us hi hr
  have hres2 := nrms_ok (σ := σ1) (O := O') (φ := φ') (α := α2) (O2 := DelL O' α2 (lk σ1.A) (lent.go vs rs)) (fun x hx => hx.1) h1.arr vs rs us (fun a ha e he x hx => hx.2 a ha (by rw [he]; rfl)) h3
  rw [e5] at hres2
  have boxK : ∀ (j : Nat) (e : Bx), B[j]? = some e → ∃ (b : Nat) (x : Bx), (rng i.B.length 0 ++ nk)[j]? = some b ∧ lk σ2.B b = some x ∧ x.T = e.T ∧ nrm.go { σ2 with A := [] } e.cs x.cs = renP.go (rng i.B.length 0 ++ nk) (rng A.length 0) e.cs := boxesOk_get e6
  have boxE : ∀ j, j < B.length → ∃ (b : Nat) (x : Bx), (rng i.B.length 0 ++ nk)[j]? = some b ∧ lk σ2.B b = some x := fun j hj => by
    obtain ⟨b, x, k1, k2, _⟩ := boxK j B[j] (by simp)
    exact ⟨b, x, k1, k2⟩
  have arrK := arrsOut_get e7
  refine ⟨us, fun hres => Out.of hres h2, _, _, _, ⟨toCall r1 hres2, ⟨fun j e he => ?_, fun j e he => ?_, fun a b la lb hn => ?_, fun a b e e' h8 h9 hn x hx => ?_, fun a b e h8 lb => ?_⟩, fun b hb' => ?_, by omega, h4.bd, h4.tr0, h5, h4.only, h4.ext, fun b lb hb' => ?_, fun a e x h8 hx => ?_⟩⟩
  · obtain ⟨b, x, k1, k2, k3, k4⟩ := boxK j e he
    obtain ⟨k5, xs, k6, k7⟩ := h4.box b x k2
    simp only [kd j b k1]
    refine ⟨k5, xs, k3 ▸ k6, ?_⟩
    have h8 := nrms_ok (σ := { σ2 with A := [] }) (O := DelL O' α2 (lk σ1.A) (lent.go vs rs)) (φ := φ') (α := α2) (O2 := DelL O' α2 (lk σ1.A) (lent.go vs rs)) (fun _ hx => hx) (fun _ _ hx => by cases hx) e.cs _ _ (fun _ _ _ hx => by cases hx) k7
    rw [k4] at h8
    exact toCall (inR_all r2 he) h8
  · obtain ⟨x, k1, k2, k3, k4⟩ := arrK j e he
    rw [Nat.zero_add] at k1
    have := h4.arr j x k1
    rw [k2, k3, k4] at this
    exact this
  · obtain ⟨b1, y1, k1, k2⟩ := boxE a la
    obtain ⟨b2, y2, k3, k4⟩ := boxE b lb
    simp only [kd a b1 k1, kd b b2 k3]
    exact h4.bb b1 b2 y1 y2 k2 k4 fun q => hn (kinj a b b1 k1 (q ▸ k3))
  · obtain ⟨x1, k1, _⟩ := arrK a e h8
    obtain ⟨x2, k2, _⟩ := arrK b e' h9
    rw [Nat.zero_add] at k1 k2
    exact h4.aa a b x1 x2 k1 k2 hn x hx
  · obtain ⟨x1, k1, _⟩ := arrK a e h8
    obtain ⟨b2, y2, k3, k4⟩ := boxE b lb
    rw [Nat.zero_add] at k1
    simp only [kd b b2 k3]
    exact h4.ab a b2 x1 y2 k1 k4
  · obtain ⟨b2, y2, k3, k4⟩ := boxE b (by omega)
    simp only [kd b b2 k3]
    rcases kget b b2 k3 with ⟨_, rfl⟩ | ⟨k1, _⟩
    · exact hkp b2 (by omega)
    · omega
  · obtain ⟨b2, y2, k3, k4⟩ := boxE b lb
    simp only [kd b b2 k3]
    rcases kget b b2 k3 with ⟨k1, _⟩ | ⟨_, _, k1⟩
    · omega
    · rcases h4.bF b2 y2 k4 with ⟨k2, _⟩ | k2
      · omega
      · exact k2
  · obtain ⟨x1, k1, _⟩ := arrK a e h8
    rw [Nat.zero_add] at k1
    rcases h4.aF a x1 k1 x hx with ⟨_, k2⟩ | k2
    · rcases k2 with ⟨b, lb, k2⟩ | k2
      · obtain ⟨b2, y2, k3, k4⟩ := boxE b (by omega)
        rcases kget b b2 k3 with ⟨_, rfl⟩ | ⟨k5, _⟩
        · have := h4.ab a b2 x1 y2 k1 k4
          rw [hkp b2 (by omega)] at this
          exact (this (by rw [hx, ← k2])).elim
        · omega
      · exact .inl k2
    · exact .inr k2
theorem finO_ok {C : Cx} {n : Nat} {tb : Tb} {ann : Ann} {G : GI} {i : CIn} {w w' : World} {O O' : Nat → Prop} {φ φ' : Nat → Nat} {α α' : Nat → Value} {hF : ∀ x, FI i φ α x → O x} {hB : Bd O w} {σ : St} {V : Env} {vs : List PV} {B : List Bx} {A : List (Option (Nat × Nat × List (List D)))} {res : List ResultVar}
    (ht : TbG C.P tb G) (hres : C.fn.results = res.toArray) {g : Nat → Nat} (hkp : ∀ b, b < i.B.length → φ' b = φ b) (h : Rl { w0Of G i w O φ α hF hB with φ0 := g } σ V w' O' φ' α') (hs : ∀ x, O x → O' x) (hnb : ann.nb = i.B.length) (h1000 : i.B.length ≤ 1000) (hw : finO tb ann res σ vs B A) :
    ∃ us, Out C n V w' (retU us) ∧ Done i w O φ α (.ok vs B A) (.returned (retU us)) w' := by
  obtain ⟨us, h1, O', φ', α', h2⟩ := finO_ok0 (C := C) (n := n) (hF := hF) (hB := hB) ht hkp h hs hnb h1000 hw
  exact ⟨us, h1 hres, us, O', φ', α', rfl, h2⟩
/-- At the beginning. -/
theorem entry_ok {G : GI} {i : CIn} {w : World} {O : Nat → Prop} {φ : Nat → Nat} {α : Nat → Value} {us : List Value} (hv : VRs w O φ α i.vs us) (hm : Mm w O φ α i.B (i.A.map some)) (hB : Bd O w) (hG : G.p w O) (h1000 : i.B.length ≤ 1000) :
    ∃ hF : ∀ x, FI i φ α x → O x, Rl (w0Of G i w O φ α hF hB) (entry i) (envOf 0 us) w O φ α := by
  have hF : ∀ x, FI i φ α x → O x := fun x hx => by
    rcases hx with ⟨b, hb, rfl⟩ | ⟨a, ha, hx⟩
    · exact (hm.box b i.B[b] (by simp)).1
    · exact (hm.arr a i.A[a] (by simp)).mem x hx
  refine ⟨hF, ?_⟩
  have getA : ∀ {a : Nat} {e : Arr}, lk (entry i).A a = some e → i.A[a]? = some (e.T, e.n, e.l) ∧ e.mine = false := fun {a e} he => by
    obtain ⟨_, h1⟩ := en_get he
    simp only [Nat.sub_zero, List.getElem?_map] at h1
    obtain ⟨x, h2, rfl⟩ := Option.map_eq_some_iff.1 h1
    exact ⟨h2, rfl⟩
  have getA' : ∀ {a : Nat} {e : Arr}, lk (entry i).A a = some e → (i.A.map some)[a]? = some (some (e.T, e.n, e.l)) := fun {a e} he => by
    rw [List.getElem?_map, (getA he).1]; rfl
  have getB : ∀ {b : Nat} {e : Bx}, lk (entry i).B b = some e → i.B[b]? = some e := fun {b e} he => by simpa using (en_get he).2
  have ltB : ∀ {b : Nat} {e : Bx}, lk (entry i).B b = some e → b < i.B.length := fun {b e} he => (List.getElem?_eq_some_iff.1 (getB he)).1
  have h0 : Rl (w0Of G i w O φ α hF hB) (entry i) (envOf 0 us) w O φ α := by
    refine ⟨fun t v e => ?_, fun b e he => hm.box b e (getB he), fun a e he => hm.arr a _ (getA' he), fun a b e e' h1 h2 hn => hm.bb a b (ltB h1) (ltB h2) hn, fun a b e e' h1 h2 hn x hx => hm.aa a b _ _ (getA' h1) (getA' h2) hn x hx, fun a b e e' h1 h2 => hm.ab a b _ (getA' h1) (ltB h2),
      fun b e he => .inl ⟨Nat.lt_of_lt_of_le (ltB he) h1000, .inl ⟨b, ltB he, rfl⟩⟩, fun a e he x hx => .inl ⟨(getA he).2, .inr ⟨a, (List.getElem?_eq_some_iff.1 (getA he).1).1, hx⟩⟩, hB, Ext.refl _ _, fun x hx => .inl hx, hG, fun _ _ => rfl⟩
    obtain ⟨_, h1⟩ := en_get e
    obtain ⟨u, h2, h3⟩ := hv.get (i := t) (by simpa using h1)
    refine ⟨u, ?_, h3⟩
    have : ∀ (us : List Value) (i t : Nat), us[t]? = some u → Env.get (envOf i us) (i + t) = some u := by
      intro us
      induction us with
      | nil => intro i t h; simp at h
      | cons x us ih =>
        intro i t h
        unfold envOf Env.get
        cases t with
        | zero => simp at h; subst h; simp
        | succ t =>
          split
          · rename_i hb
            have := Nat.eq_of_beq_eq_true hb
            omega
          · have := ih (i + 1) t (by simpa using h)
            rwa [show i + 1 + t = i + (t + 1) by omega] at this
    simpa using this us 0 t h2
  exact h0
/-- A function does what the evaluator says. -/
theorem Con.of {P : Program} {G : GI} {tb : Tb} {cty : List (Nat × List (Option (Nat × Nat)))} {ann : Ann} {f : Nat} {fn : Func} {c : Code} {i : CIn} {o : COut} {n : Nat} {res : List ResultVar} (ht : TbG P tb G) (ent : ∀ args w, (callFunc f args).run P w = .ok (.enter f args) w) (hnn : Nat.beq f NF = false) (hf : P.funcs[f]? = some fn) (hb : fn.body = some c) (hn : fn.ntmps = n)
    (hres : fn.results = res.toArray) (hok : okC ann n c = true) (hl : Nat.ble i.vs.length n = true) (hnb : ann.nb = i.B.length) (h1000 : Nat.ble i.B.length 1000 = true) (hw : ex tb cty ann (Con P G) c (entry i) (fin tb ann res o)) : Con P G f i o := by
  refine ⟨ent, hnn, fun w O φ α us hv hm hB hG => ?_⟩
  have h1000 := Nat.le_of_ble_eq_true h1000
  obtain ⟨hF, h0⟩ := entry_ok (G := G) hv hm hB hG h1000
  have hlu : us.length = i.vs.length := hv.len
  refine calls_of hf hb n hn (by rw [hlu]; exact hl) ?_
  refine ex_sound (z := w0Of G i w O φ α hF hB) (C := { P := P, f := f, fn := fn, R := Done i w O φ α o, hf := hf }) (n := n) (ds := []) (G := G) ht (fun _ _ _ h => h) (fun _ _ h => h) c (entry i) _ [] hok (.inl rfl) hw (fun fl s hs => ?_) _ _ ⟨O, φ, α, h0, fun _ hx => hx⟩
  cases fl with
  | normal =>
    intro V w' hr
    obtain ⟨O', φ', α', h1, h2⟩ := hr
    cases o with
    | pan v => exact hs.elim
    | panB _ _ => exact hs.elim
    | okI _ _ _ => exact hs.elim
    | ok vs B A =>
      obtain ⟨us', h3, h4⟩ := finO_ok (C := { P := P, f := f, fn := fn, R := Done i w O φ α (.ok vs B A), hf := hf }) (n := n) (hF := hF) (hB := hB) (g := φ) ht hres (fun b hb => h1.keep b (by omega)) h1 h2 hnb h1000 hs
      exact TW.fin h3 h4
  | ret =>
    intro k' V w' hr
    obtain ⟨O', φ', α', h1, h2⟩ := hr
    cases o with
    | pan v => exact hs.elim
    | panB _ _ => exact hs.elim
    | okI _ _ _ => exact hs.elim
    | ok vs B A =>
      obtain ⟨us', h3, h4⟩ := finO_ok (C := { P := P, f := f, fn := fn, R := Done i w O φ α (.ok vs B A), hf := hf }) (n := n) (hF := hF) (hB := hB) (g := φ) ht hres (fun b hb => h1.keep b (by omega)) h1 h2 hnb h1000 hs
      exact TW.ret h3 h4
  | exit _ => exact hs.elim
  | pan v =>
    intro V w' O' φ' α' u φ2 α2 h1 h2 h3 a ha hda
    cases o with
    | ok _ _ _ => cases hs
    | okI _ _ _ => cases hs
    | pan v =>
      cases hs
      exact PN.nil hda ⟨u, O', φ2, α2, rfl, h3, h1.ext, h1.tr0, h1.bd, h1.only⟩
    | panB v' B =>
      obtain ⟨rfl, hsl, hw⟩ := hs
      obtain ⟨us', _, O3, φ3, α3, h4⟩ := finO_ok0 (ann := { nb := ann.nb }) (res := []) (C := { P := P, f := f, fn := fn, R := Done i w O φ α (.panB v' B), hf := hf }) (n := n) (hF := hF) (hB := hB) (g := φ) ht (fun b hb => h1.keep b (by omega)) h1 h2 hnb h1000 hw
      exact PN.nil hda ⟨u, φ2, α2, us', O3, φ3, α3, rfl, noSl_ok _ _ hsl h3, h4⟩
end
section
section
variable {z : W0} {V : Env} {w : World} {O : Nat → Prop} {φ : Nat → Nat} {α : Nat → Value} {σ : St} {C : Cx} {n : Nat} {G : GI} {con : Nat → CIn → COut → Prop} {tb : Tb} {cty : List (Nat × List (Option (Nat × Nat)))} {ann : Ann}
end
end
section
/-- How a function that may panic ends. -/
inductive Rs (α : Type) where
  | ok (a : α)
  | pan (e : Int)
theorem and_t {a e v : Bool} (h : a = true) (p : v = e) : v = (a && e) := by rw [h]; exact p
theorem and_f {a e : Bool} (h : a = false) : false = (a && e) := by rw [h]; rfl
section
variable {R A : Type} {W : R → Prop} {y : Option R}
theorem S.an {p : Prop} (hp : p) (h : S y W) : S y (fun r => p ∧ W r) := fun r hm => ⟨hp, h r hm⟩
theorem S.two {V : R → Prop} (h : S y V) (h2 : S y W) : S y (fun r => V r ∧ W r) := fun r hm => ⟨h r hm, h2 r hm⟩
/-- A guard that is plain: its two ways meet in one value. -/
theorem S.jb {X : Type} {B : R → St → Prop} {A' : R → (St → Prop) → Prop} {v : X} (sh : X → St) (hA : ∀ r, A' r fun s => ∃ b, s = sh b ∧ b = v) (hB : S y (fun r => B r (sh v))) : S y (fun r => ∃ J : St → Prop, A' r J ∧ ∀ s, J s → B r s) :=
  fun r hm => ⟨_, hA r, fun s ⟨b, h1, h2⟩ => by subst h1 h2; exact hB r hm⟩
end
section
variable {tb : Tb} {cty : List (Nat × List (Option (Nat × Nat)))} {ann : Ann} {con : Nat → CIn → COut → Prop}
theorem S.lw3 {X0 X1 X2 R : Type} {a : Code} {c : Cut} {k : R → Flow → St → Prop} {σ : St} {L : X0 → X1 → X2 → Option R} {Bd : (X0 → X1 → X2 → Option R) → X0 → X1 → X2 → Option R} {x0 : X0} {x1 : X1} {x2 : X2} (sh : X0 → X1 → X2 → Ov)
    (pc : ∀ motive : X0 → X1 → X2 → R → Prop, (∀ f : X0 → X1 → X2 → Option R, (∀ x0 x1 x2 r, f x0 x1 x2 = some r → motive x0 x1 x2 r) → ∀ x0 x1 x2 r, Bd f x0 x1 x2 = some r → motive x0 x1 x2 r) → ∀ x0 x1 x2 r, L x0 x1 x2 = some r → motive x0 x1 x2 r)
    (h0 : σ = ovS σ c (sh x0 x1 x2)) (h : ∀ (f : X0 → X1 → X2 → Option R) (I : R → St → Prop), (∀ x0 x1 x2, S (f x0 x1 x2) (fun r => I r (ovS σ c (sh x0 x1 x2)))) → ∀ x0 x1 x2, S (Bd f x0 x1 x2) (fun r => Stp tb cty ann con a c (k r) (I r) (ovS σ c (sh x0 x1 x2)))) :
    S (L x0 x1 x2) (fun r => LW (Stp tb cty ann con a c (k r)) σ) := by
  intro r hm
  rw [h0]
  exact pc (fun x0 x1 x2 r => LW (Stp tb cty ann con a c (k r)) (ovS σ c (sh x0 x1 x2))) (fun f ih x0 x1 x2 r hm => LW.fold (step_mono a c (k r)) (h f (fun r => LW (Stp tb cty ann con a c (k r))) ih x0 x1 x2 r hm)) x0 x1 x2 r hm
end
section
variable {R A X : Type} {f c : X → List D} {E : List X → List (List D)} {l l2 : List (List D)} {xs ys : List X}
end
section
variable {tb : Tb} {cty : List (Nat × List (Option (Nat × Nat)))} {ann : Ann} {con : Nat → CIn → COut → Prop} {R X : Type}
/-- What follows, where a part is told by itself: its ends within, and what is behind it. -/
def kD {Y : Type} (k : R → Y) (no : Y) : Jn R X → Y
  | .done r => k r
  | .go _ => no
def jG (sh : X → St) (j : Jn R X) : St → Prop := fun s => match j with
  | .go x => s = sh x
  | .done _ => False
theorem S.jn {a : Code} {σ : St} {c : Cut} {k : R → Flow → St → Prop} {B : R → St → Prop} {z : Option (Jn R X)} {m : Jn R X → Option R} (sh : X → St)
    (hA : S z fun j => ex tb cty ann con a σ (kSeq (fun s => s.cutK c (jG sh j)) (kD k (fun _ _ => False) j))) (hd : ∀ r, m (.done r) = some r) (hB : ∀ x, S (m (.go x)) fun r => B r (sh x)) :
    S (z >>= m) (fun r => ∃ J : St → Prop, ex tb cty ann con a σ (kSeq (fun s => s.cutK c J) (k r)) ∧ ∀ s, J s → B r s) := by
  intro r hm
  obtain ⟨j, h1, h2⟩ := bnd hm
  refine ⟨jG sh j, ex_mono a _ _ _ (kSeq_mono (fun _ => id) ?_) (hA j h1), ?_⟩
  · cases j with
    | done r0 => rw [hd] at h2; cases h2; exact fun _ _ => id
    | go x => exact fun _ _ h => h.elim
  · cases j with
    | done r0 => exact fun _ h => h.elim
    | go x => intro s h; cases h; exact hB x r h2
theorem lenD_map {Y : Type} {f : Y → List D} {xs : List Y} : lenD (xs.map f) = some (xs.length : Int) := by simp [lenD]
theorem Ex.i {Y : Type} {z : Option Y} {k : Y → Prop} {a : Y} (hz : z = some a) (h : k a) : Ex z k := ⟨a, hz, h⟩
theorem jbI {Y : Type} {sh : Y → St} {v b : Y} {s : St} (h : s = sh b) (p : b = v) : ∃ b, s = sh b ∧ b = v := ⟨b, h, p⟩
end
end
section
section
variable {K V : Type} [DecidableEq K]
variable {R : Type} {y : Option R} {f : K × V → List D} {kf : K → D} {vf : V → List D} (hf : ∀ x, f x = kf x.1 :: vf x.2) (hk : ∀ a b, kEq (kf a) (kf b) = decide (a = b))
include hf hk
end
section
variable {tb : Tb} {cty : List (Nat × List (Option (Nat × Nat)))} {ann : Ann} {con : Nat → CIn → COut → Prop} {R X : Type} {a : Code} {c : Cut} {k : R → Flow → St → Prop} {σ : St}
end
end
section
section
variable {z : W0} {V : Env} {w : World} {O : Nat → Prop} {φ : Nat → Nat} {α : Nat → Value} {σ : St} {C : Cx} {n : Nat} {G : GI} {con : Nat → CIn → COut → Prop} {tb : Tb} {cty : List (Nat × List (Option (Nat × Nat)))} {ann : Ann}
end
section
variable {z : W0} {V : Env} {w : World} {O : Nat → Prop} {φ : Nat → Nat} {α : Nat → Value} {σ : St} {C : Cx} {n : Nat} {G : GI} {con : Nat → CIn → COut → Prop} {tb : Tb} {cty : List (Nat × List (Option (Nat × Nat)))} {ann : Ann}
end
end
section
section
variable {R A : Type} {W : R → Prop} {y : Option R}
theorem S.n {p : Prop} (h : S y W) (hp : p := by (repeat' first | exact rfl | exact trivial | apply And.intro)) : S y (fun r => p ∧ W r) := S.an hp h
theorem S.zr {a : R} (h : W a := by exact rfl) : S (some a) W := S.z h
theorem S.q {a : R} (h : W a := by exact ⟨rfl, by (repeat' first | exact trivial | exact rfl | apply And.intro), by (repeat' first | exact trivial | exact rfl | apply And.intro), rfl⟩) : S (some a) W := S.z h
theorem S.m {Y : Type} {f : Y → List D} {xs : List Y} {F : R → Int → Prop} (h : S y (fun r => F r (xs.length : Int))) : S y (fun r => Ex (lenD (xs.map f)) (F r)) := S.eq lenD_map h
/-- A call. -/
theorem S.kk {con : Nat → CIn → COut → Prop} {σ : St} {f : Nat} {args : List PV} {k : R → PV → St → Prop} {kp : R → PV → St → Prop} {z : Option A} {g : A → Option R} {i : CIn} {o : A → COut} (bs as_ as_' : List Nat) (hc : ∀ a, z = some a → con f i (o a))
    (h : ∀ a, S (g a) (fun r => callK bs as_ as_' i args σ (k r) (kp r) (o a)))
    (h1 : nrm.go σ i.vs args = renP.go bs as_ i.vs := by first | kernel_rfl | exact rfl) (h2 : boxesOk σ bs as_ bs i.B := by (repeat' first | exact trivial | exact rfl | apply And.intro)) (h3 : arrsOk σ as_ i.A := by (repeat' first | exact trivial | exact rfl | apply And.intro)) (h4 : callOk σ bs as_ (lent.go i.vs args) i = true := by first | kernel_rfl | exact rfl) : S (z >>= g) (fun r => callW con σ f args (k r) (kp r)) := S.k bs as_ as_' hc h1 h2 h3 h4 h
theorem S.k0 {con : Nat → CIn → COut → Prop} {σ : St} {f : Nat} {args : List PV} {k : R → PV → St → Prop} {kp : R → PV → St → Prop} {z : Option A} {g : A → Option R} {i : CIn} {o : A → COut} (hc : ∀ a, z = some a → con f i (o a))
    (h : ∀ a, S (g a) (fun r => callK [] [] [] i args σ (k r) (kp r) (o a)))
    (h1 : nrm.go σ i.vs args = renP.go [] [] i.vs := by first | kernel_rfl | exact rfl) (h2 : boxesOk σ [] [] [] i.B := by exact trivial) (h3 : arrsOk σ [] i.A := by exact trivial) (h4 : callOk σ [] [] (lent.go i.vs args) i = true := by first | kernel_rfl | exact rfl) : S (z >>= g) (fun r => callW con σ f args (k r) (kp r)) := S.k [] [] [] hc h1 h2 h3 h4 h
/-! Two ways that meet in one value: that of the slot t. -/
section
variable {B : R → St → Prop} {A1 A2 : R → (St → Prop) → Prop} {b : Bool} {s1 s2 : St}
theorem S.ja {e : Bool} (t : Nat) (h1 : ∀ r, A1 r fun s => ∃ x, s = s2.ub t x ∧ x = e) (hB : S y fun r => B r (s2.ub t (b && e))) (h2 : s2 = s2.ub t false := by exact rfl) : S y (fun r => ∃ J : St → Prop, cond b (A1 r J) (J s2) ∧ ∀ s, J s → B r s) := by
  cases b with
  | true => exact S.jb (v := e) (s2.ub t) h1 hB
  | false => exact S.jb (v := false) (s2.ub t) (fun _ => ⟨false, h2, rfl⟩) hB
theorem S.ja0 {e : Bool} (t : Nat) (h1 : s1 = s2.ub t e) (hB : S y fun r => B r (s2.ub t (b && e))) (h2 : s2 = s2.ub t false := by exact rfl) : S y (fun r => ∃ J : St → Prop, cond b (J s1) (J s2) ∧ ∀ s, J s → B r s) :=
  S.ja (A1 := fun _ J => J s1) t (fun _ => ⟨e, h1, rfl⟩) hB h2
theorem S.ju {e : Bool} (t : Nat) (h1 : ∀ r, A2 r fun s => ∃ x, s = s1.ub t x ∧ x = e) (hB : S y fun r => B r (s1.ub t (b || e))) (h2 : s1 = s1.ub t true := by exact rfl) : S y (fun r => ∃ J : St → Prop, cond b (J s1) (A2 r J) ∧ ∀ s, J s → B r s) := by
  cases b with
  | true => exact S.jb (v := true) (s1.ub t) (fun _ => ⟨true, h2, rfl⟩) hB
  | false => exact S.jb (v := e) (s1.ub t) h1 hB
theorem S.ju0 {e : Bool} (t : Nat) (h1 : s2 = s1.ub t e) (hB : S y fun r => B r (s1.ub t (b || e))) (h2 : s1 = s1.ub t true := by exact rfl) : S y (fun r => ∃ J : St → Prop, cond b (J s1) (J s2) ∧ ∀ s, J s → B r s) :=
  S.ju (A2 := fun _ J => J s2) t (fun _ => ⟨e, h1, rfl⟩) hB h2
end
end
section
variable {R A X : Type} {f c : X → List D} {l l2 : List (List D)} {xs ys : List X}
theorem S.ixf (f : X → List D) {i : Int} {F : R → List D → Prop} {g : X → Option R} (h : ∀ x, S (g x) (fun r => F r (f x))) (hl : l = xs.map f := by exact rfl) : S (Go.Lk.ix xs i >>= g) (fun r => Ex (Go.Lk.ix l i) (F r)) := S.ix hl (fun _ => rfl) h
theorem S.subm (f : X → List D) {i j : Int} {F : R → List (List D) → Prop} {g : List X → Option R} (h : ∀ x, S (g x) (fun r => F r (x.map f))) (hl : l = xs.map f := by exact rfl) : S (Go.Lk.sub xs i j >>= g) (fun r => Ex (Go.Lk.sub l i j) (F r)) := S.sub hl h
theorem S.appm (f : X → List D) {n : Nat} {F : R → List (List D) → Prop} {g : List X → Option R} (h : ∀ x, S (g x) (fun r => F r (x.map f))) (hl2 : l2 = ys.map f := by exact rfl) (hl : l = xs.map f := by exact rfl) : S (Go.Lk.app n xs ys >>= g) (fun r => Ex (Go.Lk.app n l l2) (F r)) := S.app hl hl2 h
end
section
variable {tb : Tb} {cty : List (Nat × List (Option (Nat × Nat)))} {ann : Ann} {con : Nat → CIn → COut → Prop} {R X : Type}
theorem S.gn {a : Code} {σ : St} {c : Cut} {k : R → Flow → St → Prop} {B : R → St → Prop} {z : Option (Jn R X)} {m : Jn R X → Option R} (sh : X → Ov)
    (hA : S z fun j => ex tb cty ann con a σ (kSeq (fun s => s.cutK c (jG (fun x => ovS σ c (sh x)) j)) (kD k (fun _ _ => False) j))) (hB : ∀ x, S (m (.go x)) fun r => B r (ovS σ c (sh x))) (hd : ∀ r, m (.done r) = some r := by exact fun _ => rfl) :
    S (z >>= m) (fun r => ∃ J : St → Prop, ex tb cty ann con a σ (kSeq (fun s => s.cutK c J) (k r)) ∧ ∀ s, J s → B r s) := S.jn (fun x => ovS σ c (sh x)) hA hd hB
theorem S.hn {a : Code} {σ : St} {c : Cut} {k : R → Flow → St → Prop} {B : R → St → Prop} {z : Option X} {m : X → Option R} (sh : X → Ov)
    (hA : ∀ r, S z fun x => ex tb cty ann con a σ (kSeq (fun s => s.cutK c (fun s => s = ovS σ c (sh x))) (k r))) (hB : ∀ x, S (m x) fun r => B r (ovS σ c (sh x))) :
    S (z >>= m) (fun r => ∃ J : St → Prop, ex tb cty ann con a σ (kSeq (fun s => s.cutK c J) (k r)) ∧ ∀ s, J s → B r s) := S.j (A' := fun r J => ex tb cty ann con a σ (kSeq (fun s => s.cutK c J) (k r))) (fun x => ovS σ c (sh x)) hA hB
theorem S.ho {ops : Array Oper} {os : List Oper} {σ : St} {c : Cut} {kp : R → PV → St → Prop} {B : R → St → Prop} {z : Option X} {m : X → Option R} (sh : X → Ov)
    (hA : ∀ r, S z fun x => exops tb cty ann con ops (kp r) (fun s => s.cutK c (fun s => s = ovS σ c (sh x))) os σ) (hB : ∀ x, S (m x) fun r => B r (ovS σ c (sh x))) :
    S (z >>= m) (fun r => ∃ J : St → Prop, exops tb cty ann con ops (kp r) (fun s => s.cutK c J) os σ ∧ ∀ s, J s → B r s) := S.j (A' := fun r J => exops tb cty ann con ops (kp r) (fun s => s.cutK c J) os σ) (fun x => ovS σ c (sh x)) hA hB
theorem S.hd {ops : Array Oper} {cs : List (Nat × Cut)} {g : Gt} {qs : List Nat} {σ : St} {c : Cut} {kp : R → PV → St → Prop} {B : R → St → Prop} {z : Option X} {m : X → Option R} (sh : X → Ov)
    (hA : ∀ r, S z fun x => exdraw tb cty ann con ops cs (kp r) (fun s => s.cutK c (fun s => s = ovS σ c (sh x))) g qs σ) (hB : ∀ x, S (m x) fun r => B r (ovS σ c (sh x))) :
    S (z >>= m) (fun r => ∃ J : St → Prop, exdraw tb cty ann con ops cs (kp r) (fun s => s.cutK c J) g qs σ ∧ ∀ s, J s → B r s) := S.j (A' := fun r J => exdraw tb cty ann con ops cs (kp r) (fun s => s.cutK c J) g qs σ) (fun x => ovS σ c (sh x)) hA hB
theorem S.hl {ops : Array Oper} {its : List It} {dn : List (Nat × Bool)} {σ : St} {c : Cut} {kp : R → PV → St → Prop} {B : R → St → Prop} {z : Option X} {m : X → Option R} (sh : X → Ov)
    (hA : ∀ r, S z fun x => exits tb cty ann con ops (kp r) (fun s _ => s.cutK c (fun s => s = ovS σ c (sh x))) its σ dn) (hB : ∀ x, S (m x) fun r => B r (ovS σ c (sh x))) :
    S (z >>= m) (fun r => ∃ J : St → Prop, exits tb cty ann con ops (kp r) (fun s _ => s.cutK c J) its σ dn ∧ ∀ s, J s → B r s) := S.j (A' := fun r J => exits tb cty ann con ops (kp r) (fun s _ => s.cutK c J) its σ dn) (fun x => ovS σ c (sh x)) hA hB
end
/-! A function. -/
@[reducible] def cu (L B A : List Nat) : Cut := { L := L, B := B, A := A }
@[reducible] def c1 (L : List Nat) : Cut := { L := L }
@[reducible] def oL (L : List (Nat × PV)) : Ov := ⟨L, [], []⟩
@[reducible] def oB (L : List (Nat × PV)) (B : List (Nat × Bx)) : Ov := ⟨L, B, []⟩
@[reducible] def st (L : List (Nat × PV)) : St := ⟨L, [], [], none⟩
@[reducible] def PV.i (x : Int) : PV := .int .i64 x
@[reducible] def PV.b (x : Bool) : PV := .bool x
@[reducible] def PV.s (x : List UInt8) : PV := .str x
@[reducible] def PV.p (b : Nat) : PV := .ptr b 0
@[reducible] def ro {α : Type} (T : Nat) (k : IntKind) (o : α → COut) : Rs α → COut
  | .ok r => o r
  | .pan e => .pan (.iface T (.agg [.int k e]))
theorem Con.oS {P : Program} {G : GI} {tb : Tb} {cty : List (Nat × List (Option (Nat × Nat)))} {α : Type} {y : Option α} {f : Nat} {fn : Func} {i : CIn} {o : α → COut} (ht : TbG P tb G) (hf : P.funcs[f]? = some fn) (ann : Ann) (res : List ResultVar)
    (hw : S y fun r => ex tb cty ann (Con P G) (bodyOf fn) (entry i) (fin tb ann res (o r))) (hok : okC ann fn.ntmps (bodyOf fn) = true) (hb : fn.body = some (bodyOf fn)) (ent : ∀ args w, (callFunc f args).run P w = .ok (.enter f args) w)
    (hres : fn.results = res.toArray) (hnn : Nat.beq f NF = false) (hl : Nat.ble i.vs.length fn.ntmps = true) (hnb : ann.nb = i.B.length) (h1000 : Nat.ble i.B.length 1000 = true) : S y fun r => Con P G f i (o r) :=
  fun r hm => Con.of ht ent hnn hf hb rfl hres hok hl hnb h1000 (hw r hm)
end
section
/-- A set of done operations: its choices (an operation, the set behind it, the quiet ones of before that still count, those that waited for it), and which quiet ones count. -/
structure Nd where
  alts : List (Nat × Nat × List Nat × List Nat)
  dn : List (Nat × Bool)
  rem : List Nat          -- those that have not acted yet
  wai : List Nat          -- the quiet ones that wait
structure Dg where
  anc : List Nat
  E : List Nat
  qs : List Nat
  c : Cut
  nds : List Nd           -- those behind come first; the last one is the beginning
/-! What is asked of the sets by themselves: at each of them, not at each order. -/
section
variable {z : W0} {V : Env} {w : World} {O : Nat → Prop} {φ : Nat → Nat} {α : Nat → Value} {σ : St} {C : Cx} {n : Nat} {ops : Array Oper} {K : Act → World → Prop} {G : GI} {con : Nat → CIn → COut → Prop} {tb : Tb} {cty : List (Nat × List (Option (Nat × Nat)))} {ann : Ann} {ds : List Deferred}
end
/-! A function whose spine has such regions. -/
section
variable {z : W0} {C : Cx} {n : Nat} {G : GI} {con : Nat → CIn → COut → Prop} {tb : Tb} {cty : List (Nat × List (Option (Nat × Nat)))} {ann : Ann} {ds : List Deferred} {dd : List (Nat × Dg)}
end
end
section
section
variable {z : W0} {C : Cx} {n : Nat} {G : GI} {con : Nat → CIn → COut → Prop} {tb : Tb} {cty : List (Nat × List (Option (Nat × Nat)))} {ann : Ann} {ds : List Deferred} {dd : List (Nat × Dg)}
end
end
end Go.Pe
