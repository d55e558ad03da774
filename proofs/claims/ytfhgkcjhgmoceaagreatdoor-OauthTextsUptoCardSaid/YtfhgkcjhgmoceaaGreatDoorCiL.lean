import Derived.Test.YtfhgkcjhgmoceaaGreatDoorCiK
set_option linter.all false
namespace Go.Ci
open Go.RowKit Go.Lk
/-- Did the call answer true? -/
def trueQ : Option (Hp × Out) → Bool
  | some (_, .ret [.bool true]) => true
  | _ => false
theorem trueQ_some {r : Option (Hp × Out)} (h : trueQ r = true) : ∃ H', r = some (H', .ret [.bool true]) := by
  unfold trueQ at h
  split at h
  · exact ⟨_, rfl⟩
  · cases h
theorem closed_ok {P : Program} {call : Call'} {f : Nat} (hc : CallOk P call) (ent : ∀ args w, (callFunc f args).run P w = .ok (.enter f args) w) (h : trueQ (call f [] ⟨.e, 0⟩) = true) (w : World) :
    Calls P f #[] w (fun e w' => e = .returned (.bool true) ∧ Ext Nowhere w w') := by
  obtain ⟨H', h⟩ := trueQ_some h
  have he : ∀ b, (⟨.e, 0⟩ : Hp).get b = none := fun b => T.get_e b
  have hr : HR ⟨w, fun b => b < w.heap.size⟩ 0 ⟨fun b => b, fun _ => 0⟩ ⟨.e, 0⟩ w :=
    ⟨rfl, Ext.refl _ _, fun _ k => k, fun b o e => (by rw [he] at e; cases e), fun b b' o o' e => (by rw [he] at e; cases e)⟩
  have fin : ∀ {e : Ending} {w' : World}, OutAt ⟨w, fun b => b < w.heap.size⟩ 0 ⟨fun b => b, fun _ => 0⟩ H' (.ret [.bool true]) e w' → e = .returned (.bool true) ∧ Ext Nowhere w w' := fun {e w'} ⟨N', Φ', x, hq⟩ => by
    refine ⟨?_, ?_⟩
    · cases e with
      | returned v => obtain ⟨rfl, _⟩ := hq; rfl
      | panicked ch => exact hq.elim
      | outgrown => exact hq.elim
    · exact (Ext.refl Nowhere w).step x.hr.ext fun b hb k => (k hb).elim
  rcases hc f [] _ H' _ h _ _ _ w hr trivial with ⟨_, h2⟩ | ⟨v, w', h1, _⟩
  · exact h2.mono fun e w' hq => fin hq
  · rw [ent] at h1
    cases h1
/-- Did the call answer with a new variable? -/
noncomputable def ptrR : Option (Hp × Out) → Bool
  | some (H, .ret [.ptr b 0]) => some? (rowAt (H.get b))
  | _ => false
theorem ptrR_some {r : Option (Hp × Out)} (h : ptrR r = true) : ∃ H b cs, r = some (H, .ret [.ptr b 0]) ∧ rowAt (H.get b) = some cs := by
  unfold ptrR at h
  split at h
  · obtain ⟨cs, hc⟩ := some?_ok h
    exact ⟨_, _, cs, rfl, hc⟩
  · cases h
theorem hr0 (w : World) : HR ⟨w, fun b => b < w.heap.size⟩ 0 ⟨fun b => b, fun _ => 0⟩ ⟨.e, 0⟩ w :=
  have he : ∀ b, (⟨.e, 0⟩ : Hp).get b = none := fun b => T.get_e b
  ⟨rfl, Ext.refl _ _, fun _ k => k, fun b o e => (by rw [he] at e; cases e), fun b b' o o' e => (by rw [he] at e; cases e)⟩
theorem closed_ptr {P : Program} {call : Call'} {f : Nat} (hc : CallOk P call) (ent : ∀ args w, (callFunc f args).run P w = .ok (.enter f args) w) (h : ptrR (call f [] ⟨.e, 0⟩) = true) (w : World) :
    Calls P f #[] w (fun e w' => ∃ b cs T fr, e = .returned (.pointer (some ⟨b, 0, none⟩)) ∧ w.heap.size ≤ b ∧ w'.heap[b]? = some (.cells cs T fr) ∧ Ext Nowhere w w') := by
  obtain ⟨H', b, cs, h, hcs⟩ := ptrR_some h
  have fin : ∀ {e : Ending} {w' : World}, OutAt ⟨w, fun b => b < w.heap.size⟩ 0 ⟨fun b => b, fun _ => 0⟩ H' (.ret [.ptr b 0]) e w' → ∃ b cs T fr, e = .returned (.pointer (some ⟨b, 0, none⟩)) ∧ w.heap.size ≤ b ∧ w'.heap[b]? = some (.cells cs T fr) ∧ Ext Nowhere w w' := fun {e w'} ⟨N', Φ', x, hq⟩ => by
    obtain ⟨_, k1, _, ex, fr, k2, _⟩ := x.hr.obj b _ (rowAt_some hcs)
    cases e with
    | returned v =>
      obtain ⟨rfl, _⟩ := hq
      exact ⟨Φ'.blk b, _, _, fr, rfl, Nat.le_of_not_lt k1, k2, (Ext.refl Nowhere w).step x.hr.ext fun b hb k => (k hb).elim⟩
    | panicked ch => exact hq.elim
    | outgrown => exact hq.elim
  rcases hc f [] _ H' _ h _ _ _ w (hr0 w) trivial with ⟨_, h2⟩ | ⟨v, w', h1, _⟩
  · exact h2.mono fun e w' hq => fin hq
  · rw [ent] at h1
    cases h1
end Go.Ci
