import Derived.Test.YtfhgkcjhgmoceaaGreatDoorCiL
set_option linter.all false
namespace Go.Ci
open Go.RowKit Go.Lk
noncomputable section
mutual
/-- Names no object. -/
def datQ : CV → Bool
  | .int _ _ => true
  | .bool _ => true
  | .str _ => true
  | .snil => true
  | .pnil => true
  | .inil => true
  | .mnil => true
  | .fnil => true
  | .agg cs => datsQ cs && ones cs
  | .tup vs => datsQ vs
  | .iface _ v => datQ v
  | .fn f as_ cs => !(Nat.beq f NF) && datsQ as_ && datsQ cs
  | _ => false
def datsQ : List CV → Bool
  | [] => true
  | v :: vs => datQ v && datsQ vs
end
/-- A function's calls: with which arguments it gives which results. -/
abbrev Memo := List (List CV × List CV)
def lkM (args : List CV) : Memo → Option (List CV)
  | [] => none
  | (a, r) :: l => match cvsEq args a with
    | true => some r
    | false => lkM args l
def memX (l : Memo) (args : List CV) (H : Hp) : Option (Hp × Out) := match lkM args l with
  | some vs => some (H, .ret vs)
  | none => none
/-- Did the call give these? -/
def retQ (vs : List CV) : Option (Hp × Out) → Bool
  | some (_, .ret us) => cvsEq us vs
  | _ => false
def memQ (call : Call') (f : Nat) (p : List CV × List CV) : Bool := datsQ p.1 && datsQ p.2 && retQ p.2 (call f p.1 ⟨.e, 0⟩)
end
mutual
theorem dat_ok {N N' : Nat} {Φ Φ' : Ph} : ∀ {v : CV}, datQ v = true → Ok N Φ v ∧ enc Φ v = enc Φ' v
  | .int _ _, _ => ⟨trivial, rfl⟩
  | .bool _, _ => ⟨trivial, rfl⟩
  | .str _, _ => ⟨trivial, rfl⟩
  | .snil, _ => ⟨trivial, rfl⟩
  | .pnil, _ => ⟨trivial, rfl⟩
  | .inil, _ => ⟨trivial, rfl⟩
  | .mnil, _ => ⟨trivial, rfl⟩
  | .fnil, _ => ⟨trivial, rfl⟩
  | .agg cs, h => by
    simp only [datQ, Bool.and_eq_true] at h
    obtain ⟨h1, h2⟩ := dats_ok (N := N) (N' := N') (Φ := Φ) (Φ' := Φ') h.1
    exact ⟨⟨h.2, h1⟩, by simp only [enc, h2]⟩
  | .tup cs, h => by
    simp only [datQ] at h
    obtain ⟨h1, h2⟩ := dats_ok (N := N) (N' := N') (Φ := Φ) (Φ' := Φ') h
    exact ⟨h1, by simp only [enc, h2]⟩
  | .iface _ v, h => by
    simp only [datQ] at h
    obtain ⟨h1, h2⟩ := dat_ok (N := N) (N' := N') (Φ := Φ) (Φ' := Φ') h
    exact ⟨h1, by simp only [enc, h2]⟩
  | .fn f as_ cs, h => by
    simp only [datQ, Bool.and_eq_true, Bool.not_eq_true'] at h
    obtain ⟨h1, h2⟩ := dats_ok (N := N) (N' := N') (Φ := Φ) (Φ' := Φ') h.1.2
    obtain ⟨h3, h4⟩ := dats_ok (N := N) (N' := N') (Φ := Φ) (Φ' := Φ') h.2
    exact ⟨⟨h.1.1, h1, h3⟩, by simp only [enc, h2, h4]⟩
  | .ptr _ _, h => by simp [datQ] at h
  | .sl _ _ _ _ _, h => by simp [datQ] at h
  | .sle _ _ _ _, h => by simp [datQ] at h
  | .mp _, h => by simp [datQ] at h
  | .gone, h => by simp [datQ] at h
  | .gp _ _, h => by simp [datQ] at h
theorem dats_ok {N N' : Nat} {Φ Φ' : Ph} : ∀ {l : List CV}, datsQ l = true → Oks N Φ l ∧ encs Φ l = encs Φ' l
  | [], _ => ⟨trivial, rfl⟩
  | v :: l, h => by
    simp only [datsQ, Bool.and_eq_true] at h
    obtain ⟨h1, h2⟩ := dat_ok (N := N) (N' := N') (Φ := Φ) (Φ' := Φ') h.1
    obtain ⟨h3, h4⟩ := dats_ok (N := N) (N' := N') (Φ := Φ) (Φ' := Φ') h.2
    exact ⟨⟨h1, h3⟩, by simp only [encs, h2, h4]⟩
end
theorem lkM_some {args vs : List CV} : ∀ {l : Memo}, lkM args l = some vs → (args, vs) ∈ l
  | [], h => by cases h
  | (a, r) :: l, h => by
    unfold lkM at h
    split at h
    · rename_i e
      cases h
      rw [cvsEq_eq e]
      exact List.mem_cons_self
    · exact List.mem_cons_of_mem _ (lkM_some h)
theorem memX_ok {P : Program} {call : Call'} {f : Nat} (hc : CallOk P call) {l : Memo} (h : ∀ p ∈ l, memQ call f p = true) : XOk P f (memX l) := by
  intro args H H' o hm z N Φ w hr ha
  unfold memX at hm
  split at hm
  · rename_i vs hv
    cases hm
    have hq := h _ (lkM_some hv)
    unfold memQ at hq
    simp only [Bool.and_eq_true] at hq
    obtain ⟨⟨q1, q2⟩, q3⟩ := hq
    unfold retQ at q3
    split at q3
    · rename_i H1 us e
      have e2 := cvsEq_eq q3
      subst e2
      obtain ⟨_, ea⟩ := dats_ok (N := N) (N' := 0) (Φ := Φ) (Φ' := ⟨fun b => b, fun _ => 0⟩) q1
      have fin : ∀ {en : Ending} {w' : World}, OutAt ⟨w, fun b => b < w.heap.size⟩ 0 ⟨fun b => b, fun _ => 0⟩ H1 (.ret us) en w' → OutAt z N Φ H (.ret us) en w' := fun {en w'} ⟨N', Φ', x, hq⟩ => by
        have hx : Ext Nowhere w w' := (Ext.refl Nowhere w).step x.hr.ext fun b hb k => (k hb).elim
        refine ⟨N, Φ, ⟨hr.same hx, Ag.refl _ _, Nat.le_refl _⟩, ?_⟩
        obtain ⟨k1, k2⟩ := dats_ok (N := N) (N' := 0) (Φ := Φ) (Φ' := Φ') q2
        have er : enc Φ' (retC us) = enc Φ (retC us) := by
          unfold retC
          split
          · have := k2
            simp only [encs, List.cons.injEq, and_true] at this
            exact this.symm
          · simp only [enc, k2]
        cases en with
        | returned v => obtain ⟨rfl, _⟩ := hq; exact ⟨er, k1⟩
        | panicked ch => exact hq.elim
        | outgrown => exact hq.elim
      rw [ea]
      rcases hc f args _ H1 _ e _ _ _ w (hr0 w) (dats_ok (N := 0) (N' := 0) (Φ := ⟨fun b => b, fun _ => 0⟩) (Φ' := Φ) q1).1 with ⟨h1, h2⟩ | ⟨v, w', h1, h2⟩
      · exact .inl ⟨h1, h2.mono fun en w' hq => fin hq⟩
      · exact .inr ⟨v, w', h1, fin h2⟩
    · cases q3
  · cases hm
/-- No function with a body goes by another name. -/
def entQ (fn : Func) : Bool := fn.body.isNone || !(fn.name == "runtime.NumGoroutine")
theorem ents_of {P : Program} (h : P.funcs.toList.all entQ = true) : Ents P := fun f fn c hf hb => by
  rw [List.all_eq_true] at h
  have h1 := h fn (List.mem_of_getElem? (by rw [Array.getElem?_toList]; exact hf))
  unfold entQ at h1
  rw [hb] at h1
  simpa using h1
end Go.Ci
