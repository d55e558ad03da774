/- The base of the lockstep proofs: how data lie in memory (RD), which memory a step may turn (Ext, Tr), boxes. It speaks of no program. -/
import Derived.WalkKit
import Derived.WalkSpells
import Derived.WalkLawsBesides
set_option linter.all false
namespace Go.Lk
open Go.RowKit

inductive D where
  | int (k : IntKind) (n : Int)
  | bool (b : Bool)
  | str (s : List UInt8)
  | sl (T n : Nat) (l : List (List D))
  | val (v : Value)

/-- The value v reads, in the world w, as the datum d; no block of its reading is in O. -/
def RD (w : World) (O : Nat → Prop) : D → Value → Prop
  | .int k n, v => v = .int k n
  | .bool b, v => v = .bool b
  | .str s, v => v = .string ⟨s.toArray⟩
  | .val u, v => v = u ∧ u.oneCell' = true
  | .sl T n l, v => ((∃ p : Option Addr, v = .slice p 0 0) ∧ l = []) ∨ ∃ b off cap cs, ∃ fr : TypeId × (Nat × Nat), v = .slice (some ⟨b, off, none⟩) l.length cap ∧ l.length ≤ cap ∧ cap ≤ maxLen ∧
      ¬ O b ∧ w.heap[b]? = some (.cells cs fr.1 fr.2) ∧ off + cap * n ≤ cs.size ∧ RDl n l (cs.toList.drop off)
where
  RDs : List D → List Value → Prop
  | [], vs => vs = []
  | d :: ds, vs => ∃ v vs', vs = v :: vs' ∧ RD w O d v ∧ RDs ds vs'
  RDl (n : Nat) : List (List D) → List Value → Prop
  | [], _ => True
  | x :: xs, cs => RDs x (cs.take n) ∧ RDl n xs (cs.drop n)

abbrev RDs (w : World) (O : Nat → Prop) (ds : List D) (vs : List Value) : Prop := RD.RDs w O ds vs
abbrev RDl (w : World) (O : Nat → Prop) (n : Nat) (l : List (List D)) (vs : List Value) : Prop := RD.RDl w O n l vs

section
variable {w w' : World} {O O' : Nat → Prop}
mutual
theorem RD.keep (h : ∀ b, b < w.heap.size → ¬ O b → w'.heap[b]? = w.heap[b]? ∧ ¬ O' b) : ∀ (d : D) (v : Value), RD w O d v → RD w' O' d v
  | .int k n, v, r => by simpa [RD] using r
  | .bool b, v, r => by simpa [RD] using r
  | .str s, v, r => by simpa [RD] using r
  | .val u, v, r => by simpa [RD] using r
  | .sl T n l, v, r => by
    rw [RD] at r ⊢
    rcases r with r | ⟨b, off, cap, cs, fr, h1, h2, h3, h4, h5, h6, h7⟩
    · exact .inl r
    · have hb : b < w.heap.size := by
        rcases Nat.lt_or_ge b w.heap.size with hb | hb
        · exact hb
        · simp [Array.getElem?_eq_none hb] at h5
      obtain ⟨k1, k2⟩ := h b hb h4
      exact .inr ⟨b, off, cap, cs, fr, h1, h2, h3, k2, k1.trans h5, h6, RDl.keep h n l _ h7⟩
theorem RDs.keep (h : ∀ b, b < w.heap.size → ¬ O b → w'.heap[b]? = w.heap[b]? ∧ ¬ O' b) : ∀ (ds : List D) (vs : List Value), RDs w O ds vs → RDs w' O' ds vs
  | [], vs, r => r
  | d :: ds, vs, r => by
    obtain ⟨v, vs', h1, h2, h3⟩ := r
    exact ⟨v, vs', h1, RD.keep h d v h2, RDs.keep h ds vs' h3⟩
theorem RDl.keep (h : ∀ b, b < w.heap.size → ¬ O b → w'.heap[b]? = w.heap[b]? ∧ ¬ O' b) : ∀ (n : Nat) (l : List (List D)) (vs : List Value), RDl w O n l vs → RDl w' O' n l vs
  | _, [], _, _ => trivial
  | n, x :: xs, _, r => ⟨RDs.keep h x _ r.1, RDl.keep h n xs _ r.2⟩
end
end

mutual
theorem RD.one {w : World} {O : Nat → Prop} : ∀ (d : D) (v : Value), RD w O d v → v.oneCell' = true
  | .int k n, v, r => by simp only [RD] at r; subst r; rfl
  | .bool b, v, r => by simp only [RD] at r; subst r; rfl
  | .str s, v, r => by simp only [RD] at r; subst r; rfl
  | .val u, v, r => by simp only [RD] at r; rw [r.1]; exact r.2
  | .sl T n l, v, r => by
    rw [RD] at r
    rcases r with ⟨⟨_, r⟩, _⟩ | ⟨b, off, cap, cs, fr, h1, _⟩ <;> simp_all [Value.oneCell']
theorem RDs.one {w : World} {O : Nat → Prop} : ∀ (ds : List D) (vs : List Value), RDs w O ds vs → ∀ v ∈ vs, v.oneCell' = true
  | [], vs, r => by simp only [RDs, RD.RDs] at r; subst r; simp
  | d :: ds, vs, r => by
    obtain ⟨v, vs', h1, h2, h3⟩ := r
    subst h1
    intro u hu
    rcases List.mem_cons.1 hu with rfl | hu
    · exact RD.one d _ h2
    · exact RDs.one ds vs' h3 u hu
end
/-- What was there and is not in F stands as it stood. -/
structure Ext (F : Nat → Prop) (w w' : World) : Prop where
  os : w'.os = w.os
  tape : w'.tape = w.tape
  output : w'.output = w.output
  size : w.heap.size ≤ w'.heap.size
  block : ∀ b, b < w.heap.size → ¬ F b → w'.heap[b]? = w.heap[b]?
def Nowhere : Nat → Prop := fun _ => False
def At (b : Nat) : Nat → Prop := fun x => x = b
/-- O and b besides. -/
def Ins (O : Nat → Prop) (b : Nat) : Nat → Prop := fun x => x = b ∨ O x

theorem World.heap_alloc_old' (w : World) (o : Obj) (i : Nat) (h : i < w.heap.size) : (w.alloc o).heap[i]? = w.heap[i]? := by
  show (w.heap.push o)[i]? = _
  rw [Array.getElem?_push, if_neg (by omega)]
theorem Ext.refl (F : Nat → Prop) (w : World) : Ext F w w := ⟨rfl, rfl, rfl, Nat.le_refl _, fun _ _ _ => rfl⟩
theorem Ext.mono {F G : Nat → Prop} {w w' : World} (h : Ext F w w') (hf : ∀ x, x < w.heap.size → F x → G x) : Ext G w w' :=
  ⟨h.os, h.tape, h.output, h.size, fun b hb hg => h.block b hb fun hx => hg (hf b hb hx)⟩
theorem Ext.trans {F : Nat → Prop} {a b c : World} (h : Ext F a b) (k : Ext F b c) : Ext F a c :=
  ⟨k.os.trans h.os, k.tape.trans h.tape, k.output.trans h.output, Nat.le_trans h.size k.size, fun i hi hf =>
    (k.block i (Nat.lt_of_lt_of_le hi h.size) hf).trans (h.block i hi hf)⟩
/-- One step more, which turns G: what of G was there at the beginning is in F. -/
theorem Ext.step {F G : Nat → Prop} {a b c : World} (h : Ext F a b) (k : Ext G b c) (hg : ∀ x, x < a.heap.size → G x → F x) : Ext F a c :=
  ⟨k.os.trans h.os, k.tape.trans h.tape, k.output.trans h.output, Nat.le_trans h.size k.size, fun i hi hf =>
    (k.block i (Nat.lt_of_lt_of_le hi h.size) fun hx => hf (hg i hi hx)).trans (h.block i hi hf)⟩
theorem Ext.below {w w' : World} (h : Ext Nowhere w w') : Below w.heap.size w w' := ⟨h.os, h.tape, h.output, h.size, fun k hk => h.block k hk id⟩
theorem Ext.of_below {w w' : World} (h : Below w.heap.size w w') : Ext Nowhere w w' := ⟨h.os, h.tape, h.output, h.size, fun k hk _ => h.block k hk⟩
theorem Ext.drew (F : Nat → Prop) (w : World) : Ext F w w.drew := ⟨rfl, rfl, rfl, Nat.le_refl _, fun _ _ _ => rfl⟩
theorem Ext.alloc (F : Nat → Prop) (w : World) (o : Obj) : Ext F w (w.alloc o) := ⟨rfl, rfl, rfl, by simp, fun k hk _ => World.heap_alloc_old' w o k hk⟩
theorem Ext.setCell (w : World) (a : Addr) (v : Value) : Ext (At a.block) w (w.setCell a v) :=
  ⟨rfl, rfl, rfl, by simp, fun k _ hf => heap_setCell_other w a k v (fun e => hf e)⟩

/-- From (w, O) to (w', O'): what is read apart from O reads as it did, apart from O'; what is new in O' was not there. -/
structure Tr (O : Nat → Prop) (w : World) (O' : Nat → Prop) (w' : World) : Prop where
  size : w.heap.size ≤ w'.heap.size
  block : ∀ b, b < w.heap.size → ¬ O b → w'.heap[b]? = w.heap[b]?
  owned : ∀ b, b < w.heap.size → ¬ O b → ¬ O' b

theorem Tr.refl (O : Nat → Prop) (w : World) : Tr O w O w := ⟨Nat.le_refl _, fun _ _ _ => rfl, fun _ _ h => h⟩
theorem Tr.trans {O1 O2 O3 : Nat → Prop} {a b c : World} (h : Tr O1 a O2 b) (k : Tr O2 b O3 c) : Tr O1 a O3 c :=
  ⟨Nat.le_trans h.size k.size, fun i hi ho => (k.block i (Nat.lt_of_lt_of_le hi h.size) (h.owned i hi ho)).trans (h.block i hi ho),
    fun i hi ho => k.owned i (Nat.lt_of_lt_of_le hi h.size) (h.owned i hi ho)⟩
theorem Tr.of_ext {F O : Nat → Prop} {w w' : World} (h : Ext F w w') (hf : ∀ x, x < w.heap.size → F x → O x) : Tr O w O w' :=
  ⟨h.size, fun b hb ho => h.block b hb fun hx => ho (hf b hb hx), fun _ _ ho => ho⟩
/-- A step that turns F, which is O's, and makes a block that is O's from now on. -/
theorem Tr.of_new {F O : Nat → Prop} {w w' : World} {b : Nat} (h : Ext F w w') (hf : ∀ x, x < w.heap.size → F x → O x) (hb : w.heap.size ≤ b) : Tr O w (Ins O b) w' :=
  ⟨h.size, fun c hc ho => h.block c hc fun hx => ho (hf c hc hx), fun c hc ho => by rintro (rfl | h') <;> first | omega | exact ho h'⟩
/-- What is owned no longer is data. -/
theorem Tr.drop {O O' : Nat → Prop} (w : World) (h : ∀ x, O' x → O x) : Tr O w O' w := ⟨Nat.le_refl _, fun _ _ _ => rfl, fun b _ ho h' => ho (h b h')⟩
theorem RD.tr {O O' : Nat → Prop} {w w' : World} {d : D} {v : Value} (h : RD w O d v) (t : Tr O w O' w') : RD w' O' d v :=
  RD.keep (fun b hb ho => ⟨t.block b hb ho, t.owned b hb ho⟩) d v h
theorem RDs.tr {O O' : Nat → Prop} {w w' : World} {d : List D} {v : List Value} (h : RDs w O d v) (t : Tr O w O' w') : RDs w' O' d v :=
  RDs.keep (fun b hb ho => ⟨t.block b hb ho, t.owned b hb ho⟩) d v h

/-- Block b holds these cells, of element type T, none of them frozen. -/
def BoxAt (w : World) (b : Nat) (T : TypeId) (cs : List Value) : Prop := w.heap[b]? = some (.cells cs.toArray T (0, 0))
theorem BoxAt.lt {w : World} {b : Nat} {T : TypeId} {cs : List Value} (h : BoxAt w b T cs) : b < w.heap.size := by
  rcases Nat.lt_or_ge b w.heap.size with hb | hb
  · exact hb
  · simp [BoxAt, Array.getElem?_eq_none hb] at h
theorem BoxAt.keep {F : Nat → Prop} {w w' : World} {b : Nat} {T : TypeId} {cs : List Value} (h : BoxAt w b T cs) (k : Ext F w w') (hf : ¬ F b) : BoxAt w' b T cs :=
  (k.block b h.lt hf).trans h
theorem BoxAt.cell {w : World} {b : Nat} {T : TypeId} {cs : List Value} (h : BoxAt w b T cs) (j : Nat) : w.cell? ⟨b, j, none⟩ = cs[j]? := by
  rw [cell_of_row w b j cs.toArray T (0, 0) h]; simp
theorem BoxAt.free {w : World} {b : Nat} {T : TypeId} {cs : List Value} (h : BoxAt w b T cs) (j : Nat) : w.frozen? ⟨b, j, none⟩ = false :=
  frozen_of_row w b j cs.toArray T h
theorem BoxAt.new (w : World) (T : TypeId) (cs : List Value) : BoxAt (w.alloc (.cells cs.toArray T)) w.heap.size T cs := heap_alloc_new w _
theorem BoxAt.set {w : World} {b : Nat} {T : TypeId} {cs : List Value} (h : BoxAt w b T cs) (j : Nat) (v : Value) : BoxAt (w.setCell ⟨b, j, none⟩ v) b T (cs.set j v) := by
  simp only [BoxAt] at h ⊢
  rw [heap_setCell_same w b j cs.toArray T v h]; simp
end Go.Lk
