/- The lockstep walk: a store into an element of an owned row. It speaks of no program. -/
import Derived.Test.YtmbckfhcljgniaaDoorLkI
namespace Go.Lk
open Go.RowKit

theorem cell_tr {w w' : World} {O O' : Nat → Prop} (t : Tr O w O' w') {b q : Nat} {u : Value} (h : w.cell? ⟨b, q, none⟩ = some u) (hb : ¬ O b) : w'.cell? ⟨b, q, none⟩ = some u := by
  have hlt : b < w.heap.size := by
    rcases Nat.lt_or_ge b w.heap.size with h' | h'
    · exact h'
    · simp [World.cell?, Array.getElem?_eq_none h'] at h
  have := t.block b hlt hb
  simpa [World.cell?, this] using h
theorem RDl.set {w : World} {O : Nat → Prop} {m : Nat} {x : List D} {vs : List Value} (hx : RDs w O x vs) (hm : vs.length = m) : ∀ {l : List (List D)} {cs : List Value} {j : Nat}, RDl w O m l cs → j < l.length → (j + 1) * m ≤ cs.length →
    RDl w O m (l.set j x) (cs.take (j * m) ++ vs ++ cs.drop (j * m + m))
  | [], _, _, _, h, _ => by simp at h
  | y :: l, cs, 0, h, _, _ => by
    refine ⟨?_, ?_⟩
    · simpa [← hm] using hx
    · have := h.2
      subst hm
      simpa using this
  | y :: l, cs, j + 1, h, hj, hl => by
    have e0 : (j + 1) * m = j * m + m := Nat.succ_mul j m
    have h1 : m ≤ ((j + 1) * m) := by rw [e0]; omega
    have h2 : m ≤ cs.length := by rw [Nat.succ_mul] at hl; omega
    have ih := RDl.set hx hm (l := l) (cs := cs.drop m) (j := j) h.2 (by simpa using hj) (by rw [List.length_drop, Nat.succ_mul]; rw [Nat.succ_mul, e0] at hl; omega)
    have h3 : (cs.take ((j + 1) * m)).length = (j + 1) * m := by rw [List.length_take]; rw [Nat.succ_mul] at hl; omega
    refine ⟨?_, ?_⟩
    · rw [List.append_assoc, List.take_append_of_le_length (by omega), List.take_take, Nat.min_eq_left h1]
      exact h.1
    · rw [List.append_assoc, List.drop_append_of_le_length (by omega), List.drop_take]
      have e1 : (j + 1) * m - m = j * m := by omega
      rw [e1, ← List.append_assoc]
      have e2 : cs.drop ((j + 1) * m + m) = (cs.drop m).drop (j * m + m) := by rw [List.drop_drop]; congr 1; omega
      rw [e2]
      exact ih
theorem Own.store {P : Program} {w : World} {O : Nat → Prop} {T m : Nat} {v : Value} {l : List (List D)} {x : List D} {vs : List Value} {b q len cap j : Nat} (h : Own w O T m v l) (hv : v = .slice (some ⟨b, q, none⟩) len cap) (hj : j < l.length) (hm : vs.length = m)
    (h1 : vs.all (·.oneCell') = true) (hx : RDs w O x vs) : ∃ w', (storeCells ⟨b, q + j * m, none⟩ vs).run P w = .ok () w' ∧ Own w' O T m v (l.set j x) ∧ Ext (fun y => v.ownBlock = some y) w w' := by
  obtain ⟨xs, k1, k2, k3, k4⟩ := h
  rcases k1.2 with ⟨k5, _⟩ | ⟨g, cap', cur, k5, k6, k7, k8, k9, k10, k11⟩
  · rw [k5] at hv; cases hv
  · have hv2 := hv.symm.trans k5
    simp only [Value.slice.injEq, Option.some.injEq, Addr.mk.injEq, and_true] at hv2
    obtain ⟨⟨rfl, rfl⟩, rfl, rfl⟩ := hv2
    have hb : BoxAt w b T cur.toList := by simpa [BoxAt] using k7
    have hle : (j + 1) * m ≤ cap * m := Nat.mul_le_mul_right m (by omega)
    have hle2 : (j + 1) * m ≤ l.length * m := Nat.mul_le_mul_right m (by omega)
    have e0 : (j + 1) * m = j * m + m := Nat.succ_mul j m
    obtain ⟨w', hr, hb', hx'⟩ := Ext.store_cells (P := P) (o := 0 + j * m) (vs := vs) hb (by rw [hm, Array.length_toList, k10]; omega) (by simpa using h1)
    have hown : ∀ y, v.ownBlock = some y → O y := k4
    have hblk : v.ownBlock = some b := by rw [k5]; rfl
    have hF : Ext (fun y => v.ownBlock = some y) w w' := hx'.mono fun y _ hy => by cases hy; exact hblk
    have t : Tr O w O w' := Tr.of_ext hF fun y _ hy => hown y hy
    have hrd : RDl w O m l cur.toList := by
      rw [← k11] at k2
      exact RDl.of_take (by simpa using k2)
    have hrd2 := (RDl.set hx hm (j := j) hrd hj (by rw [Array.length_toList, k10]; exact hle)).tr t
    have hlen : (cur.toList.take (j * m) ++ vs ++ cur.toList.drop (j * m + m)).length = cap * m := by
      simp only [List.length_append, List.length_take, List.length_drop, Array.length_toList, k10, hm]
      omega
    refine ⟨w', hr, ⟨(cur.toList.take (j * m) ++ vs ++ cur.toList.drop (j * m + m)).take (l.length * m), ⟨?_, .inr ⟨b, cap, (cur.toList.take (j * m) ++ vs ++ cur.toList.drop (j * m + m)).toArray, ?_, k6, ?_, ?_, k9, ?_, ?_⟩⟩, ?_, ?_, k4⟩, hF⟩
    · have hc : l.length * m ≤ cap * m := Nat.mul_le_mul_right m k8
      simp only [List.length_take, hlen, List.length_set]
      omega
    · simpa using k5
    · rw [Nat.zero_add, hm] at hb'
      exact hb'
    · simpa using k8
    · simpa using hlen
    · simp
    · have := RDl.take_cells hrd2
      simpa using this
    · have := RDl.one hrd2
      simpa using this
section
variable {C : Cx} {n : Nat} {ds : List Deferred} {k : Act → World → Prop} {L : Env} {w : World} {ops : Array Oper} {o : Oper} {rest : List Oper}
theorem OW.storeE {α : Type} {f : α → List D} {l : List α} {a : α} {O : Nat → Prop} {T U : TypeId} {x y : Operand} {b q len cap j m : Nat} {g : Bool} {u v : Value} {vs : List Value} (hg : o.guard = none) (hd : o.dst = none) (ho : o.op = .store T x y) (hT : shp C.P T = some (g, m)) (hx : ev L x = some (.pointer (some ⟨b, q + j * m, none⟩)))
    (hy : ev L y = some u) (hu : u.cells = vs.toArray) (hm : vs.length = m) (hv : v = .slice (some ⟨b, q, none⟩) len cap) (hown : Own w O U m v (l.map f)) (hj : j < l.length) (h1 : vs.all (·.oneCell') = true) (hr : RDs w O (f a) vs)
    (h : ∀ w', Own w' O U m v ((l.set j a).map f) → Ext (fun y => v.ownBlock = some y) w w' → OW C n ds ops rest k L w') : OW C n ds ops (o :: rest) k L w := by
  obtain ⟨w', hrun, ho', hx'⟩ := Own.store (P := C.P) hown hv (by simpa using hj) hm h1 hr
  refine OW.unit (w' := w') hg hd (fun a ha => ?_) (h w' (by rw [List.map_set]; exact ho') hx')
  simp [execOp, ho, ha.ev hx, ha.ev hy, Instr.storeAt, Instr.sureAddr, storeVar, hu, (run_isAgg hT).2, hm, hrun]
end
end Go.Lk
