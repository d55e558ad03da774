import Derived.Test.YtfhgkcjhgmoceaaGreatDoorCiA
import Derived.Deep.AppendSrc
import Derived.Laws.MakeOwn
set_option linter.all false
namespace Go.Ci
open Go.RowKit Go.Lk
section
/-- A step of the heap and the world. -/
structure Nx (z : Bs) (N : Nat) (Φ : Ph) (N' : Nat) (Φ' : Ph) (H' : Hp) (w' : World) : Prop where
  hr : HR z N' Φ' H' w'
  ag : Ag N Φ Φ'
  le : N ≤ N'
/-- The operation gives v, and leaves H'. -/
def VA (P : Program) (z : Bs) (w : World) (N : Nat) (Φ : Ph) (s : Sem Value) (v : CV) (H' : Hp) : Prop := ∃ N' Φ' w', Nx z N Φ N' Φ' H' w' ∧ s.run P w = .ok (enc Φ' v) w' ∧ Ok N' Φ' v
section
variable {P : Program} {z : Bs} {w : World} {N n : Nat} {Φ : Ph} {H : Hp} {L : T CV} {a : Act} {o : Oper}
theorem enc_new {l b : Nat} {cs : List CV} (h : Oks N Φ cs) : Oks (N + 1) (Φ.new N b l) cs ∧ encs (Φ.new N b l) cs = encs Φ cs := Oks.ag (Ph.new_ag Φ N b l) (by omega) h
/-- A new row. -/
theorem HR.newRow {w' : World} {cs : List CV} {ex : List Value} {T l : Nat} {fr : Nat × Nat} (h : HR z N Φ H w) (x : Ext Nowhere w w') (hb : w'.heap[w.heap.size]? = some (.cells (encs Φ cs ++ ex).toArray T fr)) (h1 : Oks N Φ cs) (h2 : ones cs = true) (h3 : cs.length ≤ l) (h4 : l ≤ cs.length + ex.length) (h5 : ∀ i, i < l → ¬ (fr.1 ≤ i ∧ i < fr.2)) :
    Nx z N Φ (N + 1) (Φ.new N w.heap.size l) (H.new (.row T cs)) w' := by
  have hlt : w.heap.size < w'.heap.size := (Array.getElem?_eq_some_iff.1 hb).1
  obtain ⟨k1, k2⟩ := enc_new (l := l) (b := w.heap.size) h1
  refine ⟨h.new x (Nat.le_refl _) hlt ⟨ex, fr, by rw [k2]; exact hb, k1, h2, ?_, ?_, ?_⟩, Ph.new_ag _ _ _ _, by omega⟩
  · rw [Ph.new_lim]; exact h3
  · rw [Ph.new_lim]; exact h4
  · rw [Ph.new_lim]; exact h5
theorem alloc_at (w : World) (o : Obj) : (w.alloc o).heap[w.heap.size]? = some o := heap_alloc_new w o
theorem HR.allocRow {cs : List CV} {T : Nat} (h : HR z N Φ H w) (h1 : Oks N Φ cs) (h2 : ones cs = true) :
    Nx z N Φ (N + 1) (Φ.new N w.heap.size cs.length) (H.new (.row T cs)) (w.alloc (.cells (encs Φ cs).toArray T)) :=
  h.newRow (T := T) (ex := []) (fr := (0, 0)) (Ext.alloc _ _ _) (by rw [alloc_at]; simp) h1 h2 (Nat.le_refl _) (Nat.le_add_right _ _) (fun i hi k => by omega)
theorem box1_some {x : Option CV} {v : CV} (h : box1 x = some v) : x = some v ∧ boxQ v = true := by
  unfold box1 at h
  split at h
  · split at h
    · rename_i hb; cases h; exact ⟨rfl, hb⟩
    · cases h
  · cases h
theorem new_ptr (H : Hp) (h : HR z N Φ H w) (l : Nat) : enc (Φ.new N w.heap.size l) (.ptr H.nx 0) = .pointer (some ⟨w.heap.size, 0, none⟩) ∧ Ok (N + 1) (Φ.new N w.heap.size l) (.ptr H.nx 0) := by
  simp only [enc, Ok, h.nx, Ph.new_blk]
  exact ⟨trivial, by omega⟩
theorem alloc_ok (hr : HR z N Φ H w) {t : Nat} {v : CV} {H' : Hp} (h : rowO H t (zer? P t) = .val v H') : VA P z w N Φ (Instr.alloc t true (.tuple #[])) v H' := by
  unfold rowO at h
  split at h
  · rename_i c hc
    cases h
    obtain ⟨u, k1, k2, k3, _, k4⟩ := zer?_some (w := w) (N := N) (Φ := Φ) hc
    obtain ⟨c1, c2⟩ := cellsOf_ones k4 k3
    obtain ⟨e1, e2⟩ := new_ptr H hr (cellsOf c).length
    refine ⟨_, _, _, hr.allocRow (T := t) c2 c1, ?_, e2⟩
    have hcs : u.cells = (encs Φ (cellsOf c)).toArray := by rw [← k2]; exact cells_enc c
    rw [e1]
    simp [Instr.alloc, k1, newVar, newRow, hcs]
  · cases h
theorem boxO_ok (hr : HR z N Φ H w) {t : Nat} {x : Option CV} {v : CV} {H' : Hp} {u : Value} (hu : ∀ c, x = some c → u = enc Φ c ∧ Ok N Φ c) (h : rowO H t (box1 x) = .val v H') : VA P z w N Φ (Instr.box t u) v H' := by
  unfold rowO at h
  split at h
  · rename_i c hc
    cases h
    obtain ⟨rfl, k4⟩ := box1_some hc
    obtain ⟨rfl, k3⟩ := hu c rfl
    obtain ⟨c1, c2⟩ := cellsOf_ones k4 k3
    obtain ⟨e1, e2⟩ := new_ptr H hr (cellsOf c).length
    refine ⟨_, _, _, hr.allocRow (T := t) c2 c1, ?_, e2⟩
    rw [e1]
    simp [Instr.box, newVar, newRow, cells_enc]
  · cases h
/-! Rows turned. -/
theorem setCells_heap (b T : Nat) (fr : Nat × Nat) : ∀ (vs : List Value) (o : Nat) (w : World) (c : List Value), w.heap[b]? = some (.cells c.toArray T fr) → o + vs.length ≤ c.length →
    (w.setCells b o vs).heap[b]? = some (.cells (c.take o ++ vs ++ c.drop (o + vs.length)).toArray T fr) ∧ Ext (At b) w (w.setCells b o vs)
  | [], o, w, c, h, hl => ⟨by simpa [World.setCells] using h, Ext.refl _ _⟩
  | v :: vs, o, w, c, h, hl => by
    simp only [List.length_cons] at hl
    have hlt := (Array.getElem?_eq_some_iff.1 h).1
    have h1 : (w.setCell ⟨b, o, none⟩ v).heap[b]? = some (.cells (c.set o v).toArray T fr) := by
      unfold World.setCell
      simp only [Array.getElem?_modify, if_true, h, Option.map_some]
      congr 2
      simp
    obtain ⟨k1, k2⟩ := setCells_heap b T fr vs (o + 1) (w.setCell ⟨b, o, none⟩ v) (c.set o v) h1 (by simp; omega)
    refine ⟨?_, (Ext.setCell w ⟨b, o, none⟩ v).trans k2⟩
    rw [World.setCells, k1]
    congr 3
    simp only [List.length_cons]
    rw [List.drop_set_of_lt (by omega), List.take_set]
    have : (c.take (o + 1)).set o v = c.take o ++ [v] := by
      rw [List.take_succ_eq_append_getElem (by omega), List.set_append]
      rw [if_neg (by simp; omega)]
      simp
      rw [show o - min o c.length = 0 by omega]
      rfl
    rw [this, show o + 1 + vs.length = o + (vs.length + 1) by omega]
    simp
/-- Cells of a row may be written as_ far as_ its end. -/
theorem HR.room (h : HR z N Φ H w) {b : Nat} {cs : List CV} (hb : rowAt (H.get b) = some cs) {off k : Nat} (hk : off + k ≤ Φ.lim b) (j : Nat) (hj : j < k) : (w.cell? ⟨Φ.blk b, off + j, none⟩).isSome = true ∧ w.frozen? ⟨Φ.blk b, off + j, none⟩ = false := by
  obtain ⟨_, _, _, ex, fr, h1, _, _, _, h4, h5⟩ := h.obj b _ (rowAt_some hb)
  constructor
  · unfold World.cell?
    rw [h1]
    have : off + j < (encs Φ cs ++ ex).length := by simp [encs_len]; omega
    simp [List.getElem?_eq_getElem this]
  · unfold World.frozen?
    rw [h1]
    have := h5 (off + j) (by omega)
    simp only
    rw [Bool.and_eq_false_iff]
    rcases Nat.lt_or_ge (off + j) fr.1 with k1 | k1
    · left; simpa using k1
    · right; simp; omega
/-- New cells in a row. -/
theorem HR.setRow (h : HR z N Φ H w) {b : Nat} {cs r : List CV} (hb : rowAt (H.get b) = some cs) {off : Nat} {vs : List CV} (h1 : off ≤ cs.length) (h2 : off + vs.length ≤ Φ.lim b) (hr : r = cs.take off ++ vs ++ cs.drop (off + vs.length)) (k1 : Oks N Φ vs) (k2 : ones vs = true) :
    HR z N Φ (H.row b r) (w.setCells (Φ.blk b) off (encs Φ vs)) := by
  have hrow := rowAt_some hb
  obtain ⟨_, _, _, ex, fr, g1, g2, g3, g4, g5, g6⟩ := h.obj b _ hrow
  obtain ⟨e1, e2⟩ := setCells_heap (Φ.blk b) _ fr (encs Φ vs) off w (encs Φ cs ++ ex) g1 (by simp [encs_len]; omega)
  refine h.put hrow e2 ?_
  subst hr
  refine ⟨ex.drop (off + vs.length - cs.length), fr, ?_, Oks.append (Oks.append (g2.take _) k1) (g2.drop _), ones_append (ones_append (ones_take _ g3) k2) (ones_drop _ g3), ?_, ?_, g6⟩
  · rw [e1]
    congr 3
    simp only [encs_append, encs_take, encs_drop, encs_len]
    rw [List.take_append_of_le_length (by simp [encs_len]; exact h1), List.drop_append]
    simp [encs_len]
  · simp; omega
  · simp; omega
theorem oneV {vs : List CV} (k1 : Oks N Φ vs) (k2 : ones vs = true) : ∀ u ∈ encs Φ vs, u.oneCell' = true := fun u hu => by
  rw [encs_map] at hu
  obtain ⟨v, hv, rfl⟩ := List.mem_map.1 hu
  unfold ones at k2
  rw [List.all_eq_true] at k2
  exact one_enc (k2 v hv) (Oks_iff.1 k1 v hv)
theorem store_ok (hr : HR z N Φ H w) {t : Nat} {x y : Option CV} {H' : Hp} {u v : Value} (hu : ∀ c, x = some c → u = enc Φ c ∧ Ok N Φ c) (hv : ∀ c, y = some c → v = enc Φ c ∧ Ok N Φ c) (h : aStore H (shp P t) x y = .unit H') :
    ∃ w', HR z N Φ H' w' ∧ (Instr.storeAt t u v).run P w = .ok () w' := by
  unfold aStore at h
  split at h
  · rename_i g m hs
    split at h
    · rename_i b off
      obtain ⟨rfl, _⟩ := hu _ rfl
      split at h
      · rename_i c hc
        obtain ⟨rfl, k4⟩ := box1_some hc
        obtain ⟨rfl, k3⟩ := hv c rfl
        obtain ⟨c1, c2⟩ := cellsOf_ones k4 k3
        unfold aSt1 at h
        split at h
        · rename_i hm
          have hm := Nat.eq_of_beq_eq_true hm
          rw [lenL_eq] at hm
          unfold storeO at h
          split at h
          · rename_i r hr2
            cases h
            cases hrow : rowAt (H.get b) with
            | none => rw [hrow] at hr2; cases hr2
            | some cs =>
              rw [hrow] at hr2
              obtain ⟨h3, h4⟩ := setQ_eq (cs := cs) hr2
              have hlim : cs.length ≤ Φ.lim b := by
                obtain ⟨_, _, _, ex, fr, _, _, _, g4, _⟩ := hr.obj b _ (rowAt_some hrow)
                exact g4
              refine ⟨_, hr.setRow hrow (by omega) (by omega) h4 c2 c1, ?_⟩
              have hst := run_storeCells_cells (P := P) (Φ.blk b) off (encs Φ (cellsOf c)) 0 w (fun j hj => (hr.room hrow (off := off) (k := (cellsOf c).length) (by omega) j (by simpa [encs_len] using hj)).1) (fun j hj => (hr.room hrow (off := off) (k := (cellsOf c).length) (by omega) j (by simpa [encs_len] using hj)).2) (oneV c2 c1)
              simp only [Nat.add_zero] at hst
              simp [Instr.storeAt, Instr.sureAddr, enc, storeVar, cells_enc, (run_isAgg hs).2, encs_len, hm, hst]
          · cases h
        · cases h
      · cases h
    · cases h
  · cases h
theorem elI_ok {t m by_ e : Nat} (h : elI P t = some (m, by_, e)) : ∃ i z, P.underlying t = some (.slice e) ∧ P.info? e = some i ∧ i.zero = some z ∧ z.cells.size = m ∧ i.size = m ∧ i.bytes = by_ ∧ 0 < m := by
  unfold elI at h
  split at h
  · rename_i e1 he
    split at h
    · rename_i i hi
      unfold elZ at h
      split at h
      · rename_i z0 hz
        split at h
        · rename_i hb
          rw [Bool.and_eq_true] at hb
          cases h
          exact ⟨i, z0, slOf_ok he, hi, hz, Nat.eq_of_beq_eq_true hb.1, rfl, rfl, blt_ok hb.2⟩
        · cases h
      · cases h
    · cases h
  · cases h
theorem bytC_eq : ∀ (s : List UInt8), bytC s = s.map fun c => .int .u8 (.ofNat c.toNat)
  | [] => rfl
  | c :: s => by show _ :: bytC s = _; rw [bytC_eq s]; rfl
theorem bytC_enc (s : List UInt8) : encs Φ (bytC s) = byteCells ⟨s.toArray⟩ ∧ Oks N Φ (bytC s) ∧ ones (bytC s) = true ∧ (bytC s).length = s.length := by
  rw [bytC_eq]
  refine ⟨?_, Oks_iff.2 fun v hv => ?_, ?_, by simp⟩
  · simp [encs_map, byteCells, enc]
  · obtain ⟨c, _, rfl⟩ := List.mem_map.1 hv; trivial
  · unfold ones; rw [List.all_eq_true]; intro v hv; obtain ⟨c, _, rfl⟩ := List.mem_map.1 hv; rfl
/-- What is appended. -/
theorem src_ok (hr : HR z N Φ H w) {t m : Nat} {v : CV} {k : Nat} {new : List CV} (hv : Ok N Φ v) (h : srcC P H t m v = some (k, new)) : Src P m t (enc Φ v) k (encs Φ new) w ∧ Oks N Φ new ∧ ones new = true ∧ new.length = k * m := by
  unfold srcC at h
  split at h
  · rename_i b off m' len cap
    split at h
    · rename_i hb
      rw [Bool.and_eq_true] at hb
      obtain rfl := Nat.eq_of_beq_eq_true hb.1
      obtain ⟨e, he⟩ := some?_ok hb.2
      cases hc : cellsAt H b off (Nat.mul len m) with
      | none => rw [hc] at h; cases h
      | some cs =>
        rw [hc] at h
        cases h
        obtain ⟨h1, h2, h3, h4⟩ := hr.cells hc
        refine ⟨?_, h2, h3, h1⟩
        simp only [enc]
        exact Src.ofSlice w (slOf_ok he) _ _ _ _ (by rw [encs_len, h1]; rfl) (fun j u hu => by rw [Addr.add_lit]; exact h4 j u hu) (oneV h2 h3)
    · cases h
  · rename_i b off0 off m'
    cases hs : some? (slOf P t) with
    | false => rw [hs] at h; cases h
    | true =>
      rw [hs] at h
      cases h
      obtain ⟨e, he⟩ := some?_ok hs
      refine ⟨?_, trivial, rfl, by simp⟩
      simp only [enc]
      exact Src.ofSlice w (slOf_ok he) _ _ _ _ (by simp [encs]) (fun j u hu => by simp [encs] at hu) (fun u hu => by simp [encs] at hu)
  · cases hs : some? (slOf P t) with
    | false => rw [hs] at h; cases h
    | true =>
      rw [hs] at h
      cases h
      obtain ⟨e, he⟩ := some?_ok hs
      exact ⟨Src.ofNil w (slOf_ok he) 0, trivial, rfl, by simp⟩
  · rename_i s
    split at h
    · rename_i hb
      rw [Bool.and_eq_true] at hb
      have hm := Nat.eq_of_beq_eq_true hb.1
      subst hm
      cases h
      obtain ⟨k1, k2, k3, k4⟩ := bytC_enc (N := N) (Φ := Φ) s
      refine ⟨?_, k2, k3, by rw [k4, lenL_eq]; simp⟩
      rw [k1, lenL_eq]
      simp only [enc]
      have := Src.ofString (P := P) w (strQ_ok hb.2) ⟨s.toArray⟩
      rw [bytes_size] at this
      exact this
    · cases h
  · cases h
end
end
section
section
variable {P : Program} {z : Bs} {w : World} {N n : Nat} {Φ : Ph} {H : Hp} {L : T CV} {a : Act} {o : Oper}
theorem takeQ_all {β : Type} : ∀ (l : List β), takeQ l.length l = some l
  | [] => rfl
  | x :: l => by
    show (match takeQ l.length l with | some r => some (x :: r) | none => none) = _
    rw [takeQ_all l]
theorem grow_ok (hr : HR z N Φ H w) {t tx ty m by_ e : Nat} {i : TypeInfo} {z0 : Value} (ht : P.underlying t = some (.slice e)) (hi : P.info? e = some i) (hz : i.zero = some z0) (hzs : z0.cells.size = m) (hm : i.size = m) (hb : i.bytes = by_) (h0 : 0 < m)
    {base : Option Addr} {sLen sCap k : Nat} {olds : List Value} {x : Value} {news : List Value} {cs : List CV} (hold : (Builtin.firstCells m sLen (.slice base sLen sCap)).run P w.drew = .ok olds.toArray w.drew) (hs : Src P m tx x k news w)
    (hg : sCap < sLen + k) (hc : encs Φ cs = olds ++ news) (hl : cs.length = (sLen + k) * m) (h1 : Oks N Φ cs) (h2 : ones cs = true) (h3 : (sLen + k) * by_ ≤ 140737488355328) (h4 : sLen + k ≤ 140737488355328) :
    VA P z w N Φ (Builtin.append_ #[t, tx] ty #[.slice base sLen sCap, x]) (.sl H.nx 0 m (sLen + k) none) (H.new (.row e cs)) := by
  subst hm hb
  have hrun := run_append_grow_src (P := P) w t tx ty e i z0 ht hi hz base sLen sCap olds hold x k news hs hg (by omega) (growslice_fits hg h3)
  have hge := grownCap_ge w (sLen + k) sCap e
  have hle := grownCap_le_maxLen w (sLen + k) sCap e (by unfold maxLen; omega)
  generalize hgr : grownCap w (sLen + k) sCap e = g at hrun hge hle
  have hex : (Builtin.zeroCells z0.cells (g - (sLen + k))).toList.length = (g - (sLen + k)) * i.size := by
    rw [Array.length_toList, size_zeroCells, hzs]
  have hmul : (sLen + k) * i.size + (g - (sLen + k)) * i.size = g * i.size := by rw [← Nat.add_mul]; congr 1; omega
  have hmono : (sLen + k) * i.size ≤ g * i.size := Nat.mul_le_mul_right _ hge
  have nx := hr.newRow (w' := w.drew.alloc (.cells ((olds ++ news).toArray ++ Builtin.zeroCells z0.cells (g - (sLen + k))) e)) (cs := cs) (ex := (Builtin.zeroCells z0.cells (g - (sLen + k))).toList) (T := e) (l := g * i.size) (fr := (0, 0)) ((Ext.drew _ w).trans (Ext.alloc _ _ _)) (by
    have := alloc_at w.drew (.cells ((olds ++ news).toArray ++ Builtin.zeroCells z0.cells (g - (sLen + k))) e)
    rw [show w.drew.heap.size = w.heap.size from rfl] at this
    rw [this, hc]
    congr 2
    apply Array.toList_inj.1
    simp) h1 h2 (by rw [hl]; exact hmono) (by rw [hl, hex]; omega) (fun j hj k => by omega)
  refine ⟨_, _, _, nx, ?_, ?_⟩
  · rw [hrun]
    simp only [enc, hr.nx, Ph.new_blk, Ph.new_lim, Nat.sub_zero]
    rw [Nat.mul_div_cancel _ h0]
  · simp only [Ok, hr.nx, Ph.new_lim]
    exact ⟨by omega, h0, g, by omega, hge, hle⟩
theorem appNew_val {m by_ e k : Nat} {cs : List CV} {v : CV} {H' : Hp} (h : appNew H m by_ e k cs = .val v H') : k * by_ ≤ 140737488355328 ∧ k ≤ 140737488355328 ∧ v = .sl H.nx 0 m k none ∧ H' = H.new (.row e cs) := by
  unfold appNew at h
  split at h
  · rename_i hb
    rw [Bool.and_eq_true] at hb
    cases h
    exact ⟨ble_ok hb.1, ble_ok hb.2, rfl, rfl⟩
  · cases h
theorem app_ok (hr : HR z N Φ H w) {t tx ty : Nat} {x y : Option CV} {v : CV} {H' : Hp} {u u2 : Value} (hu : ∀ c, x = some c → u = enc Φ c ∧ Ok N Φ c) (hv : ∀ c, y = some c → u2 = enc Φ c ∧ Ok N Φ c) (h : aApp P H t tx x y = .val v H') :
    VA P z w N Φ (Builtin.append_ #[t, tx] ty #[u, u2]) v H' := by
  unfold aApp at h
  split at h
  · rename_i m by_ e hel
    obtain ⟨i, z0, ht, hi, hz, hzs, him, hib, h0⟩ := elI_ok hel
    split at h
    · rename_i k new hsrc
      unfold src? at hsrc
      split at hsrc
      · rename_i cy
        obtain ⟨rfl, hcy⟩ := hv cy rfl
        obtain ⟨s1, s2, s3, s4⟩ := src_ok hr hcy hsrc
        unfold app2 at h
        split at h
        · -- onto nil
          obtain ⟨rfl, _⟩ := hu _ rfl
          simp only [enc]
          split at h
          · rename_i hk
            obtain rfl := Nat.eq_of_beq_eq_true hk
            cases h
            refine ⟨N, Φ, w, ⟨hr, Ag.refl _ _, Nat.le_refl _⟩, ?_, trivial⟩
            have hc := s1.cells
            subst him
            rcases s1.kind with ⟨e', hk⟩ | hk <;> simp [Builtin.append_, run_underlying ht, run_underlying hk, sizeOf, typeInfo, hi, s1.len, hc, enc]
          · rename_i hk
            have hk : 0 < k := by
              rcases Nat.eq_zero_or_pos k with e | e
              · subst e; cases hk
              · exact e
            obtain ⟨h3, h4, rfl, rfl⟩ := appNew_val h
            have := grow_ok (ty := ty) hr ht hi hz hzs him hib h0 (base := none) (sLen := 0) (sCap := 0) (olds := []) (cs := new) (by simpa using run_firstCells_none w.drew m 0 0 0) s1 (by omega) rfl (by rw [s4]; simp) s2 s3 (by simpa using h3) (by simpa using h4)
            simpa using this
        · -- onto a slice
          rename_i b off m' len cap
          obtain ⟨rfl, hcu⟩ := hu _ rfl
          split at h
          · rename_i hmm
            obtain rfl := Nat.eq_of_beq_eq_true hmm
            split at h
            · rename_i cs hrow
              unfold appSl at h
              simp only [Ok] at hcu
              split at h
              · -- a cap that is known
                rename_i c
                obtain ⟨hbN, q2, q3, q4⟩ := hcu
                split at h
                · -- room
                  rename_i hroom
                  have hroom : len + k ≤ c := ble_ok hroom
                  unfold valO at h
                  split at h
                  · rename_i r hset
                    cases h
                    obtain ⟨g1, g2⟩ := setG_eq hset
                    have hm1 : (len + k) * m ≤ c * m := Nat.mul_le_mul_right _ hroom
                    rw [Nat.add_mul] at hm1
                    have hlim : off + len * m + new.length ≤ Φ.lim b := by rw [s4]; omega
                    have hst := hr.setRow hrow (off := Nat.add off (Nat.mul len m)) g1 hlim g2 s2 s3
                    refine ⟨N, Φ, _, ⟨hst, Ag.refl _ _, Nat.le_refl _⟩, ?_, hbN, ?_, q3, q4⟩
                    · subst him
                      have := run_append_room_src (P := P) w t tx ty e i ht hi (Φ.blk b) off len c (enc Φ cy) k (encs Φ new) s1 hroom (fun j hj => (hr.room hrow (off := off + len * i.size) (k := new.length) hlim j (by simpa [encs_len] using hj)).1) (fun j hj => (hr.room hrow (off := off + len * i.size) (k := new.length) hlim j (by simpa [encs_len] using hj)).2)
                      simp only [enc]
                      rw [this]; rfl
                    · exact hroom
                  · cases h
                · -- none
                  rename_i hroom
                  have hroom : c < len + k := by
                    rcases Nat.lt_or_ge c (len + k) with e | e
                    · exact e
                    · have : Nat.ble (Nat.add len k) c = true := Nat.ble_eq_true_of_le e
                      rw [this] at hroom; cases hroom
                  unfold appNew? at h
                  split at h
                  · rename_i old hold
                    obtain ⟨h3, h4, rfl, rfl⟩ := appNew_val h
                    have hcl : cellsAt H b off (Nat.mul len m) = some old := by unfold cellsAt; rw [rowR_of hrow]; exact hold
                    obtain ⟨c1, c2, c3, c4⟩ := hr.cells hcl
                    have := grow_ok (ty := ty) hr ht hi hz hzs him hib h0 (base := some ⟨Φ.blk b, off, none⟩) (sLen := len) (sCap := c) (olds := encs Φ old) (cs := old ++ new)
                      (run_firstCells_some w.drew m len ⟨Φ.blk b, off, none⟩ len c (encs Φ old) (by rw [encs_len, c1]; rfl) (fun j u hu => by rw [Addr.add_lit]; simpa using c4 j u hu)) s1 hroom (encs_append _ _ _) (by rw [List.length_append, c1, s4, Nat.add_mul]; rfl) (Oks.append c2 s2) (ones_append c3 s3) h3 h4
                    simp only [enc]
                    exact this
                  · cases h
              · -- a cap that is not
                obtain ⟨hbN, h0', c, q3, q4, q5⟩ := hcu
                have hce := cap_end q3 h0'
                split at h
                · rename_i hb
                  rw [Bool.and_eq_true] at hb
                  have hty := Nat.eq_of_beq_eq_true hb.2
                  replace hb := hb.1
                  rw [Bool.and_eq_true] at hb
                  have hoff := Nat.eq_of_beq_eq_true hb.1
                  subst hoff
                  have hlen : len * m = cs.length := by have := Nat.eq_of_beq_eq_true hb.2; rw [lenL_eq] at this; exact this
                  split at h
                  · rename_i hk
                    obtain rfl := Nat.eq_of_beq_eq_true hk
                    cases h
                    refine ⟨N, Φ, w, ⟨hr, Ag.refl _ _, Nat.le_refl _⟩, ?_, hbN, h0', c, q3, q4, q5⟩
                    have hnew : new = [] := List.eq_nil_of_length_eq_zero (by rw [s4]; simp)
                    subst hnew
                    simp only [enc]
                    rw [hce]
                    subst him
                    have := run_append_room_src (P := P) w t tx ty e i ht hi (Φ.blk b) 0 len c (enc Φ cy) 0 [] s1 (by omega) (fun j hj => by simp at hj) (fun j hj => by simp at hj)
                    simpa [World.setCells] using this
                  · obtain ⟨h3, h4, rfl, rfl⟩ := appNew_val h
                    have hobj := rowAt_some hrow
                    by_cases hroom : len + k ≤ c
                    · -- room: the object moves
                      have hm1 : (len + k) * m ≤ c * m := Nat.mul_le_mul_right _ hroom
                      have hm2 : (len + k) * m = cs.length + new.length := by rw [Nat.add_mul, hlen, s4]
                      obtain ⟨_, _, _, ex, fr, g1, g2, g3, g4, g5, g6⟩ := hr.obj b _ hobj
                      rw [hty] at g1
                      have hlim : 0 + len * m + new.length ≤ Φ.lim b := by rw [hlen]; omega
                      obtain ⟨e1, e2⟩ := setCells_heap (Φ.blk b) e fr (encs Φ new) (0 + len * m) w (encs Φ cs ++ ex) g1 (by simp [encs_len]; omega)
                      obtain ⟨n1, n2⟩ := enc_new (N := N) (Φ := Φ) (l := Φ.lim b) (b := Φ.blk b) (Oks.append g2 s2)
                      have hmv := hr.moved (w' := w.setCells (Φ.blk b) (0 + len * m) (encs Φ new)) (o' := .row e (cs ++ new)) (l := Φ.lim b) hobj e2 ⟨ex.drop new.length, fr, by
                        rw [e1, n2]
                        congr 3
                        have hl2 : len * m = (encs Φ cs).length := by rw [encs_len]; exact hlen
                        simp only [Nat.zero_add, hl2, List.take_left', List.drop_append, encs_append, encs_len]
                        simp [encs_len], n1, ones_append g3 s3, by rw [Ph.new_lim]; simp; omega, by rw [Ph.new_lim]; simp; omega, by rw [Ph.new_lim]; exact g6⟩
                      refine ⟨_, _, _, ⟨hmv, Ph.new_ag _ _ _ _, by omega⟩, ?_, ?_⟩
                      · simp only [enc]
                        rw [hce]
                        subst him
                        have := run_append_room_src (P := P) w t tx ty e i ht hi (Φ.blk b) 0 len c (enc Φ cy) k (encs Φ new) s1 hroom (fun j hj => (hr.room hrow (off := 0 + len * i.size) (k := new.length) hlim j (by simpa [encs_len] using hj)).1) (fun j hj => (hr.room hrow (off := 0 + len * i.size) (k := new.length) hlim j (by simpa [encs_len] using hj)).2)
                        rw [this]
                        simp only [show (H.del b).nx = N from hr.nx, Ph.new_blk, Ph.new_lim]
                        have : (Φ.lim b - 0) / i.size = c := cap_end q3 h0'
                        rw [this]; rfl
                      · simp only [Ok, show (H.del b).nx = N from hr.nx, Ph.new_lim]
                        exact ⟨by omega, h0', c, q3, hroom, q5⟩
                    · have hcl : cellsAt H b 0 (len * m) = some cs := by
                        unfold cellsAt
                        rw [rowR_of hrow]
                        show takeQ (len * m) cs = some cs
                        rw [hlen]
                        exact takeQ_all cs
                      obtain ⟨c1, c2, c3, c4⟩ := hr.cells hcl
                      have hgone := hr.gone (b := b) (Ext.refl Nowhere w)
                      have := grow_ok (ty := ty) hgone ht hi hz hzs him hib h0 (base := some ⟨Φ.blk b, 0, none⟩) (sLen := len) (sCap := c) (olds := encs Φ cs) (cs := cs ++ new)
                        (run_firstCells_some w.drew m len ⟨Φ.blk b, 0, none⟩ len c (encs Φ cs) (by rw [encs_len, c1]) (fun j u hu => by rw [Addr.add_lit]; simpa using c4 j u hu)) s1 (by omega) (encs_append _ _ _) (by rw [List.length_append, c1, s4, Nat.add_mul]) (Oks.append c2 s2) (ones_append c3 s3) h3 h4
                      simp only [enc]
                      rw [hce]
                      exact this
                · cases h
            · cases h
          · cases h
        · cases h
      · cases hsrc
    · cases h
  · cases h
end
end
section
section
variable {P : Program} {z : Bs} {w : World} {N n : Nat} {Φ : Ph} {H : Hp} {L : T CV} {a : Act} {o : Oper}
theorem copy_ok (hr : HR z N Φ H w) {t t2 ty : Nat} {x y : Option CV} {v : CV} {H' : Hp} {u u2 : Value} (hu : ∀ c, x = some c → u = enc Φ c ∧ Ok N Φ c) (hv : ∀ c, y = some c → u2 = enc Φ c ∧ Ok N Φ c) (h : aCopy P H t x y = .val v H') :
    VA P z w N Φ (Builtin.copy_ #[t, t2] ty #[u, u2]) v H' := by
  unfold aCopy at h
  split at h
  · rename_i m by_ e hel
    obtain ⟨i, z0, ht, hi, hz, hzs, him, hib, h0⟩ := elI_ok hel
    split at h
    · rename_i b2 off2 m2 len2 cap2
      obtain ⟨rfl, hcy⟩ := hv _ rfl
      split at h
      · rename_i k new hsrc
        have hs2 : (match Nat.beq m m2 && some? (slOf P t) with | true => srcN len2 (cellsAt H b2 off2 (Nat.mul len2 m)) | false => none) = some (k, new) := hsrc
        clear hsrc
        split at hs2
        · rename_i hb
          rw [Bool.and_eq_true] at hb
          obtain rfl := Nat.eq_of_beq_eq_true hb.1
          cases hc : cellsAt H b2 off2 (Nat.mul len2 m) with
          | none => rw [hc] at hs2; cases hs2
          | some cs2 =>
            rw [hc] at hs2
            have hs3 : len2 = k ∧ cs2 = new := by simpa [srcN] using hs2
            obtain ⟨rfl, rfl⟩ := hs3
            obtain ⟨s1, s2, s3, s4⟩ := hr.cells hc
            unfold aCp1 at h
            split at h
            · rename_i b off m' len cap
              obtain ⟨rfl, hcu⟩ := hu _ rfl
              split at h
              · rename_i hmm
                obtain rfl := Nat.eq_of_beq_eq_true hmm
                split at h
                · rename_i cs hrow
                  unfold valO at h
                  split at h
                  · rename_i r hset
                    cases h
                    rw [minN_eq] at hset ⊢
                    obtain ⟨g1, g2⟩ := setG_eq hset
                    rw [takeL_eq] at g2
                    have hk : (cs2.take (Nat.mul (min len2 len) m)).length = min len2 len * m := by
                      rw [List.length_take, s1]
                      have : min len2 len * m ≤ len2 * m := Nat.mul_le_mul_right _ (Nat.min_le_left _ _)
                      show min (min len2 len * m) (len2 * m) = _
                      omega
                    have hlim : off + len * m ≤ Φ.lim b := by
                      simp only [Ok] at hcu
                      obtain ⟨_, hcu⟩ := hcu
                      cases cap with
                      | some c =>
                        obtain ⟨q2, q3, q4⟩ := hcu
                        have : len * m ≤ c * m := Nat.mul_le_mul_right _ q2
                        omega
                      | none =>
                        obtain ⟨_, c, q3, q4, q5⟩ := hcu
                        have : len * m ≤ c * m := Nat.mul_le_mul_right _ q4
                        omega
                    have hlim2 : off + (cs2.take (Nat.mul (min len2 len) m)).length ≤ Φ.lim b := by
                      rw [hk]
                      have : min len2 len * m ≤ len * m := Nat.mul_le_mul_right _ (Nat.min_le_right _ _)
                      omega
                    have hst := hr.setRow hrow (off := off) g1 hlim2 g2 (s2.take _) (ones_take _ s3)
                    refine ⟨N, Φ, _, ⟨hst, Ag.refl _ _, Nat.le_refl _⟩, ?_, trivial⟩
                    have hfc := fun cp => run_firstCells_some (P := P) w m (min len2 len) ⟨Φ.blk b2, off2, none⟩ len2 cp (encs Φ (cs2.take (Nat.mul (min len2 len) m))) (by rw [encs_len, hk]) (fun j u hu => by
                      rw [Addr.add_lit]
                      refine s4 j u ?_
                      rw [encs_take, List.getElem?_take] at hu
                      split at hu
                      · exact hu
                      · cases hu)
                    have hsc := run_storeCells_cells (P := P) (Φ.blk b) off (encs Φ (cs2.take (Nat.mul (min len2 len) m))) 0 w (fun j hj => (hr.room hrow (off := off) hlim2 j (by simpa [encs_len] using hj)).1) (fun j hj => (hr.room hrow (off := off) hlim2 j (by simpa [encs_len] using hj)).2) (oneV (s2.take _) (ones_take _ s3))
                    simp only [Nat.add_zero] at hsc
                    subst him
                    simp only [enc]
                    simp only [Builtin.copy_, List.getElem?_toArray, List.getElem?_cons_zero, List.getElem?_cons_succ, Sem.run_bind, run_underlying ht, Result.andThen_ok, Builtin.lenOf, Sem.run_pure, sizeOf, typeInfo, run_program, hi, show Nat.min len2 len = min len2 len from rfl, hfc, hsc]
                    rfl
                  · cases h
                · cases h
              · cases h
            · cases h
        · cases hs2
      · cases h
    · obtain ⟨rfl, _⟩ := hv _ rfl
      split at h
      · rename_i b off m' len cap
        obtain ⟨rfl, hcu⟩ := hu _ rfl
        cases h
        refine ⟨N, Φ, w, ⟨hr, Ag.refl _ _, Nat.le_refl _⟩, ?_, trivial⟩
        have hf := run_firstCells_none (P := P) w i.size 0 0 0
        simp only [enc, Builtin.copy_, List.getElem?_toArray, List.getElem?_cons_zero, List.getElem?_cons_succ, Sem.run_bind, run_underlying ht, Result.andThen_ok, Builtin.lenOf, Sem.run_pure, sizeOf, typeInfo, run_program, hi, show Nat.min 0 len = 0 from Nat.zero_min _, hf]
        simp [storeCells, goInt]
      · cases h
    · cases h
  · cases h
theorem Ext.frz (F : Nat → Prop) (w : World) (g n : Nat) (hF : F g) : Ext F w (w.freeze ⟨g, 0, none⟩ n) := by
  unfold World.freeze
  split
  · exact Ext.refl _ _
  · refine ⟨rfl, rfl, rfl, by simp, fun b hb hf => ?_⟩
    simp only [Array.getElem?_modify]
    rw [if_neg (fun h : g = b => hf (h ▸ hF))]
theorem run_ustr (pt it ty e : TypeId) (hp : P.underlying pt = some (.pointer e)) (hc : P.cellsOf e = 1) (g cells : Nat) (hsh : w.shape? g = some (e, cells)) (l : List Int) (h0 : 0 < l.length) (hn : l.length ≤ cells) (h63 : l.length ≤ 9223372036854775807)
    (hcell : ∀ j x, l[j]? = some x → w.cell? ((⟨g, 0, none⟩ : Addr).add j) = some (.int .u8 x)) :
    (Builtin.unsafeString_ #[pt, it] ty #[.pointer (some ⟨g, 0, none⟩), .int .i64 l.length]).run P w = .ok (.string ⟨List.toArray (byt l)⟩) (w.freeze ⟨g, 0, none⟩ l.length) := by
  have hlb := run_loadBytes' (P := P) w l ⟨g, 0, none⟩ .empty hcell
  have hlies := Lib.liesAt_bytes (P := P) hc (cells / P.cellsOf e) l.length (by rw [hc]; simpa using hn)
  have h63' : ¬ (9223372036854775807 : Int) < (l.length : Int) := by omega
  have hdef : Builtin.unsafeString_ #[pt, it] ty #[.pointer (some ⟨g, 0, none⟩), .int .i64 l.length] =
      (do
        let n ← asInt (.int .i64 l.length)
        if n < 0 then runtimePanic (.error "unsafe.String: len out of range")
        if n > IntKind.i64.max then unsupported (.unsafePointer "String: a length above the largest int")
        if n = 0 then pure (.string .empty)
        else if ← variablesAt ⟨g, 0, none⟩ (← elemOf pt) n.toNat then do
          let s ← loadBytes ⟨g, 0, none⟩ .empty n.toNat
          freeze ⟨g, 0, none⟩ n.toNat
          pure (.string s)
        else unsupported (.unsafePointer "String: not so many bytes at ptr")) := rfl
  rw [hdef]
  have hmax : IntKind.i64.max = 9223372036854775807 := rfl
  have hneg : ¬ (l.length : Int) < 0 := by omega
  have hl1 : ¬ l = [] := by intro e; subst e; simp at h0
  simp [asInt, asIntOf, hmax, h63', hneg, hl1, variablesAt, hsh, elemOf, run_underlying hp, hlies, hlb]
/-- unsafe.String. -/
theorem ust_ok (hr : HR z N Φ H w) {t t2 ty : Nat} {x y : Option CV} {v : CV} {H' : Hp} {u u2 : Value} (hu : ∀ c, x = some c → u = enc Φ c ∧ Ok N Φ c) (hv : ∀ c, y = some c → u2 = enc Φ c ∧ Ok N Φ c) (h : aUst P H t x y = .val v H') :
    VA P z w N Φ (Builtin.unsafeString_ #[t, t2] ty #[u, u2]) v H' := by
  unfold aUst at h
  split at h
  · rename_i k
    obtain ⟨rfl, _⟩ := hv _ rfl
    simp only [enc]
    have h0 : ∀ q, Nat.beq k 0 = true → (Builtin.unsafeString_ #[t, t2] ty #[.pointer q, .int .i64 (.ofNat k)]).run P w = .ok (.string ⟨#[]⟩) w := fun q hk => by
      obtain rfl := Nat.eq_of_beq_eq_true hk
      exact Lib.run_unsafeString_none w t t2 ty q
    split at h
    · obtain ⟨rfl, _⟩ := hu _ rfl
      split at h
      · rename_i hk
        cases h
        exact ⟨N, Φ, w, ⟨hr, Ag.refl _ _, Nat.le_refl _⟩, by simpa only [enc] using h0 _ hk, trivial⟩
      · cases h
    · rename_i b off
      obtain ⟨rfl, hb⟩ := hu _ rfl
      split at h
      · rename_i hk
        cases h
        exact ⟨N, Φ, w, ⟨hr, Ag.refl _ _, Nat.le_refl _⟩, by simpa only [enc] using h0 _ hk, trivial⟩
      · rename_i hk
        unfold ust1 at h
        split at h
        · rename_i e he
          split at h
          · rename_i hq
            simp only [Bool.and_eq_true] at hq
            obtain ⟨⟨⟨q1, q2⟩, q3⟩, q4⟩ := hq
            obtain rfl := Nat.eq_of_beq_eq_true q1
            have q2 := Nat.eq_of_beq_eq_true q2
            have q3 := Nat.eq_of_beq_eq_true q3
            have q4 := ble_ok q4
            unfold ustO at h
            split at h
            · rename_i vv hvv
              unfold ustF at h
              split at h
              · rename_i l hl
                cases h
                obtain ⟨cs, s, hc, hs, rfl⟩ := byt?_some hvv
                obtain ⟨c1, _, _, c4⟩ := hr.cells hc
                obtain ⟨ns, b1, rfl, b3⟩ := byts_ok (Φ := Φ) hs
                have hroom : roomQ (rowR (H.get b)) k = true := by
                  unfold cellsAt at hc
                  rw [hl] at hc
                  obtain ⟨t1, _⟩ := takeQ_eq hc
                  rw [dropL_eq, List.drop_zero] at t1
                  unfold roomQ
                  rw [hl]
                  simp only [lenL_eq]
                  exact Nat.ble_eq_true_of_le t1
                obtain ⟨cells, h1, h2⟩ := hr.shape hroom
                rw [q2] at h1
                have hk : 0 < k := by
                  rcases Nat.eq_zero_or_pos k with e | e
                  · subst e; cases hk
                  · exact e
                have hrun := run_ustr (P := P) (w := w) t t2 ty e he q3 (Φ.blk b) cells h1 ns (by omega) (by omega) (by omega) (fun j x hx => by
                  rw [Addr.add_lit]
                  exact c4 j _ (by rw [b1, List.getElem?_map, hx]; rfl))
                rw [b3, c1] at hrun
                obtain ⟨ob, g1, g2, g3, ex, fr, g4, g5, g6⟩ := hr.rdRow hl
                have hlt : Φ.blk b < w.heap.size := (hr.obj b _ g1).2.2.1
                have hF := Ext.frz (At (Φ.blk b)) w (Φ.blk b) k rfl
                have hob : ∃ fr', (w.freeze ⟨Φ.blk b, 0, none⟩ k).heap[Φ.blk b]? = some (.cells (encs Φ l ++ ex).toArray (tyAt (H.get b)) fr') := by
                  unfold World.freeze
                  split
                  · exact ⟨fr, g4⟩
                  · simp only [Array.getElem?_modify, if_true, g4, Option.map_some]
                    exact ⟨_, rfl⟩
                obtain ⟨fr', hob⟩ := hob
                have hr2 : HR z N Φ (H.put b (.fro (tyAt (H.get b)) l)) (w.freeze ⟨Φ.blk b, 0, none⟩ k) := hr.put g1 hF ⟨ex, fr', hob, g5, g6⟩
                exact ⟨N, Φ, _, ⟨hr2, Ag.refl _ _, Nat.le_refl _⟩, hrun, trivial⟩
              · cases h
            · cases h
          · cases h
        · cases h
    · cases h
  · cases h
/-- '[]byte(s)'. -/
theorem bytes_ok (hr : HR z N Φ H w) {s t : Nat} {x : Option CV} {v : CV} {H' : Hp} {u : Value} (hu : ∀ c, x = some c → u = enc Φ c ∧ Ok N Φ c) (h : aConv P H s t x = .val v H') : VA P z w N Φ (convert s t u) v H' := by
  unfold aConv at h
  split at h
  · rename_i l
    obtain ⟨rfl, _⟩ := hu _ rfl
    split at h
    · rename_i e he
      split at h
      · rename_i hb
        simp only [Bool.and_eq_true] at hb
        have hlen := ble_ok hb.2
        rw [lenL_eq] at hlen
        cases h
        have hrun := Lib.run_convert_string_bytes (P := P) w s t e ⟨l.toArray⟩ (strQ_ok hb.1.2) (slOf_ok he) (u8Q_ok hb.1.1)
        rw [bytes_size] at hrun
        have hge := grownCap_ge w l.length 0 e
        have hle := grownCap_le_maxLen w l.length 0 e (by unfold maxLen; omega)
        obtain ⟨k1, k2, k3, k4⟩ := bytC_enc (N := N) (Φ := Φ) l
        have nx := hr.newRow (w' := Lib.bytesWorld w e ⟨l.toArray⟩) (cs := bytC l) (ex := List.replicate (grownCap w l.length 0 e - l.length) (.int .u8 0)) (T := e) (l := grownCap w l.length 0 e) (fr := ((Lib.bytesCells w e ⟨l.toArray⟩).size, (Lib.bytesCells w e ⟨l.toArray⟩).size + 1)) (by
          refine ⟨?_, ?_, ?_, ?_, fun b hb _ => Lib.bytesWorld_at_old w e _ b hb⟩
          · simp only [Lib.bytesWorld, World.freeze]; split <;> rfl
          · simp only [Lib.bytesWorld, World.freeze]; split <;> rfl
          · simp only [Lib.bytesWorld, World.freeze]; split <;> rfl
          · rw [Lib.bytesWorld_size]; omega) (by
          rw [Lib.bytesWorld_at_new, k1]
          congr 2
          apply Array.toList_inj.1
          simp [Lib.bytesCells, byteCells, bytes_size]) k2 k3 (by rw [k4]; exact hge) (by rw [k4, List.length_replicate]; omega) (fun i hi k => by
          have : (Lib.bytesCells w e ⟨l.toArray⟩).size = grownCap w l.length 0 e := by
            simp [Lib.bytesCells, bytes_size]; omega
          omega)
        refine ⟨_, _, _, nx, ?_, ?_⟩
        · simp only [enc]
          rw [hrun]
          simp only [hr.nx, Ph.new_blk, Ph.new_lim, Nat.sub_zero, Nat.div_one, lenL_eq]
        · simp only [Ok, hr.nx, Ph.new_lim]
          exact ⟨by omega, by omega, grownCap w l.length 0 e, by omega, by rw [lenL_eq]; exact hge, hle⟩
      · cases h
    · cases h
  · cases h
/-! Slices made. -/
theorem zerC_some {t : Nat} {cs : List CV} (h : zerC P t = some cs) : ∃ u, zer P t = some u ∧ u.cells = (encs Φ cs).toArray ∧ ones cs = true ∧ Oks N Φ cs := by
  unfold zerC at h
  split at h
  · rename_i v hv
    cases h
    obtain ⟨u, _, k2, k3, k4, k5⟩ := zer?_some (w := (default : World)) (N := N) (Φ := Φ) hv
    obtain ⟨c1, c2⟩ := cellsOf_ones k5 k3
    exact ⟨u, k4, by rw [← k2]; exact cells_enc v, c1, c2⟩
  · cases h
theorem repC_ok {zc : List CV} (h1 : ones zc = true) (h2 : Oks N Φ zc) : ∀ (c : Nat), ones (repC zc c) = true ∧ Oks N Φ (repC zc c) ∧ (repC zc c).length = c * zc.length
  | 0 => ⟨rfl, trivial, by rw [Nat.zero_mul]; rfl⟩
  | c + 1 => by
    obtain ⟨k1, k2, k3⟩ := repC_ok h1 h2 c
    have e : repC zc (c + 1) = zc ++ repC zc c := rfl
    rw [e]
    exact ⟨ones_append h1 k1, Oks.append h2 k2, by rw [List.length_append, k3, Nat.add_mul]; omega⟩
theorem repC_get {zc : List CV} (h0 : 0 < zc.length) : ∀ (c j : Nat), j < c * zc.length → (encs Φ (repC zc c))[j]? = (encs Φ zc)[j % zc.length]?
  | 0, j, h => by omega
  | c + 1, j, h => by
    have e : repC zc (c + 1) = zc ++ repC zc c := rfl
    rw [e, encs_append]
    by_cases hj : j < zc.length
    · rw [List.getElem?_append_left (by rw [encs_len]; exact hj), Nat.mod_eq_of_lt hj]
    · have h' : j < c * zc.length + zc.length := by rw [Nat.succ_mul] at h; exact h
      rw [List.getElem?_append_right (by rw [encs_len]; omega), encs_len, repC_get h0 c (j - zc.length) (by omega)]
      congr 1
      exact (Nat.mod_eq_sub_mod (by omega)).symm
theorem repC_arr {zc : List CV} {u : Value} (hz : u.cells = (encs Φ zc).toArray) (h0 : 0 < zc.length) (c : Nat) : ((Array.range (c * zc.length)).map (u.cells[· % zc.length]!)) = (encs Φ (repC zc c)).toArray := by
  apply Array.ext_getElem?
  intro j
  simp only [Array.getElem?_map, List.getElem?_toArray]
  by_cases hj : j < c * zc.length
  · rw [repC_get h0 c j hj]
    have hm : j % zc.length < zc.length := Nat.mod_lt _ h0
    simp only [Array.getElem?_range, hj, if_true, Option.map_some]
    rw [hz]
    rw [getElem!_pos _ _ (by simp [encs_len]; exact hm)]
    simp
  · have hl : (repC zc c).length = c * zc.length := by
      clear hz hj
      induction c with
      | zero => rw [Nat.zero_mul]; rfl
      | succ c ih => show (zc ++ repC zc c).length = _; rw [List.length_append, ih, Nat.add_mul]; omega
    rw [List.getElem?_eq_none (by rw [encs_len, hl]; omega)]
    simp [Array.getElem?_range, hj]
theorem newSl_val {T m k c : Nat} {x : Option (List CV)} {v : CV} {H' : Hp} (h : newSl H T m k c x = .val v H') : ∃ cs, x = some cs ∧ v = .sl H.nx 0 m k (some c) ∧ H' = H.new (.row T cs) := by
  unfold newSl at h
  split at h
  · cases h; exact ⟨_, rfl, rfl, rfl⟩
  · cases h
theorem HR.newSlice {cs : List CV} {T m k c : Nat} (hr : HR z N Φ H w) (h1 : Oks N Φ cs) (h2 : ones cs = true) (hl : cs.length = c * m) (hk : k ≤ c) (hc : c ≤ maxLen) :
    ∃ N' Φ', Nx z N Φ N' Φ' (H.new (.row T cs)) (w.alloc (.cells (encs Φ cs).toArray T)) ∧ enc Φ' (.sl H.nx 0 m k (some c)) = .slice (some ⟨w.heap.size, 0, none⟩) k c ∧ Ok N' Φ' (.sl H.nx 0 m k (some c)) := by
  refine ⟨_, _, hr.allocRow (T := T) h1 h2, ?_, ?_⟩
  · simp only [enc, hr.nx, Ph.new_blk]
  · simp only [Ok, hr.nx, Ph.new_lim]
    exact ⟨by omega, hk, hc, by omega⟩
/-- A new object: v, of which it is known where it lies. -/
def NewV (P : Program) (N : Nat) (Φ : Ph) (s : Sem Value) (H : Hp) (v : CV) (H' : Hp) : Prop := ∃ (cs : List CV) (T : Nat) (mk : Nat → CV) (pv : Nat → Value), v = mk H.nx ∧ H' = H.new (.row T cs) ∧ Oks N Φ cs ∧ ones cs = true ∧ (∀ (Φ' : Ph) b, enc Φ' (mk b) = pv (Φ'.blk b)) ∧
  (∀ N' (Φ' : Ph) b, b < N' → Φ'.lim b = cs.length → Ok N' Φ' (mk b)) ∧ ∀ w, s.run P w = .ok (pv w.heap.size) (w.alloc (.cells (encs Φ cs).toArray T))
theorem NewV.va {s : Sem Value} {v : CV} {H' : Hp} (hr : HR z N Φ H w) (h : NewV P N Φ s H v H') : VA P z w N Φ s v H' := by
  obtain ⟨cs, T, mk, pv, rfl, rfl, h1, h2, h3, h4, h5⟩ := h
  refine ⟨_, _, _, hr.allocRow (T := T) h1 h2, ?_, h4 _ _ _ ?_ ?_⟩
  · rw [h3, hr.nx, Ph.new_blk]; exact h5 w
  · rw [hr.nx]; omega
  · rw [hr.nx, Ph.new_lim]
theorem alloc_new {t : Nat} {v : CV} {H' : Hp} (h : rowO H t (zer? P t) = .val v H') : NewV P N Φ (Instr.alloc t true (.tuple #[])) H v H' := by
  unfold rowO at h
  split at h
  · rename_i c hc
    cases h
    obtain ⟨_, _, _, k3, _, k4⟩ := zer?_some (w := (default : World)) (N := N) (Φ := Φ) hc
    obtain ⟨c1, c2⟩ := cellsOf_ones k4 k3
    refine ⟨cellsOf c, t, fun b => .ptr b 0, fun b => .pointer (some ⟨b, 0, none⟩), rfl, rfl, c2, c1, fun _ _ => rfl, fun N' Φ' b hb _ => hb, fun w => ?_⟩
    obtain ⟨u, k1, k2, _⟩ := zer?_some (w := w) (N := N) (Φ := Φ) hc
    have hcs : u.cells = (encs Φ (cellsOf c)).toArray := by rw [← k2]; exact cells_enc c
    simp [Instr.alloc, k1, newVar, newRow, hcs]
  · cases h
theorem bsl_new (hl : LR n N Φ L a) {t len : Nat} {parts : Array (Nat × Operand)} {v : CV} {H' : Hp} (h : aBsl P H t len (parts.toList.map (·.1)) (evs L (parts.toList.map (·.2))) = .val v H') :
    NewV P N Φ (Instr.buildSlice t len (parts.map fun (i, x) => (i, a.eval x))) H v H' := by
  unfold aBsl at h
  split at h
  · rename_i e he
    have ht := slOf_ok he
    split at h
    · rename_i us hu
      obtain ⟨hu, hbx⟩ := box?_some hu
      obtain ⟨ep, hlen, hok⟩ := parts_eq hl hu
      split at h
      · rename_i g m hs
        split at h
        · rename_i zc hz
          obtain ⟨u, z1, z2, z3, z4⟩ := zerC_some (N := N) (Φ := Φ) hz
          split at h
          · rename_i hb
            simp only [Bool.and_eq_true] at hb
            obtain ⟨⟨hb1, hb2⟩, hb3⟩ := hb
            have hb1 : len * m ≤ 16777216 := ble_ok hb1
            have hb2 := ble_ok hb2
            have hb3 := Nat.eq_of_beq_eq_true hb3
            rw [lenL_eq] at hb3
            obtain ⟨cs, h1, rfl, rfl⟩ := newSl_val h
            obtain ⟨r1, r2, r3⟩ := repC_ok z3 z4 len
            obtain ⟨f1, f2, f3, f4⟩ := fillG_ok (pl := arrP m) _ us _ cs hlen hbx hok r1 r2 h1
            refine ⟨cs, e, fun b => .sl b 0 m len (some len), fun b => .slice (some ⟨b, 0, none⟩) len len, rfl, rfl, f3, f2, fun _ _ => rfl, fun N' Φ' b hb hl => ?_, fun w => ?_⟩
            · simp only [Ok]
              exact ⟨hb, Nat.le_refl _, by unfold maxLen; omega, by rw [hl, f4, r3, hb3]; omega⟩
            rw [ep]
            obtain ⟨i, h6, h7⟩ := Option.bind_eq_some_iff.1 z1
            have hbig : ¬ len * m > 2 ^ 24 := by omega
            by_cases h0 : len * m = 0
            · have hrep : encs Φ (repC zc len) = [] := List.eq_nil_of_length_eq_zero (by rw [encs_len, r3, hb3]; exact h0)
              have f1' : Instr.fill (fun i => some (i * m, m)) ((Array.range (len * m)).map ((#[] : Array Value)[· % m]!)) ((parts.toList.map (·.1)).zip (encs Φ us)) = some (encs Φ cs).toArray := by
                rw [h0, show ((Array.range 0).map ((#[] : Array Value)[· % m]!)) = #[] from by simp]
                rw [hrep] at f1
                exact f1
              simp only [Instr.buildSlice, Sem.run_bind, run_underlying ht, Result.andThen_ok, (run_isAgg hs).2, if_neg hbig, if_pos h0, Sem.run_pure]
              have hsz : (#[] : Array Value).size = 0 := rfl
              rw [show (fun x => (#[] : Array Value)[x % (#[] : Array Value).size]!) = (fun x => (#[] : Array Value)[x % m]!) from by funext x; simp] 
              rw [f1']
              simp [newRow]
            · have hm0 : 0 < m := by
                rcases Nat.eq_zero_or_pos m with e | e
                · subst e; simp at h0
                · exact e
              have hsz : u.cells.size = m := by rw [z2]; simp [encs_len, hb3]
              have hra := repC_arr (Φ := Φ) z2 (by omega) len
              rw [hb3] at hra
              simp only [Instr.buildSlice, Sem.run_bind, run_underlying ht, Result.andThen_ok, (run_isAgg hs).2, if_neg hbig, if_neg h0, Sem.run_pure, zeroValue, typeInfo, run_program, h6, h7]
              rw [hsz, hra, show Instr.fill (fun i => some (i * m, m)) (encs Φ (repC zc len)).toArray ((parts.toList.map (·.1)).zip (encs Φ us)) = some (encs Φ cs).toArray from f1]
              simp [newRow]
          · cases h
        · cases h
      · cases h
    · cases h
  · cases h
theorem bsl_ok (hr : HR z N Φ H w) (hl : LR n N Φ L a) {t len : Nat} {parts : Array (Nat × Operand)} {v : CV} {H' : Hp} (h : aBsl P H t len (parts.toList.map (·.1)) (evs L (parts.toList.map (·.2))) = .val v H') :
    VA P z w N Φ (Instr.buildSlice t len (parts.map fun (i, x) => (i, a.eval x))) v H' := (bsl_new hl h).va hr
theorem msl_ok (hr : HR z N Φ H w) {t : Nat} {x y : Option CV} {v : CV} {H' : Hp} {u u2 : Value} (hu : ∀ c, x = some c → u = enc Φ c ∧ Ok N Φ c) (hv : ∀ c, y = some c → u2 = enc Φ c ∧ Ok N Φ c) (h : aMsl P H t (asN x) (asN y) = .val v H') :
    VA P z w N Φ (Instr.makeSlice t u u2) v H' := by
  unfold aMsl at h
  split at h
  · rename_i m by_ e hel
    obtain ⟨i, z0, ht, hi, hz, hzs, him, hib, h0⟩ := elI_ok hel
    split at h
    · rename_i k hk
      obtain ⟨k1, hk⟩ := asN_some hk
      obtain ⟨rfl, _⟩ := hu _ hk
      split at h
      · rename_i c hc
        obtain ⟨k2, hc⟩ := asN_some hc
        obtain ⟨rfl, _⟩ := hv _ hc
        split at h
        · rename_i e' he'
          have : e' = e := by have := slOf_ok he'; rw [ht] at this; cases this; rfl
          subst this
          split at h
          · rename_i zc hzc
            obtain ⟨uz, z1, z2, z3, z4⟩ := zerC_some (N := N) (Φ := Φ) hzc
            have : uz = z0 := by
              unfold zer at z1
              rw [hi] at z1
              simp only [Option.bind_some, hz, Option.some.injEq] at z1
              exact z1.symm
            subst this
            unfold aMs1 at h
            split at h
            · rename_i hb
              simp only [Bool.and_eq_true] at hb
              obtain ⟨⟨⟨hb1, hb2⟩, hb4⟩, hb3⟩ := hb
              have hb1 := ble_ok hb1
              have hb2 : by_ * c ≤ 281474976710656 := ble_ok hb2
              have hb4 := ble_ok hb4
              have hb3 := Nat.eq_of_beq_eq_true hb3
              rw [lenL_eq] at hb3
              obtain ⟨cs, h1, rfl, rfl⟩ := newSl_val h
              cases h1
              obtain ⟨r1, r2, r3⟩ := repC_ok z3 z4 c
              obtain ⟨N', Φ', nx, e1, e2⟩ := hr.newSlice (T := e') (m := m) (k := k) (c := c) r2 r1 (by rw [r3, hb3]) hb1 (by unfold maxLen; omega)
              refine ⟨N', Φ', _, nx, ?_, e2⟩
              rw [e1]
              simp only [enc]
              have hra := repC_arr (Φ := Φ) z2 (by omega) c
              have hzl : uz.cells.size = zc.length := by rw [z2]; simp [encs_len]
              have := run_make (P := P) w t e' i uz ht hi hz k1 k2 (k : Int) (c : Int) (by omega) (by omega) (by
                have : ((i.bytes * c : Nat) : Int) ≤ ((281474976710656 : Nat) : Int) := Int.ofNat_le.2 (by rw [hib]; exact hb2)
                rw [Int.natCast_mul] at this
                exact this) (by omega)
              rw [this]
              simp only [Int.toNat_natCast, madeCells]
              rw [show c * i.size = c * zc.length from by rw [him, hb3], hzl, hra]
            · cases h
          · cases h
        · cases h
      · cases h
    · cases h
  · cases h
end
end
section
section
variable {P : Program} {z : Bs} {w : World} {N n : Nat} {Φ : Ph} {H : Hp} {L : T CV} {a : Act} {o : Oper}
/-- A new object that is no row. -/
theorem HR.newO {x : CO} {ob : Obj} (h : HR z N Φ H w) (ho : OR (N + 1) (Φ.new N w.heap.size 0) N (some ob) x) : Nx z N Φ (N + 1) (Φ.new N w.heap.size 0) (H.new x) (w.alloc ob) := by
  have hx : Ext Nowhere w (w.alloc ob) := Ext.alloc _ _ _
  refine ⟨h.new hx (Nat.le_refl _) ?_ (by rw [alloc_at]; exact ho), Ph.new_ag _ _ _ _, by omega⟩
  have := alloc_at w ob
  exact (Array.getElem?_eq_some_iff.1 this).1
theorem mk_ok (hr : HR z N Φ H w) {t : Nat} {r : Option Operand} {ρ : Operand → Value} {v : CV} {H' : Hp} (h : aMk H r = .val v H') : VA P z w N Φ (Instr.makeMap t (r.map ρ)) v H' := by
  unfold aMk at h
  split at h
  · cases h
    refine ⟨_, _, _, hr.newO (ob := .map #[] 0) (x := .map [] 0) ⟨rfl, fun e he => by cases he⟩, ?_, ?_⟩
    · simp [Instr.makeMap, enc, hr.nx, Ph.new_blk]
    · simp only [Ok, hr.nx]; omega
  · cases h
theorem setObj_ext {m : Nat} {ob ob' : Obj} (hb : w.heap[m]? = some ob) : Ext (At m) w { w with heap := w.heap.setIfInBounds m ob' } :=
  ⟨rfl, rfl, rfl, by simp, fun b hb' hne => (MapKept.heap_set (w := w) (o' := ob') hb).2 b hne⟩
/-- A map turned. -/
theorem HR.setMap (hr : HR z N Φ H w) {b : Nat} {es es' : Es} {clk clk' : Nat} (hm : mapAt (H.get b) = some (es, clk)) (he : ∀ e ∈ es', OkE N Φ e) : HR z N Φ (H.put b (.map es' clk')) { w with heap := w.heap.setIfInBounds (Φ.blk b) (.map (es'.map (encE Φ)).toArray clk') } := by
  have hobj := mapAt_some hm
  obtain ⟨_, _, _, hb, _⟩ := hr.obj b _ hobj
  exact hr.put hobj (setObj_ext hb) ⟨(MapKept.heap_set hb).1, he⟩
theorem updK_ok {d : TypeDesc} {k v : CV} {clk : Nat} (hk : Ok N Φ k) (hv : Ok N Φ v) (hs : ∀ (v : CV) (b : Bool), eq1 k v = some b → Instr.sameNow d (enc Φ k) (enc Φ v) = some b) (he : ∀ (v : CV), eq1 k v = some true → enc Φ v = enc Φ k) : ∀ (es : Es) (i : Nat) (r : Es × Nat), (∀ e ∈ es, OkE N Φ e) → updK k v clk es = some r →
    (∀ e ∈ r.1, OkE N Φ e) ∧ ((Instr.findNow d (enc Φ k) (es.map (encE Φ)) i = some none ∧ r = (es ++ [(k, v, clk)], clk + 1)) ∨
      ∃ j e, es[j]? = some e ∧ (∃ u, Instr.findNow d (enc Φ k) (es.map (encE Φ)) i = some (some (i + j, u))) ∧ enc Φ e.1 = enc Φ k ∧ r.2 = clk ∧ r.1 = es.modify j (fun e => (k, v, e.2.2)))
  | [], i, r, _, h => by
    cases h
    exact ⟨fun e he => by rcases List.mem_singleton.1 he with rfl; exact ⟨hk, hv⟩, .inl ⟨rfl, rfl⟩⟩
  | e :: es, i, r, ho, h => by
    have h : upK e k v clk es (updK k v clk es) (eq1 k e.1) = some r := h
    unfold upK at h
    split at h
    · rename_i hb
      cases h
      refine ⟨fun x hx => ?_, .inr ⟨0, e, rfl, ⟨enc Φ e.2.1, by simp [Instr.findNow, encE, hs _ _ hb]⟩, he _ hb, rfl, rfl⟩⟩
      rcases List.mem_cons.1 hx with rfl | hx
      · exact ⟨hk, hv⟩
      · exact ho x (List.mem_cons_of_mem _ hx)
    · rename_i hb
      split at h
      · rename_i r' c hu
        cases h
        obtain ⟨k1, k2⟩ := updK_ok hk hv hs he es (i + 1) (r', c) (fun x hx => ho x (List.mem_cons_of_mem _ hx)) hu
        refine ⟨fun x hx => ?_, ?_⟩
        · rcases List.mem_cons.1 hx with rfl | hx
          · exact ho _ List.mem_cons_self
          · exact k1 x hx
        · rcases k2 with ⟨f1, f2⟩ | ⟨j, e', f1, ⟨u, f2⟩, f3, f4, f5⟩
          · cases f2
            exact .inl ⟨by simp only [List.map_cons, Instr.findNow, encE, hs _ _ hb]; exact f1, rfl⟩
          · refine .inr ⟨j + 1, e', by simpa using f1, ⟨u, by simp only [List.map_cons, Instr.findNow, encE, hs _ _ hb]; rw [show i + (j + 1) = i + 1 + j from by omega]; exact f2⟩, f3, f4, ?_⟩
            simp only at f5
            rw [f5, List.modify_succ_cons]
      · cases h
    · cases h
theorem eq1_enc {k v : CV} (h : eq1 k v = some true) : enc Φ v = enc Φ k := by
  unfold eq1 at h
  split at h
  · rename_i k2 n2
    split at h
    · rename_i k1 n1
      unfold eqI at h
      split at h
      · rename_i hk
        obtain rfl := ikEq_eq hk
        simp only [Option.some.injEq, iEq_eq, decide_eq_true_eq] at h
        subst h; rfl
      · cases h
    · cases h
  · rename_i q
    split at h
    · simp only [Option.some.injEq, strEq_eq, decide_eq_true_eq] at h
      subst h; rfl
    · cases h
  · cases h
theorem keyT_ok {t : Nat} {k : CV} (h : keyT P t k = true) : ∃ kt et, P.underlying t = some (.map kt et) ∧ keyQ P kt k = true := by
  unfold keyT at h
  split at h
  · exact ⟨_, _, by assumption, h⟩
  · cases h
theorem map_ok (hr : HR z N Φ H w) {t : Nat} {x y v0 : Option CV} {H' : Hp} {u u2 u3 : Value} (hu : ∀ c, x = some c → u = enc Φ c ∧ Ok N Φ c) (hk : ∀ c, y = some c → u2 = enc Φ c ∧ Ok N Φ c) (hv : ∀ c, v0 = some c → u3 = enc Φ c ∧ Ok N Φ c) (h : aMap P H t x y v0 = .unit H') :
    ∃ w', HR z N Φ H' w' ∧ (Instr.mapUpdate t u u2 u3).run P w = .ok () w' := by
  unfold aMap at h
  split at h
  · rename_i b
    obtain ⟨rfl, _⟩ := hu _ rfl
    split at h
    · rename_i k
      obtain ⟨rfl, hk1⟩ := hk _ rfl
      split at h
      · rename_i v
        obtain ⟨rfl, hv1⟩ := hv _ rfl
        split at h
        · rename_i hq
          obtain ⟨kt, et, ht, hq⟩ := keyT_ok hq
          obtain ⟨d, hd, hik, hs⟩ := keyQ_ok (Φ := Φ) hq
          split at h
          · rename_i es clk hm
            obtain ⟨_, _, _, hb, he⟩ := hr.obj b _ (mapAt_some hm)
            unfold updO at h
            split at h
            · rename_i es' clk' hup
              cases h
              obtain ⟨k1, k2⟩ := updK_ok hk1 hv1 hs (fun _ h => eq1_enc h) es 0 (es', clk') he hup
              refine ⟨_, hr.setMap hm k1, ?_⟩
              simp only [enc]
              rcases k2 with ⟨f1, f2⟩ | ⟨j, e, f0, ⟨uu, f1⟩, f3, f4, f5⟩
              · cases f2
                have : ((es ++ [(k, v, clk)]).map (encE Φ)).toArray = (es.map (encE Φ)).toArray.push { key := enc Φ k, val := enc Φ v, born := clk } := by simp [encE]
                rw [this]
                simp [Instr.mapUpdate, run_underlying ht, MapKept.run_getObj_map hb, MapKept.run_checkKey hd hik, MapKept.run_findKey hd f1, MapKept.run_setObj_map _ hb, Result.andThen]
              · simp only at f4 f5
                subst f4 f5
                have hj : (es.map (encE Φ)).toArray[j]? = some (encE Φ e) := by simp [f0]
                have hk' : (encE Φ e).key = enc Φ k := f3
                have : ((es.modify j (fun e => (k, v, e.2.2))).map (encE Φ)).toArray = (es.map (encE Φ)).toArray.modify j fun e => { e with key := enc Φ k, val := enc Φ v } := by
                  apply Array.ext_getElem?
                  intro i
                  simp only [List.getElem?_toArray, List.getElem?_map, List.getElem?_modify, Array.getElem?_modify]
                  by_cases hij : j = i
                  · subst hij; simp [f0, encE]
                  · simp [hij]
                rw [this]
                rw [Nat.zero_add] at f1
                simp [Instr.mapUpdate, run_underlying ht, MapKept.run_getObj_map hb, MapKept.run_checkKey hd hik, MapKept.run_findKey hd f1, f0, hk', MapKept.run_keyThatStays hik, MapKept.run_setObj_map _ hb, Result.andThen]
            · cases h
          · cases h
        · cases h
      · cases h
    · cases h
  · cases h
theorem delK_ok {d : TypeDesc} {k : CV} (hs : ∀ (v : CV) (b : Bool), eq1 k v = some b → Instr.sameNow d (enc Φ k) (enc Φ v) = some b) : ∀ (es : Es) (i : Nat) (r : Es), delK k es = some r →
    (∀ e ∈ r, e ∈ es) ∧ ((Instr.findNow d (enc Φ k) (es.map (encE Φ)) i = some none ∧ r = es) ∨ ∃ j u, j < es.length ∧ Instr.findNow d (enc Φ k) (es.map (encE Φ)) i = some (some (i + j, u)) ∧ r = es.eraseIdx j)
  | [], i, r, h => by cases h; exact ⟨fun _ h => h, .inl ⟨rfl, rfl⟩⟩
  | e :: es, i, r, h => by
    have h : dlK e es (delK k es) (eq1 k e.1) = some r := h
    unfold dlK at h
    split at h
    · rename_i hb
      cases h
      exact ⟨fun x hx => List.mem_cons_of_mem _ hx, .inr ⟨0, enc Φ e.2.1, by simp, by simp [Instr.findNow, encE, hs _ _ hb], rfl⟩⟩
    · rename_i hb
      split at h
      · rename_i r' hu
        cases h
        obtain ⟨k1, k2⟩ := delK_ok hs es (i + 1) r' hu
        refine ⟨fun x hx => ?_, ?_⟩
        · rcases List.mem_cons.1 hx with rfl | hx
          · exact List.mem_cons_self
          · exact List.mem_cons_of_mem _ (k1 x hx)
        · rcases k2 with ⟨f1, rfl⟩ | ⟨j, u, f0, f1, rfl⟩
          · exact .inl ⟨by simp only [List.map_cons, Instr.findNow, encE, hs _ _ hb]; exact f1, rfl⟩
          · exact .inr ⟨j + 1, u, by simpa using f0, by simp only [List.map_cons, Instr.findNow, encE, hs _ _ hb]; rw [show i + (j + 1) = i + 1 + j from by omega]; exact f1, rfl⟩
      · cases h
    · cases h
theorem del_ok (hr : HR z N Φ H w) {t t2 ty : Nat} {x y : Option CV} {v : CV} {H' : Hp} {u u2 : Value} (hu : ∀ c, x = some c → u = enc Φ c ∧ Ok N Φ c) (hk : ∀ c, y = some c → u2 = enc Φ c ∧ Ok N Φ c) (h : aDel P H t x y = .val v H') :
    VA P z w N Φ (Builtin.delete_ #[t, t2] ty #[u, u2]) v H' := by
  unfold aDel at h
  split at h
  · rename_i b
    obtain ⟨rfl, _⟩ := hu _ rfl
    split at h
    · rename_i k
      obtain ⟨rfl, hk1⟩ := hk _ rfl
      split at h
      · rename_i hq
        obtain ⟨kt, et, ht, hq⟩ := keyT_ok hq
        obtain ⟨d, hd, hik, hs⟩ := keyQ_ok (Φ := Φ) hq
        split at h
        · rename_i es clk hm
          obtain ⟨_, _, _, hb, he⟩ := hr.obj b _ (mapAt_some hm)
          unfold delO at h
          split at h
          · rename_i es' hdl
            cases h
            obtain ⟨k1, k2⟩ := delK_ok (Φ := Φ) hs es 0 es' hdl
            refine ⟨N, Φ, _, ⟨hr.setMap (clk' := clk) hm (fun e h => he e (k1 e h)), Ag.refl _ _, Nat.le_refl _⟩, ?_, trivial⟩
            simp only [enc, encs]
            rcases k2 with ⟨f1, rfl⟩ | ⟨j, uu, f0, f1, rfl⟩
            · simp [Builtin.delete_, run_underlying ht, MapKept.run_getObj_map hb, MapKept.run_checkKey hd hik, MapKept.run_findKey hd f1, MapKept.run_setObj_map _ hb, Result.andThen]
            · have : ((es.eraseIdx j).map (encE Φ)).toArray = (es.map (encE Φ)).toArray.eraseIdxIfInBounds j := by
                unfold Array.eraseIdxIfInBounds
                rw [dif_pos (by simpa using f0)]
                apply Array.toList_inj.1
                rw [Array.toList_eraseIdx]
                simp [List.eraseIdx_eq_take_drop_succ, List.map_take, List.map_drop]
              rw [this]
              rw [Nat.zero_add] at f1
              simp [Builtin.delete_, run_underlying ht, MapKept.run_getObj_map hb, MapKept.run_checkKey hd hik, MapKept.run_findKey hd f1, MapKept.run_setObj_map _ hb, Result.andThen]
          · cases h
        · cases h
      · cases h
    · cases h
  · cases h
theorem range_ok (hr : HR z N Φ H w) {t : Nat} {x : Option CV} {v : CV} {H' : Hp} {u : Value} (hu : ∀ c, x = some c → u = enc Φ c ∧ Ok N Φ c) (h : aRange P H t x = .val v H') : VA P z w N Φ (Instr.range t u) v H' := by
  unfold aRange at h
  split at h
  · rename_i s
    obtain ⟨rfl, _⟩ := hu _ rfl
    split at h
    · rename_i ht
      cases h
      refine ⟨_, _, _, hr.newO (ob := .stringIter ⟨s.toArray⟩ 0) (x := .sit s 0) rfl, ?_, ?_⟩
      · simp [Instr.range, run_underlying (strQ_ok ht), enc, hr.nx, Ph.new_blk]
      · simp only [Ok, hr.nx]; omega
    · cases h
  · rename_i b
    obtain ⟨rfl, hb0⟩ := hu _ rfl
    simp only [Ok] at hb0
    split at h
    · rename_i kt et ht
      split at h
      · rename_i es clk hm
        obtain ⟨_, _, _, hb, he⟩ := hr.obj b _ (mapAt_some hm)
        cases h
        refine ⟨_, _, _, hr.newO (ob := .mapIter (some (Φ.blk b)) clk #[] clk) (x := .it b clk [] clk) ⟨by omega, ?_⟩, ?_, ?_⟩
        · rw [(Ph.new_ag Φ N w.heap.size 0).blk b hb0]; rfl
        · simp [Instr.range, run_underlying ht, MapKept.run_getObj_map hb, enc, hr.nx, Ph.new_blk]
        · simp only [Ok, hr.nx]; omega
      · cases h
    · cases h
  · cases h
theorem seenQ_eq (s : Nat) : ∀ (l : List Nat), seenQ s l = l.contains s
  | [] => rfl
  | x :: l => by
    show Bool.rec (motive := fun _ => Bool) (seenQ s l) true (Nat.beq x s) = _
    rw [seenQ_eq s l, List.contains_cons, beqN]
    by_cases h : x = s
    · subst h; simp
    · rw [decide_eq_false h, show (s == x) = false from by simpa using Ne.symm h]; simp
theorem leftM_eq (seen : List Nat) : ∀ (es : Es), leftM seen es = es.filter fun e => !seen.contains e.2.2
  | [] => rfl
  | e :: es => by
    show Bool.rec (motive := fun _ => Es) (e :: leftM seen es) (leftM seen es) (seenQ e.2.2 seen) = _
    rw [seenQ_eq, leftM_eq seen es, List.filter_cons]
    cases seen.contains e.2.2 <;> simp
theorem oldQ_eq (last : Nat) : ∀ (es : Es), oldQ last es = es.any fun e => decide (e.2.2 < last)
  | [] => rfl
  | e :: es => by
    show Bool.rec (motive := fun _ => Bool) (oldQ last es) true (Nat.blt e.2.2 last) = _
    rw [oldQ_eq last es, blt_eq, List.any_cons]
    cases decide (e.2.2 < last) <;> rfl
theorem nilQ_eq {β : Type} (l : List β) : nilQ l = l.isEmpty := by cases l <;> rfl
theorem run_setIt' {r since last : Nat} {q : Option Nat} {seen : Array Nat} (o' : Obj) (hb : w.heap[r]? = some (.mapIter q since seen last)) : (setObj r o').run P w = .ok () { w with heap := w.heap.setIfInBounds r o' } := by
  simp [setObj, Sem.run, hb]
theorem next_ok (hr : HR z N Φ H w) {s : Bool} {ty : Nat} {x : Option CV} {v : CV} {H' : Hp} {u : Value} (hu : ∀ c, x = some c → u = enc Φ c ∧ Ok N Φ c) (h : aNext H s x = .val v H') : VA P z w N Φ (Instr.next u s ty) v H' := by
  unfold aNext at h
  split at h
  · rename_i b
    obtain ⟨rfl, _⟩ := hu _ rfl
    split at h
    · rename_i m since seen last hit
      obtain ⟨hbN, hb1, hb2, hmN, hib⟩ := hr.obj b _ hit
      split at h
      · split at h
        · rename_i es clk hm
          obtain ⟨_, _, _, hmb, he⟩ := hr.obj m _ (mapAt_some hm)
          unfold nextM at h
          split at h
          · rename_i htest
            rw [nilQ_eq, nilQ_eq, oldQ_eq] at htest
            have ht : (!seen.reverse.toArray.isEmpty && !(es.map (encE Φ)).toArray.isEmpty && (es.map (encE Φ)).toArray.all (fun x => decide (x.born ≥ last))) = false := by
              have e1 : seen.reverse.toArray.isEmpty = seen.isEmpty := by simp
              have e2 : (es.map (encE Φ)).toArray.isEmpty = es.isEmpty := by simp
              have e3 : (es.map (encE Φ)).toArray.all (fun x => decide (x.born ≥ last)) = !(es.any fun e => decide (e.2.2 < last)) := by
                rw [List.all_toArray, List.all_map, List.any_eq_not_all_not, Bool.not_not]
                congr 1
                funext e
                show decide (e.2.2 ≥ last) = !decide (e.2.2 < last)
                rw [Bool.eq_iff_iff]; simp
              rw [e1, e2, e3]
              revert htest
              cases seen.isEmpty <;> cases es.isEmpty <;> cases (es.any fun e => decide (e.2.2 < last)) <;> simp
            have hleft : (es.map (encE Φ)).toArray.filter (fun e => !seen.reverse.toArray.contains e.born) = ((leftM seen es).map (encE Φ)).toArray := by
              rw [leftM_eq]
              apply Array.toList_inj.1
              simp only [Array.toList_filter, List.filter_map]
              congr 2
              funext e
              show (!seen.reverse.toArray.contains e.2.2) = _
              rw [← Array.contains_toList]
              simp
            simp only [enc]
            split at h
            · rename_i hl
              cases h
              refine ⟨N, Φ, w, ⟨hr, Ag.refl _ _, Nat.le_refl _⟩, ?_, trivial, trivial⟩
              rw [hl] at hleft
              simp only [Instr.next, Sem.run_bind, run_getIt' hib, MapKept.run_getObj_map hmb, Result.andThen_ok, ht, Bool.false_eq_true, if_false, hleft]
              simp [choose, Sem.run, Question.forced, enc, encs]
            · rename_i e hl
              split at h
              · rename_i hsi
                have hsi := blt_ok hsi
                cases h
                have hmem : e ∈ es := by
                  have : e ∈ leftM seen es := by rw [hl]; exact List.mem_cons_self
                  rw [leftM_eq] at this
                  exact (List.mem_filter.1 this).1
                have hp := hr.put (o' := .it m since (e.2.2 :: seen) clk) (w' := { w with heap := w.heap.setIfInBounds (Φ.blk b) (.mapIter (some (Φ.blk m)) since (seen.reverse.toArray.push e.2.2) clk) }) hit (setObj_ext hib) ⟨hmN, by
                  rw [(MapKept.heap_set hib).1]; simp⟩
                refine ⟨N, Φ, _, ⟨hp, Ag.refl _ _, Nat.le_refl _⟩, ?_, trivial, (he e hmem).1, (he e hmem).2, trivial⟩
                rw [hl] at hleft
                have h1 : ¬ (encE Φ e).born ≥ since := by show ¬ e.2.2 ≥ since; omega
                have h2 : (encE Φ e).born < since := hsi
                simp only [Instr.next, Sem.run_bind, run_getIt' hib, MapKept.run_getObj_map hmb, Result.andThen_ok, ht, Bool.false_eq_true, if_false, hleft]
                simp [choose, Sem.run, Question.forced, enc, encs, h1, h2, run_setIt' _ hib, Result.andThen]
                simp [encE]
              · cases h
            · cases h
          · cases h
        · cases h
      · cases h
    · rename_i t pos hit
      obtain ⟨hbN, hb1, hb2, hib⟩ := hr.obj b _ hit
      have hib : w.heap[Φ.blk b]? = some (.stringIter ⟨t.toArray⟩ pos) := hib
      split at h
      · unfold nextS at h
        have hget : (getObj (Φ.blk b)).run P w = .ok (.stringIter ⟨t.toArray⟩ pos) w := by simp [getObj, Sem.run, hib]
        have hset : ∀ o', (setObj (Φ.blk b) o').run P w = .ok () { w with heap := w.heap.setIfInBounds (Φ.blk b) o' } := fun o' => by simp [setObj, Sem.run, hib]
        split at h
        · rename_i hpos
          have hpos := blt_ok hpos
          rw [lenL_eq] at hpos
          cases h
          have hp := hr.put (o' := .sit t (Nat.add pos (Utf8.decode ⟨t.toArray⟩ pos).2)) (w' := { w with heap := w.heap.setIfInBounds (Φ.blk b) (.stringIter ⟨t.toArray⟩ (pos + (Utf8.decode ⟨t.toArray⟩ pos).2)) }) hit (setObj_ext hib) (by
            show _ = _
            rw [(MapKept.heap_set hib).1]; rfl)
          refine ⟨N, Φ, _, ⟨hp, Ag.refl _ _, Nat.le_refl _⟩, ?_, trivial, trivial, trivial, trivial⟩
          have hs : pos < (⟨t.toArray⟩ : ByteArray).size := by rw [bytes_size]; exact hpos
          simp only [Instr.next, Sem.run_bind, hget, Result.andThen_ok, enc, encs, if_pos hs, hset, goInt]
          simp [hset, goInt]
        · rename_i hpos
          cases h
          refine ⟨N, Φ, w, ⟨hr, Ag.refl _ _, Nat.le_refl _⟩, ?_, trivial, trivial⟩
          have hs : ¬ pos < (⟨t.toArray⟩ : ByteArray).size := by
            rw [bytes_size]
            intro e
            rw [lenL_eq, blt_eq, decide_eq_true e] at hpos
            cases hpos
          simp only [Instr.next, Sem.run_bind, hget, Result.andThen_ok, enc, encs, if_neg hs]
          rfl
      · cases h
    · cases h
  · cases h
end
end
section
def encD (Φ : Ph) : CV → Deferred
  | .fn f as_ cs => { target := .fn (.func f) (encs Φ cs).toArray, args := (encs Φ as_).toArray }
  | _ => { target := .nil, args := #[] }
/-- An act beside a state. -/
structure SR (z : Bs) (n N : Nat) (Φ : Ph) (σ : St) (a : Act) (w : World) : Prop where
  hr : HR z N Φ σ.H w
  lr : LR n N Φ σ.L a
  ds : a.defers = σ.ds.map (encD Φ)
  dk : Oks N Φ σ.ds
def OutR (N : Nat) (Φ : Ph) : Out → Ending → Prop
  | .ret vs, .returned v => v = enc Φ (retC vs) ∧ Oks N Φ vs
  | .pan c, .panicked ch => ch = [{ v := enc Φ c, recovered := false }] ∧ Ok N Φ c
  | _, _ => False
/-- The call comes to this. -/
def CallR (P : Program) (f : Nat) (args : Array Value) (w : World) (R : Ending → World → Prop) : Prop :=
  ((∀ args w, (callFunc f args).run P w = .ok (.enter f args) w) ∧ Calls P f args w R) ∨ ∃ v w', (callFunc f args).run P w = .ok (.value v) w' ∧ R (.returned v) w'
def OutAt (z : Bs) (N : Nat) (Φ : Ph) (H' : Hp) (o : Out) (e : Ending) (w' : World) : Prop := ∃ N' Φ', Nx z N Φ N' Φ' H' w' ∧ OutR N' Φ' o e
def CallOk (P : Program) (call : Call') : Prop := ∀ f args H H' o, call f args H = some (H', o) → ∀ z N Φ w, HR z N Φ H w → Oks N Φ args → CallR P f (encs Φ args).toArray w (OutAt z N Φ H' o)
section
variable {P : Program} {z : Bs} {w : World} {N n : Nat} {Φ : Ph} {H : Hp} {L : T CV} {a : Act} {o : Oper}
theorem LR.ag {N' : Nat} {Φ' : Ph} (h : LR n N Φ L a) (ag : Ag N Φ Φ') (hl : N ≤ N') : LR n N' Φ' L a := ⟨h.size, fun t v e => by
  obtain ⟨h1, h2⟩ := h.get t v e
  obtain ⟨h3, h4⟩ := Ok.ag ag hl h2
  exact ⟨h4 ▸ h1, h3⟩⟩
theorem LR.put {d : Nat} {v : CV} (h : LR n N Φ L a) (hd : d < n) (hv : Ok N Φ v) : LR n N Φ (L.put (some v) d) (a.put (some d) (enc Φ v)) := ⟨by simp [Act.put, h.size], fun t u e => by
  rw [T.get_put] at e
  simp only [Act.put]
  split at e
  · rename_i ht
    cases e
    subst ht
    exact ⟨by simp [h.size, hd], hv⟩
  · rename_i ht
    rw [Array.getElem?_setIfInBounds_ne (fun k => ht k.symm)]
    exact h.get t u e⟩
theorem encD_ag {N' : Nat} {Φ' : Ph} (ag : Ag N Φ Φ') (hl : N ≤ N') : ∀ {ds : List CV}, Oks N Φ ds → ds.map (encD Φ') = ds.map (encD Φ)
  | [], _ => rfl
  | d :: ds, h => by
    simp only [Oks] at h
    rw [List.map_cons, List.map_cons, encD_ag ag hl h.2]
    congr 1
    have h1 := h.1
    cases d <;> first | rfl | skip
    simp only [Ok] at h1
    simp only [encD, (Oks.ag ag hl h1.2.1).2, (Oks.ag ag hl h1.2.2).2]
theorem SR.next {σ : St} {N' : Nat} {Φ' : Ph} {H' : Hp} {w' : World} (h : SR z n N Φ σ a w) (x : Nx z N Φ N' Φ' H' w') : SR z n N' Φ' (σ.wh H') a w' :=
  ⟨x.hr, h.lr.ag x.ag x.le, by rw [show (σ.wh H').ds = σ.ds from rfl, encD_ag x.ag x.le h.dk]; exact h.ds, (Oks.ag x.ag x.le h.dk).1⟩
theorem SR.put {σ : St} {d : Option Nat} {v : CV} (h : SR z n N Φ σ a w) (hd : dOk n d = true) (hv : Ok N Φ v) : SR z n N Φ (putO σ d v) (a.put d (enc Φ v)) w := by
  cases d with
  | none => exact ⟨h.hr, h.lr, h.ds, h.dk⟩
  | some d => exact ⟨h.hr, h.lr.put (by simpa [dOk, Nat.blt_eq] using hd) hv, h.ds, h.dk⟩
theorem SR.gone {σ : St} {d : Option Nat} (h : SR z n N Φ σ a w) (hd : dOk n d = true) : SR z n N Φ (putO σ d .gone) (a.put d undef) w := h.put (v := .gone) hd trivial
theorem onlyV_val {r : Or} {v : CV} {H' : Hp} (h : onlyV r = .val v H') : r = .val v H' := by cases r <;> first | exact h | cases h
theorem onlyU_unit {r : Or} {H' : Hp} (h : onlyU r = .unit H') : r = .unit H' := by cases r <;> first | exact h | cases h
theorem onlyV_or (r : Or) : onlyV r = .no ∨ ∃ v H', onlyV r = .val v H' := by cases r <;> first | exact .inl rfl | exact .inr ⟨_, _, rfl⟩
theorem onlyU_or (r : Or) : onlyU r = .no ∨ ∃ H', onlyU r = .unit H' := by cases r <;> first | exact .inl rfl | exact .inr ⟨_, rfl⟩
theorem evO (hl : LR n N Φ L a) (x : Operand) : ∀ c, ev L x = some c → a.eval x = enc Φ c ∧ Ok N Φ c := fun _ h => hl.ev h
theorem retC_ok : ∀ {vs : List CV}, Oks N Φ vs → Ok N Φ (retC vs)
  | [], _ => trivial
  | [_], h => h.1
  | _ :: _ :: _, h => h
/-- What an operation leads to. -/
def Lead (z : Bs) (n N : Nat) (Φ : Ph) (a : Act) (nx : Act → World → Prop) (Q : Exit → Act → World → Prop) : Rs → Prop
  | .ok σ' => ∀ N' Φ' a' w', Ag N Φ Φ' → N ≤ N' → SR z n N' Φ' σ' a' w' → nx a' w'
  | .pan v σ' => ∀ N' Φ' w', Ag N Φ Φ' → N ≤ N' → SR z n N' Φ' σ' a w' → Ok N' Φ' v → Q (.panic [{ v := enc Φ' v, recovered := false }]) a w'
  | .no => False
/-- The same, where the act is told: it is a with a value in d. -/
def LeadP (z : Bs) (n N : Nat) (Φ : Ph) (a : Act) (d : Option Nat) (nx : Act → World → Prop) (Q : Exit → Act → World → Prop) : Rs → Prop
  | .ok σ' => ∀ N' Φ' dd v w', Ag N Φ Φ' → N ≤ N' → SR z n N' Φ' σ' ({ a with defers := dd ++ a.defers }.put d v) w' → nx ({ a with defers := dd ++ a.defers }.put d v) w'
  | .pan v σ' => ∀ N' Φ' w', Ag N Φ Φ' → N ≤ N' → SR z n N' Φ' σ' a w' → Ok N' Φ' v → Q (.panic [{ v := enc Φ' v, recovered := false }]) a w'
  | .no => False
variable {σ : St} {nx : Act → World → Prop} {Q : Exit → Act → World → Prop}
theorem lead_val (hs : SR z n N Φ σ a w) (hd : dOk n o.dst = true) {v : CV} {H' : Hp} {s : Sem Value} (h : VA P z w N Φ s v H') (he : (execOp a.eval o).run P w = (do pure (Next.value (← s)) : Sem Next).run P w) (hk : LeadP z n N Φ a o.dst nx Q (runA σ o.dst (.val v H'))) : o.wp P a w nx Q := by
  obtain ⟨N', Φ', w', x, h1, h2⟩ := h
  unfold Oper.wp
  rw [he]
  simp only [Sem.run_bind, h1, Result.andThen_ok, Sem.run_pure, Oper.upon]
  exact hk N' Φ' [] _ w' x.ag x.le ((hs.next x).put hd h2)
theorem lead_unit (hs : SR z n N Φ σ a w) (hd : dOk n o.dst = true) {H' : Hp} {s : Sem Unit} (h : ∃ w', HR z N Φ H' w' ∧ s.run P w = .ok () w') (he : (execOp a.eval o).run P w = (do s; pure Next.skip : Sem Next).run P w) (hk : LeadP z n N Φ a o.dst nx Q (runA σ o.dst (.unit H'))) : o.wp P a w nx Q := by
  obtain ⟨w', x, h1⟩ := h
  unfold Oper.wp
  rw [he]
  simp only [Sem.run_bind, h1, Result.andThen_ok, Sem.run_pure, Oper.upon]
  exact hk N Φ [] _ w' (Ag.refl _ _) (Nat.le_refl _) ((hs.next ⟨x, Ag.refl _ _, Nat.le_refl _⟩).gone hd)
theorem op_val {σ' : Or} (hs : SR z n N Φ σ a w) (hd : dOk n o.dst = true) {s : Sem Value} (h : ∀ v H', σ' = .val v H' → VA P z w N Φ s v H') (he : (execOp a.eval o).run P w = (do pure (Next.value (← s)) : Sem Next).run P w) (hk : LeadP z n N Φ a o.dst nx Q (runA σ o.dst (onlyV σ'))) : o.wp P a w nx Q := by
  rcases onlyV_or σ' with e | ⟨v, H', e⟩
  · rw [e] at hk; exact hk.elim
  · rw [e] at hk; exact lead_val hs hd (h v H' (onlyV_val e)) he hk
theorem op_unit {σ' : Or} (hs : SR z n N Φ σ a w) (hd : dOk n o.dst = true) {s : Sem Unit} (h : ∀ H', σ' = .unit H' → ∃ w', HR z N Φ H' w' ∧ s.run P w = .ok () w') (he : (execOp a.eval o).run P w = (do s; pure Next.skip : Sem Next).run P w) (hk : LeadP z n N Φ a o.dst nx Q (runA σ o.dst (onlyU σ'))) : o.wp P a w nx Q := by
  rcases onlyU_or σ' with e | ⟨H', e⟩
  · rw [e] at hk; exact hk.elim
  · rw [e] at hk; exact lead_unit hs hd (h H' (onlyU_unit e)) he hk
theorem callO_ok {f : Nat} {args : Array Value} {r : Option (Hp × Out)} (hs : SR z n N Φ σ a w) (hd : dOk n o.dst = true) (h : ∀ H' o', r = some (H', o') → CallR P f args w (OutAt z N Φ H' o')) (he : (execOp a.eval o).run P w = (callFunc f args).run P w) (hk : LeadP z n N Φ a o.dst nx Q (runA σ o.dst (callO r))) : o.wp P a w nx Q := by
  cases r with
  | none => exact hk.elim
  | some p =>
    obtain ⟨H', o'⟩ := p
    unfold Oper.wp
    rw [he]
    have ret : ∀ vs, o' = .ret vs → ∀ w' N' Φ', Nx z N Φ N' Φ' H' w' → Oks N' Φ' vs → nx (a.put o.dst (enc Φ' (retC vs))) w' := fun vs e w' N' Φ' x hv => by
      subst e
      exact hk N' Φ' [] _ w' x.ag x.le ((hs.next x).put hd (retC_ok hv))
    have pan : ∀ v, o' = .pan v → ∀ w' N' Φ', Nx z N Φ N' Φ' H' w' → Ok N' Φ' v → Q (.panic [{ v := enc Φ' v, recovered := false }]) a w' := fun v e w' N' Φ' x hv => by
      subst e
      exact hk N' Φ' w' x.ag x.le (hs.next x) hv
    rcases h H' o' rfl with ⟨h1, h2⟩ | ⟨v, w', h1, N', Φ', x, h2⟩
    · rw [h1, Oper.upon_enter]
      refine h2.mono fun e w' hq => ?_
      obtain ⟨N', Φ', x, hq⟩ := hq
      cases e with
      | returned v =>
        cases o' with
        | ret vs => obtain ⟨rfl, hv⟩ := hq; exact ret vs rfl w' N' Φ' x hv
        | pan c => exact hq.elim
      | panicked ch =>
        cases o' with
        | ret vs => exact hq.elim
        | pan c => obtain ⟨rfl, hv⟩ := hq; exact pan c rfl w' N' Φ' x hv
      | outgrown => cases o' <;> exact hq.elim
    · rw [h1, Oper.upon_value]
      cases o' with
      | ret vs => obtain ⟨rfl, hv⟩ := h2; exact ret vs rfl w' N' Φ' x hv
      | pan c => exact h2.elim
theorem run_value {f : Nat} {us vs : List Value} {args : Array Value} : (do let d ← Deferred.ofValue (.func (.func f) us.toArray vs.toArray) args; invoke d.target d.args : Sem Next).run P w = (callFunc f (us.toArray ++ args ++ vs.toArray)).run P w := by
  simp [Deferred.ofValue, invoke]
/-- What acts does as_ is said. -/
theorem act_ok {call : Call'} (hc : CallOk P call) (hs : SR z n N Φ σ a w) (hd : dOk n o.dst = true) (hk : LeadP z n N Φ a o.dst nx Q (runA σ o.dst (act P call σ.L σ.H o.op))) : o.wp P a w nx Q := by
  have hl := hs.lr
  have hr := hs.hr
  cases ho : o.op with
  | alloc t => rw [ho] at hk; exact op_val hs hd (s := Instr.alloc t true (.tuple #[])) (fun v H' e => alloc_ok hr e) (by simp only [execOp, ho]) hk
  | box t x => rw [ho] at hk; exact op_val hs hd (fun v H' e => boxO_ok (t := t) hr (evO hl x) e) (by simp only [execOp, ho]) hk
  | store t x y => rw [ho] at hk; exact op_unit hs hd (fun H' e => store_ok hr (evO hl x) (evO hl y) e) (by simp only [execOp, ho]) hk
  | buildSlice t len parts => rw [ho] at hk; exact op_val hs hd (fun v H' e => bsl_ok hr hl e) (by simp only [execOp, ho]) hk
  | makeSlice t x y => rw [ho] at hk; exact op_val hs hd (fun v H' e => msl_ok hr (evO hl x) (evO hl y) e) (by simp only [execOp, ho]) hk
  | makeMap t r => rw [ho] at hk; exact op_val hs hd (fun v H' e => mk_ok (t := t) (ρ := a.eval) hr e) (by simp only [execOp, ho]) hk
  | mapUpdate t x y v => rw [ho] at hk; exact op_unit hs hd (fun H' e => map_ok hr (evO hl x) (evO hl y) (evO hl v) e) (by simp only [execOp, ho]) hk
  | insert t x y v => rw [ho] at hk; exact op_unit hs hd (fun H' e => map_ok hr (evO hl x) (evO hl y) (evO hl v) e) (by simp only [execOp, ho]) hk
  | range t x => rw [ho] at hk; exact op_val hs hd (fun v H' e => range_ok hr (evO hl x) e) (by simp only [execOp, ho]) hk
  | next x s => rw [ho] at hk; exact op_val hs hd (fun v H' e => next_ok (ty := o.type) hr (evO hl x) e) (by simp only [execOp, ho]) hk
  | convert s t x => rw [ho] at hk; exact op_val hs hd (fun v H' e => bytes_ok hr (evO hl x) e) (by simp only [execOp, ho]) hk
  | panic x =>
    rw [ho] at hk
    have hk : LeadP z n N Φ a o.dst nx Q (runA σ o.dst (aPanic σ.H (ev σ.L x))) := hk
    unfold aPanic at hk
    split at hk
    · rename_i t v hx
      obtain ⟨h1, h2⟩ := hl.ev hx
      unfold Oper.wp
      simp only [execOp, ho, h1, enc, Instr.panic]
      exact hk N Φ w (Ag.refl _ _) (Nat.le_refl _) (hs.next ⟨hr, Ag.refl _ _, Nat.le_refl _⟩) h2
    · exact hk.elim
  | call c =>
    rw [ho] at hk
    obtain ⟨callee, args, ts⟩ := c
    have hk : LeadP z n N Φ a o.dst nx Q (runA σ o.dst (aDo P call σ.L σ.H ⟨callee, args, ts⟩)) := hk
    unfold aDo at hk
    cases callee with
    | value x =>
      simp only at hk
      unfold aCall at hk
      split at hk
      · rename_i f as_ cs hx
        split at hk
        · rename_i vs hvs
          obtain ⟨h1, h2⟩ := hl.ev hx
          simp only [Ok] at h2
          obtain ⟨h3, h4⟩ := hl.evs hvs
          have e1 : args.map a.eval = (encs Φ vs).toArray := by apply Array.toList_inj.1; simpa using h3
          refine callO_ok hs hd (f := f) (args := (encs Φ (as_ ++ (vs ++ cs))).toArray) (fun H' o' e => hc _ _ _ _ _ e z N Φ w hr (h2.2.1.append (h4.append h2.2.2))) ?_ hk
          simp only [execOp, ho, resolve, h1, enc, e1]
          rw [run_value]
          congr 2
          simp [encs_append]
        · exact hk.elim
      · exact hk.elim
    | builtin b =>
      simp only at hk
      rcases onlyV_or (aBi P σ.L σ.H b args.toList ts.toList) with e | ⟨v, H', e⟩
      · rw [e] at hk; exact hk.elim
      · have hk2 : LeadP z n N Φ a o.dst nx Q (runA σ o.dst (onlyV (aBi P σ.L σ.H b args.toList ts.toList))) := hk
        rw [e] at hk2
        clear hk
        replace e := onlyV_val e
        unfold aBi at e
        split at e
        · rename_i x y hx
          split at e
          · rename_i t t2 ht
            have e1 : args = #[x, y] := by apply Array.toList_inj.1; simpa using hx
            have e2 : ts = #[t, t2] := by apply Array.toList_inj.1; simpa using ht
            subst e1 e2
            split at e
            · exact lead_val hs hd (app_ok (ty := o.type) hr (evO hl x) (evO hl y) e) (by simp [execOp, ho, resolve, invoke, builtin]) hk2
            · exact lead_val hs hd (copy_ok (t2 := t2) (ty := o.type) hr (evO hl x) (evO hl y) e) (by simp [execOp, ho, resolve, invoke, builtin]) hk2
            · exact lead_val hs hd (del_ok (t2 := t2) (ty := o.type) hr (evO hl x) (evO hl y) e) (by simp [execOp, ho, resolve, invoke, builtin]) hk2
            · exact lead_val hs hd (ust_ok (t2 := t2) (ty := o.type) hr (evO hl x) (evO hl y) e) (by simp [execOp, ho, resolve, invoke, builtin]) hk2
            · cases e
          · cases e
        · cases e
    | _ => exact hk.elim
  | defer c =>
    rw [ho] at hk
    obtain ⟨callee, args, ts⟩ := c
    have hk : LeadP z n N Φ a o.dst nx Q (runA σ o.dst (aDfr σ.L ⟨callee, args, ts⟩)) := hk
    unfold aDfr at hk
    cases callee with
    | value x =>
      simp only at hk
      unfold dfrO at hk
      split at hk
      · rename_i f as_ cs hx
        split at hk
        · rename_i vs hvs
          obtain ⟨h1, h2⟩ := hl.ev hx
          simp only [Ok] at h2
          obtain ⟨h3, h4⟩ := hl.evs hvs
          have e1 : args.map a.eval = (encs Φ vs).toArray := by apply Array.toList_inj.1; simpa using h3
          have hrun : (execOp a.eval o).run P w = .ok (.defer (encD Φ (.fn f (as_ ++ vs) cs))) w := by
            simp [execOp, ho, resolve, h1, enc, e1, Deferred.ofValue, encD, encs_append]
          unfold Oper.wp
          rw [hrun, Oper.upon_defer]
          refine hk N Φ [_] undef w (Ag.refl _ _) (Nat.le_refl _) (SR.gone ⟨hr, ⟨hl.size, hl.get⟩, ?_, ?_⟩ hd)
          · simp [hs.ds]
          · simp only [Oks, Ok]
            exact ⟨⟨h2.1, h2.2.1.append h4, h2.2.2⟩, hs.dk⟩
        · exact hk.elim
      · exact hk.elim
    | _ => exact hk.elim
  | _ => rw [ho] at hk; exact hk.elim
end
end
section
section
variable {P : Program} {z : Bs} {w : World} {N n : Nat} {Φ : Ph} {a : Act} {o : Oper} {σ : St} {nx : Act → World → Prop} {Q : Exit → Act → World → Prop} {call : Call'}
theorem run_eq : run P call σ o = (match quiet P o.op with
  | true => runQ σ o.dst (qop P σ.L σ.H o.op)
  | false => runA σ o.dst (act P call σ.L σ.H o.op)) := by
  unfold run runK qop act
  cases quiet P o.op with
  | true =>
    simp only
    cases o.dst with
    | none => cases qopK P o.op with
      | no => rfl
      | k q => simp only; cases q σ.L σ.H <;> rfl
    | some d => cases qopK P o.op <;> rfl
  | false =>
    simp only
    cases actK P o.op <;> rfl
theorem run_ok (hc : CallOk P call) (hs : SR z n N Φ σ a w) (hd : dOk n o.dst = true) (hk : LeadP z n N Φ a o.dst nx Q (run P call σ o)) : o.wp P a w nx Q := by
  rw [run_eq] at hk
  split at hk
  · unfold runQ at hk
    split at hk
    · rename_i v hv
      split at hk
      · rename_i d hdst
        obtain ⟨h1, h2⟩ := qop_ok hs.hr hs.lr hv
        unfold Oper.wp
        rw [h1, Oper.upon_value, hdst]
        rw [hdst] at hk hd
        exact hk N Φ [] _ w (Ag.refl _ _) (Nat.le_refl _) (hs.put (d := some d) hd h2)
      · exact hk.elim
    · exact hk.elim
  · exact act_ok hc hs hd hk
theorem dstAt_eq (ops : List Oper) (j : Nat) : dstAt (nth ops j) = (ops.toArray[j]?).bind (·.dst) := by
  rw [nth_eq]
  simp only [List.getElem?_toArray]
  cases ops[j]? <;> rfl
theorem wantQ_ok {ops : List Oper} {c : Bool} (hs : LR n N Φ σ.L a) (h : wantQ ops σ o = some c) : Region.wanted o (yielded ops.toArray a.tmps) = c := by
  unfold wantQ at h
  split at h
  · rename_i hg
    cases h
    simp [Region.wanted, hg]
  · rename_i j b hg
    unfold guardQ at h
    split at h
    · rename_i s hj
      rw [dstAt_eq] at hj
      have hj2 : (ops[j]?).bind (fun x => x.dst) = some s := by simpa using hj
      split at h
      · rename_i c' hL
        cases h
        have := (hs.get _ _ hL).1
        simp [Region.wanted, hg, yielded, hj2, this, enc]
      · rename_i hL
        cases h
        have := (hs.get _ _ hL).1
        simp [Region.wanted, hg, yielded, hj2, this, enc, undef]
      · cases h
    · cases h
theorem exo_eq {ops : List Oper} : exo P call ops σ o = (match wantQ ops σ o with
  | some true => run P call σ o
  | some false => goneO σ o.dst
  | none => .no) := by
  unfold exo wantQ
  split <;> rfl
theorem exo_ok {ops rest : List Oper} (hc : CallOk P call) (hs : SR z n N Φ σ a w) (hd : dOk n o.dst = true) (hk : LeadP z n N Φ a o.dst (wpList P ops.toArray Q rest) Q (exo P call ops σ o)) : wpList P ops.toArray Q (o :: rest) a w := by
  rw [exo_eq] at hk
  refine wpList_step fun K hK => ?_
  have mono : ∀ {r : Rs}, LeadP z n N Φ a o.dst (wpList P ops.toArray Q rest) Q r → LeadP z n N Φ a o.dst K Q r := fun {r} h => by
    cases r with
    | ok σ' => exact fun N' Φ' dd v w' h1 h2 h3 => hK _ _ (h N' Φ' dd v w' h1 h2 h3)
    | pan v σ' => exact h
    | no => exact h
  split at hk
  · rename_i hw
    rw [if_pos (wantQ_ok hs.lr hw)]
    exact run_ok hc hs hd (mono hk)
  · rename_i hw
    have := wantQ_ok hs.lr hw
    rw [if_neg (by rw [this]; exact Bool.false_ne_true)]
    have := hk N Φ [] undef w (Ag.refl _ _) (Nat.le_refl _) (hs.gone hd)
    exact hK _ _ this
  · exact hk.elim
def LeadA (z : Bs) (n N : Nat) (Φ : Ph) (Q : Exit → Act → World → Prop) : Rs → Prop
  | .ok σ' => ∀ N' Φ' a' w', Ag N Φ Φ' → N ≤ N' → SR z n N' Φ' σ' a' w' → Q .normal a' w'
  | .pan v σ' => ∀ N' Φ' a' w', Ag N Φ Φ' → N ≤ N' → SR z n N' Φ' σ' a' w' → Ok N' Φ' v → Q (.panic [{ v := enc Φ' v, recovered := false }]) a' w'
  | .no => False
theorem LeadA.ag {N' : Nat} {Φ' : Ph} {r : Rs} (h : LeadA z n N Φ Q r) (ag : Ag N Φ Φ') (hl : N ≤ N') : LeadA z n N' Φ' Q r := by
  cases r with
  | ok σ' => exact fun N2 Φ2 a' w' h1 h2 h3 => h N2 Φ2 a' w' (ag.trans h1 hl) (Nat.le_trans hl h2) h3
  | pan v σ' => exact fun N2 Φ2 a' w' h1 h2 h3 h4 => h N2 Φ2 a' w' (ag.trans h1 hl) (Nat.le_trans hl h2) h3 h4
  | no => exact h
theorem dOks_cons {o : Oper} {l : List Oper} (h : dOks n (o :: l) = true) : dOk n o.dst = true ∧ dOks n l = true := by
  have h : Bool.rec (motive := fun _ => Bool) false (dOks n l) (dOk n o.dst) = true := h
  cases e : dOk n o.dst <;> rw [e] at h
  · cases h
  · exact ⟨rfl, h⟩
theorem exops_ok {ops : List Oper} (hc : CallOk P call) : ∀ (l : List Oper) {N : Nat} {Φ : Ph} {σ : St} {a : Act} {w : World}, SR z n N Φ σ a w → dOks n l = true → LeadA z n N Φ Q (exops P call ops l σ) → wpList P ops.toArray Q l a w
  | [], N, Φ, σ, a, w, hs, _, hk => hk N Φ a w (Ag.refl _ _) (Nat.le_refl _) hs
  | o :: l, N, Φ, σ, a, w, hs, hd, hk => by
    obtain ⟨hd1, hd2⟩ := dOks_cons hd
    have hk : LeadA z n N Φ Q (match exo P call ops σ o with
      | .ok σ => exops P call ops l σ
      | .pan v σ => .pan v σ
      | .no => .no) := hk
    refine exo_ok hc hs hd1 ?_
    cases e : exo P call ops σ o with
    | ok σ' =>
      rw [e] at hk
      exact fun N' Φ' dd v w' h1 h2 h3 => exops_ok hc l h3 hd2 (hk.ag h1 h2)
    | pan v σ' =>
      rw [e] at hk
      exact fun N' Φ' w' h1 h2 h3 h4 => hk N' Φ' a w' h1 h2 h3 h4
    | no => rw [e] at hk; exact hk.elim
end
/-! Frames. -/
def QK (C : Cx) (K : Act → World → Prop) : Exit → Act → World → Prop
  | .normal, a, w => K a w
  | .panic ch, a, w => PN C a ch w
  | _, _, _ => False
theorem twa_of_opsK {C : Cx} {k : List Item} {w : World} {ops : Array Oper} {l : List Nat} {a : Act} (h : wpOps C.P ops (QK C (TWa C k)) l a w) (cs : List Frame) :
    Goes C cs (lone ((base C).at a (.inRegion ops l :: k)) cs w) := by
  obtain ⟨e, a', w', hq, harr⟩ := wp_ops l a w h (base C) k cs
  cases e with
  | normal => exact (hq cs).of_steps harr
  | panic ch =>
    obtain ⟨todo, hs⟩ := harr
    have hq : PN C a' ch w' := hq
    unfold PN at hq
    split at hq
    · rename_i hl hN
      obtain ⟨e, w2, fr, h1, h2, h3, h4⟩ := leaves_steps a'.defers (.panicking ch) w' { (base C).at a' todo with mode := .panicking ch } cs rfl rfl rfl C.hf (by simp [base, hN, Frame.at]) hq
      exact ⟨e, w2, fr, h1, Comes.of_steps hs h2, h3, by unfold leave; rw [hN]; exact h4⟩
    · exact ⟨.panicked ch, w', _, hq.2, hs, rfl, leave_pan rfl rfl hq.1 rfl⟩
  | exit _ => exact hq.elim
  | goto _ => exact hq.elim
  | ret => exact hq.elim
  | outgrown => exact hq.elim
section
variable {C : Cx} {k : List Item} {a : Act} {w : World}
theorem twa_region {id : Nat} {l : List Oper} (h : wpList C.P l.toArray (QK C (TWa C k)) l a w) : TWa C (.code (.region id l.toArray false) :: k) a w := fun cs => by
  have h2 : wpOps C.P l.toArray (QK C (TWa C k)) (List.range l.toArray.size) a w := by
    rw [List.range_eq_range', ← Array.length_toList, wpOps_eq_wpList l.toArray.toList 0 (by simp)]; exact h
  exact (twa_of_opsK h2 cs).of_steps (.one step_region)
end
section
variable (C : Cx) (z : Bs) (n N0 : Nat) (Φ0 : Ph)
/-- What is left leads where it should. -/
def KS (todo : List Item) (σ : St) : Prop := ∀ N Φ a w, Ag N0 Φ0 Φ → N0 ≤ N → SR z n N Φ σ a w → TWa C todo a w
def FS (todo : List Item) : Fs → Prop
  | .nor σ => KS C z n N0 Φ0 todo σ
  | .ret σ => ∀ k, KS C z n N0 Φ0 (.code .ret :: k) σ
  | .ex i σ => ∃ k', exitTo i todo = some k' ∧ KS C z n N0 Φ0 k' σ
  | .pan v σ => ∀ N Φ a w, Ag N0 Φ0 Φ → N0 ≤ N → SR z n N Φ σ a w → Ok N Φ v → PN C a [{ v := enc Φ v, recovered := false }] w
  | .no => False
end
/-- Regions of open order do as_ is said. -/
def DrawnOk (C : Cx) (call : Call') (n : Nat) (ops : List Oper) : Prop := ∀ z N0 Φ0 id todo σ, FS C z n N0 Φ0 todo (exD C.P call ops σ) → KS C z n N0 Φ0 (.code (.region id ops.toArray true) :: todo) σ
/-- All of them. -/
def Drs (C : Cx) (call : Call') (n : Nat) : Code → Prop
  | .region _ ops true => DrawnOk C call n ops.toList
  | .seq a b => Drs C call n a ∧ Drs C call n b
  | .cond _ a b => Drs C call n a ∧ Drs C call n b
  | .block _ a => Drs C call n a
  | .loop a => Drs C call n a
  | _ => True
section
variable {C : Cx} {z : Bs} {n N0 : Nat} {Φ0 : Ph} {call : Call'}
theorem region_ok (hc : CallOk C.P call) {id : Nat} {ops : List Oper} {todo : List Item} {σ : St} (hn : dOks n ops = true) (h : FS C z n N0 Φ0 todo (ofRs (exops C.P call ops ops σ))) : KS C z n N0 Φ0 (.code (.region id ops.toArray false) :: todo) σ := fun N Φ a w h1 h2 h3 => by
  refine twa_region (exops_ok hc ops h3 hn ?_)
  cases e : exops C.P call ops ops σ with
  | ok σ' =>
    rw [e] at h
    exact fun N' Φ' a' w' k1 k2 k3 => h N' Φ' a' w' (h1.trans k1 h2) (Nat.le_trans h2 k2) k3
  | pan v σ' =>
    rw [e] at h
    exact fun N' Φ' a' w' k1 k2 k3 k4 => h N' Φ' a' w' (h1.trans k1 h2) (Nat.le_trans h2 k2) k3 k4
  | no => rw [e] at h; exact h.elim
theorem recB {b c : Bool} (h : Bool.rec (motive := fun _ => Bool) false c b = true) : b = true ∧ c = true := by cases b <;> first | (cases h; done) | exact ⟨rfl, h⟩
theorem exC_ok (hc : CallOk C.P call) (m : Nat) : ∀ (c : Code) (σ : St) (todo : List Item), okD C.P n c = true → Drs C call n c → FS C z n N0 Φ0 todo (exC C.P call m c σ) → KS C z n N0 Φ0 (.code c :: todo) σ
  | .skip, σ, todo, _, _, h => fun N Φ a w h1 h2 h3 cs => (h N Φ a w h1 h2 h3 cs).of_steps (.one step_skip)
  | .label _, σ, todo, _, _, h => fun N Φ a w h1 h2 h3 cs => (h N Φ a w h1 h2 h3 cs).of_steps (.one step_label)
  | .ret, σ, todo, _, _, h => h todo
  | .exit i, σ, todo, _, _, h => by
    obtain ⟨k', he, h⟩ := h
    exact fun N Φ a w h1 h2 h3 cs => (h N Φ a w h1 h2 h3 cs).of_steps (.one (step_exit he))
  | .region id ops true, σ, todo, hn, hd, h => by
    have := hd z N0 Φ0 id todo σ h
    simpa using this
  | .region id ops false, σ, todo, hn, hd, h => by
    have := region_ok (id := id) hc (ops := ops.toList) hn h
    simpa using this
  | .seq x y, σ, todo, hn, hd, h => by
    obtain ⟨n1, n2⟩ := recB (b := okD C.P n x) (c := okD C.P n y) hn
    have h : FS C z n N0 Φ0 todo (seqF (exC C.P call m y) (exC C.P call m x σ)) := h
    have key : KS C z n N0 Φ0 (.code x :: .code y :: todo) σ := by
      refine exC_ok hc m x σ _ n1 hd.1 ?_
      cases e : exC C.P call m x σ with
      | nor σ' => rw [e] at h; exact exC_ok hc m y σ' todo n2 hd.2 h
      | ret σ' => rw [e] at h; exact h
      | ex i σ' =>
        rw [e] at h
        obtain ⟨k', h1, h2⟩ := h
        exact ⟨k', by simpa [exitTo] using h1, h2⟩
      | pan v σ' => rw [e] at h; exact h
      | no => rw [e] at h; exact h
    exact fun N Φ a w h1 h2 h3 cs => (key N Φ a w h1 h2 h3 cs).of_steps (.one step_seq)
  | .cond c x y, σ, todo, hn, hd, h => by
    obtain ⟨n1, n2⟩ := recB (b := okD C.P n x) (c := okD C.P n y) hn
    have h : FS C z n N0 Φ0 todo (condF (exC C.P call m x) (exC C.P call m y) σ (ev σ.L c)) := h
    unfold condF at h
    split at h
    · rename_i hc'
      have key := exC_ok hc m x σ todo n1 hd.1 h
      exact fun N Φ a w h1 h2 h3 cs => (key N Φ a w h1 h2 h3 cs).of_steps (.one (step_cond (h3.lr.ev hc').1))
    · rename_i hc'
      have key := exC_ok hc m y σ todo n2 hd.2 h
      exact fun N Φ a w h1 h2 h3 cs => (key N Φ a w h1 h2 h3 cs).of_steps (.one (step_cond (h3.lr.ev hc').1))
    · exact h.elim
  | .block i x, σ, todo, hn, hd, h => by
    have h : FS C z n N0 Φ0 todo (blkF i (exC C.P call m x σ)) := h
    have key : KS C z n N0 Φ0 (.code x :: .inBlock i :: todo) σ := by
      refine exC_ok hc m x σ _ hn hd ?_
      cases e : exC C.P call m x σ with
      | nor σ' => rw [e] at h; exact fun N Φ a w h1 h2 h3 cs => (h N Φ a w h1 h2 h3 cs).of_steps (.one step_inBlock)
      | ret σ' => rw [e] at h; exact h
      | ex j σ' =>
        rw [e] at h
        unfold blkF at h
        simp only at h
        split at h
        · rename_i hij
          have hij := Nat.eq_of_beq_eq_true hij
          subst hij
          exact ⟨todo, by simp [exitTo], h⟩
        · rename_i hij
          have hij := Nat.ne_of_beq_eq_false hij
          obtain ⟨k', h1, h2⟩ := h
          exact ⟨k', by simp [exitTo, hij, h1], h2⟩
      | pan v σ' => rw [e] at h; exact h
      | no => rw [e] at h; exact h
    exact fun N Φ a w h1 h2 h3 cs => (key N Φ a w h1 h2 h3 cs).of_steps (.one step_block)
  | .loop x, σ, todo, hn, hd, h => by
    have h : FS C z n N0 Φ0 todo (itr (exC C.P call m x) m σ) := h
    have key : ∀ (i : Nat) (σ : St), FS C z n N0 Φ0 todo (itr (exC C.P call m x) i σ) → KS C z n N0 Φ0 (.code x :: .inLoop x :: todo) σ := by
      intro i
      induction i with
      | zero => exact fun σ h => h.elim
      | succ i ih =>
        intro σ h
        have h : FS C z n N0 Φ0 todo (match exC C.P call m x σ with
          | .nor σ => itr (exC C.P call m x) i σ
          | .ret σ => .ret σ
          | .ex i σ => .ex i σ
          | .pan v σ => .pan v σ
          | .no => .no) := h
        refine exC_ok hc m x σ _ hn hd ?_
        cases e : exC C.P call m x σ with
        | nor σ' =>
          rw [e] at h
          have k := ih σ' h
          exact fun N Φ a w h1 h2 h3 cs => (k N Φ a w h1 h2 h3 cs).of_steps (.one step_inLoop)
        | ret σ' => rw [e] at h; exact h
        | ex j σ' =>
          rw [e] at h
          obtain ⟨k', h1, h2⟩ := h
          exact ⟨k', by simpa [exitTo] using h1, h2⟩
        | pan v σ' => rw [e] at h; exact h
        | no => rw [e] at h; exact h
    have k := key m σ h
    exact fun N Φ a w h1 h2 h3 cs => (k N Φ a w h1 h2 h3 cs).of_steps (.one step_loop)
  | .rangeFunc .., σ, todo, hn, _, h => h.elim
  | .scope _, σ, todo, hn, _, h => h.elim
  | .goto _, σ, todo, hn, _, h => h.elim
  | .refuse _, σ, todo, hn, _, h => h.elim
end
end
section
def Ents (P : Program) : Prop := ∀ (f : Nat) (fn : Func) (c : Code), P.funcs[f]? = some fn → fn.body = some c → (fn.name == "runtime.NumGoroutine") = false
theorem Ents.run {P : Program} {f : Nat} {fn : Func} {c : Code} (h : Ents P) (hf : P.funcs[f]? = some fn) (hb : fn.body = some c) (args : Array Value) (w : World) : (callFunc f args).run P w = .ok (.enter f args) w := by
  have := h f fn c hf hb
  have h2 : ¬ fn.name = "runtime.NumGoroutine" := by simpa using this
  simp [callFunc, hf, h2, hb]
section
variable {P : Program} {z : Bs} {w : World} {N n : Nat} {Φ : Ph} {a : Act} {σ : St} {H : Hp}
theorem rd_ok (hr : HR z N Φ H w) (hl : LR n N Φ σ.L a) : ∀ {res : List ResultVar} {vs : List CV}, resC P (σ.wh H) res = some vs → (res.mapM (rdRes a)).run P w = .ok (encs Φ vs) w ∧ Oks N Φ vs
  | [], vs, h => by cases h; exact ⟨rfl, trivial⟩
  | .tmp t :: r, vs, h => by
    have h : cons? (σ.L.get t) (resC P (σ.wh H) r) = some vs := h
    obtain ⟨v, us, h1, h2, rfl⟩ := cons?_some h
    obtain ⟨h3, h4⟩ := rd_ok hr hl h2
    obtain ⟨k1, k2⟩ := hl.get t v h1
    refine ⟨?_, k2, h4⟩
    simp only [List.mapM_cons, Sem.run_bind, rdRes, Sem.run_pure, Result.andThen_ok, h3, encs]
    rw [Array.getD_eq_getD_getElem?, k1]; rfl
  | .cell t T :: r, vs, h => by
    have h : cons? (load? H (shp P T) (σ.L.get t)) (resC P (σ.wh H) r) = some vs := h
    obtain ⟨v, us, h1, h2, rfl⟩ := cons?_some h
    obtain ⟨h3, h4⟩ := rd_ok hr hl h2
    unfold load? at h1
    split at h1
    · rename_i g m hs
      split at h1
      · rename_i u hu
        obtain ⟨b, off, rfl, k1, k2⟩ := loadC_ok hr h1
        have k3 := (hl.get t _ hu).1
        refine ⟨?_, k1, h4⟩
        have hrun : (rdRes a (.cell t T)).run P w = .ok (enc Φ v) w := by
          simp only [rdRes, Array.getD_eq_getD_getElem?, k3, Option.getD_some, enc]
          rcases k2 with ⟨rfl, xs, e1, e2, e3⟩ | ⟨rfl, e1⟩
          · rw [e2]
            simp [asAddr, run_loadVarN hs e1 e3]
          · simp [asAddr, run_loadVar1 hs e1]
        simp only [List.mapM_cons, Sem.run_bind, hrun, Result.andThen_ok, h3, encs, Sem.run_pure]
      · cases h1
    · cases h1
theorem results_ok {fn : Func} {vs : List CV} (hr : HR z N Φ H w) (hl : LR n N Φ σ.L a) (h : resC P (σ.wh H) fn.results.toList = some vs) : (results fn a.tmps).run P w = .ok (enc Φ (retC vs)) w ∧ Oks N Φ vs := by
  obtain ⟨h1, h2⟩ := rd_ok hr hl h
  refine ⟨?_, h2⟩
  rw [results_rd]
  simp only [Sem.run_bind]
  rw [Array.mapM_eq_mapM_toList, Sem.run_map]
  simp only [h1, Result.andThen_ok, Sem.run_pure]
  match vs with
  | [] => rfl
  | [v] => simp [encs, retC]
  | v :: u :: r => simp [encs, retC, enc]
end
/-! Deferred calls. -/
def modeP (Φ : Ph) : Option CV → FrameMode
  | none => .returning
  | some v => .panicking [{ v := enc Φ v, recovered := false }]
def OkP (N : Nat) (Φ : Ph) (p : Option CV) : Prop := ∀ u, p = some u → Ok N Φ u
def CallDOk (P : Program) (callD : CV → Call') : Prop := ∀ p f args H H' vs, callD (panV p) f args H = some (H', .ret vs) → ∀ z N Φ w, HR z N Φ H w → Oks N Φ args → OkP N Φ p →
  (∀ args w, (callFunc f args).run P w = .ok (.enter f args) w) ∧ CallsD P f (encs Φ args).toArray (modeP Φ p) w (fun e u w' => (∃ v', e = .returned v') ∧ settle u = .returning ∧ ∃ N' Φ', Nx z N Φ N' Φ' H' w')
theorem runD_ok {P : Program} {callD : CV → Call'} (hcd : CallDOk P callD) {fn : Func} {tmps : Array Value} {R : Ending → World → Prop} : ∀ (ds : List CV) (H : Hp) (p : Option CV) (H' : Hp) (p' : Option CV), runD callD ds H p = some (H', p') → ∀ (z : Bs) (N : Nat) (Φ : Ph) (w : World), HR z N Φ H w → Oks N Φ ds → OkP N Φ p →
    (∀ N' Φ' w', Nx z N Φ N' Φ' H' w' → OkP N' Φ' p' → Leaves P fn tmps R [] (modeP Φ' p') w') → Leaves P fn tmps R (ds.map (encD Φ)) (modeP Φ p) w
  | [], H, p, H', p', h, z, N, Φ, w, hr, _, hp, hk => by
    cases h
    exact hk N Φ w ⟨hr, Ag.refl _ _, Nat.le_refl _⟩ hp
  | d :: ds, H, p, H', p', h, z, N, Φ, w, hr, hd, hp, hk => by
    have h2 : (match (generalizing := false) d with
      | .fn f as_ cs => match callD (panV p) f (as_ ++ cs) H with
        | some (H, .ret _) => runD callD ds H none
        | some (_, .pan _) => none
        | none => none
      | _ => none) = some (H', p') := h
    clear h
    simp only [Oks] at hd
    split at h2
    · rename_i f as_ cs
      split at h2
      · rename_i H1 vs hcall
        have hd1 := hd.1
        simp only [Ok] at hd1
        obtain ⟨h1, h3⟩ := hcd p f (as_ ++ cs) H H1 vs hcall z N Φ w hr (hd1.2.1.append hd1.2.2) hp
        refine ⟨by cases p <;> simp [modeP], _, _, f, (encs Φ (as_ ++ cs)).toArray, rfl, ?_, h3.mono ?_⟩
        · simp [encD, invoke, h1, encs_append]
        · rintro e u w' ⟨⟨v', rfl⟩, hu, N', Φ', x⟩
          show Leaves P fn tmps R (ds.map (encD Φ)) (settle u) w'
          rw [hu, ← encD_ag x.ag x.le hd.2]
          exact runD_ok hcd ds H1 none H' p' h2 z N' Φ' w' x.hr (Oks.ag x.ag x.le hd.2).1 (fun u e => by cases e) fun N2 Φ2 w2 x2 => hk N2 Φ2 w2 ⟨x2.hr, x.ag.trans x2.ag x.le, Nat.le_trans x.le x2.le⟩
      · cases h2
      · cases h2
    · cases h2
/-! A function's beginning and end. -/
theorem entry_get : ∀ (args : List CV) (i t : Nat) (v : CV), (entry i args).get t = some v → i ≤ t ∧ args[t - i]? = some v
  | [], i, t, v, h => by cases h
  | x :: r, i, t, v, h => by
    have h0 : ((entry (i + 1) r).put (some x) i).get t = some v := h
    clear h
    rw [T.get_put] at h0
    split at h0
    · rename_i e
      subst e
      cases h0
      exact ⟨Nat.le_refl _, by simp⟩
    · obtain ⟨h1, h2⟩ := entry_get r (i + 1) t v h0
      refine ⟨by omega, ?_⟩
      rw [show t - i = (t - (i + 1)) + 1 by omega]
      simpa using h2
theorem entry_lr {N n : Nat} {Φ : Ph} {args : List CV} (h : Oks N Φ args) (hl : args.length ≤ n) : LR n N Φ (entry 0 args) { tmps := (encs Φ args).toArray ++ Array.replicate (n - (encs Φ args).toArray.size) undef, defers := [] } :=
  ⟨by simp [encs_len]; omega, fun t v e => by
    obtain ⟨_, h1⟩ := entry_get args 0 t v e
    have h1 : args[t]? = some v := by simpa using h1
    have h2 : t < args.length := (List.getElem?_eq_some_iff.1 h1).1
    refine ⟨?_, Oks_iff.1 h v (List.mem_of_getElem? h1)⟩
    rw [Array.getElem?_append_left (by simpa [encs_len] using h2)]
    simp [encs_map, h1]⟩
theorem calls_of_twa {P : Program} {f : FuncId} {fn : Func} {c : Code} {args : Array Value} {w : World} {R : Ending → World → Prop} (lv : Bool) (hf : P.funcs[f]? = some fn) (hb : fn.body = some c)
    (h : TWa { P := P, f := f, fn := fn, R := R, hf := hf, lv := lv } [.code c] { tmps := args ++ Array.replicate (fn.ntmps - args.size) undef, defers := [] } w) : Calls P f args w R := by
  intro cs
  have henter : Frame.enter P f args .normal = (base { P := P, f := f, fn := fn, R := R, hf := hf, lv := lv }).at { tmps := args ++ Array.replicate (fn.ntmps - args.size) undef, defers := [] } [.code c] := by
    simp [Frame.enter, Frame.at, hf, hb, base]
  have := h cs
  rw [← henter] at this
  exact this
section
variable {C : Cx} {k : List Item} {a : Act} {w : World}
theorem twa_ret (hN : C.dfr = false) (h : Leaves C.P C.fn a.tmps C.R a.defers .returning w) : TWa C (.code .ret :: k) a w := fun cs => by
  obtain ⟨e, w', fr, h1, h2, h3, h4⟩ := leaves_steps a.defers .returning w { (base C).at a (.code .ret :: k) with mode := .returning } cs rfl rfl rfl C.hf (by simp [base, hN, Frame.at]) h
  exact ⟨e, w', fr, h1, Comes.of_steps (.one step_ret) h2, h3, by unfold leave; rw [hN]; exact h4⟩
theorem twa_fin (hN : C.dfr = false) (h : Leaves C.P C.fn a.tmps C.R a.defers .returning w) : TWa C [] a w := fun cs => by
  obtain ⟨e, w', fr, h1, h2, h3, h4⟩ := leaves_steps a.defers .returning w { (base C).at a [] with mode := .returning } cs rfl rfl rfl C.hf (by simp [base, hN, Frame.at]) h
  exact ⟨e, w', fr, h1, Comes.of_steps (.one step_end) h2, h3, by unfold leave; rw [hN]; exact h4⟩
end
theorem lenL_args {args : List CV} {n : Nat} (h : argsQ args n = true) : args.length ≤ n := by
  have := Nat.le_of_ble_eq_true h
  rwa [lenL_eq] at this
section
variable {P : Program} {call : Call'} {callD : CV → Call'}
theorem end_ok (hcd : CallDOk P callD) {nd : Bool} {z : Bs} {n N0 N : Nat} {Φ0 Φ : Ph} {fn : Func} {σ : St} {a : Act} {w : World} {p : Option CV} {H' : Hp} {o : Out} (hs : SR z n N Φ σ a w) (ag : Ag N0 Φ0 Φ) (hl : N0 ≤ N) (hp : OkP N Φ p) (h : endR P σ fn.results.toList (runDs nd callD σ.ds σ.H p) = some (H', o)) :
    Leaves P fn a.tmps (OutAt z N0 Φ0 H' o) a.defers (modeP Φ p) w ∧ (nd = false → a.defers = []) := by
  have hrun : ∀ H1 p1, runDs nd callD σ.ds σ.H p = some (H1, p1) → runD callD σ.ds σ.H p = some (H1, p1) ∧ (nd = false → a.defers = []) := fun H1 p1 e => by
    unfold runDs at e
    split at e
    · exact ⟨e, fun k => by cases k⟩
    · split at e
      · rename_i hds
        cases e
        exact ⟨by rw [hds]; rfl, fun _ => by rw [hs.ds, hds]; rfl⟩
      · cases e
  rw [hs.ds]
  unfold endR at h
  split at h
  · rename_i H1 v e
    cases h
    obtain ⟨e, hnd⟩ := hrun _ _ e
    refine ⟨runD_ok hcd _ _ _ _ _ e z N Φ w hs.hr hs.dk hp fun N' Φ' w' x hp' => ?_, by rw [← hs.ds]; exact hnd⟩
    exact ⟨N', Φ', ⟨x.hr, ag.trans x.ag hl, Nat.le_trans hl x.le⟩, rfl, hp' v rfl⟩
  · rename_i H1 e
    obtain ⟨e, hnd⟩ := hrun _ _ e
    split at h
    · rename_i vs hv
      cases h
      refine ⟨runD_ok hcd _ _ _ _ _ e z N Φ w hs.hr hs.dk hp fun N' Φ' w' x hp' => ?_, by rw [← hs.ds]; exact hnd⟩
      obtain ⟨k1, k2⟩ := results_ok x.hr (hs.lr.ag x.ag x.le) hv
      exact ⟨_, k1, N', Φ', ⟨x.hr, ag.trans x.ag hl, Nat.le_trans hl x.le⟩, rfl, k2⟩
    · cases h
  · cases h
/-- Regions of open order, all at once. -/
def DrAll (P : Program) (call : Call') : Prop := ∀ (C : Cx) (n : Nat) (c : Code), C.P = P → okD P n c = true → (C.lv = false ∨ ndQ (C.fn.results.toList.map rslot) c = true) → Drs C call n c
theorem okF_ok {f : Nat} {fn : Func} {c : Code} (h : okF P f = true) (hf : P.funcs[f]? = some fn) (hb : fn.body = some c) : okD P fn.ntmps c = true := by
  unfold okF at h
  rw [hf] at h
  simp only [hb] at h
  exact h
theorem body_ok (hE : Ents P) (hD : DrAll P call) (hc : CallOk P call) (hcd : CallDOk P callD) {m f : Nat} {ok : Bool} (hko : ok = true → okF P f = true) {args : List CV} {H H' : Hp} {o : Out} (h : bodyC P call callD m ok args H P.funcs[f]? = some (H', o)) {z : Bs} {N : Nat} {Φ : Ph} {w : World} (hr : HR z N Φ H w) (ha : Oks N Φ args) :
    CallR P f (encs Φ args).toArray w (OutAt z N Φ H' o) := by
  unfold bodyC at h
  split at h
  · rename_i fn hf
    split at h
    · rename_i c hb
      split at h
      · rename_i hok
        rw [Bool.and_eq_true] at hok
        have hok : okD P fn.ntmps c = true ∧ argsQ args fn.ntmps = true := ⟨okF_ok (hko hok.1) hf hb, hok.2⟩
        refine .inl ⟨hE.run hf hb, calls_of_twa (ndQ (fn.results.toList.map rslot) c) hf hb ?_⟩
        have hl := lenL_args hok.2
        have hs : SR z fn.ntmps N Φ ⟨entry 0 args, H, []⟩ { tmps := (encs Φ args).toArray ++ Array.replicate (fn.ntmps - (encs Φ args).toArray.size) undef, defers := [] } w := ⟨hr, entry_lr ha hl, rfl, trivial⟩
        refine exC_ok (C := { P := P, f := f, fn := fn, R := OutAt z N Φ H' o, hf := hf, lv := ndQ (fn.results.toList.map rslot) c }) (z := z) (n := fn.ntmps) (N0 := N) (Φ0 := Φ) hc m c _ [] hok.1 (hD _ _ _ rfl hok.1 (by cases e : ndQ (fn.results.toList.map rslot) c <;> simp [e])) ?_ N Φ _ w (Ag.refl _ _) (Nat.le_refl _) hs
        cases e : exC P call m c ⟨entry 0 args, H, []⟩ with
        | nor σ =>
          rw [e] at h
          exact fun N' Φ' a w' h1 h2 h3 => twa_fin rfl (end_ok hcd h3 h1 h2 (fun u e => by cases e) h).1
        | ret σ =>
          rw [e] at h
          exact fun k N' Φ' a w' h1 h2 h3 => twa_ret rfl (end_ok hcd h3 h1 h2 (fun u e => by cases e) h).1
        | ex i σ => rw [e] at h; cases h
        | pan v σ =>
          rw [e] at h
          intro N' Φ' a w' h1 h2 h3 h4
          obtain ⟨k1, k2⟩ := end_ok hcd h3 h1 h2 (p := some v) (fun u e => by cases e; exact h4) h
          unfold PN
          split
          · exact k1
          · rename_i hne
            have hnd : ndQ (fn.results.toList.map rslot) c = false := by
              cases e2 : ndQ (fn.results.toList.map rslot) c with
              | false => rfl
              | true => exact (hne e2 rfl).elim
            have hd := k2 hnd
            rw [hd] at k1
            exact ⟨hd, k1⟩
        | no => rw [e] at h; cases h
      · cases h
    · cases h
  · cases h
end
end
section
def TWRa (C : Cx) (u0 u1 : FrameMode) (todo : List Item) (a : Act) (w : World) : Prop := ∀ c cs, c.mode = u0 → GoesR C c cs u1 (lone ((base C).at a todo) (c :: cs) w)
section
variable {C : Cx} {k : List Item} {a : Act} {w : World} {u0 u1 : FrameMode}
theorem twr_seq {x y : Code} (h : TWRa C u0 u1 (.code x :: .code y :: k) a w) : TWRa C u0 u1 (.code (.seq x y) :: k) a w := fun c cs hc => by
  obtain ⟨e, w', fr, h1, h2, h3, h4⟩ := h c cs hc
  exact ⟨e, w', fr, h1, h2.of_steps (.one step_seq), h3, h4⟩
theorem twr_recover {id : Nat} {o : Oper} {l : List Oper} {d : Nat} {v : Value} {ts : Array TypeId} (hN : C.dfr = true) (hr : Rec u0 u1 v) (hg : o.guard = none) (hd : o.dst = some d) (ho : o.op = .call { callee := .builtin .recover, args := #[], argTypes := ts })
    (h : wpList C.P (o :: l).toArray (QK C (TWa C k)) l (a.put (some d) v) w) : TWRa C u0 u1 (.code (.region id (o :: l).toArray false) :: k) a w := fun c cs hc => by
  have hrun : (execOp a.eval o).run C.P w = .ok .recover w := by
    simp [execOp, ho, resolve, invoke, builtin]
  have h2 : wpOps C.P (o :: l).toArray (QK C (TWa C k)) (List.range' 1 l.length) (a.put (some d) v) w := by
    rw [wpOps_eq_wpList l 1 (fun j => by simp [Nat.add_comm 1 j])]; exact h
  obtain ⟨e, w', fr, k1, k2, k3, k4⟩ := twa_of_opsK h2 ({ c with mode := u1 } :: cs)
  have hrange : List.range (o :: l).toArray.size = 0 :: List.range' 1 l.length := by
    rw [List.range_eq_range']; simp [List.range'_succ]
  have s1 := step_region (P := C.P) (b := base C) (a := a) (k := k) (cs := c :: cs) (w := w) (ops := (o :: l).toArray) (id := id)
  rw [hrange] at s1
  have hw : Region.wanted o (yielded (o :: l).toArray a.tmps) = true := by simp [Region.wanted, hg]
  have s2 : step C.P (lone ((base C).at a (.inRegion (o :: l).toArray (0 :: List.range' 1 l.length) :: k)) (c :: cs) w) = .next (lone ((base C).at (a.put (some d) v) (.inRegion (o :: l).toArray (List.range' 1 l.length) :: k)) ({ c with mode := u1 } :: cs) w) := by
    refine step_lone_go ?_
    have hgo := stepG_op (P := C.P) (b := base C) (a := a) (k := k) (cs := c :: cs) (w := w) (ops := (o :: l).toArray) (i := 0) (rest := List.range' 1 l.length) (o := o) (by simp) hw
    have hfin := Frame.finish_at (base C) a (o :: l).toArray 0 (List.range' 1 l.length) k v
    have hk : ((base C).at a (.inRegion (o :: l).toArray (0 :: List.range' 1 l.length) :: k)).kind = .deferred := by simp [base, hN, Frame.at]
    have htr := tryRecover_deferred hk (c :: cs)
    have ho0 : ((o :: l).toArray[0]?).bind (·.dst) = some d := by simp [hd]
    rw [ho0] at hfin
    rw [hgo, ← hfin]
    rcases hr with ⟨rfl, rfl, rfl⟩ | ⟨older, rfl, rfl⟩
    · have hrec : recoverD (c :: cs) = none := by simp [recoverD, hc]
      have hcc : ({ c with mode := .returning } : Frame) = c := by rw [← hc]
      simp only [Frame.at] at htr ⊢
      simp [stepG.apply, hrun, htr, hrec, hcc]
    · have hrec : recoverD (c :: cs) = some (v, { c with mode := .panicking ({ v := v, recovered := true } :: older) } :: cs) := by simp [recoverD, hc]
      simp only [Frame.at] at htr ⊢
      simp [stepG.apply, hrun, htr, hrec]
  exact ⟨e, w', fr, k1, k2.of_steps (.head s1 (.one s2)), k3, k4⟩
end
theorem callsD_of_a {P : Program} {f : FuncId} {fn : Func} {c : Code} {args : Array Value} {w : World} {R : Ending → World → Prop} (u0 u1 : FrameMode) (hf : P.funcs[f]? = some fn) (hb : fn.body = some c)
    (h : TWRa { P := P, f := f, fn := fn, R := R, hf := hf, dfr := true } u0 u1 [.code c] { tmps := args ++ Array.replicate (fn.ntmps - args.size) undef, defers := [] } w) : CallsD P f args u0 w (fun e u w' => u = u1 ∧ R e w') := by
  intro c0 cs hu
  have henter : Frame.enter P f args .deferred = (base { P := P, f := f, fn := fn, R := R, hf := hf, dfr := true }).at { tmps := args ++ Array.replicate (fn.ntmps - args.size) undef, defers := [] } [.code c] := by
    simp [Frame.enter, Frame.at, hf, hb, base]
  have := h c0 cs hu
  rw [← henter] at this
  obtain ⟨e, w', fr, k1, k2, k3, k4⟩ := this
  exact ⟨e, u1, w', fr, ⟨rfl, k1⟩, k2, k4.1, k4.2⟩
section
variable {C : Cx} {z : Bs} {n N0 : Nat} {Φ0 : Ph} {call : Call'} {u0 u1 : FrameMode} {v : CV}
theorem recD_some {o : Oper} {d : Nat} (h : recD o = some d) : o.guard = none ∧ o.dst = some d ∧ ∃ ts, o.op = .call { callee := .builtin .recover, args := #[], argTypes := ts } := by
  unfold recD at h
  split at h
  · rename_i hg
    split at h
    · rename_i c hc
      obtain ⟨callee, args, ts⟩ := c
      split at h
      · rename_i hcal
        split at h
        · rename_i ha
          simp only at hcal ha
          have e2 : args = #[] := by apply Array.toList_inj.1; simpa using ha
          subst hcal e2
          exact ⟨hg, h, ts, hc⟩
        · cases h
      · cases h
    · cases h
  · cases h
theorem exR_ok (hc : CallOk C.P call) (m : Nat) (hN : C.dfr = true) : ∀ (c : Code) (σ : St) (todo : List Item) (N : Nat) (Φ : Ph) (a : Act) (w : World), okD C.P n c = true → Drs C call n c → FS C z n N0 Φ0 todo (exR C.P call v m c σ) → Ag N0 Φ0 Φ → N0 ≤ N → SR z n N Φ σ a w → Ok N Φ v → Rec u0 u1 (enc Φ v) → TWRa C u0 u1 (.code c :: todo) a w
  | .seq x y, σ, todo, N, Φ, a, w, hn, hd, h, h1, h2, h3, h4, h5 => by
    obtain ⟨n1, n2⟩ := recB (b := okD C.P n x) (c := okD C.P n y) hn
    have h : FS C z n N0 Φ0 todo (seqF (exC C.P call m y) (exR C.P call v m x σ)) := h
    refine twr_seq (exR_ok hc m hN x σ (.code y :: todo) N Φ a w n1 hd.1 ?_ h1 h2 h3 h4 h5)
    cases e : exR C.P call v m x σ with
    | nor σ' => rw [e] at h; exact exC_ok hc m y σ' todo n2 hd.2 h
    | ret σ' => rw [e] at h; exact h
    | ex i σ' =>
      rw [e] at h
      obtain ⟨k', h1, h2⟩ := h
      exact ⟨k', by simpa [exitTo] using h1, h2⟩
    | pan v σ' => rw [e] at h; exact h
    | no => rw [e] at h; exact h
  | .region id ops true, σ, todo, N, Φ, a, w, hn, hd, h, h1, h2, h3, h4, h5 => h.elim
  | .region id ops false, σ, todo, N, Φ, a, w, hn, hd, h, h1, h2, h3, h4, h5 => by
    have h : FS C z n N0 Φ0 todo (recR C.P call v ops.toList σ) := h
    have hn : dOks n ops.toList = true := hn
    unfold recR at h
    split at h
    · rename_i o l ho
      split at h
      · rename_i d hrd
        obtain ⟨k1, k2, ts, k3⟩ := recD_some hrd
        have e1 : ops = (o :: l).toArray := by apply Array.toList_inj.1; simpa using ho
        subst e1
        obtain ⟨n1, n2⟩ := dOks_cons (by simpa using hn)
        refine twr_recover hN h5 k1 k2 k3 (exops_ok hc l (h3.put (d := some d) (by rw [← k2]; exact n1) h4) n2 ?_)
        have h : FS C z n N0 Φ0 todo (ofRs (exops C.P call (o :: l) l (σ.put d v))) := by simpa using h
        show LeadA z n N Φ _ (exops C.P call (o :: l) l (σ.put d v))
        cases e : exops C.P call (o :: l) l (σ.put d v) with
        | ok σ' =>
          rw [e] at h
          exact fun N' Φ' a' w' k1 k2 k3 => h N' Φ' a' w' (h1.trans k1 h2) (Nat.le_trans h2 k2) k3
        | pan v σ' =>
          rw [e] at h
          exact fun N' Φ' a' w' k1 k2 k3 k4 => h N' Φ' a' w' (h1.trans k1 h2) (Nat.le_trans h2 k2) k3 k4
        | no => rw [e] at h; exact h.elim
      · exact h.elim
    · exact h.elim
  | .skip, σ, todo, N, Φ, a, w, hn, hd, h, _, _, _, _, _ => h.elim
  | .label _, σ, todo, N, Φ, a, w, hn, hd, h, _, _, _, _, _ => h.elim
  | .ret, σ, todo, N, Φ, a, w, hn, hd, h, _, _, _, _, _ => h.elim
  | .exit i, σ, todo, N, Φ, a, w, hn, hd, h, _, _, _, _, _ => h.elim
  | .cond _ _ _, σ, todo, N, Φ, a, w, hn, hd, h, _, _, _, _, _ => h.elim
  | .block _ _, σ, todo, N, Φ, a, w, hn, hd, h, _, _, _, _, _ => h.elim
  | .loop _, σ, todo, N, Φ, a, w, hn, hd, h, _, _, _, _, _ => h.elim
  | .rangeFunc .., σ, todo, N, Φ, a, w, hn, hd, h, _, _, _, _, _ => h.elim
  | .scope _, σ, todo, N, Φ, a, w, hn, hd, h, _, _, _, _, _ => h.elim
  | .goto _, σ, todo, N, Φ, a, w, hn, hd, h, _, _, _, _, _ => h.elim
  | .refuse _, σ, todo, N, Φ, a, w, hn, hd, h, _, _, _, _, _ => h.elim
theorem twa_retD (hN : C.dfr = true) {k : List Item} {a : Act} {w : World} {r : Value} (hd : a.defers = []) (hr : (results C.fn a.tmps).run C.P w = .ok r w) (h : C.R (.returned r) w) : TWa C (.code .ret :: k) a w := fun _ =>
  ⟨.returned r, w, _, h, .one step_ret, rfl, leave_ret rfl rfl hd rfl hr⟩
theorem twa_finD (hN : C.dfr = true) {a : Act} {w : World} {r : Value} (hd : a.defers = []) (hr : (results C.fn a.tmps).run C.P w = .ok r w) (h : C.R (.returned r) w) : TWa C [] a w := fun _ =>
  ⟨.returned r, w, _, h, .one step_end, rfl, leave_ret rfl rfl hd rfl hr⟩
end
section
variable {P : Program} {call : Call'}
theorem endR_ret {σ : St} {res : List ResultVar} {H' : Hp} {o : Out} (h : endR P σ res (some (σ.H, none)) = some (H', o)) : ∃ vs, H' = σ.H ∧ o = .ret vs ∧ resC P (σ.wh σ.H) res = some vs := by
  unfold endR at h
  simp only at h
  split at h
  · rename_i vs hv
    cases h
    exact ⟨vs, rfl, rfl, hv⟩
  · cases h
theorem bodyD_ok (hE : Ents P) (hD : DrAll P call) (hc : CallOk P call) {okt : Nat → Bool} (hko : ∀ f, okt f = true → okF P f = true) (m : Nat) : CallDOk P (fun v f args H => bodyD P call m (okt f) v args H P.funcs[f]?) := by
  intro p f args H H' vs h z N Φ w hr ha hp
  have h2 : bodyD P call m (okt f) (panV p) args H P.funcs[f]? = some (H', .ret vs) := h
  clear h
  unfold bodyD at h2
  split at h2
  · rename_i fn hf
    split at h2
    · rename_i c hb
      split at h2
      · rename_i hok
        rw [Bool.and_eq_true] at hok
        have hok : okD P fn.ntmps c = true ∧ argsQ args fn.ntmps = true := ⟨okF_ok (hko f hok.1) hf hb, hok.2⟩
        refine ⟨hE.run hf hb, ?_⟩
        have hl := lenL_args hok.2
        have hs : SR z fn.ntmps N Φ ⟨entry 0 args, H, []⟩ { tmps := (encs Φ args).toArray ++ Array.replicate (fn.ntmps - (encs Φ args).toArray.size) undef, defers := [] } w := ⟨hr, entry_lr ha hl, rfl, trivial⟩
        have hv : Ok N Φ (panV p) := by
          cases p with
          | none => trivial
          | some u => exact hp u rfl
        obtain ⟨u1, hrec, hset⟩ : ∃ u1, Rec (modeP Φ p) u1 (enc Φ (panV p)) ∧ settle u1 = .returning := by
          cases p with
          | none => exact ⟨.returning, .inl ⟨rfl, rfl, rfl⟩, rfl⟩
          | some u => exact ⟨.panicking [{ v := enc Φ u, recovered := true }], .inr ⟨[], rfl, rfl⟩, rfl⟩
        have fin : ∀ (σ : St) (N' : Nat) (Φ' : Ph) (a : Act) (w' : World), σ.ds = [] → endR P σ fn.results.toList (some (σ.H, none)) = some (H', .ret vs) → Ag N Φ Φ' → N ≤ N' → SR z fn.ntmps N' Φ' σ a w' →
            a.defers = [] ∧ ∃ r, (results fn a.tmps).run P w' = .ok r w' ∧ ((∃ v', Ending.returned r = .returned v') ∧ ∃ N' Φ', Nx z N Φ N' Φ' H' w') := fun σ N' Φ' a w' hds he g1 g2 g3 => by
          obtain ⟨vs', rfl, _, hres⟩ := endR_ret he
          exact ⟨by rw [g3.ds, hds]; rfl, _, (results_ok g3.hr g3.lr hres).1, ⟨_, rfl⟩, N', Φ', g3.hr, g1, g2⟩
        refine (callsD_of_a (R := fun e w' => (∃ v', e = .returned v') ∧ ∃ N' Φ', Nx z N Φ N' Φ' H' w') (modeP Φ p) u1 hf hb ?_).mono fun e u w' hq => ?_
        · refine exR_ok (C := { P := P, f := f, fn := fn, R := fun e w' => (∃ v', e = .returned v') ∧ ∃ N' Φ', Nx z N Φ N' Φ' H' w', hf := hf, dfr := true }) (z := z) (n := fn.ntmps) (N0 := N) (Φ0 := Φ) hc m rfl c _ [] N Φ _ w hok.1 (hD _ _ _ rfl hok.1 (.inl rfl)) ?_ (Ag.refl _ _) (Nat.le_refl _) hs hv hrec
          unfold endD at h2
          cases e : exR P call (panV p) m c ⟨entry 0 args, H, []⟩ with
          | nor σ =>
            rw [e] at h2
            simp only at h2
            split at h2
            · rename_i hds
              intro N' Φ' a w' k1 k2 k3
              obtain ⟨j1, r, j2, j3⟩ := fin σ N' Φ' a w' hds h2 k1 k2 k3
              exact twa_finD rfl j1 j2 j3
            · cases h2
          | ret σ =>
            rw [e] at h2
            simp only at h2
            split at h2
            · rename_i hds
              intro k N' Φ' a w' k1 k2 k3
              obtain ⟨j1, r, j2, j3⟩ := fin σ N' Φ' a w' hds h2 k1 k2 k3
              exact twa_retD rfl j1 j2 j3
            · cases h2
          | ex i σ => rw [e] at h2; cases h2
          | pan v σ => rw [e] at h2; cases h2
          | no => rw [e] at h2; cases h2
        · obtain ⟨rfl, h3, h4⟩ := hq
          exact ⟨h3, hset, h4⟩
      · cases h2
    · cases h2
  · cases h2
/-- What is known of functions otherwise. -/
def ExtOk (P : Program) (ext : Xt) : Prop := ∀ f g, ext f = some g → ∀ args H H' o, g args H = some (H', o) → ∀ z N Φ w, HR z N Φ H w → Oks N Φ args → CallR P f (encs Φ args).toArray w (OutAt z N Φ H' o)
theorem callR_ok {ext : Xt} {okt : Nat → Bool} (hko : ∀ f, okt f = true → okF P f = true) (hE : Ents P) (hD : ∀ call, CallOk P call → DrAll P call) (hX : ExtOk P ext) : ∀ n, CallOk P (callR P ext okt n)
  | 0 => fun f args H H' o h => by cases h
  | n + 1 => fun f args H H' o h z N Φ w hr ha => by
    have ih := callR_ok hko hE hD hX n
    have h2 : (match ext f with
      | some g => g args H
      | none => bodyC P (callR P ext okt n) (fun v f args H => bodyD P (callR P ext okt n) n (okt f) v args H P.funcs[f]?) n (okt f) args H P.funcs[f]?) = some (H', o) := h
    clear h
    split at h2
    · rename_i g hg
      exact hX f g hg args H H' o h2 z N Φ w hr ha
    · exact body_ok hE (hD _ ih) ih (bodyD_ok hE (hD _ ih) ih hko n) (hko f) h2 hr ha
theorem okFs_mem : ∀ {l : List Nat}, okFs P l = true → ∀ f ∈ l, okF P f = true
  | x :: l, h, f, hf => by
    obtain ⟨h1, h2⟩ := recB (b := okF P x) (c := okFs P l) h
    rcases List.mem_cons.1 hf with rfl | hf
    · exact h1
    · exact okFs_mem h2 f hf
theorem okTr_mem : ∀ {l : List Nat} {f : Nat} {b : Bool}, (okTr l).get f = some b → f ∈ l
  | [], f, b, h => by cases h
  | x :: l, f, b, h => by
    have h2 : ((okTr l).put (some true) x).get f = some b := h
    rw [T.get_put] at h2
    split at h2
    · rename_i e; rw [e]; exact List.mem_cons_self
    · exact List.mem_cons_of_mem _ (okTr_mem h2)
theorem okGet_ok {l : List Nat} (h : ∀ f ∈ l, okF P f = true) (f : Nat) (hf : okGet (okTr l) f = true) : okF P f = true := by
  unfold okGet at hf
  split at hf
  · rename_i b e
    exact h f (okTr_mem e)
  · cases hf
end
end
section
theorem optEq_eq {a b : Option Nat} (h : optEq a b = true) : a = b := by
  cases a <;> cases b <;> simp only [optEq, Bool.false_eq_true] at h
  · rfl
  · rw [Nat.eq_of_beq_eq_true h]
mutual
theorem cvEq_eq : ∀ {u v : CV}, cvEq u v = true → u = v
  | .int a p, v, h => by
    cases v <;> simp only [cvEq, Bool.false_eq_true, Bool.and_eq_true] at h
    obtain ⟨h1, h2⟩ := h
    rw [iEq_eq] at h2
    rw [ikEq_eq h1, of_decide_eq_true h2]
  | .bool p, v, h => by
    cases v <;> simp only [cvEq, Bool.false_eq_true, beq_iff_eq] at h
    rw [h]
  | .str p, v, h => by
    cases v <;> simp only [cvEq, Bool.false_eq_true] at h
    rw [strEq_eq] at h
    rw [of_decide_eq_true h]
  | .ptr a i, v, h => by
    cases v <;> simp only [cvEq, Bool.false_eq_true, Bool.and_eq_true] at h
    rw [Nat.eq_of_beq_eq_true h.1, Nat.eq_of_beq_eq_true h.2]
  | .sl a i m l c, v, h => by
    cases v <;> simp only [cvEq, Bool.false_eq_true, Bool.and_eq_true] at h
    obtain ⟨⟨⟨⟨h1, h2⟩, h3⟩, h4⟩, h5⟩ := h
    rw [Nat.eq_of_beq_eq_true h1, Nat.eq_of_beq_eq_true h2, Nat.eq_of_beq_eq_true h3, Nat.eq_of_beq_eq_true h4, optEq_eq h5]
  | .sle a i j m, v, h => by
    cases v <;> simp only [cvEq, Bool.false_eq_true, Bool.and_eq_true] at h
    obtain ⟨⟨⟨h1, h2⟩, h3⟩, h4⟩ := h
    rw [Nat.eq_of_beq_eq_true h1, Nat.eq_of_beq_eq_true h2, Nat.eq_of_beq_eq_true h3, Nat.eq_of_beq_eq_true h4]
  | .snil, v, h => by cases v <;> first | rfl | (simp [cvEq] at h; done)
  | .pnil, v, h => by cases v <;> first | rfl | (simp [cvEq] at h; done)
  | .inil, v, h => by cases v <;> first | rfl | (simp [cvEq] at h; done)
  | .mnil, v, h => by cases v <;> first | rfl | (simp [cvEq] at h; done)
  | .fnil, v, h => by cases v <;> first | rfl | (simp [cvEq] at h; done)
  | .gone, v, h => by cases v <;> first | rfl | (simp [cvEq] at h; done)
  | .mp a, v, h => by
    cases v <;> simp only [cvEq, Bool.false_eq_true] at h
    rw [Nat.eq_of_beq_eq_true h]
  | .agg a, v, h => by
    cases v <;> simp only [cvEq, Bool.false_eq_true] at h
    rw [cvsEq_eq h]
  | .tup a, v, h => by
    cases v <;> simp only [cvEq, Bool.false_eq_true] at h
    rw [cvsEq_eq h]
  | .iface t a, v, h => by
    cases v <;> simp only [cvEq, Bool.false_eq_true, Bool.and_eq_true] at h
    rw [Nat.eq_of_beq_eq_true h.1, cvEq_eq h.2]
  | .fn f a c, v, h => by
    cases v <;> simp only [cvEq, Bool.false_eq_true, Bool.and_eq_true] at h
    rw [Nat.eq_of_beq_eq_true h.1.1, cvsEq_eq h.1.2, cvsEq_eq h.2]
  | .gp a i, v, h => by
    cases v <;> simp only [cvEq, Bool.false_eq_true, Bool.and_eq_true] at h
    rw [Nat.eq_of_beq_eq_true h.1, Nat.eq_of_beq_eq_true h.2]
theorem cvsEq_eq : ∀ {u v : List CV}, cvsEq u v = true → u = v
  | [], [], _ => rfl
  | [], _ :: _, h => by simp [cvsEq] at h
  | _ :: _, [], h => by simp [cvsEq] at h
  | a :: r, b :: s, h => by
    simp only [cvsEq, Bool.and_eq_true] at h
    rw [cvEq_eq h.1, cvsEq_eq h.2]
end
theorem sameQ_some {x y : Option CV} (h : sameQ x y = true) : ∃ v, x = some v ∧ y = some v := by
  unfold sameQ at h
  split at h
  · split at h
    · exact ⟨_, rfl, by rw [cvEq_eq h]⟩
    · cases h
  · cases h
section
variable {P : Program} {z : Bs} {w : World} {N n : Nat} {Φ : Ph} {a b : Act} {o : Oper} {σ σ' : St} {call : Call'} {ops : List Oper}
theorem stbs_mem : ∀ {qs : List Nat}, stbs P ops σ qs = true → ∀ q ∈ qs, stbO P ops σ (nth ops q) = true
  | q :: qs, h, q', hq => by
    obtain ⟨h1, h2⟩ := recB (b := stbO P ops σ (nth ops q)) (c := stbs P ops σ qs) h
    rcases List.mem_cons.1 hq with rfl | hq
    · exact h1
    · exact stbs_mem h2 q' hq
/-- A quiet operation that is as_ if done. -/
theorem stab_ok (hr : HR z N Φ σ.H w) (hl : LR n N Φ σ.L b) {q : Nat} (h : stbO P ops σ (nth ops q) = true) : StabOp P ops.toArray b w q := by
  intro o ho d hd
  have ho : ops[q]? = some o := by simpa using ho
  rw [nth_eq, ho] at h
  unfold stbO at h
  simp only [Bool.and_eq_true] at h
  obtain ⟨_, h⟩ := h
  unfold stb1 at h
  split at h
  · rename_i hw
    have hw := wantQ_ok hl hw
    rw [hd] at h
    simp only at h
    obtain ⟨v, h1, h2⟩ := sameQ_some h
    exact ⟨fun _ => ⟨_, (hl.get d v h2).1, (qop_ok hr hl h1).1⟩, fun k => by rw [hw] at k; cases k⟩
  · rename_i hw
    have hw := wantQ_ok hl hw
    rw [hd] at h
    simp only at h
    obtain ⟨v, h1, h2⟩ := sameQ_some h
    cases h1
    exact ⟨fun k => (by rw [hw] at k; cases k), fun _ => (hl.get d _ h2).1⟩
  · cases h
theorem onlyV_dfr {r : Or} {v : CV} (h : onlyV r = .dfr v) : False := by rcases onlyV_or r with e | ⟨_, _, e⟩ <;> rw [e] at h <;> cases h
theorem onlyU_dfr {r : Or} {v : CV} (h : onlyU r = .dfr v) : False := by rcases onlyU_or r with e | ⟨_, e⟩ <;> rw [e] at h <;> cases h
theorem callO_dfr {r : Option (Hp × Out)} {v : CV} (h : callO r = .dfr v) : False := by
  unfold callO at h
  split at h <;> cases h
theorem aDo_dfr {L : T CV} {H : Hp} {c : Call} {v : CV} (h : aDo P call L H c = .dfr v) : False := by
  unfold aDo at h
  split at h
  · unfold aCall at h
    split at h
    · split at h
      · exact callO_dfr h
      · cases h
    · cases h
  · rcases onlyV_or (aBi P L H _ c.args.toList c.argTypes.toList) with e | ⟨_, _, e⟩ <;> rw [e] at h <;> cases h
  · cases h
theorem aPanic_dfr {H : Hp} {x : Option CV} {v : CV} (h : aPanic H x = .dfr v) : False := by
  unfold aPanic at h
  split at h <;> cases h
/-- What an operation puts where. -/
theorem exo_L (hn : noDfr o = true) (h : exo P call ops σ o = .ok σ') : (∀ t, o.dst ≠ some t → σ'.L.get t = σ.L.get t) ∧ σ'.ds = σ.ds := by
  have putL : ∀ (σ : St) (d : Option Nat) (v : CV), (∀ t, d ≠ some t → (putO σ d v).L.get t = σ.L.get t) ∧ (putO σ d v).ds = σ.ds := fun σ d v => by
    cases d with
    | none => exact ⟨fun _ _ => rfl, rfl⟩
    | some d => exact ⟨fun t ht => by
        show (σ.put d v).L.get t = _
        rw [St.get_put, if_neg (fun e => ht (by rw [e]))], rfl⟩
  rw [exo_eq] at h
  split at h
  · rw [run_eq] at h
    split at h
    · unfold runQ at h
      split at h
      · split at h
        · rename_i d hd
          cases h
          rw [hd]
          exact putL σ (some d) _
        · cases h
      · cases h
    · unfold runA at h
      split at h
      · cases h; exact putL _ _ _
      · cases h; exact putL _ _ _
      · cases h
      · rename_i v hv
        exfalso
        revert hv hn
        unfold noDfr
        cases o.op <;> simp only [Bool.false_eq_true, false_implies, true_implies] <;> intro hv <;> first
          | exact onlyV_dfr hv
          | exact onlyU_dfr hv
          | exact aDo_dfr hv
          | exact aPanic_dfr hv
          | exact Or.noConfusion (show Or.no = Or.dfr v from hv)
      · cases h
  · cases h
    exact putL σ _ _
  · cases h
end
theorem HR.weak {z z' : Bs} {N : Nat} {Φ : Ph} {H : Hp} {w : World} (h : HR z' N Φ H w) (hF : ∀ x, z.F x → z'.F x) (hx : Ext (fun b => ¬ z.F b) z.w z'.w) (hf : ∀ x, z.F x → x < z.w.heap.size) : HR z N Φ H w :=
  ⟨h.nx, hx.step h.ext fun b _ k k2 => k (hF b k2), hf, fun b o e => by
    obtain ⟨h1, h2, h3, h4⟩ := h.obj b o e
    exact ⟨h1, fun k => h2 (hF _ k), h3, h4⟩, h.inj⟩
/-- What stands fast while a region is run. -/
structure RI (C : Cx) (z : Bs) (n N0 : Nat) (Φ0 : Ph) (ds : List Deferred) (ops : List Oper) (g0 fl : List Nat) (obf : Nat → Obj) (pvf : Nat → Nat → Value) (call : Call') : Prop where
  hc : CallOk C.P call
  zfr : ∀ x, z.F x → x < z.w.heap.size
  dok : dOks n ops = true
  nod : ∀ (i : Nat) (o : Oper), ops[i]? = some o → noDfr o = true
  fg : ∀ f ∈ fl, ∃ (o : Oper) (d : Nat), ops[f]? = some o ∧ newQ o.op = true ∧ o.guard = none ∧ o.dst = some d
  /-- An operation j writes neither where f writes, nor where it looks. -/
  fd : ∀ f ∈ fl, ∀ (o : Oper) (d : Nat), ops[f]? = some o → o.dst = some d → ∀ j e, dstOf ops.toArray j = some e → (j = f ∨ e ≠ d) ∧ (j ∈ g0 ∨ e ∉ o.looksAt ops.toArray)
  sel : ∀ (i : Nat) (o : Oper), ops[i]? = some o → ∀ cs b, o.op ≠ .select cs b
/-- Within a region: σ is what has been done in the order of the text; pds is what was done early: which, and where it lies. -/
structure TI (C : Cx) (z : Bs) (n N0 : Nat) (Φ0 : Ph) (ds : List Deferred) (ops : List Oper) (fl : List Nat) (obf : Nat → Obj) (pvf : Nat → Nat → Value) (σ : St) (b : Act) (w : World) (N : Nat) (Φ : Ph) (pds : List (Nat × Nat)) (frem : List Nat) : Prop where
  ag : Ag N0 Φ0 Φ
  le : N0 ≤ N
  hz : ∃ z' : Bs, (∀ x, z'.F x ↔ z.F x ∨ x ∈ pds.map (·.2)) ∧ Ext (fun b => ¬ z.F b) z.w z'.w ∧ HR z' N Φ σ.H w
  lr : LR n N Φ σ.L b
  eds : b.defers = σ.ds.map (encD Φ)
  dk : Oks N Φ σ.ds
  dfs : b.defers = ds
  pd : ∀ q ∈ pds, q.1 ∈ fl ∧ w.heap[q.2]? = some (obf q.1) ∧ ¬ z.F q.2 ∧ ∀ d, dstOf ops.toArray q.1 = some d → b.tmps[d]? = some (pvf q.1 q.2)
  nd : (pds.map (·.2)).Nodup
  rf : ∀ f ∈ fl, ∀ (o : Oper), ops[f]? = some o → ∀ w2, (execOp b.eval o).run C.P w2 = .ok (.value (pvf f w2.heap.size)) (w2.alloc (obf f))
  nf : ∀ f ∈ frem, f ∈ fl → ∀ d, dstOf ops.toArray f = some d → σ.L.get d = none
section
variable {C : Cx} {z : Bs} {n N0 N : Nat} {Φ0 Φ : Ph} {ds : List Deferred} {ops : List Oper} {g0 fl : List Nat} {obf : Nat → Obj} {pvf : Nat → Nat → Value} {σ σ' : St} {b : Act} {w : World} {pds : List (Nat × Nat)} {frem : List Nat} {call : Call'}
theorem TI.sr (h : TI C z n N0 Φ0 ds ops fl obf pvf σ b w N Φ pds frem) (hf : ∀ x, z.F x → x < z.w.heap.size) : SR z n N Φ σ b w := by
  obtain ⟨z', h1, h2, h3⟩ := h.hz
  exact ⟨h3.weak (fun x k => (h1 x).2 (.inl k)) h2 hf, h.lr, h.eds, h.dk⟩
theorem TI.stab (h : TI C z n N0 Φ0 ds ops fl obf pvf σ b w N Φ pds frem) {q : Nat} (hq : stbO C.P ops σ (nth ops q) = true) : StabOp C.P ops.toArray b w q := by
  obtain ⟨z', h1, h2, h3⟩ := h.hz
  exact stab_ok h3 h.lr hq
theorem dstOf_of {j : Nat} {o : Oper} (ho : ops[j]? = some o) : dstOf ops.toArray j = o.dst := by simp [dstOf, ho]
theorem RI.ne (R : RI C z n N0 Φ0 ds ops g0 fl obf pvf call) {j e : Nat} (hde : dstOf ops.toArray j = some e) : ∀ f ∈ fl, f ≠ j → ∀ d, dstOf ops.toArray f = some d → e ≠ d := fun f hf hne d hfd => by
  obtain ⟨o', d', k1, _, _, k4⟩ := R.fg f hf
  rw [dstOf_of k1, k4] at hfd
  cases hfd
  rcases (R.fd f hf o' d k1 k4 j e hde).1 with k | k
  · exact (hne k.symm).elim
  · exact k
/-- A value put where j puts it. -/
theorem TI.put_pd (R : RI C z n N0 Φ0 ds ops g0 fl obf pvf call) (h : TI C z n N0 Φ0 ds ops fl obf pvf σ b w N Φ pds frem) {j : Nat} (hp : j ∉ pds.map (·.1)) (u : Value) : ∀ q ∈ pds, ∀ d, dstOf ops.toArray q.1 = some d → (b.put (dstOf ops.toArray j) u).tmps[d]? = some (pvf q.1 q.2) := fun q hq d hd => by
  obtain ⟨k0, _, _, k3⟩ := h.pd q hq
  cases hde : dstOf ops.toArray j with
  | none => exact k3 d hd
  | some e =>
    simp only [Act.put]
    rw [Array.getElem?_setIfInBounds_ne (R.ne hde q.1 k0 (fun k => hp (k ▸ List.mem_map_of_mem hq)) d hd)]
    exact k3 d hd
theorem TI.put_rf (R : RI C z n N0 Φ0 ds ops g0 fl obf pvf call) (h : TI C z n N0 Φ0 ds ops fl obf pvf σ b w N Φ pds frem) {j : Nat} (hj : j ∉ g0) (u : Value) : ∀ f ∈ fl, ∀ (o : Oper), ops[f]? = some o → ∀ w2, (execOp (b.put (dstOf ops.toArray j) u).eval o).run C.P w2 = .ok (.value (pvf f w2.heap.size)) (w2.alloc (obf f)) := fun f hf o' ho' w2 => by
  cases hde : dstOf ops.toArray j with
  | none => exact h.rf f hf o' ho' w2
  | some e =>
    rw [← h.rf f hf o' ho' w2]
    congr 1
    refine exec_alike (ops := ops.toArray) (R.sel f o' ho') fun t ht => ?_
    simp only [Act.put]
    rw [Array.getElem?_setIfInBounds_ne]
    intro he
    subst he
    obtain ⟨o2, d, k1, _, _, k4⟩ := R.fg f hf
    rw [k1] at ho'
    cases ho'
    rcases (R.fd f hf _ d k1 k4 j e hde).2 with k | k
    · exact hj k
    · exact k ht
theorem TI.put (R : RI C z n N0 Φ0 ds ops g0 fl obf pvf call) (h : TI C z n N0 Φ0 ds ops fl obf pvf σ b w N Φ pds frem) {j : Nat} {o : Oper} (ho : ops[j]? = some o) (hj : j ∉ g0) (hp : j ∉ pds.map (·.1)) (hfr : j ∉ frem) {v : CV} (hv : Ok N Φ v) (hd : dOk n o.dst = true) :
    TI C z n N0 Φ0 ds ops fl obf pvf (putO σ o.dst v) (b.put o.dst (enc Φ v)) w N Φ pds frem := by
  have e1 := h.put_pd R hp (enc Φ v)
  have e2 := h.put_rf R hj (enc Φ v)
  rw [dstOf_of ho] at e1 e2
  refine ⟨h.ag, h.le, ?_, ?_, ?_, ?_, ?_, fun q hq => ?_, h.nd, e2, fun f hf hfl d hfd => ?_⟩
  · cases o.dst <;> exact h.hz
  · cases hdst : o.dst with
    | none => exact h.lr
    | some e => rw [hdst] at hd; exact h.lr.put (by simpa [dOk, Nat.blt_eq] using hd) hv
  · cases o.dst <;> exact h.eds
  · cases o.dst <;> exact h.dk
  · cases o.dst <;> exact h.dfs
  · obtain ⟨k0, k1, k2, _⟩ := h.pd q hq
    exact ⟨k0, k1, k2, e1 q hq⟩
  · cases hdst : o.dst with
    | none => exact h.nf f hf hfl d hfd
    | some e =>
      show (σ.put e v).L.get d = none
      have hne : e ≠ d := R.ne (j := j) (by rw [dstOf_of ho, hdst]) f hfl (fun k => hfr (k ▸ hf)) d hfd
      rw [St.get_put, if_neg (fun k => hne k.symm)]
      exact h.nf f hf hfl d hfd
theorem quiet_step {P : Program} {o : Oper} {a : Act} (hq : quiet P o.op = true) (hr : HR z N Φ σ.H w) (hl : LR n N Φ σ.L a) (h : exo P call ops σ o = .ok σ') : ∃ v, σ' = putO σ o.dst v ∧ Ok N Φ v := by
  rw [exo_eq] at h
  split at h
  · rw [run_eq] at h
    rw [hq] at h
    simp only at h
    unfold runQ at h
    split at h
    · rename_i v hv
      split at h
      · rename_i d hd
        cases h
        exact ⟨v, by rw [hd]; rfl, (qop_ok hr hl hv).2⟩
      · cases h
    · cases h
  · cases h
    exact ⟨.gone, rfl, trivial⟩
  · cases h
theorem offRfl (ops : Array Oper) (S : List Nat) (a : Act) : Off ops S a a := ⟨rfl, rfl, fun _ _ => rfl⟩
theorem offTrans {ops : Array Oper} {S S' : List Nat} {a b c : Act} (h : Off ops S a b) (k : Off ops S' b c) : Off ops (S ++ S') a c :=
  ⟨h.size.trans k.size, h.defers.trans k.defers, fun t ht => (h.get t fun q hq => ht q (List.mem_append_left _ hq)).trans (k.get t fun q hq => ht q (List.mem_append_right _ hq))⟩
theorem offPut {ops : Array Oper} {j : Nat} {a : Act} (u : Value) : Off ops [j] a (a.put (dstOf ops j) u) := by
  cases hd : dstOf ops j with
  | none => exact offRfl _ _ _
  | some e =>
    refine ⟨by simp [Act.put], rfl, fun t ht => ?_⟩
    simp only [Act.put]
    rw [Array.getElem?_setIfInBounds_ne]
    intro k
    exact ht j List.mem_cons_self (by rw [hd, k])
theorem dok_mem {l : List Oper} : ∀ {j : Nat} {o : Oper}, dOks n l = true → l[j]? = some o → dOk n o.dst = true := by
  induction l with
  | nil => intro j o _ ho; simp at ho
  | cons x l ih =>
    intro j o h ho
    obtain ⟨h1, h2⟩ := dOks_cons h
    cases j with
    | zero => simp at ho; subst ho; exact h1
    | succ j => exact ih h2 (by simpa using ho)
theorem exG_step {P : Program} {q : Nat} {g : List Nat} (h : exG P call ops (q :: g) σ = .ok σ') : ∃ o σ1, ops[q]? = some o ∧ quiet P o.op = true ∧ exo P call ops σ o = .ok σ1 ∧ exG P call ops g σ1 = .ok σ' := by
  have h2 : (match quiN P (nth ops q) with
    | true => match exN P call ops σ (nth ops q) with
      | .ok σ => exG P call ops g σ
      | _ => .no
    | false => .no) = Rs.ok σ' := h
  clear h
  rw [nth_eq] at h2
  cases ho : ops[q]? with
  | none => rw [ho] at h2; cases h2
  | some o =>
    rw [ho] at h2
    split at h2
    · rename_i hq
      split at h2
      · rename_i σ1 e
        exact ⟨o, σ1, rfl, hq, e, h2⟩
      · cases h2
    · cases h2
theorem exG_ok (R : RI C z n N0 Φ0 ds ops g0 fl obf pvf call) : ∀ (g : List Nat) {σ : St} {b : Act}, TI C z n N0 Φ0 ds ops fl obf pvf σ b w N Φ pds frem → (∀ q ∈ g, q ∉ g0 ∧ q ∉ pds.map (·.1) ∧ q ∉ frem) → exG C.P call ops g σ = .ok σ' → ∃ b', Off ops.toArray g b b' ∧ TI C z n N0 Φ0 ds ops fl obf pvf σ' b' w N Φ pds frem
  | [], σ, b, h, _, e => by
    cases e
    exact ⟨b, offRfl _ _ _, h⟩
  | q :: g, σ, b, h, hg, e => by
    obtain ⟨o, σ1, ho, hq, e1, e2⟩ := exG_step e
    obtain ⟨z', _, _, h3⟩ := h.hz
    obtain ⟨v, rfl, hv⟩ := quiet_step hq h3 h.lr e1
    obtain ⟨g1, g2, g3⟩ := hg q List.mem_cons_self
    have h' := h.put R ho g1 g2 g3 hv (dok_mem R.dok ho)
    obtain ⟨b', k1, k2⟩ := exG_ok R g h' (fun q hq => hg q (List.mem_cons_of_mem _ hq)) e2
    refine ⟨b', ?_, k2⟩
    have := offTrans (offPut (ops := ops.toArray) (j := q) (a := b) (enc Φ v)) (by rw [dstOf_of ho]; exact k1)
    exact this
/-- The next one in the order of the text is done. -/
theorem head_ok (R : RI C z n N0 Φ0 ds ops g0 fl obf pvf call) (h : TI C z n N0 Φ0 ds ops fl obf pvf σ b w N Φ pds frem) {e : Nat} {o : Oper} (ho : ops[e]? = some o) (he : e ∉ g0) (hp : e ∉ pds.map (·.1)) (hfr : e ∉ frem) {K : Act → World → Prop}
    (hk : match exo C.P call ops σ o with
      | .ok σ1 => ∀ N' Φ' v w', TI C z n N0 Φ0 ds ops fl obf pvf σ1 (b.put o.dst v) w' N' Φ' pds frem → K (b.put o.dst v) w'
      | .pan v σ1 => ∀ N' Φ' w', Ag N0 Φ0 Φ' → N0 ≤ N' → SR z n N' Φ' σ1 b w' → Ok N' Φ' v → PN C b [{ v := enc Φ' v, recovered := false }] w'
      | .no => False) : wpList C.P ops.toArray (QT C ds K) [o] b w := by
  obtain ⟨z', hF, hx, hr⟩ := h.hz
  have hd := dok_mem R.dok ho
  refine exo_ok R.hc (z := z') ⟨hr, h.lr, h.eds, h.dk⟩ hd ?_
  cases hex : exo C.P call ops σ o with
  | ok σ1 =>
    rw [hex] at hk
    intro N' Φ' dd v w' ag hl hs
    obtain ⟨hL, hds⟩ := exo_L (R.nod e o ho) hex
    have e0 : ({ b with defers := dd ++ b.defers }.put o.dst v).defers = dd ++ b.defers := by cases o.dst <;> rfl
    have e1 := hs.ds
    rw [e0, hds, encD_ag ag hl h.dk, ← h.eds] at e1
    have e2 : dd = [] := by
      have := congrArg List.length e1
      simp at this
      exact this
    subst e2
    have hbb : ({ b with defers := [] ++ b.defers } : Act) = b := rfl
    rw [hbb] at hs ⊢
    have hb : ∀ x, z'.F x → w'.heap[x]? = w.heap[x]? := fun x hx' => by
      rw [hs.hr.ext.block x (hr.fr x hx') (fun k => k hx'), hr.ext.block x (hr.fr x hx') (fun k => k hx')]
    have p1 := h.put_pd R hp v
    have p2 := h.put_rf R he v
    rw [dstOf_of ho] at p1 p2
    refine ⟨by cases o.dst <;> exact h.dfs, hk N' Φ' v w' ⟨h.ag.trans ag h.le, Nat.le_trans h.le hl, ⟨z', hF, hx, hs.hr⟩, hs.lr, hs.ds, hs.dk, by cases o.dst <;> exact h.dfs, fun q hq => ?_, h.nd, p2, fun f hf hfl d hfd => ?_⟩⟩
    · obtain ⟨k0, k1, k2, _⟩ := h.pd q hq
      exact ⟨k0, by rw [hb q.2 ((hF q.2).2 (.inr (List.mem_map_of_mem hq)))]; exact k1, k2, p1 q hq⟩
    · rw [hL d (fun k => ?_)]
      · exact h.nf f hf hfl d hfd
      · exact R.ne (j := e) (by rw [dstOf_of ho, k]) f hfl (fun k => hfr (k ▸ hf)) d hfd rfl
  | pan v σ1 =>
    rw [hex] at hk
    exact fun N' Φ' w' ag hl hs hv => hk N' Φ' w' (h.ag.trans ag h.le) (Nat.le_trans h.le hl) ⟨hs.hr.weak (fun x k => (hF x).2 (.inl k)) hx R.zfr, hs.lr, hs.ds, hs.dk⟩ hv
  | no => rw [hex] at hk; exact hk.elim
/-- One is done early. -/
theorem early_ok (R : RI C z n N0 Φ0 ds ops g0 fl obf pvf call) (h : TI C z n N0 Φ0 ds ops fl obf pvf σ b w N Φ pds frem) {f : Nat} {o : Oper} (ho : ops[f]? = some o) (hfl : f ∈ fl) (hg : f ∉ g0) (hp : f ∉ pds.map (·.1)) (hfr : f ∈ frem) {K : Act → World → Prop}
    (hk : ∀ p w', TI C z n N0 Φ0 ds ops fl obf pvf σ (b.put o.dst (pvf f p)) w' N Φ ((f, p) :: pds) frem → K (b.put o.dst (pvf f p)) w') : wpList C.P ops.toArray (QT C ds K) [o] b w := by
  obtain ⟨o', d, k1, k2, k3, k4⟩ := R.fg f hfl
  rw [ho] at k1
  cases k1
  obtain ⟨z', hF, hx, hr⟩ := h.hz
  refine wpList_plain k3 fun K' hK' => ?_
  unfold Oper.wp
  rw [h.rf f hfl o ho w, Oper.upon_value]
  have hlt : ∀ x, z'.F x → x < w.heap.size := fun x k => Nat.lt_of_lt_of_le (hr.fr x k) hr.ext.size
  have hpF : ¬ z'.F w.heap.size := fun k => Nat.lt_irrefl _ (hlt _ k)
  have al : Ext Nowhere w (w.alloc (obf f)) := Ext.alloc _ _ _
  have p1 := h.put_pd R hp (pvf f w.heap.size)
  have p2 := h.put_rf R hg (pvf f w.heap.size)
  rw [dstOf_of ho] at p1 p2
  refine hK' _ _ ⟨by rw [k4]; exact h.dfs, hk w.heap.size (w.alloc (obf f)) ⟨h.ag, h.le, ?_, ?_, by rw [k4]; exact h.eds, h.dk, by rw [k4]; exact h.dfs, ?_, ?_, p2, h.nf⟩⟩
  · refine ⟨⟨w.alloc (obf f), fun x => z'.F x ∨ x = w.heap.size⟩, fun x => ?_, ?_, ?_⟩
    · simp only [hF x, List.map_cons, List.mem_cons]
      constructor
      · rintro ((k | k) | k)
        · exact .inl k
        · exact .inr (.inr k)
        · exact .inr (.inl k)
      · rintro (k | k | k)
        · exact .inl (.inl k)
        · exact .inr k
        · exact .inl (.inr k)
    · exact (hx.step hr.ext fun x _ k k2 => k ((hF x).2 (.inl k2))).step al fun _ _ k => k.elim
    · have hs := hr.same al
      refine ⟨hr.nx, Ext.refl _ _, fun x k => ?_, fun j x e => ?_, hr.inj⟩
      · have hsz : w.heap.size < (w.alloc (obf f)).heap.size := (Array.getElem?_eq_some_iff.1 (heap_alloc_new w (obf f))).1
        rcases k with k | k
        · exact Nat.lt_of_lt_of_le (hlt x k) al.size
        · rw [k]; exact hsz
      · obtain ⟨j1, j2, j3, j4⟩ := hs.obj j x e
        obtain ⟨_, _, j5, _⟩ := hr.obj j x e
        refine ⟨j1, fun k => ?_, j3, j4⟩
        rcases k with k | k
        · exact j2 k
        · omega
  · refine ⟨by rw [k4]; simp [Act.put, h.lr.size], fun t v e => ?_⟩
    have hne : t ≠ d := fun k => by
      have := h.nf f hfr hfl d (by rw [dstOf_of ho, k4])
      rw [k, this] at e
      cases e
    obtain ⟨j1, j2⟩ := h.lr.get t v e
    refine ⟨?_, j2⟩
    rw [k4]
    simp only [Act.put]
    rw [Array.getElem?_setIfInBounds_ne (fun k => hne k.symm)]
    exact j1
  · intro q hq
    rcases List.mem_cons.1 hq with rfl | hq
    · refine ⟨hfl, heap_alloc_new w _, fun k => hpF ((hF _).2 (.inl k)), fun d' hd' => ?_⟩
      rw [dstOf_of ho, k4] at hd'
      cases hd'
      rw [k4]
      have hdn := dok_mem R.dok ho
      rw [k4] at hdn
      have hdn : d < n := by simpa [dOk, Nat.blt_eq] using hdn
      simp [Act.put, h.lr.size, hdn]
    · obtain ⟨j0, j1, j2, _⟩ := h.pd q hq
      refine ⟨j0, ?_, j2, p1 q hq⟩
      rw [al.block q.2 (hlt _ ((hF q.2).2 (.inr (List.mem_map_of_mem hq)))) id]
      exact j1
  · rw [List.map_cons, List.nodup_cons]
    exact ⟨fun k => hpF ((hF _).2 (.inr k)), h.nd⟩
def NewE (P : Program) (N : Nat) (Φ : Ph) (a : Act) (o : Oper) (H : Hp) (v : CV) (H' : Hp) : Prop := ∃ (cs : List CV) (U : Nat) (mk : Nat → CV) (pv : Nat → Value), v = mk H.nx ∧ H' = H.new (.row U cs) ∧ Oks N Φ cs ∧ ones cs = true ∧ (∀ (Φ' : Ph) b, enc Φ' (mk b) = pv (Φ'.blk b)) ∧
    (∀ N' (Φ' : Ph) b, b < N' → Φ'.lim b = cs.length → Ok N' Φ' (mk b)) ∧ ∀ w2, (execOp a.eval o).run P w2 = .ok (.value (pv w2.heap.size)) (w2.alloc (.cells (encs Φ cs).toArray U))
theorem NewV.lift {P : Program} {H H' : Hp} {a : Act} {o : Oper} {v : CV} {s : Sem Value} (he : ∀ w2, (execOp a.eval o).run P w2 = (do pure (Next.value (← s)) : Sem Next).run P w2) (h : NewV P N Φ s H v H') : NewE P N Φ a o H v H' := by
  obtain ⟨cs, U, mk, pv, h1, h2, h3, h4, h5, h6, h7⟩ := h
  exact ⟨cs, U, mk, pv, h1, h2, h3, h4, h5, h6, fun w2 => by
    rw [he w2]
    simp only [Sem.run_bind, h7 w2, Result.andThen_ok, Sem.run_pure]⟩
theorem newA_new {P : Program} {L : T CV} {H H' : Hp} {a : Act} {o : Oper} {v : CV} (hl : LR n N Φ L a) (h : newA P L H o.op = .val v H') : NewE P N Φ a o H v H' := by
  unfold newA at h
  split at h
  · rename_i t ho
    exact (alloc_new (onlyV_val h)).lift (fun w2 => by simp only [execOp, ho])
  · rename_i t len parts ho
    exact (bsl_new hl (onlyV_val h)).lift (fun w2 => by simp only [execOp, ho])
  · cases h
theorem newQ_act {P : Program} {L : T CV} {H : Hp} {op : Op} (h : newQ op = true) : quiet P op = false ∧ act P call L H op = newA P L H op := by
  cases op <;> first | exact ⟨rfl, rfl⟩ | cases h
theorem newA_or {P : Program} {L : T CV} {H : Hp} {op : Op} : newA P L H op = .no ∨ ∃ v H', newA P L H op = .val v H' := by
  unfold newA
  split
  · exact onlyV_or _
  · exact onlyV_or _
  · exact .inl rfl
/-- What was done early is reached in the order of the text. -/
theorem absorb_ok (R : RI C z n N0 Φ0 ds ops g0 fl obf pvf call) (h : TI C z n N0 Φ0 ds ops fl obf pvf σ b w N Φ pds frem) {f p : Nat} {o : Oper} (hq : (f, p) ∈ pds) (ho : ops[f]? = some o) {frem' : List Nat} (hfr : f ∉ frem') (hsub : ∀ x ∈ frem', x ∈ frem) (hno : exo C.P call ops σ o ≠ .no) :
    ∃ σ1 N' Φ', exo C.P call ops σ o = .ok σ1 ∧ TI C z n N0 Φ0 ds ops fl obf pvf σ1 b w N' Φ' (pds.filter fun q => q.1 != f) frem' := by
  have hfl : f ∈ fl := (h.pd _ hq).1
  obtain ⟨o', d, k1, k2, k3, k4⟩ := R.fg f hfl
  rw [ho] at k1
  cases k1
  obtain ⟨z', hF, hx, hr⟩ := h.hz
  obtain ⟨_, hob, hpz, hslot⟩ := h.pd _ hq
  have hdf : dstOf ops.toArray f = some d := by rw [dstOf_of ho, k4]
  have hexo : exo C.P call ops σ o = runA σ (some d) (newA C.P σ.L σ.H o.op) := by
    rw [exo_eq]
    have : wantQ ops σ o = some true := by unfold wantQ; rw [k3]
    rw [this]
    simp only
    rw [run_eq]
    rw [(newQ_act (P := C.P) (call := call) (L := σ.L) (H := σ.H) k2).1, (newQ_act (call := call) k2).2, k4]
  rcases newA_or (P := C.P) (L := σ.L) (H := σ.H) (op := o.op) with e | ⟨v, H', e⟩
  · exact (hno (by rw [hexo, e]; rfl)).elim
  · obtain ⟨cs, U, mk, pv, rfl, rfl, c1, c2, c3, c4, c5⟩ := newA_new h.lr e
    have hpw : p < w.heap.size := (Array.getElem?_eq_some_iff.1 hob).1
    have hpF : z'.F p := (hF p).2 (.inr (List.mem_map_of_mem (f := (·.2)) hq))
    have huniq : ∀ q ∈ pds, q.2 = p → q.1 = f := fun q hq' e2 => by
      have : ∀ (l : List (Nat × Nat)), (l.map (·.2)).Nodup → (f, p) ∈ l → q ∈ l → q = (f, p) := by
        intro l
        induction l with
        | nil => intro _ h _; cases h
        | cons x l ih =>
          intro hn m1 m2
          rw [List.map_cons, List.nodup_cons] at hn
          rcases List.mem_cons.1 m1 with rfl | m3 <;> rcases List.mem_cons.1 m2 with rfl | m4
          · rfl
          · exact (hn.1 (by rw [show (f, p).2 = q.2 from e2.symm]; exact List.mem_map_of_mem m4)).elim
          · exact (hn.1 (by rw [e2]; exact List.mem_map_of_mem (f := (·.2)) m3)).elim
          · exact ih hn.2 m3 m4
      rw [this pds h.nd hq hq']
    let w2 : World := { w with heap := Array.replicate p (obf f) }
    have hw2 : w2.heap.size = p := by simp [w2]
    have e1 := h.rf f hfl o ho w2
    rw [c5 w2, hw2] at e1
    have e3 : pv p = pvf f p ∧ w2.alloc (.cells (encs Φ cs).toArray U) = w2.alloc (obf f) := by
      injection e1 with e1 e2
      injection e1 with e1
      exact ⟨e1, e2⟩
    have e4 : obf f = .cells (encs Φ cs).toArray U := by
      have g1 := heap_alloc_new w2 (.cells (encs Φ cs).toArray U)
      rw [e3.2, heap_alloc_new w2 (obf f)] at g1
      injection g1
    refine ⟨_, N + 1, Φ.new N p cs.length, by rw [hexo, e]; rfl, ?_⟩
    have ag := Ph.new_ag Φ N p cs.length
    have hfil : ∀ x ∈ pds.filter (fun q => q.1 != f), x ∈ pds ∧ x.1 ≠ f := fun x hx => by simpa using List.mem_filter.1 hx
    obtain ⟨n1, n2⟩ := enc_new (l := cs.length) (b := p) c1
    refine ⟨h.ag.trans ag h.le, Nat.le_succ_of_le h.le, ?_, ?_, ?_, (Oks.ag ag (Nat.le_succ N) h.dk).1, h.dfs, fun q hq' => h.pd q (hfil q hq').1, ?_, h.rf, fun f' hf' hfl' d' hd' => ?_⟩
    · let z2 : Bs := ⟨z'.w, fun x => z.F x ∨ x ∈ (pds.filter (fun q => q.1 != f)).map (·.2)⟩
      have hz2 : ∀ x, z2.F x → z'.F x ∧ x ≠ p := fun x k => by
        rcases k with k | k
        · exact ⟨(hF x).2 (.inl k), fun e => hpz (e ▸ k)⟩
        · obtain ⟨q, m1, rfl⟩ := List.mem_map.1 k
          obtain ⟨m2, m3⟩ := hfil q m1
          exact ⟨(hF _).2 (.inr (List.mem_map_of_mem m2)), fun e => m3 (huniq q m2 e)⟩
      refine ⟨z2, fun x => Iff.rfl, hx, ?_⟩
      have hr2 : HR z2 N Φ σ.H w := hr.weak (fun x k => (hz2 x k).1) (Ext.refl _ _) (fun x k => hr.fr x (hz2 x k).1)
      show HR z2 (N + 1) (Φ.new N p cs.length) (σ.H.new (.row U cs)) w
      refine HR.to (F := Nowhere) N hr2 (Ext.refl _ _) (fun _ k => k.elim) ag (by omega) (by simp [Hp.new, hr.nx]) (fun c o' e hc => ?_) (fun o' e => ?_)
      · rw [Hp.get_new, hr.nx, if_neg hc] at e
        exact ⟨e, id⟩
      · rw [Hp.get_new, hr.nx, if_pos rfl] at e
        cases e
        rw [Ph.new_blk]
        refine ⟨⟨by omega, fun k => (hz2 p k).2 rfl, hpw, ?_⟩, fun c o' hc e _ k => ?_⟩
        · refine ⟨[], (0, 0), ?_, n1, c2, by rw [Ph.new_lim]; exact Nat.le_refl _, by rw [Ph.new_lim]; exact Nat.le_add_right _ _, fun i hi k => by omega⟩
          rw [hob, n2, e4]
          simp
        · exact (hr.obj c o' e).2.1 (k ▸ hpF)
    · have hlr := h.lr.ag ag (Nat.le_succ N)
      refine ⟨hlr.size, fun t v e => ?_⟩
      have e : (σ.L.put (some (mk σ.H.nx)) d).get t = some v := e
      rw [T.get_put] at e
      split at e
      · rename_i ht
        cases e
        subst ht
        rw [hslot t hdf, c3, hr.nx, Ph.new_blk, e3.1]
        exact ⟨rfl, c4 _ _ _ (by omega) (by rw [Ph.new_lim])⟩
      · exact hlr.get t v e
    · show b.defers = σ.ds.map _
      rw [encD_ag ag (Nat.le_succ N) h.dk]
      exact h.eds
    · exact h.nd.sublist (List.Sublist.map _ List.filter_sublist)
    · show (σ.L.put (some (mk σ.H.nx)) d).get d' = none
      have hne : f' ≠ f := fun k => hfr (k ▸ hf')
      rw [T.get_put, if_neg (fun k => R.ne hdf f' hfl' hne d' hd' k.symm)]
      exact h.nf f' (hsub f' hf') hfl' d' hd'
end
end
section
theorem hasN_no {ts ws : List Nat} (h : hasN ts ws = false) {t : Nat} (ht : t ∈ ts) : t ∉ ws := fun hw => by
  unfold hasN at h
  have : ts.any (fun t => ws.any (Nat.beq t)) = true := List.any_eq_true.2 ⟨t, ht, List.any_eq_true.2 ⟨t, hw, Nat.beq_refl t⟩⟩
  rw [this] at h
  cases h
theorem ev_congr {L L' : T CV} {x : Operand} (h : ∀ t ∈ tmO x, L'.get t = L.get t) : ev L' x = ev L x := by
  cases x with
  | tmp t => exact h t (List.mem_singleton.2 rfl)
  | _ => rfl
theorem evs_congr {L L' : T CV} : ∀ {xs : List Operand}, (∀ t ∈ tmOs xs, L'.get t = L.get t) → evs L' xs = evs L xs
  | [], _ => rfl
  | x :: xs, h => by
    show cons? (ev L' x) (evs L' xs) = cons? (ev L x) (evs L xs)
    have h1 : ∀ t ∈ tmO x, L'.get t = L.get t := fun t ht => h t (by simp only [tmOs, List.flatMap_cons, List.mem_append]; exact .inl ht)
    have h2 : ∀ t ∈ tmOs xs, L'.get t = L.get t := fun t ht => h t (by simp only [tmOs, List.flatMap_cons, List.mem_append]; exact .inr ht)
    rw [ev_congr h1, evs_congr h2]
theorem qop_congr {P : Program} {L L' : T CV} {H H' : Hp} {op : Op} (hn : nosQ op = true) (h : ∀ t ∈ tmsQ op, L'.get t = L.get t) : qop P L' H' op = qop P L H op := by
  have m1 : ∀ {x : Operand} {xs : List Operand}, x ∈ xs → ∀ t ∈ tmO x, t ∈ tmOs xs := fun hx t ht => List.mem_flatMap.2 ⟨_, hx, ht⟩
  cases op with
  | move x => exact ev_congr h
  | assign x => exact ev_congr h
  | pick c x y =>
    show qPick L' c x y = qPick L c x y
    unfold qPick
    rw [ev_congr fun t ht => h t (m1 (by simp) t ht), ev_congr (x := x) fun t ht => h t (m1 (by simp) t ht), ev_congr (x := y) fun t ht => h t (m1 (by simp) t ht)]
  | binOp op t x y r =>
    show bop P t op y (ev L' x) (ev L' y) = bop P t op y (ev L x) (ev L y)
    rw [ev_congr (x := x) fun t ht => h t (m1 (by simp) t ht), ev_congr (x := y) fun t ht => h t (m1 (by simp) t ht)]
  | unOp op t x =>
    show uop' op (ev L' x) = uop' op (ev L x)
    rw [ev_congr h]
  | makeInterface t x =>
    show qIface P t (ev L' x) = qIface P t (ev L x)
    rw [ev_congr h]
  | makeFunc f as_ cs =>
    show qFunc L' f as_.toList cs.toList = qFunc L f as_.toList cs.toList
    unfold qFunc
    rw [evs_congr (xs := as_.toList) fun t ht => h t (List.mem_append_left _ ht), evs_congr (xs := cs.toList) fun t ht => h t (List.mem_append_right _ ht)]
  | extract x i =>
    show qExt i (ev L' x) = qExt i (ev L x)
    rw [ev_congr h]
  | nilCheck x =>
    show qNil (ev L' x) = qNil (ev L x)
    rw [ev_congr h]
  | fieldAddr t x i =>
    show qFa (fld P t i) (ev L' x) = qFa (fld P t i) (ev L x)
    rw [ev_congr h]
  | field t x i =>
    show qFld (fld P t i) (ev L' x) = qFld (fld P t i) (ev L x)
    rw [ev_congr h]
  | index t x y =>
    show qIx P t (ev L' x) (asN (ev L' y)) = qIx P t (ev L x) (asN (ev L y))
    rw [ev_congr (x := x) fun t ht => h t (m1 (by simp) t ht), ev_congr (x := y) fun t ht => h t (m1 (by simp) t ht)]
  | indexAddr t x y =>
    show qIa P t (ev L' x) (asN (ev L' y)) = qIa P t (ev L x) (asN (ev L y))
    rw [ev_congr (x := x) fun t ht => h t (m1 (by simp) t ht), ev_congr (x := y) fun t ht => h t (m1 (by simp) t ht)]
  | typeAssert x xt t c =>
    show qAss P t c (ev L' x) = qAss P t c (ev L x)
    rw [ev_congr h]
  | build t parts =>
    show qBuild P t (parts.toList.map (·.1)) (evs L' (parts.toList.map (·.2))) = qBuild P t (parts.toList.map (·.1)) (evs L (parts.toList.map (·.2)))
    rw [evs_congr h]
  | _ => cases hn
theorem strEq_refl (s : List UInt8) : strEq s s = true := by rw [strEq_eq]; simp
theorem ikEq_refl (k : IntKind) : ikEq k k = true := by cases k <;> rfl
mutual
theorem cvEq_refl : ∀ (v : CV), cvEq v v = true
  | .int k n => by simp only [cvEq, Bool.and_eq_true]; exact ⟨ikEq_refl k, by rw [iEq_eq]; simp⟩
  | .bool b => by simp [cvEq]
  | .str s => by simp only [cvEq]; exact strEq_refl s
  | .ptr a i => by simp [cvEq]
  | .sl a i m l c => by cases c <;> simp [cvEq, optEq]
  | .sle a i j m => by simp [cvEq]
  | .snil => rfl
  | .pnil => rfl
  | .inil => rfl
  | .mp a => by simp [cvEq]
  | .mnil => rfl
  | .agg cs => by simp only [cvEq]; exact cvsEq_refl cs
  | .tup cs => by simp only [cvEq]; exact cvsEq_refl cs
  | .iface t v => by simp only [cvEq, Bool.and_eq_true]; exact ⟨Nat.beq_refl t, cvEq_refl v⟩
  | .fn f as_ cs => by simp only [cvEq, Bool.and_eq_true]; exact ⟨⟨Nat.beq_refl f, cvsEq_refl as_⟩, cvsEq_refl cs⟩
  | .fnil => rfl
  | .gone => rfl
  | .gp g i => by simp [cvEq]
theorem cvsEq_refl : ∀ (l : List CV), cvsEq l l = true
  | [] => rfl
  | v :: l => by simp only [cvsEq, Bool.and_eq_true]; exact ⟨cvEq_refl v, cvsEq_refl l⟩
end
section
variable {P : Program} {call : Call'} {ops : List Oper} {σ σ' : St}
theorem freQ_ok {ws : List Nat} {q : Nat} (h : freQ ops ws q = true) : ∃ o d, nth ops q = some o ∧ nosQ o.op = true ∧ o.guard = none ∧ o.dst = some d ∧ d ∉ ws ∧ (∀ t ∈ tmsQ o.op, t ∉ ws) ∧ d ∉ tmsQ o.op := by
  unfold freQ at h
  split at h
  · rename_i o ho
    unfold freO at h
    simp only [Bool.and_eq_true, Option.isNone_iff_eq_none] at h
    obtain ⟨⟨h1, h2⟩, h3⟩ := h
    split at h3
    · rename_i d hd
      simp only [Bool.and_eq_true, Bool.not_eq_true'] at h3
      exact ⟨o, d, ho, h1, h2, hd, hasN_no h3.1 List.mem_cons_self, fun t ht => hasN_no h3.1 (List.mem_cons_of_mem _ ht), fun hm => hasN_no h3.2 (List.mem_singleton.2 rfl) hm⟩
    · cases h3
  · cases h
/-- What nothing has touched stays as_ if done. -/
theorem stb_keep {ws : List Nat} {q : Nat} (hf : freQ ops ws q = true) (hs : ∀ t, t ∉ ws → σ'.L.get t = σ.L.get t) (h : stbO P ops σ (nth ops q) = true) : stbO P ops σ' (nth ops q) = true := by
  obtain ⟨o, d, ho, h1, h2, h3, h4, h5, _⟩ := freQ_ok hf
  rw [ho] at h ⊢
  unfold stbO at h ⊢
  simp only [Bool.and_eq_true] at h ⊢
  refine ⟨h.1, ?_⟩
  have h := h.2
  unfold wantQ at h ⊢
  rw [h2] at h ⊢
  unfold stb1 at h ⊢
  simp only [h3] at h ⊢
  rw [qop_congr (H := σ.H) h1 fun t ht => hs t (h5 t ht), hs d h4]
  exact h
theorem exG_L (hn : ∀ (i : Nat) (o : Oper), ops[i]? = some o → noDfr o = true) : ∀ (g : List Nat) {σ σ' : St}, exG P call ops g σ = .ok σ' → ∀ t, t ∉ wrsQ ops g → σ'.L.get t = σ.L.get t
  | [], σ, σ', h, t, _ => by
    have h : Rs.ok σ = .ok σ' := h
    cases h; rfl
  | q :: g, σ, σ', h, t, ht => by
    obtain ⟨o, σ1, ho, hq, e1, e2⟩ := exG_step h
    have hw : wrsQ ops (q :: g) = match o.dst with | some d => d :: wrsQ ops g | none => wrsQ ops g := by
      unfold wrsQ
      rw [List.filterMap_cons, nth_eq, ho]
      cases hd : o.dst <;> simp only [dstAt, hd]
    have h2 : t ∉ wrsQ ops g ∧ o.dst ≠ some t := by
      rw [hw] at ht
      cases hd : o.dst with
      | none => rw [hd] at ht; exact ⟨ht, fun e => by cases e⟩
      | some d => rw [hd] at ht; exact ⟨fun k => ht (List.mem_cons_of_mem _ k), fun e => ht (by cases e; exact List.mem_cons_self)⟩
    rw [exG_L hn g e2 t h2.1]
    exact (exo_L (hn q o ho) e1).1 t h2.2
theorem exG_stb (hn : ∀ (i : Nat) (o : Oper), ops[i]? = some o → noDfr o = true) : ∀ (g : List Nat) {σ σ' : St}, exG P call ops g σ = .ok σ' → (∀ q ∈ rcG ops g, stbO P ops σ' (nth ops q) = true) → ∀ q ∈ g, stbO P ops σ' (nth ops q) = true
  | [], σ, σ', _, _, q, hq => by cases hq
  | x :: g, σ, σ', h, hr, q, hq => by
    obtain ⟨o, σ1, ho, hqo, e1, e2⟩ := exG_step h
    cases hf : freQ ops (wrsQ ops g) x with
    | false =>
      have e : rcG ops (x :: g) = x :: rcG ops g := by
        show (match freQ ops (wrsQ ops g) x with | true => rcG ops g | false => x :: rcG ops g) = _
        rw [hf]
      rw [e] at hr
      rcases List.mem_cons.1 hq with rfl | hq
      · exact hr _ List.mem_cons_self
      · exact exG_stb hn g e2 (fun y hy => hr y (List.mem_cons_of_mem _ hy)) q hq
    | true =>
      have e : rcG ops (x :: g) = rcG ops g := by
        show (match freQ ops (wrsQ ops g) x with | true => rcG ops g | false => x :: rcG ops g) = _
        rw [hf]
      rw [e] at hr
      rcases List.mem_cons.1 hq with rfl | hq
      · refine stb_keep hf (exG_L hn g e2) ?_
        obtain ⟨o', d, ho', h1, h2, h3, _, _, h6⟩ := freQ_ok hf
        rw [nth_eq, ho] at ho'
        cases ho'
        rw [nth_eq, ho]
        unfold stbO
        simp only [Bool.and_eq_true]
        refine ⟨hqo, ?_⟩
        unfold wantQ
        rw [h2]
        unfold stb1
        simp only [h3]
        rw [exo_eq] at e1
        unfold wantQ at e1
        rw [h2] at e1
        simp only [run_eq, hqo, h3] at e1
        unfold runQ at e1
        split at e1
        · rename_i v hv
          simp only at e1
          cases e1
          have h7 : ∀ t ∈ tmsQ o.op, (σ.put d v).L.get t = σ.L.get t := fun t ht => by
            rw [St.get_put, if_neg (fun k : t = d => h6 (k ▸ ht))]
          rw [qop_congr (H := σ.H) h1 h7, hv, St.get_put, if_pos rfl]
          exact cvEq_refl v
        · cases e1
      · exact exG_stb hn g e2 hr q hq
theorem rcI_ok {it : Itm} {o : Oper} {σ1 : St} (hn : ∀ (i : Nat) (o : Oper), ops[i]? = some o → noDfr o = true) (ho : ops[it.1]? = some o) (he : exo P call ops σ o = .ok σ1) (hg : exG P call ops it.2.2 σ1 = .ok σ')
    (hp : ∀ q ∈ it.2.1, stbO P ops σ (nth ops q) = true) (hr : ∀ q ∈ rcI ops it, stbO P ops σ' (nth ops q) = true) : ∀ q ∈ it.2.1 ++ it.2.2, stbO P ops σ' (nth ops q) = true := fun q hq => by
  unfold rcI at hr
  rcases List.mem_append.1 hq with hq | hq
  · cases hf : freQ ops (wrsQ ops (it.1 :: it.2.2)) q with
    | false => exact hr q (List.mem_append_left _ (List.mem_filter.2 ⟨hq, by rw [hf]; rfl⟩))
    | true =>
      refine stb_keep hf (fun t ht => ?_) (hp q hq)
      have hw : wrsQ ops (it.1 :: it.2.2) = match o.dst with | some d => d :: wrsQ ops it.2.2 | none => wrsQ ops it.2.2 := by
        unfold wrsQ
        rw [List.filterMap_cons, nth_eq, ho]
        cases hd : o.dst <;> simp only [dstAt, hd]
      have h2 : t ∉ wrsQ ops it.2.2 ∧ o.dst ≠ some t := by
        rw [hw] at ht
        cases hd : o.dst with
        | none => rw [hd] at ht; exact ⟨ht, fun e => by cases e⟩
        | some d => rw [hd] at ht; exact ⟨fun k => ht (List.mem_cons_of_mem _ k), fun e => ht (by cases e; exact List.mem_cons_self)⟩
      rw [exG_L hn _ hg t h2.1]
      exact (exo_L (hn _ o ho) he).1 t h2.2
  · exact exG_stb hn _ hg (fun x hx => hr x (List.mem_append_right _ hx)) q hq
end
end
end Go.Ci
