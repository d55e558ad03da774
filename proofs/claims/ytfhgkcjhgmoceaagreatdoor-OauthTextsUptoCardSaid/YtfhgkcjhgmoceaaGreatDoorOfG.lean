import Derived.Test.YtfhgkcjhgmoceaaGreatDoorOfT
import Derived.Test.YtfhgkcjhgmoceaaGreatDoorOfC
import Derived.Test.YtfhgkcjhgmoceaaGreatDoorOfV
set_option linter.all false
namespace Go.Proofs.YtfhgkcjhgmoceaaGreatDoor
open Go.Lk Go.Pe Go.Sen Go.RowKit Go.Shelf Go.Proofs Go.Sort Go.Lib
theorem S.chk {A : Type} {b : Bool} {y : Unit → Option A} {F : A → Prop} (h : b = true → S (y ()) F) : S (Go.Lk.chk b >>= y) F := fun r hm => by
  obtain ⟨_, h1, h2⟩ := Option.bind_eq_some_iff.1 hm
  exact h (chk_some h1) r h2
/-- What the library's variable holds. -/
def GG : GI := ⟨fun w O => (∃ m, w.cell? ⟨0, 0, none⟩ = some (.int .i64 m)) ∧ ¬ O 0, fun {O w O' w'} t h => by
  obtain ⟨⟨m, h1⟩, k⟩ := h
  have hlt : 0 < w.heap.size := by
    unfold World.cell? at h1
    split at h1
    · rename_i e; exact (Array.getElem?_eq_some_iff.1 e).1
    · cases h1
  exact ⟨⟨m, cell_tr t h1 k⟩, t.owned 0 hlt k⟩⟩
theorem TBG : TbG Tryz.prog TB GG := TbG.nil TBok rfl
theorem asc {l : List UInt8} (h : (l.all fun b => decide (b.toNat < 128)) = true) : ∀ (j : Nat) b, l[j]? = some b → b.toNat < 128 := fun j b hb => by
  have := List.all_eq_true.1 h b (List.mem_of_getElem? hb)
  simpa using this
set_option maxRecDepth 1000000 in
theorem C.trim (p0 p1 : List UInt8) : S (M.trim p0 p1) fun r => Con Tryz.prog GG 67 (I.trim p0 p1) (O.trim r) := by
  unfold M.trim
  intro r hm
  obtain ⟨_, hc, hm⟩ := Option.bind_eq_some_iff.1 hm
  obtain ⟨h0, h2⟩ := Bool.and_eq_true_iff.1 (chk_some hc)
  obtain ⟨h1, h2⟩ := Bool.and_eq_true_iff.1 h2
  cases hm
  refine Con.lib (fun _ _ => rfl) fun w O φ α us hv hB hG => ?_
  obtain ⟨us1, rfl, hv1⟩ := hv.str
  obtain ⟨us2, rfl, hv2⟩ := hv1.str
  obtain rfl := hv2.nil
  refine (Any.strings_Trim_laid Tryz.lays160 (by kernel_rfl) ⟨p0.toArray⟩ ⟨p1.toArray⟩ w (by simpa [ByteArray.size] using h0) (by simpa [ByteArray.size] using h1) (by simpa using asc h2)).mono ?_
  rintro e w' ⟨rfl, hb⟩
  exact ⟨[_], rfl, fun _ _ _ => .gStr _, .of_below hb⟩
theorem Texts.of {w : World} {O : Nat → Prop} {zs : List (List UInt8)} {v : Value} (h : RD w O (.sl 9 1 (zs.map eS)) v) : ∃ a cap, v = .slice a zs.length cap ∧ zs.length ≤ cap ∧ Texts w v zs := by
  rcases h with ⟨⟨p, rfl⟩, h⟩ | ⟨b, off, cap, cs, fr, rfl, hcap, _, _, h1, h2, h3⟩
  · obtain rfl : zs = [] := by simpa using h
    exact ⟨p, 0, rfl, Nat.le_refl _, .inl ⟨p, rfl, rfl⟩⟩
  · refine ⟨some ⟨b, off, none⟩, cap, by simp, by simpa using hcap, .inr ⟨b, off, cap, by simp, (Array.getElem?_eq_some_iff.1 h1).1, fun j hj => ?_⟩⟩
    obtain ⟨x, hx⟩ : ∃ x, zs[j]? = some x := ⟨zs[j], by simp [hj]⟩
    have h4 := RDl.at h3 (i := j) (x := eS x) (by simp [hx])
    have h5 := one_str h4
    rw [cell_of_row w b (off + j) cs fr.1 fr.2 h1, hx]
    have h6 : ((cs.toList.drop off).drop (j * 1)).take 1 = [Value.string ⟨x.toArray⟩] := h5
    have := congrArg (fun l => l[0]?) h6
    simpa [List.getElem?_take, List.getElem?_drop] using this
theorem Con.libOwn {P : Program} {G : GI} {f : Nat} {vs : List PV} {T n : Nat} {l : List (List D)} (hT : T < 1000000) (hnn : Nat.beq f NF = false) (ent : ∀ args w, (callFunc f args).run P w = .ok (.enter f args) w)
    (h : ∀ w O φ α us, VRs w O φ α vs us → Bd O w → G.p w O → Calls P f us.toArray w fun e w' => ∃ v xs, e = .returned v ∧ w'.ownsRow w.heap.size T n v l.length xs ∧ (∀ O', RDl w' O' n l xs) ∧ (∀ x ∈ xs, x.oneCell' = true) ∧ Ext Nowhere w w') : Con P G f ⟨vs, [], []⟩ (.ok [.ref 0] [] [some (T, n, l)]) := by
  refine ⟨ent, hnn, fun w O φ α us hv hm hB hG => (h w O φ α us hv hB hG).mono fun e w' ⟨v, xs, h1, h2, h3, h4, h5⟩ => ?_⟩
  have hnew : ∀ x, v.ownBlock = some x → w.heap.size ≤ x ∧ x < w'.heap.size := fun x hx => by
    rcases h2.2 with ⟨rfl, _⟩ | ⟨g, cap, cur, rfl, k1, k2, _⟩
    · simp [Value.ownBlock] at hx
    · simp only [Value.ownBlock, Option.some.injEq] at hx
      subst hx
      exact ⟨k1, (Array.getElem?_eq_some_iff.1 k2).1⟩
  have own : OwnX w' (fun x => O x ∨ v.ownBlock = some x) T n v l := .inl ⟨hT, xs, ⟨h2.1, h2.2.imp id fun ⟨g, cap, cur, e, _, r⟩ => ⟨g, cap, cur, e, Nat.zero_le _, r⟩⟩, h3 _, h4, fun b hb => .inr hb⟩
  refine ⟨[v], fun x => O x ∨ v.ownBlock = some x, φ, fun _ => v, h1, ⟨v, [], rfl, ⟨rfl, own.one'⟩, rfl⟩, ⟨fun b e he => ?_, fun a e he => ?_, fun a b la _ _ => ?_, fun a b e e' ha hb hn => ?_, fun a b e ha lb => ?_⟩, fun _ _ => rfl, Nat.le_refl _, fun x hx => ?_, ⟨h5.size, fun c hc _ => h5.block c hc fun hh => hh, fun c hc ho hh => ?_⟩, fun _ hx => .inl hx, fun x hx => ?_, h5.mono fun _ _ hx => hx.elim, fun b h1 h2 => ?_, fun a e x he hx => ?_⟩
  · simp at he
  · match a, he with
    | 0, he => cases he; exact own
  · simp at la
  · match a, b, ha, hb with
    | 0, 0, _, _ => exact (hn rfl).elim
  · simp at lb
  · rcases hx with hx | hx
    · exact Nat.lt_of_lt_of_le (hB x hx) h5.size
    · exact (hnew x hx).2
  · rcases hh with hh | hh
    · exact ho hh
    · have := (hnew c hh).1
      omega
  · rcases hx with hx | hx
    · exact .inl hx
    · exact .inr (hnew x hx).1
  · simp at h1
  · exact .inr (hnew x hx).1
theorem Con.libD {P : Program} {G : GI} {f : Nat} {vs rs : List PV} (ent : ∀ args w, (callFunc f args).run P w = .ok (.enter f args) w)
    (h : ∀ w O φ α us, VRs w O φ α vs us → Bd O w → G.p w O → Calls P f us.toArray w fun e w' => ∃ us', e = .returned (retU us') ∧ VRs w' O φ α rs us' ∧ Ext Nowhere w w') (hnn : Nat.beq f NF = false := by exact rfl) : Con P G f ⟨vs, [], []⟩ (.ok rs [] []) := by
  refine ⟨ent, hnn, fun w O φ α us hv hm hB hG => (h w O φ α us hv hB hG).mono fun e w' ⟨us', h1, h2, h3⟩ => ?_⟩
  have tr : Tr O w O w' := Tr.of_ext h3 fun _ _ hx => hx.elim
  refine ⟨us', O, φ, α, h1, h2, ⟨fun b e he => ?_, fun a e he => ?_, fun a b la _ _ => ?_, fun a b e e' ha _ _ => ?_, fun a b e ha _ => ?_⟩, fun _ _ => rfl, Nat.le_refl _, fun x hx => Nat.lt_of_lt_of_le (hB x hx) h3.size, tr, fun _ hx => hx, fun _ hx => .inl hx, h3.mono fun _ _ hx => hx.elim, fun b h1 _ => ?_, fun a e x he _ => ?_⟩
  · simp at he
  · simp at he
  · exact absurd la (Nat.not_lt_zero _)
  · simp at ha
  · simp at ha
  · exact absurd h1 (Nat.not_lt_zero _)
  · simp at he
theorem RDl.strs {w : World} {O : Nat → Prop} : ∀ (zs : List (List UInt8)), RDl w O 1 (zs.map eS) (zs.map encStr)
  | [] => trivial
  | z :: zs => ⟨⟨_, [], rfl, rfl, rfl⟩, by simpa using RDl.strs zs⟩
set_option maxRecDepth 1000000 in
theorem C.split (p0 p1 : List UInt8) : S (M.split p0 p1) fun r => Con Tryz.prog GG 18 (I.split p0 p1) (O.split r) := by
  unfold M.split
  intro r hm
  obtain ⟨_, hc, hm⟩ := Option.bind_eq_some_iff.1 hm
  obtain ⟨h0, h1⟩ := Bool.and_eq_true_iff.1 (chk_some hc)
  have h0 := of_decide_eq_true h0
  have h1 := of_decide_eq_true h1
  cases hm
  refine Con.libOwn (by decide) rfl (fun _ _ => rfl) fun w O φ α us hv hB hG => ?_
  obtain ⟨us1, rfl, hv1⟩ := hv.str
  obtain ⟨us2, rfl, hv2⟩ := hv1.str
  obtain rfl := hv2.nil
  obtain ⟨m, hm⟩ := hG.1
  have hsz : ∀ l : List UInt8, (⟨l.toArray⟩ : ByteArray).size = l.length := fun l => by simp [ByteArray.size]
  have h1' : 1 ≤ (⟨p1.toArray⟩ : ByteArray).size := by rw [hsz]; exact h1
  have hcb := Lib.countB_le ⟨p1.toArray⟩ h1' _ ⟨p0.toArray⟩ (Nat.le_refl _)
  rw [hsz] at hcb
  have hl := Lib.splitB_all ⟨p1.toArray⟩ h1' 0 _ ⟨p0.toArray⟩ rfl
  refine (Any.strings_Split Tryz.lays146 (by kernel_rfl) ⟨p0.toArray⟩ ⟨p1.toArray⟩ m w (by rw [hsz]; exact h0) hm h1').mono ?_
  rintro e w' ⟨rfl, rfl⟩
  have x : Ext Nowhere w (w.alloc (.cells ((Lib.splitB ⟨p1.toArray⟩ 0 (Lib.countB ⟨p0.toArray⟩ ⟨p1.toArray⟩) ⟨p0.toArray⟩).map Value.string).toArray (Tryz.lays146_ren.t 9))) := .of_below ((Below.refl _ w).alloc (Nat.le_refl _) _)
  have hlen : (splitT p0 p1).length = Lib.countB ⟨p0.toArray⟩ ⟨p1.toArray⟩ + 1 := by unfold splitT; rw [List.length_map, hl]
  have e1 : ((Lib.splitB ⟨p1.toArray⟩ 0 (Lib.countB ⟨p0.toArray⟩ ⟨p1.toArray⟩) ⟨p0.toArray⟩).map Value.string) = (splitT p0 p1).map encStr := by
    unfold splitT
    rw [List.map_map]
    exact List.map_congr_left fun y _ => by simp [encStr]
  refine ⟨_, (splitT p0 p1).map encStr, rfl, ⟨by simp, .inr ⟨w.heap.size, Lib.countB ⟨p0.toArray⟩ ⟨p1.toArray⟩ + 1, _, by rw [List.length_map, hlen], Nat.le_refl _, heap_alloc_new w _, by rw [List.length_map, hlen]; exact Nat.le_refl _, by unfold maxLen; omega, ?_, ?_⟩⟩, fun _ => RDl.strs _, fun y hy => ?_, x⟩
  · simp [hl]
  · rw [e1, List.length_map, hlen]
    simp [← hlen, List.take_of_length_le]
  · obtain ⟨z, _, rfl⟩ := List.mem_map.1 hy
    rfl
theorem RDl.strs_eq {w : World} {O : Nat → Prop} : ∀ {zs : List (List UInt8)} {xs : List Value}, RDl w O 1 (zs.map eS) xs → xs.length = zs.length → xs = zs.map encStr
  | [], xs, _, hl => by simpa using hl
  | z :: zs, [], _, hl => by simp at hl
  | z :: zs, x :: xs, h, hl => by
    obtain ⟨h1, h2⟩ := h
    obtain ⟨v, r, e, h3, h4⟩ := h1
    simp only [List.take_succ_cons, List.take_zero, List.cons.injEq] at e
    obtain ⟨rfl, rfl⟩ := e
    have h3 : x = .string ⟨z.toArray⟩ := h3
    rw [h3, RDl.strs_eq (zs := zs) (xs := xs) (by simpa using h2) (by simpa using hl)]
    rfl
theorem putCells_list {α : Type} [Inhabited α] (enc : α → Value) (d : Array α) (c : Array Value) (hd : d.size ≤ c.size) : (putCells enc 0 d c).toList.take d.size = d.toList.map enc := by
  apply List.ext_getElem?
  intro j
  rw [List.getElem?_take]
  split
  · rename_i hj
    rw [Array.getElem?_toList, List.getElem?_map, Array.getElem?_toList]
    unfold putCells
    rw [Array.getElem?_mapIdx, Array.getElem?_eq_getElem (show j < c.size by omega), Array.getElem?_eq_getElem hj]
    simp [hj]
  · rename_i hj
    rw [List.getElem?_eq_none (by simp; omega)]
set_option maxRecDepth 1000000 in
set_option maxHeartbeats 1000000 in
theorem C.sortS (p0 : List (List UInt8)) : S (M.sortS p0) fun r => Con Tryz.prog GG 19 (I.sortS p0) (O.sortS r) := by
  unfold M.sortS
  refine S.chk fun h0 => ?_
  have h0 := of_decide_eq_true h0
  intro r hm
  cases hm
  refine ⟨fun _ _ => rfl, rfl, fun w O φ α us hv hm hB hG => ?_⟩
  obtain ⟨u, us', rfl, ⟨rfl, hone⟩, h3⟩ := hv
  obtain rfl : us' = [] := h3
  have hox : OwnX w O 9 1 (α 0) (p0.map eS) := hm.arr 0 _ rfl
  obtain ⟨xs, ⟨o1, o2⟩, o3, o4, o5⟩ := hox.un (by decide)
  have fin : ∀ (w' : World) (l : List (List D)), Own w' O 9 1 (α 0) l → Ext (fun x => (α 0).ownBlock = some x) w w' → Done (I.sortS p0) w O φ α (.okI [] [] [some (9, 1, l)]) (.returned (.tuple #[])) w' := fun w' l hown hx => by
    have tr : Tr O w O w' := Tr.of_ext hx fun x _ hx => o5 x hx
    refine ⟨[], O, φ, α, rfl, ⟨rfl, ⟨fun b e he => by simp at he, fun a e he => ?_, fun a b la => by simp at la, fun a b e e' ha hb hn => ?_, fun a b e ha lb => by simp at lb⟩, fun _ _ => rfl, Nat.le_refl _, hB.ext hx, tr, fun _ h => h, fun _ h => .inl h, hx.mono fun x _ hx => .inr ⟨0, by simp, hx⟩, fun b h1 => by simp at h1, fun a e x he hx => ?_⟩, fun _ _ => rfl⟩
    · match a, he with
      | 0, he => cases he; exact .inl ⟨(by decide : (9 : Nat) < 1000000), hown⟩
    · match a, b, ha, hb with
      | 0, 0, _, _ => exact (hn rfl).elim
    · match a, he with
      | 0, he => exact .inl ⟨0, by simp, hx⟩
  have hxs : xs = p0.map encStr := RDl.strs_eq o3 (by simpa using o1)
  rcases o2 with ⟨e0, hz⟩ | ⟨g, cap, cur, e0, q1, q2, q3, q4, q5, q6⟩
  · have hp0 : p0 = [] := List.eq_nil_of_length_eq_zero (by simpa using hz)
    subst hp0
    have fin := fin w [] (by rw [e0]; exact Own.nil _ _ _ _) (Ext.refl _ _)
    rw [e0]
    refine (Any.slices_Sort_string_none Tryz.lays190 none 0 w).mono ?_
    rintro e w' ⟨rfl, rfl⟩
    rw [List.mergeSort_nil]
    exact fin
  · have hlen : (p0.map eS).length = p0.length := by simp
    rw [hlen] at q3 q6 e0
    simp only [Nat.mul_one] at q5 q6
    have hgl : g < w.heap.size := (Array.getElem?_eq_some_iff.1 q2).1
    have hH : Holds encStr w g 0 p0.toArray := fun j hj => by
      have hj' : j < p0.length := by simpa using hj
      have e1 : cur[j]? = some (encStr p0.toArray[j]!) := by
        rw [getElem!_pos _ j hj, ← Array.getElem?_toList, ← List.getElem?_take_of_lt hj', q6, hxs]
        simp [hj']
      refine ⟨?_, ?_⟩
      · simp only [Nat.zero_add, World.cell?, q2]
        exact e1
      · simp only [World.frozen?, q2]
        simp
    have hc := Any.slices_Sort_string Tryz.lays190 g 0 cap p0 w hH hgl (by unfold maxLen at q4; omega)
    rw [e0]
    refine hc.mono ?_
    rintro e w' ⟨rfl, n, os, rfl⟩
    obtain ⟨r, hr⟩ : ∃ r, p0.mergeSort sleL = r := ⟨_, rfl⟩
    have hr' : (p0.mergeSort fun x y => decide (x ≤ y)) = r := hr
    have hrl : r.length = p0.length := by rw [← hr, List.length_mergeSort]
    rw [hr', hr]
    obtain ⟨w', hw'⟩ : ∃ w', grow (putRow encStr (Sort.ahead w n) g 0 r.toArray) os = w' := ⟨_, rfl⟩
    have hheap : w'.heap[g]? = some (.cells (putCells encStr 0 r.toArray cur) 9 (0, 0)) := by
      rw [← hw']
      rw [heap_grow_old _ _ (by simpa using hgl)]
      simp [putRow, mapBlock, Sort.ahead, Array.getElem?_modify, q2, onCells]
    have hx : Ext (fun x => (α 0).ownBlock = some x) w w' := by
      rw [← hw']
      refine ⟨rfl, rfl, rfl, by simp, fun k hk hne => ?_⟩
      rw [heap_grow_old _ _ (by simpa using hk)]
      have : g ≠ k := fun e => hne (by rw [e0, e]; rfl)
      simp [putRow, mapBlock, Sort.ahead, Array.getElem?_modify, this]
    rw [hw']
    refine fin w' (r.map eS) ⟨r.map encStr, ⟨by simp, .inr ⟨g, cap, _, by rw [e0]; simp [hrl], Nat.zero_le _, hheap, by simpa [hrl] using q3, q4, by simp [putCells, q5], ?_⟩⟩, RDl.strs r, fun y hy => ?_, o5⟩ hx
    · have := putCells_list encStr r.toArray cur (by simp [hrl, q5]; omega)
      simpa using this
    · obtain ⟨z, _, rfl⟩ := List.mem_map.1 hy
      rfl
theorem word_gives (w : World) : PredAtRunes Tryz.prog 44 #[] wordP w := fun W r hr _ => by
  unfold FnGives
  by_cases h1 : r < 33 <;> by_cases h2 : 126 < r
  all_goals
    have z1 : (r : Int) < 33 ↔ r < 33 := by omega
    have z2 : (126 : Int) < (r : Int) ↔ 126 < r := by omega
    go_enter Tryz.func44, Tryz.ntmps44
    go_wp2
    all_goals first | (exfalso; omega) | (go_ret; exact ⟨by simp [wordP, h1, h2] <;> omega, 0, rfl⟩)
set_option maxRecDepth 1000000 in
theorem C.containsFunc (p0 : List UInt8) : S (M.containsFunc p0) fun r => Con Tryz.prog GG 43 (I.containsFunc p0) (O.containsFunc r) := by
  unfold M.containsFunc
  intro r hm
  cases hm
  refine Con.lib (fun _ _ => rfl) fun w O φ α us hv hB hG => ?_
  obtain ⟨us1, rfl, hv1⟩ := hv.str
  obtain ⟨u, us2, rfl, hu, hv2⟩ := hv1
  obtain rfl := VRs.nil hv2
  obtain ⟨a, b, rfl, ha, hb⟩ := hu
  obtain rfl : a = [] := ha
  obtain rfl : b = [] := hb
  refine (Any.strings_ContainsFunc_runes Tryz.laysGw17 44 #[] (enters_of Tryz.func44 (by kernel_rfl) rfl) wordP ⟨p0.toArray⟩ w (word_gives w)).mono ?_
  rintro e w' ⟨rfl, hb⟩
  exact ⟨[_], rfl, fun _ _ _ => .gBool _, .of_below hb⟩
theorem RDl.strs_app {w : World} {O : Nat → Prop} : ∀ (zs : List (List UInt8)) (r : List Value), RDl w O 1 (zs.map eS) (zs.map encStr ++ r)
  | [], _ => trivial
  | z :: zs, r => ⟨⟨_, [], rfl, rfl, rfl⟩, by simpa using RDl.strs_app zs r⟩
set_option maxRecDepth 1000000 in
theorem C.cloneS (p0 : List (List UInt8)) : S (M.cloneS p0) fun r => Con Tryz.prog GG 31 (I.cloneS p0) (O.cloneS r) := by
  unfold M.cloneS
  refine S.chk fun h0 => ?_
  have h0 := of_decide_eq_true h0
  intro r hm
  cases hm
  refine Con.libD (fun _ _ => rfl) fun w O φ α us hv hB hG => ?_
  obtain ⟨v, us', rfl, k1, hv⟩ := hv
  obtain rfl : us' = [] := hv
  simp only [VR] at k1
  obtain ⟨a, cap, rfl, kc, k3⟩ := Texts.of k1
  have fin : ∀ (v' : Value) (w' : World) (l : List (List UInt8)), w'.ownsRow w.heap.size 9 1 v' l.length (l.map encStr) → Below w.heap.size w w' → ∃ us', (Ending.returned v' = .returned (retU us')) ∧ VRs w' O φ α [.sl 9 1 (l.map eS)] us' ∧ Ext Nowhere w w' := fun v' w' l h1 h2 => by
    refine ⟨[v'], rfl, ⟨v', [], rfl, ?_, rfl⟩, .of_below h2⟩
    simp only [VR]
    rcases h1.2 with ⟨rfl, hz⟩ | ⟨g, cap2, cur, rfl, q1, q2, q3, q4, q5, q6⟩
    · obtain rfl : l = [] := List.eq_nil_of_length_eq_zero hz
      exact .inl ⟨⟨_, rfl⟩, rfl⟩
    · refine .inr ⟨g, 0, cap2, cur, (9, (0, 0)), by simp, by simpa using q3, q4, fun ho => (by have := hB _ ho; omega), q2, by omega, ?_⟩
      rw [Nat.mul_one] at q6
      have e : cur.toList.drop 0 = l.map encStr ++ cur.toList.drop l.length := by rw [← q6, List.drop_zero, List.take_append_drop]
      rw [e]
      exact RDl.strs_app l _
  rcases k3 with ⟨p, e, rfl⟩ | ⟨b, off, cap', e, hb, hc⟩
  · cases e
    rcases a with _ | a
    · refine (AnyG.slices_Clone_string_nil Tryz.clone31 0 0 w).mono ?_
      rintro e w' ⟨rfl, rfl⟩
      exact fin _ _ [] (World.ownsRow_nil _ _ _ _) (Below.refl _ _)
    · refine (AnyG.slices_Clone_string_zero Tryz.clone31 a 0 w).mono ?_
      rintro e w' ⟨v', rfl, h1, _, h3⟩
      exact fin v' w' [] h1 h3
  · cases e
    refine (AnyG.slices_Clone_string Tryz.clone31 b off p0.length cap (p0.map fun x => (⟨x.toArray⟩ : ByteArray)) w (by simp) h0 (fun j hj => ?_)).mono ?_
    · rw [List.length_map] at hj
      rw [hc j hj]
      simp [encStr, hj]
    · rintro e w' ⟨v', rfl, h1, _, h3⟩
      have e1 : ((p0.map fun x => (⟨x.toArray⟩ : ByteArray)).take p0.length).map Value.string = p0.map encStr := by
        rw [List.take_of_length_le (by simp), List.map_map]
        rfl
      rw [e1] at h1
      exact fin v' w' p0 h1 h3
end Go.Proofs.YtfhgkcjhgmoceaaGreatDoor
