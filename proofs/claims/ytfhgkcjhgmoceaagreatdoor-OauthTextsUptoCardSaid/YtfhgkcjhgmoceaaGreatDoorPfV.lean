import Derived.Shelf.SlIter.Sorted
import Derived.Test.YtfhgkcjhgmoceaaGreatDoorLmA
set_option linter.all false
namespace Go.Pe
section
open Go.Proofs Go.RowKit Go.Maps Go.Sort Go.Shelf
variable {P : Program} {ρ : Ren}
/-- The value gives zs, one by one, to whatever keeps what lay ahead. -/
def SeqB (F : Fence) (n : Nat) (P : Program) (g : Nat) (lb : Array Value) (enc : List UInt8 → Value) (zs : List (List UInt8)) (w : World) : Prop :=
  ∀ (l : Nat) (J : List (List UInt8) → World → Prop) (W : World), Below w.heap.size w W → AbidesFrom W.heap.size J →
    (∀ pre x W1, J pre W1 → pre.length < zs.length → YieldAt F (n - 1) P l #[enc x] W1 fun e W' => e = .returned (.bool true) ∧ J (pre ++ [x]) W' ∧ KeepsWalks W1 W') →
    (∀ pre W1, J pre W1 → Below w.heap.size w W1) → J [] W →
    CallsIn F n P g (#[.func (.yield l) #[] #[]] ++ lb) W fun e W' => (∃ v, e = .returned v) ∧ ∃ xs, xs = zs ∧ J xs W'
set_option maxRecDepth 100000 in
set_option maxHeartbeats 2000000 in
theorem seqB_append (L : SlLaysZ.n11 P ρ) (F : Fence) (n : Nat) (h11 : F.fn (ρ.f 11)) (hro : F.round = none) (hn : 2 ≤ n) (g : Nat) (lb : Array Value) (hFg : F.fn g) (eg : ∀ args w, (callFunc g args).run P w = .ok (.enter g args) w)
    (zs : List (List UInt8)) (hN : zs.length ≤ maxLen) (hNb : zs.length * 16 ≤ 140737488355328) (w : World) (hseq : SeqB F (n - 1) P g lb encStr zs w) :
    CallsIn F n P (ρ.f 11) #[.slice none 0 0, .func (.func g) #[] lb] w fun e w' => ∃ (v : Value) (ss : List (List UInt8)), e = .returned v ∧ ss = zs ∧ w'.ownsRow w.heap.size (ρ.t 26) 1 v ss.length (ss.map encStr) ∧ (v = .slice none 0 0 ↔ ss = []) ∧ Below w.heap.size w w' := by
  have h1 : 1 ≤ n := by omega
  have hne : ρ.t 24 ≠ ρ.t 26 := fun e => by have h := L.t24; rw [e, L.t26] at h; cases h
  have mixed := L.mixed; have t0 := L.t0; have a0 := L.a0; have z0 := L.z0; have v0 := L.v0; have t24 := L.t24; have a24 := L.a24; have z24 := L.z24; have v24 := L.v24; have t26 := L.t26; have a26 := L.a26; have z26 := L.z26; have v26 := L.v26; have t28 := L.t28; have a28 := L.a28; have z28 := L.z28; have v28 := L.v28
  have u0 := run_underlying L.t0; have u24 := run_underlying L.t24; have u26 := run_underlying L.t26; have u28 := run_underlying L.t28
  obtain ⟨_, _, FG⟩ := L.f11
  refine callsIn_of_wp_marks FG rfl h11 ?_ hro
  simp only [SlBodyZ.n11_ntmps ρ, List.size_toArray, List.length_cons, List.length_nil, Nat.reduceAdd, Nat.reduceSub, Array.replicate_succ, Array.replicate_zero, List.push_toArray, List.append_toArray, List.nil_append, List.cons_append]
  gi_wp2
  refine wpIn_rangeFunc ?_
  intro fn hfn
  rw [hro]
  obtain ⟨W0, hW0⟩ : ∃ W0, w.alloc (.cells #[.slice none 0 0] (ρ.t 24)) = W0 := ⟨_, rfl⟩
  have hs0 : W0.heap.size = w.heap.size + 1 := by rw [← hW0]; simp
  have hv0 : W0.heap[w.heap.size]? = some (.cells #[.slice none 0 0] (ρ.t 24) (0, 0)) := by rw [← hW0]; exact World.alloc_heap_new w _
  have hb0 : Below w.heap.size w W0 := by rw [← hW0]; exact (Below.refl _ w).alloc (Nat.le_refl _) _
  rw [hW0]
  obtain ⟨W1, hW1⟩ : ∃ W1, (W0.alloc (.deferred (some []))).alloc (.loop (AnyZ.apRec ρ fn (.func (.func g) #[] lb) w.heap.size W0.heap.size .ready none)) = W1 := ⟨_, rfl⟩
  have hold : ∀ k, k < W0.heap.size → W1.heap[k]? = W0.heap[k]? := fun k hk => by
    rw [← hW1]; exact (Below.heap_alloc _ _ k (by simp; omega)).trans (Below.heap_alloc _ _ k hk)
  have hb1 : Below w.heap.size w W1 := by rw [← hW1]; exact (hb0.alloc hb0.size _).alloc (by have := hb0.size; simp; omega) _
  have hs1 : W1.heap.size = W0.heap.size + 2 := by rw [← hW1]; simp
  have hM : AnyZ.ApAt ρ w fn (.func (.func g) #[] lb) w.heap.size (W0.heap.size + 1) W0.heap.size [] W1 :=
    ⟨⟨_, (hold w.heap.size (by omega)).trans hv0, ⟨rfl, .inl ⟨rfl, rfl⟩⟩, by simp⟩,
     by rw [← hW1]; have := World.alloc_heap_new (W0.alloc (.deferred (some []))) (.loop (AnyZ.apRec ρ fn (.func (.func g) #[] lb) w.heap.size W0.heap.size .ready none)); rwa [World.size_alloc] at this,
     by rw [← hW1]; exact (Below.heap_alloc _ _ _ (by simp)).trans (World.alloc_heap_new W0 _), hb1⟩
  refine ⟨W0.heap.size + 1, [{ target := .collected W0.heap.size, args := #[] }], W1, { target := .fn (.func g) lb, args := #[.func (.yield (W0.heap.size + 1)) #[] #[]] }, W1, g,
    #[.func (.yield (W0.heap.size + 1)) #[] #[]] ++ lb, W1, ?_, ?_, ?_, ?_, fun _ => h1, ?_⟩
  · rw [← hW1]; exact run_enterLoop_outer _ _ _ _ _
  · simp [resolve, go_sem]
  · intro f' hf'; simp [Target.leads] at hf'; subst hf'; exact hFg
  · simp [invoke, go_sem, eg]
  · refine (hseq (W0.heap.size + 1) (AnyZ.ApAt ρ w fn (.func (.func g) #[] lb) w.heap.size (W0.heap.size + 1) W0.heap.size) W1 hb1 (AnyZ.ap_abides ρ _ _ _ _ _ _ _ hb1.size)
      (fun pre x W hJ hl => AnyZ.apYield { L with } F (n - 1 - 1) w fn hfn _ w.heap.size (W0.heap.size + 1) W0.heap.size (by omega) (by omega) (by omega) (Nat.le_refl _) (by omega) zs.length hN hNb pre x W hJ hl) (fun _ _ h => h.below) hM).mono ?_
    rintro e W2 ⟨⟨v0, rfl⟩, ss, hS, h2⟩
    obtain ⟨v, hv, hrow, hnil⟩ := h2.box
    have hend := run_endLoop (P := P) h2.L (by simp [AnyZ.apRec])
    obtain ⟨W3, hW3⟩ : ∃ W3, W2.putObj (W0.heap.size + 1) (.loop { AnyZ.apRec ρ fn (.func (.func g) #[] lb) w.heap.size W0.heap.size .ready none with state := .exhausted }) = W3 := ⟨_, rfl⟩
    rw [hW3] at hend
    have hg3 : W2.grownBy W3 (some (W0.heap.size + 1)) := by rw [← hW3]; exact grownBy_putObj_a _ _ _
    have hv3 : W3.heap[w.heap.size]? = some (.cells #[v] (ρ.t 24) (0, 0)) := by rw [← hW3]; exact (World.putObj_heap_other (by omega)).trans hv
    have hK3 : W3.heap[W0.heap.size]? = some (.deferred (some [])) := by rw [← hW3]; exact (World.putObj_heap_other (by omega)).trans h2.K
    have hrow3 := hrow.kept hg3 (ownsRow_ne_a hrow h2.L (fun cur e => by first | cases e | exact hne (Obj.cells.inj e).2.1))
    have hb3 : Below w.heap.size w W3 := h2.below.grown hg3 h2.below.size (fun k e => by cases e; omega)
    obtain ⟨hc3, hf3⟩ := cell_of_box_a hv3
    clear hW3
    refine ⟨none, W3, hend, ?_⟩
    gi_wp2
    rw [← hs0]
    refine ⟨by simp, .inl ⟨_, _, rfl, run_takeDeferred hK3, ?_⟩⟩
    exact ⟨_, results_tmp rfl _ _ _, v, ss, rfl, hS, hrow3.kept (grownBy_putObj_a _ _ _) (ownsRow_ne_a hrow3 hK3 (fun cur e => by first | cases e | exact hne (Obj.cells.inj e).2.1)), hnil, hb3.grown (grownBy_putObj_a _ _ _) hb3.size (fun k e => by cases e; omega)⟩
set_option maxRecDepth 100000 in
set_option maxHeartbeats 2000000 in
theorem seqB_collect (L : SlLaysZ.n8 P ρ) (F : Fence) (n : Nat) (h8 : F.fn (ρ.f 8)) (h11 : F.fn (ρ.f 11)) (hro : F.round = none) (hn : 3 ≤ n) (g : Nat) (lb : Array Value) (hFg : F.fn g) (eg : ∀ args w, (callFunc g args).run P w = .ok (.enter g args) w)
    (zs : List (List UInt8)) (hN : zs.length ≤ maxLen) (hNb : zs.length * 16 ≤ 140737488355328) (w : World) (hseq : SeqB F (n - 1 - 1) P g lb encStr zs w) :
    CallsIn F n P (ρ.f 8) #[.func (.func g) #[] lb] w fun e w' => ∃ (v : Value) (ss : List (List UInt8)), e = .returned v ∧ ss = zs ∧ w'.ownsRow w.heap.size (ρ.t 26) 1 v ss.length (ss.map encStr) ∧ (v = .slice none 0 0 ↔ ss = []) ∧ Below w.heap.size w w' := by
  have h1 : 1 ≤ n := by omega
  have e11 : ∀ args w, (callFunc (ρ.f 11) args).run P w = .ok (.enter (ρ.f 11) args) w := L.f11.enters rfl
  have mixed := L.mixed; have t0 := L.t0; have a0 := L.a0; have z0 := L.z0; have v0 := L.v0; have t24 := L.t24; have a24 := L.a24; have z24 := L.z24; have v24 := L.v24; have t26 := L.t26; have a26 := L.a26; have z26 := L.z26; have v26 := L.v26; have t28 := L.t28; have a28 := L.a28; have z28 := L.z28; have v28 := L.v28
  have u0 := run_underlying L.t0; have u24 := run_underlying L.t24; have u26 := run_underlying L.t26; have u28 := run_underlying L.t28
  obtain ⟨_, _, FG⟩ := L.f8
  refine callsIn_of_wp FG rfl h8 ?_ hro
  simp only [SlBodyZ.n8_ntmps ρ, List.size_toArray, List.length_cons, List.length_nil, Nat.reduceAdd, Nat.reduceSub, Array.replicate_succ, Array.replicate_zero, List.push_toArray, List.append_toArray, List.nil_append, List.cons_append]
  gi_wp2_with (gi_at_fn (ρ.f 11); refine (seqB_append { L with } F (n - 1) h11 hro (by omega) g lb hFg eg zs hN hNb _ hseq).mono ?_; rintro e w' ⟨v, ss, rfl, hS, hrow, hnil, hb⟩)
  go_ret
  exact ⟨v, ss, rfl, hS, hrow, hnil, hb⟩
set_option maxRecDepth 100000 in
set_option maxHeartbeats 2000000 in
theorem seqB_sorted (L : SlLaysZ.n6 P ρ) (F : Fence) (n : Nat) (h6 : F.fn (ρ.f 6)) (h8 : F.fn (ρ.f 8)) (h9 : F.fn (ρ.f 9)) (h11 : F.fn (ρ.f 11)) (hro : F.round = none) (hn : 4 ≤ n) (hsort : AnyZ.SortsIn P ρ F (n - 1)) (e9 : ∀ args w, (callFunc (ρ.f 9) args).run P w = .ok (.enter (ρ.f 9) args) w) (g : Nat) (lb : Array Value) (hFg : F.fn g) (eg : ∀ args w, (callFunc g args).run P w = .ok (.enter g args) w)
    (zs : List (List UInt8)) (hN : zs.length ≤ maxLen) (hNb : zs.length * 16 ≤ 140737488355328) (w : World) (hseq : SeqB F (n - 1 - 1 - 1) P g lb encStr zs w) :
    CallsIn F n P (ρ.f 6) #[.func (.func g) #[] lb] w fun e w' => ∃ (v : Value) (ss : List (List UInt8)), e = .returned v ∧ ss = zs ∧
      w'.ownsRow w.heap.size (ρ.t 26) 1 v ss.length ((ss.mergeSort (fun x y => decide (x ≤ y))).map encStr) ∧ (v = .slice none 0 0 ↔ ss = []) ∧ Below w.heap.size w w' := by
  have h1 : 1 ≤ n := by omega
  have e8 : ∀ args w, (callFunc (ρ.f 8) args).run P w = .ok (.enter (ρ.f 8) args) w := L.f8.enters rfl
  have mixed := L.mixed; have t0 := L.t0; have a0 := L.a0; have z0 := L.z0; have v0 := L.v0; have t24 := L.t24; have a24 := L.a24; have z24 := L.z24; have v24 := L.v24; have t26 := L.t26; have a26 := L.a26; have z26 := L.z26; have v26 := L.v26; have t28 := L.t28; have a28 := L.a28; have z28 := L.z28; have v28 := L.v28
  have u0 := run_underlying L.t0; have u24 := run_underlying L.t24; have u26 := run_underlying L.t26; have u28 := run_underlying L.t28
  obtain ⟨_, _, FG⟩ := L.f6
  refine callsIn_of_wp FG rfl h6 ?_ hro
  simp only [SlBodyZ.n6_ntmps ρ, List.size_toArray, List.length_cons, List.length_nil, Nat.reduceAdd, Nat.reduceSub, Array.replicate_succ, Array.replicate_zero, List.push_toArray, List.append_toArray, List.nil_append, List.cons_append]
  gi_wp2_with (gi_at_fn (ρ.f 8); refine (seqB_collect { L with } F (n - 1) h8 h11 hro (by omega) g lb hFg eg zs hN hNb _ hseq).mono ?_; rintro e W ⟨v, ss, rfl, rfl, hrow, hnil, hb⟩)
  rcases hrow.2 with ⟨rfl, hz⟩ | ⟨gb, cap, cur, rfl, hbase, hgb, r1, r2, r3, r4⟩
  · -- nothing came: the nil slice is sorted and handed back
    have hss : ss = [] := List.eq_nil_of_length_eq_zero hz
    subst hss
    gi_wp2_with (gi_at_fn (ρ.f 9); refine (hsort.2 none 0 W).mono ?_; rintro e w' ⟨rfl, rfl⟩)
    go_ret
    exact ⟨.slice none 0 0, [], rfl, rfl, by simpa using hrow, by simp, hb⟩
  · have hH : Holds encStr W gb 0 ss.toArray := holds_of_block hgb (by simpa using r4)
    have hgl : gb < W.heap.size := (Array.getElem?_eq_some_iff.1 hgb).1
    have hsz : ss.length < 4611686018427387904 := by omega
    have cS := hsort.1 gb 0 cap ss W hH hgl hsz
    gi_wp2_with (gi_at_fn (ρ.f 9); refine cS.mono ?_; rintro e w' ⟨rfl, nn, os, rfl⟩)
    go_ret
    exact ⟨_, ss, rfl, rfl, ownsRow_sorted (by simp) hbase hgb r1 r2 r3, hnil, hb.grown (grownBy_sorted _) hb.size (fun j hj => by cases hj; exact hbase)⟩
end
section
open Go.RowKit Go.Lk
/-- A value, as_ the evaluator knows it: data slices by what they hold, boxes and owned arrays by keys of the state. -/
inductive PV where
  | int (k : IntKind) (n : Int)
  | bool (b : Bool)
  | str (s : List UInt8)
  | sl (T n : Nat) (l : List (List D))
  | nil
  | ref (a : Nat)
  | ptr (b off : Nat)
  | cptr (cs : List D) (off : Nat)
  | eptr (a m : Nat) (i : Int) (off : Nat)
  | agg (cs : List PV)
  | tup (vs : List PV)
  | iface (T : Nat) (v : PV)
  | nilI
  | fn (f : Nat) (as_ cs : List PV)
  | nilp
  | undef
  | gone
  | selfp (b : Nat)
  | err (b : Bool)
  | mp (b : Nat)
  | md (c : MC)

/-- What v says of the value u. -/
def VR (w : World) (O : Nat → Prop) (φ : Nat → Nat) (α : Nat → Value) : PV → Value → Prop
  | .int k n, u => u = .int k n
  | .bool b, u => u = .bool b
  | .str s, u => u = .string ⟨s.toArray⟩
  | .sl T n l, u => RD w O (.sl T n l) u
  | .nil, u => u = .slice none 0 0
  | .ref a, u => u = α a ∧ u.oneCell' = true
  | .ptr b off, u => u = .pointer (some ⟨φ b, off, none⟩)
  | .cptr cs off, u => ∃ b q, u = .pointer (some ⟨b, q + off, none⟩) ∧ ElemAt w O b q cs.length cs
  | .eptr a m i off, u => ∃ (b len cap j : Nat), α a = .slice (some ⟨b, 0, none⟩) len cap ∧ i = (j : Nat) ∧ u = .pointer (some ⟨b, j * m + off, none⟩)
  | .agg cs, u => ∃ us, u = .agg (List.toArray us) ∧ VRs cs us
  | .tup cs, u => ∃ us, u = .tuple (List.toArray us) ∧ VRs cs us
  | .iface T v, u => ∃ x, u = .iface T x ∧ VR w O φ α v x
  | .nilI, u => u = .nilIface
  | .fn f as_ cs, u => ∃ us vs, u = fnV f us vs ∧ VRs as_ us ∧ VRs cs vs
  | .nilp, u => u = .pointer none
  | .undef, _ => True
  | .gone, u => u = Go.undef
  | .selfp b, u => u = .pointer none ∨ u = .pointer (some ⟨φ b, 0, none⟩)
  | .err b, u => (b = true ∧ u = .nilIface) ∨ (b = false ∧ ∃ T v, u = .iface T v)
  | .mp b, u => u = .map (some (φ b))
  | .md c, u => MR w O c u
where
  VRs : List PV → List Value → Prop
  | [], us => us = []
  | v :: vs, us => ∃ u us', us = u :: us' ∧ VR w O φ α v u ∧ VRs vs us'
abbrev VRs (w : World) (O : Nat → Prop) (φ : Nat → Nat) (α : Nat → Value) (vs : List PV) (us : List Value) : Prop := VR.VRs w O φ α vs us

theorem ElemAt.tr {w w' : World} {O O' : Nat → Prop} {b q n : Nat} {x : List D} (h : ElemAt w O b q n x) (t : Tr O w O' w') : ElemAt w' O' b q n x := by
  obtain ⟨cs, h1, h2, h3⟩ := h
  exact ⟨cs, h1, h2.tr t, h3.tr t⟩
section
variable {w w' : World} {O O' : Nat → Prop} {φ φ' : Nat → Nat} {α α' : Nat → Value}
mutual
theorem VR.tr (t : Tr O w O' w') : ∀ (v : PV) (u : Value), VR w O φ α v u → VR w' O' φ α v u
  | .int k n, u, h => by simpa [VR] using h
  | .bool b, u, h => by simpa [VR] using h
  | .str s, u, h => by simpa [VR] using h
  | .sl T n l, u, h => by simp only [VR] at h ⊢; exact h.tr t
  | .nil, u, h => by simpa [VR] using h
  | .ref a, u, h => by simpa [VR] using h
  | .ptr b off, u, h => by simpa [VR] using h
  | .cptr cs off, u, h => by
    simp only [VR] at h ⊢
    obtain ⟨b, q, h1, h2⟩ := h
    exact ⟨b, q, h1, ElemAt.tr h2 t⟩
  | .eptr a m i off, u, h => by simpa only [VR] using h
  | .agg cs, u, h => by
    simp only [VR] at h ⊢
    obtain ⟨us, h1, h2⟩ := h
    exact ⟨us, h1, VRs.tr t cs us h2⟩
  | .tup cs, u, h => by
    simp only [VR] at h ⊢
    obtain ⟨us, h1, h2⟩ := h
    exact ⟨us, h1, VRs.tr t cs us h2⟩
  | .iface T v, u, h => by
    simp only [VR] at h ⊢
    obtain ⟨x, h1, h2⟩ := h
    exact ⟨x, h1, VR.tr t v x h2⟩
  | .nilI, u, h => by simpa [VR] using h
  | .fn f as_ cs, u, h => by
    simp only [VR] at h ⊢
    obtain ⟨us, vs, h1, h2, h3⟩ := h
    exact ⟨us, vs, h1, VRs.tr t as_ us h2, VRs.tr t cs vs h3⟩
  | .nilp, u, h => by simpa [VR] using h
  | .undef, u, h => by simp only [VR]
  | .gone, u, h => h
  | .selfp _, u, h => h
  | .err _, u, h => h
  | .mp _, u, h => h
  | .md c, u, h => by simp only [VR] at h ⊢; exact h.tr t
theorem VRs.tr (t : Tr O w O' w') : ∀ (vs : List PV) (us : List Value), VRs w O φ α vs us → VRs w' O' φ α vs us
  | [], us, h => h
  | v :: vs, us, h => by
    obtain ⟨u, us', h1, h2, h3⟩ := h
    exact ⟨u, us', h1, VR.tr t v u h2, VRs.tr t vs us' h3⟩
end

mutual
def noK (b a : Option Nat) : PV → Bool
  | .ref x => !(a == some x)
  | .eptr x _ _ _ => !(a == some x)
  | .ptr x _ => !(b == some x)
  | .selfp x => !(b == some x)
  | .mp x => !(b == some x)
  | .agg cs => noKs b a cs
  | .tup cs => noKs b a cs
  | .iface _ v => noK b a v
  | .fn _ as_ cs => noKs b a as_ && noKs b a cs
  | _ => true
def noKs (b a : Option Nat) : List PV → Bool
  | [] => true
  | v :: vs => noK b a v && noKs b a vs
end
/-- The keys of boxes and of arrays in v. -/
def keyP (kb ka : Nat → Prop) : PV → Prop
  | .ref x => ka x
  | .eptr x _ _ _ => ka x
  | .ptr x _ => kb x
  | .selfp x => kb x
  | .mp x => kb x
  | .agg cs => go cs
  | .tup cs => go cs
  | .iface _ v => keyP kb ka v
  | .fn _ as_ cs => go as_ ∧ go cs
  | _ => True
where
  go : List PV → Prop
    | [] => True
    | v :: vs => keyP kb ka v ∧ go vs
mutual
theorem noK.b {b x : Nat} : ∀ {v : PV}, noK (some b) none v = true → keyP (fun x => x ≠ b) (fun _ => True) v
  | .int _ _, _ => trivial
  | .bool _, _ => trivial
  | .str _, _ => trivial
  | .sl _ _ _, _ => trivial
  | .nil, _ => trivial
  | .nilI, _ => trivial
  | .nilp, _ => trivial
  | .undef, _ => trivial
  | .gone, _ => trivial
  | .selfp y, h => by simp [noK] at h; exact fun e => h e.symm
  | .mp y, h => by simp [noK] at h; exact fun e => h e.symm
  | .md _, _ => trivial
  | .err _, _ => trivial
  | .cptr _ _, _ => trivial
  | .ref x, _ => trivial
  | .eptr x _ _ _, _ => trivial
  | .ptr y _, h => by simp [noK] at h; exact fun e => h e.symm
  | .agg cs, h => noKs.b (vs := cs) (by simpa only [noK] using h)
  | .tup cs, h => noKs.b (vs := cs) (by simpa only [noK] using h)
  | .iface _ v, h => noK.b (x := x) (v := v) (by simpa only [noK] using h)
  | .fn _ as_ cs, h => by simp only [noK, Bool.and_eq_true] at h; exact ⟨noKs.b h.1, noKs.b h.2⟩
theorem noKs.b {b : Nat} : ∀ {vs : List PV}, noKs (some b) none vs = true → keyP.go (fun x => x ≠ b) (fun _ => True) vs
  | [], _ => trivial
  | v :: vs, h => by simp only [noKs, Bool.and_eq_true] at h; exact ⟨noK.b (x := 0) h.1, noKs.b h.2⟩
end
mutual
theorem noK.a {b x : Nat} : ∀ {v : PV}, noK none (some b) v = true → keyP (fun _ => True) (fun x => x ≠ b) v
  | .int _ _, _ => trivial
  | .bool _, _ => trivial
  | .str _, _ => trivial
  | .sl _ _ _, _ => trivial
  | .nil, _ => trivial
  | .nilI, _ => trivial
  | .nilp, _ => trivial
  | .undef, _ => trivial
  | .gone, _ => trivial
  | .selfp _, _ => trivial
  | .mp _, _ => trivial
  | .md _, _ => trivial
  | .err _, _ => trivial
  | .cptr _ _, _ => trivial
  | .ptr y _, _ => trivial
  | .ref y, h => by simp [noK] at h; exact fun e => h e.symm
  | .eptr y _ _ _, h => by simp [noK] at h; exact fun e => h e.symm
  | .agg cs, h => noKs.a (vs := cs) (by simpa only [noK] using h)
  | .tup cs, h => noKs.a (vs := cs) (by simpa only [noK] using h)
  | .iface _ v, h => noK.a (x := x) (v := v) (by simpa only [noK] using h)
  | .fn _ as_ cs, h => by simp only [noK, Bool.and_eq_true] at h; exact ⟨noKs.a h.1, noKs.a h.2⟩
theorem noKs.a {b : Nat} : ∀ {vs : List PV}, noKs none (some b) vs = true → keyP.go (fun _ => True) (fun x => x ≠ b) vs
  | [], _ => trivial
  | v :: vs, h => by simp only [noKs, Bool.and_eq_true] at h; exact ⟨noK.a (x := 0) h.1, noKs.a h.2⟩
end
mutual
theorem keyP.and {kb ka kb' ka' kb2 ka2 : Nat → Prop} (hb : ∀ x, kb x → kb' x → kb2 x) (ha : ∀ x, ka x → ka' x → ka2 x) : ∀ {v : PV}, keyP kb ka v → keyP kb' ka' v → keyP kb2 ka2 v
  | .int _ _, _, _ => trivial
  | .bool _, _, _ => trivial
  | .str _, _, _ => trivial
  | .sl _ _ _, _, _ => trivial
  | .nil, _, _ => trivial
  | .nilI, _, _ => trivial
  | .nilp, _, _ => trivial
  | .undef, _, _ => trivial
  | .gone, _, _ => trivial
  | .selfp y, h, k => hb y h k
  | .mp y, h, k => hb y h k
  | .md _, _, _ => trivial
  | .err _, _, _ => trivial
  | .cptr _ _, _, _ => trivial
  | .ptr y _, h, k => hb y h k
  | .ref y, h, k => ha y h k
  | .eptr y _ _ _, h, k => ha y h k
  | .agg cs, h, k => keyP.ands hb ha (vs := cs) h k
  | .tup cs, h, k => keyP.ands hb ha (vs := cs) h k
  | .iface _ v, h, k => keyP.and hb ha (v := v) h k
  | .fn _ as_ cs, h, k => ⟨keyP.ands hb ha h.1 k.1, keyP.ands hb ha h.2 k.2⟩
theorem keyP.ands {kb ka kb' ka' kb2 ka2 : Nat → Prop} (hb : ∀ x, kb x → kb' x → kb2 x) (ha : ∀ x, ka x → ka' x → ka2 x) : ∀ {vs : List PV}, keyP.go kb ka vs → keyP.go kb' ka' vs → keyP.go kb2 ka2 vs
  | [], _, _ => trivial
  | _ :: _, h, k => ⟨keyP.and hb ha h.1 k.1, keyP.ands hb ha h.2 k.2⟩
end
mutual
theorem keyP.all {kb ka : Nat → Prop} (hb : ∀ x, kb x) (ha : ∀ x, ka x) : ∀ {v : PV}, keyP kb ka v
  | .int _ _ => trivial
  | .bool _ => trivial
  | .str _ => trivial
  | .sl _ _ _ => trivial
  | .nil => trivial
  | .nilI => trivial
  | .nilp => trivial
  | .undef => trivial
  | .gone => trivial
  | .selfp y => hb y
  | .mp y => hb y
  | .md _ => trivial
  | .err _ => trivial
  | .cptr _ _ => trivial
  | .ptr y _ => hb y
  | .ref y => ha y
  | .eptr y _ _ _ => ha y
  | .agg cs => keyP.alls hb ha (vs := cs)
  | .tup cs => keyP.alls hb ha (vs := cs)
  | .iface _ v => keyP.all hb ha (v := v)
  | .fn _ as_ cs => ⟨keyP.alls hb ha, keyP.alls hb ha⟩
theorem keyP.alls {kb ka : Nat → Prop} (hb : ∀ x, kb x) (ha : ∀ x, ka x) : ∀ {vs : List PV}, keyP.go kb ka vs
  | [] => trivial
  | _ :: _ => ⟨keyP.all hb ha, keyP.alls hb ha⟩
end
mutual
theorem VR.re {kb ka : Nat → Prop} (hφ : ∀ x, kb x → φ' x = φ x) (hα : ∀ x, ka x → α' x = α x) : ∀ (v : PV) (u : Value), keyP kb ka v → VR w O φ α v u → VR w O φ' α' v u
  | .int k n, u, _, h => by simpa [VR] using h
  | .bool b, u, _, h => by simpa [VR] using h
  | .str s, u, _, h => by simpa [VR] using h
  | .sl T n l, u, _, h => by simpa only [VR] using h
  | .nil, u, _, h => by simpa [VR] using h
  | .ref x, u, k, h => by
    simp only [VR] at h ⊢
    rw [hα x k]
    exact h
  | .ptr x off, u, k, h => by
    simp only [VR] at h ⊢
    rw [hφ x k]
    exact h
  | .cptr cs off, u, _, h => by simpa only [VR] using h
  | .eptr x m i off, u, k, h => by
    simp only [VR] at h ⊢
    rw [hα x k]
    exact h
  | .agg cs, u, k, h => by
    simp only [VR] at h ⊢
    obtain ⟨us, h1, h2⟩ := h
    exact ⟨us, h1, VRs.re hφ hα cs us k h2⟩
  | .tup cs, u, k, h => by
    simp only [VR] at h ⊢
    obtain ⟨us, h1, h2⟩ := h
    exact ⟨us, h1, VRs.re hφ hα cs us k h2⟩
  | .iface T v, u, k, h => by
    simp only [VR] at h ⊢
    obtain ⟨x, h1, h2⟩ := h
    exact ⟨x, h1, VR.re hφ hα v x k h2⟩
  | .nilI, u, _, h => by simpa [VR] using h
  | .fn f as_ cs, u, k, h => by
    simp only [VR] at h ⊢
    obtain ⟨us, vs, h1, h2, h3⟩ := h
    exact ⟨us, vs, h1, VRs.re hφ hα as_ us k.1 h2, VRs.re hφ hα cs vs k.2 h3⟩
  | .nilp, u, _, h => by simpa [VR] using h
  | .undef, u, _, h => by simp only [VR]
  | .gone, u, _, h => h
  | .selfp x, u, k, h => by
    simp only [VR] at h ⊢
    rw [hφ x k]
    exact h
  | .err _, u, _, h => h
  | .mp x, u, k, h => by
    simp only [VR] at h ⊢
    rw [hφ x k]
    exact h
  | .md _, u, _, h => h
theorem VRs.re {kb ka : Nat → Prop} (hφ : ∀ x, kb x → φ' x = φ x) (hα : ∀ x, ka x → α' x = α x) : ∀ (vs : List PV) (us : List Value), keyP.go kb ka vs → VRs w O φ α vs us → VRs w O φ' α' vs us
  | [], us, _, h => h
  | v :: vs, us, k, h => by
    obtain ⟨u, us', h1, h2, h3⟩ := h
    exact ⟨u, us', h1, VR.re hφ hα v u k.1 h2, VRs.re hφ hα vs us' k.2 h3⟩
end
theorem VRs.len : ∀ {vs : List PV} {us : List Value}, VRs w O φ α vs us → us.length = vs.length
  | [], us, h => by cases h; rfl
  | v :: vs, us, h => by
    obtain ⟨u, us', rfl, _, h3⟩ := h
    simp [VRs.len h3]
theorem VRs.get : ∀ {vs : List PV} {us : List Value} {i : Nat} {v : PV}, VRs w O φ α vs us → vs[i]? = some v → ∃ u, us[i]? = some u ∧ VR w O φ α v u
  | v :: vs, us, 0, x, h, e => by
    obtain ⟨u, us', rfl, h2, _⟩ := h
    simp at e
    subst e
    exact ⟨u, rfl, h2⟩
  | v :: vs, us, i + 1, x, h, e => by
    obtain ⟨u, us', rfl, _, h3⟩ := h
    simpa using VRs.get h3 (by simpa using e)
  | [], us, i, x, h, e => by simp at e
theorem VRs.drop : ∀ {vs : List PV} {us : List Value} (i : Nat), VRs w O φ α vs us → VRs w O φ α (vs.drop i) (us.drop i)
  | vs, us, 0, h => by simpa using h
  | [], us, i + 1, h => by cases h; exact rfl
  | v :: vs, us, i + 1, h => by
    obtain ⟨u, us', rfl, _, h3⟩ := h
    simpa using VRs.drop i h3
theorem VRs.take : ∀ {vs : List PV} {us : List Value} (i : Nat), VRs w O φ α vs us → VRs w O φ α (vs.take i) (us.take i)
  | vs, us, 0, h => by simp; exact rfl
  | [], us, i + 1, h => by cases h; exact rfl
  | v :: vs, us, i + 1, h => by
    obtain ⟨u, us', rfl, h2, h3⟩ := h
    exact ⟨u, us'.take i, by simp, h2, VRs.take i h3⟩
theorem VRs.append : ∀ {vs vs2 : List PV} {us us2 : List Value}, VRs w O φ α vs us → VRs w O φ α vs2 us2 → VRs w O φ α (vs ++ vs2) (us ++ us2)
  | [], vs2, us, us2, h, h2 => by cases h; exact h2
  | v :: vs, vs2, us, us2, h, k => by
    obtain ⟨u, us', rfl, h2, h3⟩ := h
    exact ⟨u, us' ++ us2, by simp, h2, VRs.append h3 k⟩
end
end
section
open Go.RowKit Go.Lk
def lk {β : Type} : List (Nat × β) → Nat → Option β
  | [], _ => none
  | (s, v) :: r, t => match Nat.beq s t with
    | true => some v
    | false => lk r t
def wt {α : Type} : Option α → (α → Prop) → Prop
  | some a, k => k a
  | none, _ => False
/-- There is what z gives, and k holds of it. -/
def Ex {α : Type} (z : Option α) (k : α → Prop) : Prop := ∃ a, z = some a ∧ k a

/-- An owned array: is it the call's own (not handed in)?, its element's type, cells an element, what it holds. -/
structure Arr where
  mine : Bool
  T : Nat
  n : Nat
  l : List (List D)
structure Bx where
  T : Nat
  cs : List PV
structure St where
  L : List (Nat × PV)
  B : List (Nat × Bx)
  A : List (Nat × Arr)
  D : Option (Nat × Nat × Nat) := none
/-! Parts told anew: what the others hold is laid bare. -/
def Bx.wc (e : Bx) (cs : List PV) : Bx := match e with | ⟨T, _⟩ => ⟨T, cs⟩
def Arr.wl (e : Arr) (l : List (List D)) : Arr := match e with | ⟨m, T, n, _⟩ => ⟨m, T, n, l⟩
def Arr.sl (e : Arr) : PV := match e with | ⟨_, T, n, l⟩ => .sl T n l
/-! States laid bare. -/
def frcV : PV → (PV → Prop) → Prop
  | .agg cs, k => go cs fun cs => k (.agg cs)
  | .tup cs, k => go cs fun cs => k (.tup cs)
  | .iface T v, k => frcV v fun v => k (.iface T v)
  | .fn f as_ cs, k => go as_ fun as_ => go cs fun cs => k (.fn f as_ cs)
  | .int a n, k => k (.int a n)
  | .bool b, k => k (.bool b)
  | .str s, k => k (.str s)
  | .sl T n l, k => k (.sl T n l)
  | .nil, k => k .nil
  | .ref a, k => k (.ref a)
  | .ptr b i, k => k (.ptr b i)
  | .cptr cs i, k => k (.cptr cs i)
  | .eptr a m i j, k => k (.eptr a m i j)
  | .nilI, k => k .nilI
  | .nilp, k => k .nilp
  | .undef, k => k .undef
  | .gone, k => k .gone
  | .selfp b, k => k (.selfp b)
  | .err b, k => k (.err b)
  | .mp b, k => k (.mp b)
  | .md c, k => k (.md c)
where
  go : List PV → (List PV → Prop) → Prop
    | [], k => k []
    | v :: vs, k => frcV v fun v => go vs fun vs => k (v :: vs)
mutual
theorem frcV_eq : ∀ (v : PV) (k : PV → Prop), frcV v k = k v
  | .agg cs, k => by rw [frcV, frcVs_eq cs]
  | .tup cs, k => by rw [frcV, frcVs_eq cs]
  | .iface T v, k => by rw [frcV, frcV_eq v]
  | .fn f as_ cs, k => by rw [frcV, frcVs_eq as_, frcVs_eq cs]
  | .int _ _, _ | .bool _, _ | .str _, _ | .sl _ _ _, _ | .nil, _ | .ref _, _ | .ptr _ _, _ | .cptr _ _, _ | .eptr _ _ _ _, _ | .nilI, _ | .nilp, _ | .undef, _ | .gone, _ | .selfp _, _ | .err _, _ | .mp _, _ | .md _, _ => rfl
theorem frcVs_eq : ∀ (l : List PV) (k : List PV → Prop), frcV.go l k = k l
  | [], _ => rfl
  | v :: vs, k => by rw [frcV.go, frcV_eq v, frcVs_eq vs]
end
def frL : List (Nat × PV) → (List (Nat × PV) → Prop) → Prop
  | [], k => k []
  | (d, v) :: r, k => frcV v fun v => frL r fun r => k ((d, v) :: r)
def frB : List (Nat × Bx) → (List (Nat × Bx) → Prop) → Prop
  | [], k => k []
  | (b, ⟨T, cs⟩) :: r, k => frcV.go cs fun cs => frB r fun r => k ((b, ⟨T, cs⟩) :: r)
def frA : List (Nat × Arr) → (List (Nat × Arr) → Prop) → Prop
  | [], k => k []
  | (a, ⟨true, T, n, l⟩) :: r, k => frA r fun r => k ((a, ⟨true, T, n, l⟩) :: r)
  | (a, ⟨false, T, n, l⟩) :: r, k => frA r fun r => k ((a, ⟨false, T, n, l⟩) :: r)
theorem frL_eq : ∀ (l : List (Nat × PV)) (k : List (Nat × PV) → Prop), frL l k = k l
  | [], _ => rfl
  | (d, v) :: r, k => by rw [frL, frcV_eq, frL_eq r]
theorem frB_eq : ∀ (l : List (Nat × Bx)) (k : List (Nat × Bx) → Prop), frB l k = k l
  | [], _ => rfl
  | (d, ⟨T, cs⟩) :: r, k => by rw [frB, frcVs_eq, frB_eq r]
theorem frA_eq : ∀ (l : List (Nat × Arr)) (k : List (Nat × Arr) → Prop), frA l k = k l
  | [], _ => rfl
  | (d, ⟨true, T, n, l⟩) :: r, k => by rw [frA, frA_eq r]
  | (d, ⟨false, T, n, l⟩) :: r, k => by rw [frA, frA_eq r]
/-- All of a state. -/
def St.frc (σ : St) (k : St → Prop) : Prop := match σ with
  | ⟨L, B, A, none⟩ => frL L fun L => frB B fun B => frA A fun A => k ⟨L, B, A, none⟩
  | ⟨L, B, A, some (a, b, c)⟩ => frL L fun L => frB B fun B => frA A fun A => k ⟨L, B, A, some (a, b, c)⟩
theorem St.frc_eq {σ : St} {k : St → Prop} : σ.frc k = k σ := by
  obtain ⟨L, B, A, _ | ⟨a, b, c⟩⟩ := σ <;> simp only [St.frc, frL_eq, frB_eq, frA_eq]
/-- What a call takes and gives: values, boxes, arrays: keys are places in the lists. -/
structure CIn where
  vs : List PV
  B : List Bx
  A : List (Nat × Nat × List (List D))
inductive COut where
  | ok (vs : List PV) (B : List Bx) (A : List (Option (Nat × Nat × List (List D))))
  | okI (vs : List PV) (B : List Bx) (A : List (Option (Nat × Nat × List (List D))))      -- the arrays stay where they were
  | pan (v : PV)
  | panB (v : PV) (B : List Bx)         -- a panic, and what the boxes hold then
inductive Place where
  | slot (t : Nat) (leaf : Option Nat)
  | cell (b j : Nat)
/-- A cut: the slots, boxes, arrays that stay; which places are given which keys of arrays. -/
structure Cut where
  L : List Nat := []
  B : List Nat := []
  A : List Nat := []
  H : List (Place × Nat × Nat × Nat) := []
  N : List (Place × Nat × Nat) := []      -- nil slices that are data
  I : List Nat := []                      -- iterators whose last entry is forgotten
/-- How a region of open order is walked: what lies behind each operation; quiet operations; (an acting one, the quiet ones of before that still count behind it, the quiet ones that wait for it). -/
structure Drw where
  anc : List Nat
  E : List Nat
  qs : List Nat
  g : Gt
  c : Option Cut := none
  cs : List (Nat × Cut) := []           -- cuts behind acting operations
  lin : Option (List (Nat × Nat × Cut)) := none   -- a chain of acting operations: as_ one row, with cuts within
structure Ann where
  drw : List (Nat × Drw) := []
  seq : List (Nat × Cut) := []          -- by the first region of what follows
  loop : List (Nat × Cut) := []         -- by the loop's first region
  reg : List (Nat × List (Nat × Nat × Cut)) := []   -- cuts within a region: so many operations, then so many under a cut
  own : List Nat := []                  -- slots of literals that are owned
  ro : List Nat := []                   -- slots of boxes that are only read: data
  fin : List (Place × Nat × Nat × Nat) := []
  nb : Nat := 0                         -- boxes handed in
  finB : List Place := []               -- where the pointers to new boxes that are handed out lie
structure Tb where
  und : List (Nat × TypeDesc) := []
  shp : List (Nat × Bool × Nat) := []
  fld : List (Nat × List (Nat × Bool × Nat)) := []
  zer : List (Nat × Value) := []
  inf : List (Nat × Value × Nat × Nat) := []
  nif : List Nat := []                  -- types that are no interfaces
  ifc : List Nat := []                  -- interface types
  bld : List (Nat × Nat) := []          -- strings.Builder, its bytes' type
  ars : List (Nat × Nat) := []          -- arrays of strings, how many
  sts : List (Nat × Nat) := []          -- structs of strings, how many
  glb : List (Nat × Nat × Nat × List (List D)) := []   -- variables that hold tables: cells an element, how many, what they hold

def Tb.eqn (tb : Tb) (t : Nat) : Option Nat := match lk tb.ars t with
  | some n => some n
  | none => lk tb.sts t
def isNil : Value → Bool
  | .slice none 0 0 => true
  | _ => false
def ofV1 : Value → PV
  | .int k n => .int k n
  | .bool b => .bool b
  | .string s => .str s.data.toList
  | .slice none 0 0 => .nil
  | .nilIface => .nilI
  | .pointer none => .nilp
  | .nilFunc => .fn NF [] []
  | _ => .undef
def ofV : Value → PV
  | .agg cs => .agg (cs.toList.map ofV1)
  | v => ofV1 v
/-- A function's number that lies within data. -/
@[reducible] def dfn (n : Nat) : D := .fn n
def ofD : D → PV
  | .int k n => .int k n
  | .bool b => .bool b
  | .str s => .str s
  | .sl T n l => .sl T n l
  | .fn n => .fn n [] []
  | .val _ => .undef
def ofDs (l : List D) : List PV := l.map ofD
def cellsOf : PV → List PV
  | .agg cs => cs
  | v => [v]
def aggOf (g : Bool) (n : Nat) (cs : List PV) : Option PV := match g, cs with
  | true, cs => match Nat.beq cs.length n with
    | true => some (.agg cs)
    | false => none
  | false, [v] => some v
  | false, _ => none
/-- Values of one cell. -/
def oneP : PV → Bool
  | .agg _ => false
  | .tup _ => false
  | .undef => false
  | .gone => false
  | .md _ => false
  | _ => true
def isUndef : PV → Bool
  | .undef => true
  | .gone => true
  | .md _ => true
  | _ => false
def St.ev (σ : St) : Operand → Option PV
  | .tmp t => lk σ.L t
  | .const v => some (ofV v)
  | .func f => match Nat.beq f NF with
    | true => none
    | false => some (.fn f [] [])
  | .global _ => none
def St.evs (σ : St) : List Operand → Option (List PV)
  | [] => some []
  | x :: xs => match σ.ev x, σ.evs xs with
    | some v, some vs => some (v :: vs)
    | _, _ => none
def ikEq (a b : IntKind) : Bool := Nat.beq a.ctorIdx b.ctorIdx

/-! The quiet operations. -/
def bop (td : TypeDesc) (op : BinOp) (u v : PV) (k : PV → Prop) : Prop :=
  match u, v with
  | .int a p, .int b q => match op with
    | .shl => Ex (chk (decide (0 ≤ q))) fun _ => k (.int a (shlI a p q))
    | .shr => Ex (chk (decide (0 ≤ q))) fun _ => k (.int a (shrI a p q))
    | .quo => match ikEq a b with
      | true => Ex (chk (decide (q ≠ 0))) fun _ => k (.int a (a.wrap (p.tdiv q)))
      | false => False
    | .rem => match ikEq a b with
      | true => Ex (chk (decide (q ≠ 0))) fun _ => k (.int a (p.tmod q))
      | false => False
    | op => match ikEq a b with
      | true => wt (ibin op a p q) fun x => k (ofV1 x)
      | false => False
  | .str p, .str q => match op with
    | .add => Ex (cat p q) fun s => k (.str s)
    | op => wt (sbin op p q) fun x => k (ofV1 x)
  | .bool p, .bool q => match td, op with
    | .bool, .eql => k (.bool (p == q))
    | .bool, .neq => k (.bool (!(p == q)))
    | _, _ => False
  | .ptr _ _, .nilp => match td, op with
    | .pointer _, .eql => k (.bool false)
    | .pointer _, .neq => k (.bool true)
    | _, _ => False
  | .nilp, .nilp => match td, op with
    | .pointer _, .eql => k (.bool true)
    | .pointer _, .neq => k (.bool false)
    | _, _ => False
  | .cptr _ _, .nilp => match td, op with
    | .pointer _, .eql => k (.bool false)
    | .pointer _, .neq => k (.bool true)
    | _, _ => False
  | _, _ => False
/-- Are these strings the same, one by one? -/
def eqSs : List PV → List PV → Option Bool
  | [], [] => some true
  | .str a :: r, .str b :: s => match eqSs r s with
    | some c => some (decide (a = b) && c)
    | none => none
  | _, _ => none
def arrW (n : Nat) (op : BinOp) (u v : PV) (k : PV → Prop) : Prop := match u, v with
  | .agg us, .agg vs => wt (eqSs us vs) fun b => match Nat.beq us.length n, op with
    | true, .eql => k (.bool b)
    | true, .neq => k (.bool (!b))
    | _, _ => False
  | _, _ => False
def strP : PV → Bool
  | .str _ => true
  | _ => false
def rangeOk : Nat → List Nat → Bool
  | _, [] => true
  | i, j :: r => Nat.beq i j && rangeOk (i + 1) r
def isNilF : Operand → Bool
  | .const .nilFunc => true
  | _ => false
/-- Is a function nil? -/
def nilF (td : TypeDesc) (op : BinOp) (u : PV) (k : PV → Prop) : Prop := match td, u with
  | .func _ _ _, .fn f _ _ => match op with
    | .eql => k (.bool (Nat.beq f NF))
    | .neq => k (.bool (!Nat.beq f NF))
    | _ => False
  | _, _ => False
def uop (op : UnOp) (u : PV) (k : PV → Prop) : Prop :=
  match op, u with
  | .not, .bool b => k (.bool (!b))
  | op, .int a p => wt (iun op a p) fun x => k (ofV1 x)
  | _, _ => False
/-- An array that is not frozen (a frozen one has 1000000 on its type). -/
def lkU (A : List (Nat × Arr)) (a : Nat) : Option Arr := match lk A a with
  | some e => match Nat.blt e.T 1000000 with
    | true => some e
    | false => none
  | none => none
theorem lkU_some {A : List (Nat × Arr)} {a : Nat} {e : Arr} (h : lkU A a = some e) : lk A a = some e ∧ e.T < 1000000 := by
  unfold lkU at h
  split at h
  · rename_i e' he
    split at h
    · rename_i hb
      cases h
      exact ⟨he, by simpa [Nat.blt_eq] using hb⟩
    · cases h
  · cases h
/-- An array that is not frozen: it may be marked (a marked one, of converted bytes, has 2000000 on its type). -/
def lkO (A : List (Nat × Arr)) (a : Nat) : Option Arr := match lk A a with
  | some e => match Nat.blt e.T 1000000 || Nat.ble 2000000 e.T with
    | true => some e
    | false => none
  | none => none
theorem lkO_some {A : List (Nat × Arr)} {a : Nat} {e : Arr} (h : lkO A a = some e) : lk A a = some e ∧ (e.T < 1000000 ∨ 2000000 ≤ e.T) := by
  unfold lkO at h
  split at h
  · rename_i e' he
    split at h
    · rename_i hb
      cases h
      rw [Bool.or_eq_true] at hb
      exact ⟨he, by simpa [Nat.blt_eq] using hb⟩
    · cases h
  · cases h
/-- A marked array. -/
def lkM (A : List (Nat × Arr)) (a : Nat) : Option Arr := match lk A a with
  | some e => match Nat.ble 2000000 e.T with
    | true => some e
    | false => none
  | none => none
theorem lkM_some {A : List (Nat × Arr)} {a : Nat} {e : Arr} (h : lkM A a = some e) : lk A a = some e ∧ 2000000 ≤ e.T := by
  unfold lkM at h
  split at h
  · rename_i e' he
    split at h
    · rename_i hb
      cases h
      exact ⟨he, by simpa using hb⟩
    · cases h
  · cases h
/-- A box that is no map and no iterator. -/
def lkB (B : List (Nat × Bx)) (b : Nat) : Option Bx := match lk B b with
  | some e => match Nat.blt e.T 1000000 with
    | true => some e
    | false => none
  | none => none
theorem lkB_some {B : List (Nat × Bx)} {b : Nat} {e : Bx} (h : lkB B b = some e) : lk B b = some e ∧ e.T < 1000000 := by
  unfold lkB at h
  split at h
  · rename_i e' he
    split at h
    · rename_i hb
      cases h
      exact ⟨he, by simpa [Nat.blt_eq] using hb⟩
    · cases h
  · cases h
def kyOf : TypeDesc → Option (Option IntKind)
  | .int k => some (some k)
  | .string => some none
  | _ => none
def toKey : Option IntKind → PV → Option D
  | some k, .int k' n => match ikEq k k' with
    | true => some (.int k' n)
    | false => none
  | none, .str s => some (.str s)
  | _, _ => none
def kyEq : Option IntKind → Option IntKind → Bool
  | some k, some k' => ikEq k k'
  | none, none => true
  | _, _ => false
def bq : Bool → Bool → Bool
  | true, b => b
  | false, b => !b
/-- What a map holds. -/
def mapAt (σ : St) (ky : Option IntKind) (g : Bool) : PV → Option (Nat × List (List D))
  | .mp b => match lk σ.B b with
    | some e => match e.cs with
      | [.md (.cont ky' g' l)] => match Nat.beq e.T 1000000 && kyEq ky ky' && bq g g' with
        | true => some (b, l)
        | false => none
      | _ => none
    | none => none
  | _ => none
/-- Is it a value whose cells are told so? -/
def aggQ (g : Bool) (v : PV) : Bool := match g, v with
  | true, .agg _ => true
  | false, v => oneP v
  | true, _ => false
/-- What is left is handed out, in whatever order. -/
structure NxW (rem : List (List D)) (k0 : Prop) (k1 : List D → List (List D) → Prop) : Prop where
  stop : rem = [] → k0
  more : ∀ (i : Nat) (x : List D), rem[i]? = some x → k1 x (rem.eraseIdx i)
/-- A number's character. -/
def encS (n : Int) : List UInt8 := (Utf8.encode n).data.toList
def lenD (l : List (List D)) : Option Int := some (l.length : Int)
/-- How many a map holds. -/
def lenM (σ : St) (u : PV) (k : Int → Prop) : Prop := match u with
  | .mp b => match lk σ.B b with
    | some e => match e.cs with
      | [.md (.cont _ _ l)] => match Nat.beq e.T 1000000 with
        | true => Ex (lenD l) k
        | false => False
      | _ => False
    | none => False
  | _ => False
def lenW (td : TypeDesc) (σ : St) (u : PV) (k : Int → Prop) : Prop := match td, u with
  | .string, .str s => k (s.length : Int)
  | .slice _, .sl _ _ l => Ex (lenD l) k
  | .slice _, .nil => k 0
  | .slice _, .ref a => wt (lkO σ.A a) fun e => Ex (lenD e.l) k
  | .map _ _, .mp b => lenM σ (.mp b) k
  | _, _ => False
/-- A bound of a slice expression. -/
def loW (σ : St) (x : Option Operand) (k : Int → Prop) : Prop := match x with
  | none => k 0
  | some y => match σ.ev y with
    | some (.int _ n) => k n
    | _ => False
def hiW (td : TypeDesc) (σ : St) (u : PV) (x : Option Operand) (k : Int → Prop) : Prop := match x with
  | none => lenW td σ u k
  | some y => match σ.ev y with
    | some (.int _ n) => k n
    | _ => False
def loadP (σ : St) (g : Bool) (n : Nat) : PV → Option PV
  | .ptr b off => match lkB σ.B b with
    | some e => aggOf g n ((e.cs.drop off).take n)
    | none => none
  | .cptr cs off => aggOf g n (((ofDs cs).drop off).take n)
  | _ => none
/-- A load through a pointer into an owned array. -/
def loadE (σ : St) (g : Bool) (n : Nat) (u : PV) (k : PV → Prop) : Prop := match u with
  | .eptr a m i off => wt (lkO σ.A a) fun e => match Nat.beq e.n m with
    | true => Ex (ix e.l i) fun cs => wt (aggOf g n (((ofDs cs).drop off).take n)) k
    | false => False
  | u => wt (loadP σ g n u) k
/-- Is it the nil interface? -/
def nilQ : PV → Option Bool
  | .nilI => some true
  | .iface _ _ => some false
  | .err b => some b
  | _ => none
/-- Go on with the list's spine laid bare. -/
def frcL : List PV → (List PV → Bool) → Bool
  | [], k => k []
  | x :: xs, k => frcL xs fun ys => k (x :: ys)
/-- The same for what is to hold. -/
def frcW : List PV → (List PV → Prop) → Prop
  | [], k => k []
  | x :: xs, k => frcW xs fun ys => k (x :: ys)
theorem frcW_eq : ∀ (l : List PV) (k : List PV → Prop), frcW l k = k l
  | [], _ => rfl
  | x :: xs, k => by rw [frcW, frcW_eq xs]
theorem frcL_eq : ∀ (l : List PV) (k : List PV → Bool), frcL l k = k l
  | [], _ => rfl
  | x :: xs, k => by rw [frcL, frcL_eq xs]
/-- The parts are of their places' sizes. -/
def fillOk (fs : List (Nat × Bool × Nat)) : List Nat → List PV → List PV → Bool
  | i :: is, u :: us, cs => match fs[i]? with
    | some f => Nat.beq (cellsOf u).length f.2.2 && Nat.ble (f.1 + f.2.2) cs.length && !(isUndef u) && frcL (cs.take f.1 ++ cellsOf u ++ cs.drop (f.1 + f.2.2)) (fillOk fs is us)
    | none => false
  | _, _, _ => true
def fillP (fs : List (Nat × Bool × Nat)) (cs : List PV) : List Nat → List PV → List PV
  | i :: is, u :: us => match fs[i]? with
    | some f => fillP fs (cs.take f.1 ++ cellsOf u ++ cs.drop (f.1 + f.2.2)) is us
    | none => []
  | _, _ => cs
/-- fillP, its lists laid bare. -/
def fillW (fs : List (Nat × Bool × Nat)) (k : List PV → Prop) : List Nat → List PV → List PV → Prop
  | i :: is, u :: us, cs => match fs[i]? with
    | some f => frcW (cs.take f.1 ++ cellsOf u ++ cs.drop (f.1 + f.2.2)) (fillW fs k is us)
    | none => k []
  | _, _, cs => k cs
theorem fillW_eq {fs : List (Nat × Bool × Nat)} {k : List PV → Prop} : ∀ (is : List Nat) (us cs : List PV), fillW fs k is us cs = k (fillP fs cs is us)
  | [], us, cs => by cases us <;> rfl
  | i :: is, [], cs => rfl
  | i :: is, u :: us, cs => by
    unfold fillW fillP
    split
    · rename_i f hf
      rw [frcW_eq, fillW_eq is us]
    · rfl
def maxI (p q : Int) : Int := if q > p then q else p
def minI (p q : Int) : Int := if q < p then q else p
def mmW (b : Bool) (u v : PV) (k : PV → Prop) : Prop := match u, v with
  | .int a p, .int c q => match ikEq a c, b with
    | true, true => k (.int a (maxI p q))
    | true, false => k (.int a (minI p q))
    | false, _ => False
  | _, _ => False
def qop (tb : Tb) (σ : St) (op : Op) (k : PV → Prop) : Prop :=
  match op with
  | .move x => wt (σ.ev x) k
  | .assign x => wt (σ.ev x) k
  | .pick c x y => match σ.ev c with
    | some (.bool c) => wt (σ.ev x) fun u => wt (σ.ev y) fun v => cond c (k u) (k v)
    | _ => False
  | .binOp op t x y _ => match tb.ifc.any (Nat.beq t) with
    | true => match y with
      | .const .nilIface => wt ((σ.ev x).bind nilQ) fun b => match op with
        | .eql => k (.bool b)
        | .neq => k (.bool (!b))
        | _ => False
      | _ => False
    | false => match tb.eqn t with
      | some n => wt (σ.ev x) fun u => wt (σ.ev y) fun v => arrW n op u v k
      | none => wt (lk tb.und t) fun td => wt (σ.ev x) fun u => match isNilF y with
        | true => nilF td op u k
        | false => wt (σ.ev y) fun v => bop td op u v k
  | .unOp op _ x => wt (σ.ev x) fun u => uop op u k
  | .convert s t x => wt (σ.ev x) fun u => match u, lk tb.und s, lk tb.und t with
    | .int _ n, some (.int _), some (.int kk) => k (.int kk (kk.wrap n))
    | .str s, some .string, some .string => k (.str s)
    | .int _ n, some (.int _), some .string => k (.str (encS n))
    | _, _, _ => False
  | .makeInterface t x => wt (σ.ev x) fun u => match tb.nif.any (Nat.beq t) with
    | true => k (.iface t u)
    | false => False
  | .makeFunc (.func f) as_ cs => match Nat.beq f NF with
    | true => False
    | false => wt (σ.evs as_.toList) fun us => wt (σ.evs cs.toList) fun vs => k (.fn f us vs)
  | .extract x i => match σ.ev x with
    | some (.tup vs) => wt vs[i]? k
    | _ => False
  | .nilCheck x => wt (σ.ev x) fun u => match u with
    | .ptr _ _ => k u
    | .cptr _ _ => k u
    | .eptr _ _ _ _ => k u
    | _ => False
  | .fieldAddr t x i => wt ((lk tb.fld t).bind (·[i]?)) fun f => wt (σ.ev x) fun u => match u with
    | .ptr b off => k (.ptr b (off + f.1))
    | .cptr cs off => k (.cptr cs (off + f.1))
    | .eptr a m j off => k (.eptr a m j (off + f.1))
    | _ => False
  | .field t x i => wt ((lk tb.fld t).bind (·[i]?)) fun f => match σ.ev x with
    | some (.agg cs) => wt (aggOf f.2.1 f.2.2 ((cs.drop f.1).take f.2.2)) k
    | _ => False
  | .load t x => wt (lk tb.shp t) fun s => wt (σ.ev x) fun u => loadE σ s.1 s.2 u k
  | .index t x y => match lk tb.und t, σ.ev x, σ.ev y with
    | some .string, some (.str s), some (.int _ i) => Ex (ix s i) fun c => k (.int .u8 (c.toNat : Int))
    | _, _, _ => False
  | .indexAddr t x y => match x with
    | .global g => wt (lk tb.glb g) fun e => match lk tb.und t, σ.ev y with
      | some (.array len T), some (.int _ i) => wt (lk tb.shp T) fun s => match Nat.beq s.2 e.1 && Nat.beq len e.2.1 with
        | true => Ex (ix e.2.2 i) fun cs => k (.cptr cs 0)
        | false => False
      | _, _ => False
    | x => wt (σ.ev x) fun u => match lk tb.und t with
      | some (.slice T) => wt (lk tb.shp T) fun s => match u, σ.ev y with
        | .sl _ n l, some (.int _ i) => match Nat.beq s.2 n with
          | true => Ex (ix l i) fun cs => k (.cptr cs 0)
          | false => False
        | .ref a, some (.int _ i) => wt (lkO σ.A a) fun e => match Nat.beq s.2 e.n with
          | true => Ex (ix e.l i) fun _ => k (.eptr a e.n i 0)
          | false => False
        | _, _ => False
      | _ => False
  | .slice t x lo hi none => wt (σ.ev x) fun u => wt (lk tb.und t) fun td => loW σ lo fun a => hiW td σ u hi fun b => match td, u with
    | .string, .str s => Ex (sub s a b) fun r => k (.str r)
    | .slice e, .sl T m l => wt (lk tb.shp e) fun s => match Nat.beq e T && Nat.beq s.2 m with
      | true => Ex (sub l a b) fun r => k (.sl T m r)
      | false => False
    | _, _ => False
  | .call c => match c.callee, c.args.toList, c.argTypes.toList with
    | .builtin .len, [x], [t] => wt (lk tb.und t) fun td => wt (σ.ev x) fun u => lenW td σ u fun n => k (.int .i64 n)
    | .builtin .max, [x, y], _ => wt (σ.ev x) fun u => wt (σ.ev y) fun v => mmW true u v k
    | .builtin .min, [x, y], _ => wt (σ.ev x) fun u => wt (σ.ev y) fun v => mmW false u v k
    | _, _, _ => False
  | .typeAssert x _ t true => wt (lk tb.zer t) fun z => match σ.ev x, tb.nif.any (Nat.beq t) with
    | some (.iface T u), true => match Nat.beq T t with
      | true => k (.tup [u, .bool true])
      | false => k (.tup [ofV z, .bool false])
    | some .nilI, true => k (.tup [ofV z, .bool false])
    | _, _ => False
  | .build t parts => wt (σ.evs (parts.toList.map (·.2))) fun us => match lk tb.ars t with
    | some n => match Nat.beq us.length n && rangeOk 0 (parts.toList.map (·.1)) && us.all strP with
      | true => k (.agg us)
      | false => False
    | none => wt (lk tb.zer t) fun z => wt (lk tb.fld t) fun fs => frcW (cellsOf (ofV z)) fun cs =>
      match fillOk fs (parts.toList.map (·.1)) us cs with
      | true => fillW fs (fun ds => k (.agg ds)) (parts.toList.map (·.1)) us cs
      | false => False
  | .slice t x none (some hi) (some mx) => wt (σ.ev x) fun u => match lk tb.und t, u, σ.ev hi, σ.ev mx with
    | some (.slice e), .sl T m l, some (.int _ b), some (.int _ c) => wt (lk tb.shp e) fun s => match Nat.beq e T && Nat.beq s.2 m with
      | true => Ex (lenD l) fun n => Ex (chk (decide (b ≤ c) && decide (c ≤ n))) fun _ => Ex (sub l 0 b) fun r => k (.sl T m r)
      | false => False
    | _, _, _, _ => False
  | _ => False

/-- What a call leaves: laid bare, where it has boxes or rows. -/
def St.frcIf (σ : St) (k : St → Prop) : List Nat → List Nat → List Nat → Prop
  | [], [], [] => k σ
  | _, _, _ => σ.frc k
theorem St.frcIf_eq {σ : St} {k : St → Prop} {a b c : List Nat} : σ.frcIf k a b c = k σ := by
  unfold St.frcIf
  split
  · rfl
  · exact St.frc_eq
/-- The lists laid bare, and the newest slot. -/
def spn {β : Type} : List β → (List β → Prop) → Prop
  | [], k => k []
  | x :: r, k => spn r fun r => k (x :: r)
theorem spn_eq {β : Type} : ∀ (l : List β) (k : List β → Prop), spn l k = k l
  | [], _ => rfl
  | x :: r, k => by rw [spn, spn_eq r]
def spB : List (Nat × Bx) → (List (Nat × Bx) → Prop) → Prop
  | [], k => k []
  | (b, ⟨T, cs⟩) :: r, k => spn cs fun cs => spB r fun r => k ((b, ⟨T, cs⟩) :: r)
theorem spB_eq : ∀ (l : List (Nat × Bx)) (k : List (Nat × Bx) → Prop), spB l k = k l
  | [], _ => rfl
  | (d, ⟨T, cs⟩) :: r, k => by rw [spB, spn_eq, spB_eq r]
def spD (D : Option (Nat × Nat × Nat)) (k : Option (Nat × Nat × Nat) → Prop) : Prop := match D with
  | none => k none
  | some (a, b, c) => k (some (a, b, c))
theorem spD_eq {D : Option (Nat × Nat × Nat)} {k : Option (Nat × Nat × Nat) → Prop} : spD D k = k D := by
  obtain _ | ⟨a, b, c⟩ := D <;> rfl
def St.frs (σ : St) (k : St → Prop) : Prop := match σ with
  | ⟨[], B, A, D⟩ => spB B fun B => frA A fun A => spD D fun D => k ⟨[], B, A, D⟩
  | ⟨(d, v) :: r, B, A, D⟩ => frcV v fun v => spn r fun r => spB B fun B => frA A fun A => spD D fun D => k ⟨(d, v) :: r, B, A, D⟩
theorem St.frs_eq {σ : St} {k : St → Prop} : σ.frs k = k σ := by
  obtain ⟨_ | ⟨⟨d, v⟩, r⟩, B, A, D⟩ := σ <;> simp only [St.frs, frcV_eq, spn_eq, spB_eq, frA_eq, spD_eq]
/-- Its newest slot laid bare. -/
def St.go (σ : St) (k : St → Prop) : Prop := match σ with
  | ⟨[], B, A, D⟩ => k ⟨[], B, A, D⟩
  | ⟨(d, v) :: r, B, A, D⟩ => frcV v fun v => k ⟨(d, v) :: r, B, A, D⟩
theorem St.go_eq {σ : St} {k : St → Prop} : σ.go k = k σ := by
  unfold St.go
  split
  · rfl
  · rw [frcV_eq]
def nthO {β : Type} : List β → Nat → Option β
  | [], _ => none
  | x :: _, 0 => some x
  | _ :: r, n + 1 => nthO r n
theorem nthO_eq {β : Type} : ∀ (l : List β) (n : Nat), nthO l n = l[n]?
  | [], n => by simp [nthO]
  | x :: r, 0 => rfl
  | x :: r, n + 1 => by simp [nthO, nthO_eq r n]
def opAt (ops : Array Oper) (q : Nat) : Option Oper := nthO ops.toList q
theorem opAt_eq {ops : Array Oper} {q : Nat} : opAt ops q = ops[q]? := by simp [opAt, nthO_eq]
/-! Names. -/
def renP (bs as_ : List Nat) : PV → PV
  | .ref a => match as_[a]? with
    | some x => .ref x
    | none => .undef
  | .ptr b off => match bs[b]? with
    | some x => .ptr x off
    | none => .undef
  | .selfp b => match bs[b]? with
    | some x => .selfp x
    | none => .undef
  | .mp b => match bs[b]? with
    | some x => .mp x
    | none => .undef
  | .agg cs => .agg (go cs)
  | .tup cs => .tup (go cs)
  | .iface T v => .iface T (renP bs as_ v)
  | .fn f a c => .fn f (go a) (go c)
  | .eptr _ _ _ _ => .undef
  | v => v
where
  go : List PV → List PV
    | [] => []
    | v :: vs => renP bs as_ v :: go vs
/-- v, told as_ w is: an array lent as_ data, a nil slice as_ data. -/
def nrm (σ : St) : PV → PV → PV
  | .sl _ _ _, .ref a => match lkU σ.A a with
    | some e => e.sl
    | none => .undef
  | .sl T n _, .nil => .sl T n []
  | .err _, .nilI => .err true
  | .err _, .iface _ _ => .err false
  | .agg ws, .agg vs => .agg (go ws vs)
  | .tup ws, .tup vs => .tup (go ws vs)
  | _, v => v
where
  go : List PV → List PV → List PV
    | w :: ws, v :: vs => nrm σ w v :: go ws vs
    | _, vs => vs
/-- Which arrays are lent so. -/
def lent : PV → PV → List Nat
  | .sl _ _ _, .ref a => [a]
  | .agg ws, .agg vs => go ws vs
  | .tup ws, .tup vs => go ws vs
  | _, _ => []
where
  go : List PV → List PV → List Nat
    | w :: ws, v :: vs => lent w v ++ go ws vs
    | _, _ => []
def hasSl : PV → Bool
  | .sl _ _ _ => true
  | .cptr _ _ => true
  | .md _ => true
  | .agg cs => go cs
  | .tup cs => go cs
  | .iface _ v => hasSl v
  | .fn _ a c => go a || go c
  | _ => false
where
  go : List PV → Bool
    | [] => false
    | v :: vs => hasSl v || go vs
def frzP (a : Nat) (e : Arr) : PV → PV
  | .ref x => match Nat.beq x a with
    | true => e.sl
    | false => .ref x
  | .eptr x m i off => match Nat.beq x a with
    | true => .undef
    | false => .eptr x m i off
  | .agg cs => .agg (go cs)
  | .tup cs => .tup (go cs)
  | .iface T v => .iface T (frzP a e v)
  | .fn f s c => .fn f (go s) (go c)
  | v => v
where
  go : List PV → List PV
    | [] => []
    | v :: vs => frzP a e v :: go vs
def delk {β : Type} (a : Nat) : List (Nat × β) → List (Nat × β)
  | [] => []
  | (s, v) :: r => match Nat.beq s a with
    | true => delk a r
    | false => (s, v) :: delk a r
def setk {β : Type} (a : Nat) (x : β) : List (Nat × β) → List (Nat × β)
  | [] => []
  | (s, v) :: r => match Nat.beq s a with
    | true => (s, x) :: r
    | false => (s, v) :: setk a x r
def St.mapV (σ : St) (f : PV → PV) : St := match σ with
  | ⟨L, B, A, D⟩ => ⟨L.map fun p => match p with | (d, v) => (d, f v), B.map fun p => match p with | (b, ⟨T, cs⟩) => (b, ⟨T, cs.map f⟩), A, D⟩
/-- Arrays that are data from now on: those of the call's own. -/
def St.freeze (σ : St) : List Nat → Option St
  | [] => some σ
  | a :: as_ => match lk σ.A a with
    | some e => match e.mine && Nat.blt e.T 1000000 with
      | true => ({ (σ.mapV (frzP a e)) with A := delk a σ.A } : St).freeze as_
      | false => none
    | none => σ.freeze as_
def St.freshB (σ : St) (b : Nat) : Bool := Nat.ble 1000 b && (lk σ.B b).isNone && σ.L.all (fun p => noK (some b) none p.2) && σ.B.all (fun p => noKs (some b) none p.2.cs)
def St.freshA (σ : St) (a : Nat) : Bool := (lk σ.A a).isNone && σ.L.all (fun p => noK none (some a) p.2) && σ.B.all (fun p => noKs none (some a) p.2.cs)
def St.pu (σ : St) (d : Nat) (v : PV) : St := match σ with
  | ⟨L, B, A, D⟩ => ⟨(d, v) :: L, B, A, D⟩
def St.put (σ : St) (d : Option Nat) (v : PV) : St := match d with
  | some d => σ.pu d v
  | none => σ
/-- v as_ an element's cells: none of them owned. -/
def toD (T : Option (Nat × Nat)) : PV → Option D
  | .int k n => some (.int k n)
  | .bool b => some (.bool b)
  | .str s => some (.str s)
  | .sl T n l => some (.sl T n l)
  | .nil => match T with
    | some (T, n) => some (.sl T n [])
    | none => none
  | .fn f [] [] => some (dfn f)
  | _ => none
def toDs (ct : List (Option (Nat × Nat))) (cs : List PV) : Option (List D) := match cs, ct with
  | [], _ => some []
  | v :: vs, c :: ct => match toD c v, toDs ct vs with
    | some d, some ds => some (d :: ds)
    | _, _ => none
  | v :: vs, [] => match toD none v, toDs [] vs with
    | some d, some ds => some (d :: ds)
    | _, _ => none
def elsD (ct : List (Option (Nat × Nat))) : List PV → Option (List (List D))
  | [] => some []
  | v :: vs => match toDs ct (cellsOf v), elsD ct vs with
    | some d, some ds => some (d :: ds)
    | _, _ => none
def refsP : PV → List Nat
  | .ref a => [a]
  | .agg cs => go cs
  | .tup cs => go cs
  | .iface _ v => refsP v
  | _ => []
where
  go : List PV → List Nat
    | [] => []
    | v :: vs => refsP v ++ go vs
/-- Bytes of plain elements. -/
def dby : List (List D) → Option (List UInt8)
  | [] => some []
  | [.int .u8 n] :: r => match dby r with
    | some s => some (UInt8.ofNat n.toNat :: s)
    | none => none
  | _ => none
def bytD (s : List UInt8) : List (List D) := (unb s).map (eI .u8)
/-! Cuts. -/
def keepK {β : Type} (ks : List Nat) (l : List (Nat × β)) : List (Nat × β) := match ks with
  | [] => []
  | x :: r => match lk l x with
    | some v => (x, v) :: keepK r l
    | none => keepK r l
def leafOf : Option Nat → PV → Option PV
  | none, v => some v
  | some j, .agg cs => cs[j]?
  | _, _ => none
def setLeaf : Option Nat → PV → PV → PV
  | none, _, x => x
  | some j, .agg cs, x => .agg (cs.set j x)
  | _, v, _ => v
def St.at (σ : St) : Place → Option PV
  | .slot t j => match lk σ.L t with
    | some v => leafOf j v
    | none => none
  | .cell b j => match lk σ.B b with
    | some e => e.cs[j]?
    | none => none
def St.set (σ : St) (x : PV) : Place → St
  | .slot t j => match lk σ.L t with
    | some v => { σ with L := setk t (setLeaf j v x) σ.L }
    | none => σ
  | .cell b j => match lk σ.B b with
    | some e => { σ with B := setk b (e.wc (e.cs.set j x)) σ.B }
    | none => σ
/-- A place's array is given the key 'a'. -/
def St.home (σ : St) : List (Place × Nat × Nat × Nat) → Option St
  | [] => some σ
  | (p, a, T, n) :: r => match σ.at p with
    | some .nil => match σ.freshA a with
      | true => ({ (σ.set (.ref a) p) with A := (a, ⟨true, T, n, []⟩) :: σ.A } : St).home r
      | false => none
    | some (.ref x) => match Nat.beq x a with
      | true => σ.home r
      | false => match lk σ.A x, σ.freshA a with
        | some e, true => ({ (σ.set (.ref a) p) with A := (a, e) :: delk x σ.A } : St).home r
        | _, _ => none
    | _ => none
/-- A nil slice at a place is data. -/
def St.nilD (σ : St) : List (Place × Nat × Nat) → Option St
  | [] => some σ
  | (p, T, n) :: r => match σ.at p with
    | some .nil => (σ.set (.sl T n []) p).nilD r
    | some (.sl _ _ _) => σ.nilD r
    | _ => none
/-- Owned rows at places that are to hold data. -/
def St.refsAt (σ : St) : List (Place × Nat × Nat) → List Nat
  | [] => []
  | (p, _, _) :: r => match σ.at p with
    | some (.ref a) => a :: σ.refsAt r
    | _ => σ.refsAt r
def St.cut0 (σ : St) (c : Cut) : Option St := match ({ σ with L := keepK c.L σ.L, B := keepK c.B σ.B } : St).home c.H with
  | some s => match s.nilD c.N with
    | some s => some { s with A := keepK c.A s.A }
    | none => none
  | none => none
def St.itN (σ : St) : List Nat → St
  | [] => σ
  | b :: r => match σ.at (.cell b 0) with
    | some (.md (.it ky g _ rem)) => (σ.set (.md (.it ky g none rem)) (.cell b 0)).itN r
    | _ => σ.itN r
def St.cut (σ : St) (c : Cut) : Option St := match σ.freeze (σ.refsAt c.N) with
  | some s => (s.itN c.I).cut0 c
  | none => none

/-- The state cut, and laid bare. -/
def St.cutK (σ : St) (c : Cut) (k : St → Prop) : Prop := wt (σ.cut c) fun s => s.frc k
theorem cutK_some {σ : St} {c : Cut} {k : St → Prop} (h : σ.cutK c k) : ∃ s, σ.cut c = some s ∧ k s := by
  unfold St.cutK at h
  cases e : σ.cut c with
  | none => rw [e] at h; exact h.elim
  | some s => rw [e] at h; exact ⟨s, rfl, St.frc_eq.mp h⟩
/-- What turns, of a state that is cut: the rest is as_ it was. -/
structure Ov where
  L : List (Nat × PV)
  B : List (Nat × Bx)
  A : List (Nat × Arr)
def ovk {β : Type} (n o : List (Nat × β)) : List Nat → List (Nat × β)
  | [] => []
  | x :: r => match lk n x with
    | some v => (x, v) :: ovk n o r
    | none => match lk o x with
      | some v => (x, v) :: ovk n o r
      | none => ovk n o r
def ovS (σ : St) (c : Cut) (v : Ov) : St := ⟨ovk v.L σ.L c.L, ovk v.B σ.B c.B, ovk v.A σ.A c.A, σ.D⟩
def St.ub (σ : St) (t : Nat) (x : Bool) : St := { σ with L := setk t (.bool x) σ.L }

/-- What is appended. -/
def apL (tb : Tb) (t t2 : Nat) (inf : Value × Nat × Nat) (v : PV) : Option (List (List D)) := match v with
  | .sl _ n l => match Nat.beq t t2 && Nat.beq n inf.2.1 with
    | true => some l
    | false => none
  | .nil => match Nat.beq t t2 with
    | true => some []
    | false => none
  | .str s => match lk tb.und t2, inf with
    | some .string, (.int .u8 0, 1, 1) => some (bytD s)
    | _, _ => none
  | _ => none
/-! The acting operations. -/
section
variable (tb : Tb) (cty : List (Nat × List (Option (Nat × Nat)))) (ann : Ann) (con : Nat → CIn → COut → Prop)
def boxesOk (σ : St) (bs as_ : List Nat) : List Nat → List Bx → Prop
  | b :: ks, e :: es => (match lk σ.B b with
    | some x => x.T = e.T ∧ nrm.go { σ with A := [] } e.cs x.cs = renP.go bs as_ e.cs
    | none => False) ∧ boxesOk σ bs as_ ks es
  | _, [] => True
  | [], _ :: _ => False
def arrsOk (σ : St) : List Nat → List (Nat × Nat × List (List D)) → Prop
  | a :: ks, e :: es => (match lk σ.A a with
    | some x => x.T = e.1 ∧ x.n = e.2.1 ∧ x.l = e.2.2
    | none => False) ∧ arrsOk σ ks es
  | _, [] => True
  | [], _ :: _ => False
def nodupN : List Nat → Bool
  | [] => true
  | x :: r => !(r.any (Nat.beq x)) && nodupN r
/-- The keys are places in lists of so many. -/
def inR (nb na : Nat) : PV → Bool
  | .ref a => Nat.blt a na
  | .ptr b _ => Nat.blt b nb
  | .selfp b => Nat.blt b nb
  | .mp b => Nat.blt b nb
  | .eptr _ _ _ _ => false
  | .agg cs => go cs
  | .tup cs => go cs
  | .iface _ v => inR nb na v
  | .fn _ a c => go a && go c
  | _ => true
where
  go : List PV → Bool
    | [] => true
    | v :: vs => inR nb na v && go vs
def delks {β : Type} : List Nat → List (Nat × β) → List (Nat × β)
  | [], l => l
  | a :: as_, l => delks as_ (delk a l)
def zipA (m : Bool) : List Nat → List (Option (Nat × Nat × List (List D))) → List (Nat × Arr)
  | a :: ks, some (T, n, l) :: es => (a, ⟨m, T, n, l⟩) :: zipA m ks es
  | _ :: ks, none :: es => zipA m ks es
  | _, _ => []
def zipB (bs as_ : List Nat) : List Nat → List Bx → List (Nat × Bx)
  | b :: ks, e :: es => (b, e.wc (renP.go bs as_ e.cs)) :: zipB bs as_ ks es
  | _, _ => []
def retV : List PV → PV
  | [v] => v
  | vs => .tup vs
def allMine (σ : St) : List Nat → Bool
  | [] => true
  | a :: as_ => (match lk σ.A a with
    | some e => e.mine
    | none => false) && allMine σ as_
/-- What a call asks. -/
def callOk (σ : St) (bs as_ ls : List Nat) (i : CIn) : Bool :=
  nodupN bs && nodupN as_ && Nat.ble i.B.length bs.length && Nat.beq i.A.length as_.length && inR.go i.B.length i.A.length i.vs && i.B.all (fun e => inR.go i.B.length i.A.length e.cs) &&
    ls.all fun a => (lk σ.A a).isSome && !(as_.any (Nat.beq a))
/-- What is left behind a call. -/
def outOk (σ : St) (bs as_' : List Nat) (nb : Nat) (vs : List PV) (B : List Bx) (A : List (Option (Nat × Nat × List (List D)))) : Bool :=
  nodupN as_' && Nat.beq B.length bs.length && Nat.beq A.length as_'.length && inR.go B.length A.length vs && B.all (fun e => inR.go B.length A.length e.cs) && as_'.all σ.freshA && (bs.drop nb).all σ.freshB
def lends (vs : List PV) (B : List Bx) (A : List (Option (Nat × Nat × List (List D)))) : Bool := hasSl.go vs || B.any (fun e => hasSl.go e.cs) || A.any (fun e => e.isSome)
def frz (b : Bool) (σ : St) (ls : List Nat) : Option St := match b with
  | true => σ.freeze ls
  | false => some σ
def left (m : Bool) (bs as_ as_' : List Nat) (B : List Bx) (A : List (Option (Nat × Nat × List (List D)))) (σ : St) : St := { σ with B := zipB bs as_' bs B ++ delks bs σ.B, A := zipA m as_' A ++ delks as_ σ.A }
/-- What is left where a call panics. -/
def St.lost (σ : St) (bs as_ : List Nat) : St := { σ with B := delks bs σ.B, A := delks as_ σ.A }
/-- Arrays that stayed where they were have their old names. -/
def backA : List Nat → List Nat → List (Nat × Arr) → List (Nat × Arr)
  | a :: as_, a' :: as_', A => match lk A a' with
    | some e => backA as_ as_' ((a, e) :: delk a' A)
    | none => backA as_ as_' A
  | _, _, A => A
def disj (as_ as_' : List Nat) : Bool := as_.all fun a => !(as_'.any (Nat.beq a))
def St.backA (σ : St) (as_ as_' : List Nat) : St := { σ with A := Go.Pe.backA as_ as_' σ.A }
/-- What is left of a call's outcome. -/
def callK (bs as_ as_' : List Nat) (i : CIn) (args : List PV) (σ : St) (k : PV → St → Prop) (kp : PV → St → Prop) : COut → Prop
  | .ok vs B A => wt (frz (lends vs B A) σ (lent.go i.vs args)) fun s =>
      outOk { s with B := delks bs s.B, A := delks as_ s.A } bs as_' i.B.length vs B A = true ∧ (left (allMine σ as_) bs as_ as_' B A s).frcIf (fun s => k (retV (renP.go bs as_' vs)) s) bs as_' (lent.go i.vs args)
  | .okI vs B A => wt (frz (lends vs B A) σ (lent.go i.vs args)) fun s =>
      (outOk { s with B := delks bs s.B, A := delks as_ s.A } bs as_' i.B.length vs B A && disj as_ as_') = true ∧ ((left (allMine σ as_) bs as_ as_' B A s).backA as_ as_').frcIf (fun s => k (retV (renP.go bs as_' vs)) s) bs as_' (lent.go i.vs args)
  | .pan v => hasSl v = false ∧ kp v (σ.lost bs (as_ ++ lent.go i.vs args))
  | .panB v B => wt (frz (lends [] B []) σ (lent.go i.vs args)) fun s =>
      (outOk { s with B := delks bs s.B, A := delks as_ s.A } bs as_' i.B.length [] B [] && !(hasSl v)) = true ∧ (left (allMine σ as_) bs as_ as_' B [] s).frc (kp v)
def callW (σ : St) (f : Nat) (args : List PV) (k : PV → St → Prop) (kp : PV → St → Prop) : Prop :=
  ∃ (bs as_ as_' : List Nat) (i : CIn) (o : COut), con f i o ∧ nrm.go σ i.vs args = renP.go bs as_ i.vs ∧ boxesOk σ bs as_ bs i.B ∧ arrsOk σ as_ i.A ∧ callOk σ bs as_ (lent.go i.vs args) i = true ∧ callK bs as_ as_' i args σ k kp o
def quiet : Op → Bool
  | .alloc _ | .box _ _ | .store _ _ _ | .buildSlice _ _ _ | .panic _ | .makeSlice _ _ _ | .defer _ | .makeMap _ _ | .mapUpdate _ _ _ _ | .insert _ _ _ _ | .lookup _ _ _ _ | .range _ _ | .next _ _ | .entry _ => false
  | .call c => match c.callee with
    | .builtin .len => true
    | .builtin .max => true
    | .builtin .min => true
    | _ => false
  | .convert _ _ _ => true
  | _ => true
/-- A builder is born: its own address or nil, a row of its own. -/
def St.born (σ : St) (key E : Nat) (k : St → Prop) : Prop := wt (σ.home [(.cell key 1, key, E, 1)]) fun s => match s.at (.cell key 0) with
  | some .nilp => k (s.set (.selfp key) (.cell key 0))
  | _ => False
/-- The acting operations on maps. -/
def actM (σ : St) (o : Oper) (k : St → Prop) : Prop :=
  match o.op with
  | .makeMap t none => wt o.dst fun d => match lk tb.und t with
    | some (.map kt et) => wt ((lk tb.und kt).bind kyOf) fun ky => wt (lk tb.shp et) fun s => match σ.freshB (d + 1000) with
      | true => k { σ with B := (d + 1000, ⟨1000000, [.md (.cont ky s.1 [])]⟩) :: σ.B, L := (d, .mp (d + 1000)) :: σ.L }
      | false => False
    | _ => False
  | .mapUpdate t x y v => match o.dst with
    | none => match lk tb.und t with
      | some (.map kt et) => wt ((lk tb.und kt).bind kyOf) fun ky => wt (lk tb.shp et) fun s => wt (σ.ev v) fun v0 => wt (σ.freeze (refsP v0)) fun σ => wt (σ.ev x) fun u => wt (σ.ev y) fun kv => wt (σ.ev v) fun v =>
        wt (toKey ky kv) fun kd => wt (toDs (match lk cty et with | some c => c | none => []) (cellsOf v)) fun vd => wt (mapAt σ ky s.1 u) fun m => match aggQ s.1 v with
        | true => Ex (some (mputD m.2 kd vd)) fun l => k { σ with B := setk m.1 ⟨1000000, [.md (.cont ky s.1 l)]⟩ σ.B }
        | false => False
      | _ => False
    | some _ => False
  | .insert t x y v => match o.dst with
    | none => match lk tb.und t with
      | some (.map kt et) => wt ((lk tb.und kt).bind kyOf) fun ky => wt (lk tb.shp et) fun s => wt (σ.ev v) fun v0 => wt (σ.freeze (refsP v0)) fun σ => wt (σ.ev x) fun u => wt (σ.ev y) fun kv => wt (σ.ev v) fun v =>
        wt (toKey ky kv) fun kd => wt (toDs (match lk cty et with | some c => c | none => []) (cellsOf v)) fun vd => wt (mapAt σ ky s.1 u) fun m => match aggQ s.1 v with
        | true => Ex (some (mputD m.2 kd vd)) fun l => k { σ with B := setk m.1 ⟨1000000, [.md (.cont ky s.1 l)]⟩ σ.B }
        | false => False
      | _ => False
    | some _ => False
  | .lookup t x y c => wt o.dst fun d => match lk tb.und t with
    | some (.map kt et) => wt ((lk tb.und kt).bind kyOf) fun ky => wt (lk tb.shp et) fun s => wt (lk tb.zer et) fun z => wt (σ.ev x) fun u => wt (σ.ev y) fun kv => wt (toKey ky kv) fun kd =>
      wt (toDs (match lk cty et with | some c => c | none => []) (cellsOf (ofV z))) fun zd => wt (mapAt σ ky s.1 u) fun m => match aggQ s.1 (ofV z) with
      | true => Ex (some (mgetD m.2 kd zd)) fun ds => wt (aggOf s.1 s.2 (ofDs ds)) fun r => match c with
        | false => k { σ with L := (d, r) :: σ.L }
        | true => Ex (some (mhasD m.2 kd)) fun b => k { σ with L := (d, .tup [r, .bool b]) :: σ.L }
      | false => False
    | _ => False
  | .range t x => wt o.dst fun d => match lk tb.und t with
    | some (.map kt et) => wt ((lk tb.und kt).bind kyOf) fun ky => wt (lk tb.shp et) fun s => wt (σ.ev x) fun u => wt (mapAt σ ky s.1 u) fun m => match Nat.ble 1000 m.1 && ({ σ with B := delk m.1 σ.B } : St).freshB (d + 1000) with
      | true => k { σ with B := (d + 1000, ⟨2000000, [.md (.it ky s.1 none m.2)]⟩) :: delk m.1 σ.B, L := (d, .ptr (d + 1000) 0) :: σ.L }
      | false => False
    | _ => False
  | .next x false => wt o.dst fun d => wt (σ.ev x) fun u => match u with
    | .ptr b off => wt (lk σ.B b) fun e => match e.cs with
      | [.md (.it ky g _ rem)] => match Nat.beq off 0 && Nat.beq e.T 2000000 with
        | true => NxW rem (k { σ with L := (d, .tup [.bool false]) :: σ.L }) fun x r => k { σ with B := setk b ⟨2000000, [.md (.it ky g (some x) r)]⟩ σ.B, L := (d, .tup [.bool true, .undef, .undef]) :: σ.L }
        | false => False
      | _ => False
    | _ => False
  | .entry x => wt o.dst fun d => wt (σ.ev x) fun u => match u with
    | .ptr b off => wt (lk σ.B b) fun e => match e.cs with
      | [.md (.it _ g (some (kd :: ds)) _)] => match Nat.beq off 0 && Nat.beq e.T 2000000 with
        | true => wt (aggOf g ds.length (ofDs ds)) fun r => k { σ with L := (d, .tup [ofD kd, r]) :: σ.L }
        | false => False
      | _ => False
    | _ => False
  | .call c => match c.callee, c.args.toList, c.argTypes.toList with
    | .builtin .delete, [x, y], t :: _ => match o.dst with
      | none => match lk tb.und t with
        | some (.map kt et) => wt ((lk tb.und kt).bind kyOf) fun ky => wt (lk tb.shp et) fun s => wt (σ.ev x) fun u => wt (σ.ev y) fun kv => wt (toKey ky kv) fun kd => wt (mapAt σ ky s.1 u) fun m =>
          Ex (some (mdelD m.2 kd)) fun l => k { σ with B := setk m.1 ⟨1000000, [.md (.cont ky s.1 l)]⟩ σ.B }
        | _ => False
      | some _ => False
    | _, _, _ => False
  | _ => False
/-- A box that is stored to once, as_ a whole, and then only read. -/
def roSt : Operand → Option Nat
  | .tmp d => match ann.ro.any (Nat.beq d) with
    | true => some d
    | false => none
  | _ => none
/-- Nothing but the slot d leads to the box b. -/
def St.freeB (σ : St) (d b : Nat) : Bool := σ.L.all (fun p => Nat.beq p.1 d || noK (some b) none p.2) && (delk b σ.B).all (fun p => noKs (some b) none p.2.cs)
/-- Such a store: what the box holds is data from now on. -/
def stR (σ : St) (n T d : Nat) (y : Operand) (k : St → Prop) : Prop := wt (σ.ev y) fun v0 => wt (σ.freeze (refsP v0)) fun σ => wt (lk σ.L d) fun u => wt (σ.ev y) fun v => match u with
  | .ptr b off => wt (lkB σ.B b) fun e => wt (toDs (match lk cty T with | some c => c | none => []) (cellsOf v)) fun ds => match Nat.beq off 0 && Nat.ble 1000 b && Nat.beq e.cs.length n && Nat.beq (cellsOf v).length n && (cellsOf v).all oneP && σ.freeB d b with
    | true => k { σ with B := delk b σ.B, L := (d, .cptr ds 0) :: σ.L }
    | false => False
  | _ => False
/-- What a box holds behind a store. -/
def stC (cs : List PV) (off n : Nat) (vs : List PV) : Option (List PV) := match Nat.beq vs.length n && Nat.ble (off + n) cs.length && vs.all oneP with
  | true => some (cs.take off ++ vs ++ cs.drop (off + n))
  | false => none
def act (σ : St) (o : Oper) (k : St → Prop) (kp : PV → St → Prop) : Prop :=
  match o.op with
  | .alloc T => wt o.dst fun d => wt (lk tb.zer T) fun z => match σ.freshB (d + 1000) && Nat.blt T 1000000 with
    | true => match lk tb.bld T with
      | none => k { σ with B := (d + 1000, ⟨T, cellsOf (ofV z)⟩) :: σ.B, L := (d, .ptr (d + 1000) 0) :: σ.L }
      | some E => ({ σ with B := (d + 1000, ⟨T, cellsOf (ofV z)⟩) :: σ.B, L := (d, .ptr (d + 1000) 0) :: σ.L } : St).born (d + 1000) E k
    | false => False
  | .box T x => wt o.dst fun d => wt (σ.ev x) fun v => match ann.ro.any (Nat.beq d) with
    | true => wt (toDs (match lk cty T with | some c => c | none => []) (cellsOf v)) fun ds => match !(isUndef v) with
      | true => k { σ with L := (d, .cptr ds 0) :: σ.L }
      | false => False
    | false => match σ.freshB (d + 1000) && !(isUndef v) && Nat.blt T 1000000 with
      | true => k { σ with B := (d + 1000, ⟨T, cellsOf v⟩) :: σ.B, L := (d, .ptr (d + 1000) 0) :: σ.L }
      | false => False
  | .store T x y => match o.dst with
    | none => wt (lk tb.shp T) fun s => (match roSt ann x with
    | some d => stR cty σ s.2 T d y k
    | none => wt (σ.ev x) fun u => wt (σ.ev y) fun v => (match u with
    | .ptr b off => wt (lkB σ.B b) fun e => wt (stC e.cs off s.2 (cellsOf v)) fun cs => k { σ with B := setk b (e.wc cs) σ.B }
    | .eptr a m i 0 => wt (σ.freeze (refsP v)) fun σ => wt (lkO σ.A a) fun e => wt (σ.ev y) fun v => wt (toDs (match lk cty e.T with | some c => c | none => []) (cellsOf v)) fun ds => match Nat.beq ds.length e.n && Nat.beq s.2 e.n && Nat.beq e.n m && (cellsOf v).all oneP with
      | true => Ex (setx e.l i ds) fun l => k { σ with A := setk a (e.wl l) σ.A }
      | false => False
    | _ => False))
    | some _ => False
  | .buildSlice t n parts => wt o.dst fun d => match lk tb.und t with
    | some (.slice e) => wt (σ.evs (parts.toList.map (·.2))) fun us => wt (σ.freeze (refsP.go us)) fun σ => wt (σ.evs (parts.toList.map (·.2))) fun us => wt (lk tb.shp e) fun s => wt (lk tb.zer e) fun z =>
      wt (elsD (match lk cty e with | some c => c | none => []) us) fun ds => match rangeOk 0 (parts.toList.map (·.1)) && Nat.beq us.length n && Nat.beq z.cells.size s.2 && Nat.ble (n * s.2) 16777216 && Nat.ble n 16777216 && us.all (fun x => !(isUndef x)) && ds.all (fun x => Nat.beq x.length s.2) with
      | true => match ann.own.any (Nat.beq d) with
        | true => match σ.freshA (d + 1000) && Nat.blt e 1000000 with
          | true => k { σ with A := (d + 1000, ⟨true, e, s.2, ds⟩) :: σ.A, L := (d, .ref (d + 1000)) :: σ.L }
          | false => False
        | false => k { σ with L := (d, .sl e s.2 ds) :: σ.L }
      | false => False
    | _ => False
  | .panic x => wt (σ.ev x) fun v => match v with
    | .iface _ _ => kp v σ
    | _ => False
  | .convert s t x => wt o.dst fun d => wt (σ.ev x) fun u => match u, lk tb.und s, lk tb.und t with
    | .str s, some .string, some (.slice e) => match lk tb.und e with
      | some (.int .u8) => Ex (chk (decide (s.length ≤ 9223372036854775807))) fun _ => match ann.own.any (Nat.beq d) with
        | true => match σ.freshA (d + 1000) with
          | true => k { σ with A := (d + 1000, ⟨true, e + 2000000, 1, bytD s⟩) :: σ.A, L := (d, .ref (d + 1000)) :: σ.L }
          | false => False
        | false => k { σ with L := (d, .sl e 1 (bytD s)) :: σ.L }
      | _ => False
    | .sl _ 1 l, some (.slice e), some .string => match lk tb.und e with
      | some (.int .u8) => Ex (dby l) fun s => k { σ with L := (d, .str s) :: σ.L }
      | _ => False
    | .ref a, some (.slice e), some .string => wt (lkO σ.A a) fun x => match lk tb.und e, Nat.beq x.n 1 with
      | some (.int .u8), true => Ex (dby x.l) fun s => k { σ with L := (d, .str s) :: σ.L }
      | _, _ => False
    | _, _, _ => False
  | .call c => match c.callee, c.args.toList with
    | .builtin .append, [x, y] => wt o.dst fun d => wt (σ.ev x) fun u => wt (σ.ev y) fun v => match c.argTypes.toList with
      | [t, t2] => match lk tb.und t with
        | some (.slice e) => wt (lk tb.inf e) fun inf => wt (σ.freeze (refsP v)) fun σ => wt (σ.ev y) fun v => wt (apL tb t t2 inf v) fun l2 => match Nat.beq inf.1.cells.size inf.2.1 && Nat.blt 0 inf.2.1 && Nat.blt 0 inf.2.2 with
          | true => match u with
            | .nil => match σ.freshA (d + 1000) && Nat.blt e 1000000 with
              | true => Ex (app inf.2.2 [] l2) fun r => k { σ with A := (d + 1000, ⟨true, e, inf.2.1, r⟩) :: σ.A, L := (d, .ref (d + 1000)) :: σ.L }
              | false => False
            | .ref a => match lkM σ.A a with
              | some x => match ({ σ with A := delk a σ.A } : St).freshA (d + 1000) && Nat.beq x.T (e + 2000000) && Nat.beq x.n 1 && strP v with
                | true => Ex (app inf.2.2 x.l l2) fun r => k { σ with A := (d + 1000, x.wl r) :: delk a σ.A, L := (d, .ref (d + 1000)) :: σ.L }
                | false => False
              | none => wt (lkU σ.A a) fun x => match ({ σ with A := delk a σ.A } : St).freshA (d + 1000) && Nat.beq x.T e && Nat.beq x.n inf.2.1 with
                | true => Ex (app inf.2.2 x.l l2) fun r => k { σ with A := (d + 1000, x.wl r) :: delk a σ.A, L := (d, .ref (d + 1000)) :: σ.L }
                | false => False
            | _ => False
          | false => False
        | _ => False
      | _ => False
    | .value x, args => wt (σ.evs args) fun vs => match σ.ev x with
      | some (.fn f as_ cs) => callW con σ f (as_ ++ vs ++ cs) (fun v σ => k (σ.put o.dst v)) kp
      | _ => False
    | _, _ => actM tb cty σ o k
  | _ => actM tb cty σ o k
/-- Which conversions act. -/
def actsC (s t : Option TypeDesc) : Bool := match s, t with
  | some .string, some (.slice _) => true
  | some (.slice _), some .string => true
  | _, _ => false
def run (σ : St) (o : Oper) (k : St → Prop) (kp : PV → St → Prop) : Prop :=
  match (match o.op with
    | .convert s t _ => !actsC (lk tb.und s) (lk tb.und t)
    | op => quiet op) with
  | true => qop tb σ o.op fun v => (σ.put o.dst v).go k
  | false => act tb cty ann con σ o (fun σ => σ.frs k) kp
/-- The slot s is known. -/
def St.setB (σ : St) (s : Nat) (b : Bool) : St := σ.pu s (.bool b)
def exo (ops : Array Oper) (σ : St) (o : Oper) (k : St → Prop) (kp : PV → St → Prop) : Prop :=
  match o.guard with
  | none => run tb cty ann con σ o k kp
  | some (j, b) => match (opAt ops j).bind (·.dst) with
    | none => False
    | some s => match lk σ.L s with
      | some (.bool c) => match b with
        | true => cond c ((σ.setB s true).go fun σ => run tb cty ann con σ o k kp) (((σ.setB s false).put o.dst .gone).go k)
        | false => cond c (((σ.setB s true).put o.dst .gone).go k) ((σ.setB s false).go fun σ => run tb cty ann con σ o k kp)
      | some .gone => (σ.put o.dst .gone).go k
      | _ => False
def exops (ops : Array Oper) (kp : PV → St → Prop) (k : St → Prop) : List Oper → St → Prop
  | [], σ => k σ
  | o :: os, σ => exo tb cty ann con ops σ o (fun σ => exops ops kp k os σ) kp
def exsegs (ops : Array Oper) (kp : PV → St → Prop) (k : St → Prop) : List (Nat × Nat × Cut) → List Oper → St → Prop
  | [], os, σ => exops tb cty ann con ops kp k os σ
  | (n0, m, c) :: r, os, σ => exops tb cty ann con ops kp (fun σ => ∃ J : St → Prop, exops tb cty ann con ops kp (fun s => s.cutK c J) ((os.drop n0).take m) σ ∧ ∀ s, J s → s.frc fun s => exsegs ops kp k r ((os.drop n0).drop m) s) (os.take n0) σ

/-! Regions of open order. -/
def isQuiet (o : Oper) : Bool := match o.op with
  | .convert s t _ => !actsC (lk tb.und s) (lk tb.und t)
  | op => quiet op
/-- None of these looks at the slot d, or is told there. -/
def clearD (ops : Array Oper) (d : Nat) : List Nat → Bool
  | [] => true
  | q :: r => (match ops[q]? with
    | some o => (match o.dst with
      | some e => !(Nat.beq e d)
      | none => true) && !((o.looksAt ops).any (Nat.beq d))
    | none => true) && clearD ops d r
/-- What is told turns nothing that others of before look at. -/
def clrQ (ops : Array Oper) : List Nat → List Nat → Bool
  | [], _ => true
  | q :: r, dn => (match ops[q]? with
    | some o => match o.dst with
      | some d => clearD ops d dn && !((o.looksAt ops).any (Nat.beq d))
      | none => true
    | none => true) && clrQ ops r (q :: dn)
def keepN (kp dn : List Nat) : List Nat := dn.filter fun p => kp.any (Nat.beq p)
def clrN (ops : Array Oper) (e : Nat) (kpl qs2 dn1 : List Nat) : Bool := (match ops[e]? with
    | some o => match o.dst with
      | some d => clearD ops d (keepN kpl dn1)
      | none => true
    | none => true) && clrQ ops qs2 (keepN kpl dn1)
def clrA (ops : Array Oper) : Gt → List Nat → Bool
  | .fin, _ => true
  | .one e kpl qs2 sub, dn1 => clrN ops e kpl qs2 dn1 && clrA ops sub (qs2.reverse ++ keepN kpl dn1)
  | .alt e kpl qs2 sub r, dn1 => clrN ops e kpl qs2 dn1 && clrA ops sub (qs2.reverse ++ keepN kpl dn1) && clrA ops r dn1
def clrG (ops : Array Oper) (g : Gt) (qs : List Nat) : Bool := clrQ ops qs [] && clrA ops g qs.reverse
/-- Only what the operation looks at. -/
def St.only (σ : St) (ops : Array Oper) (o : Oper) : St := { σ with L := keepK (o.looksAt ops) σ.L }
/-- What it gives hangs on no world. -/
def stb (σ : St) (op : Op) : Bool := match op with
  | .load _ x => match σ.ev x with
    | some (.cptr _ _) => true
    | _ => false
  | .call c => match c.args.toList with
    | [x] => match σ.ev x with
      | some (.mp _) => false
      | _ => true
    | _ => true
  | _ => true
def exq (ops : Array Oper) (σ : St) (dn : List (Nat × Bool)) (q : Nat) (k : St → List (Nat × Bool) → Prop) : Prop := match opAt ops q with
  | none => False
  | some o => match o.dst, isQuiet tb o with
    | some d, true => match o.guard with
      | none => qop tb σ o.op fun v => (σ.put (some d) v).go fun s' => k s' ((q, stb σ o.op) :: dn)
      | some (j, b) => match (opAt ops j).bind (·.dst) with
        | none => False
        | some s => match lk σ.L s with
          | some (.bool c) => match b with
            | true => cond c ((σ.setB s true).go fun σ => qop tb σ o.op fun v => (σ.put (some d) v).go fun s' => k s' ((q, stb σ o.op) :: dn)) (((σ.setB s false).put (some d) .gone).go fun s' => k s' ((q, true) :: dn))
            | false => cond c (((σ.setB s true).put (some d) .gone).go fun s' => k s' ((q, true) :: dn)) ((σ.setB s false).go fun σ => qop tb σ o.op fun v => (σ.put (some d) v).go fun s' => k s' ((q, stb σ o.op) :: dn))
          | some .gone => (σ.put (some d) .gone).go fun s' => k s' ((q, true) :: dn)
          | _ => False
    | _, _ => False
def exqs (ops : Array Oper) : List Nat → St → List (Nat × Bool) → (St → List (Nat × Bool) → Prop) → Prop
  | [], σ, dn, k => k σ dn
  | q :: r, σ, dn, k => exq tb ops σ dn q fun σ dn => exqs ops r σ dn k
/-- There is one value only that v says. -/
def detP : PV → Bool
  | .int _ _ => true
  | .bool _ => true
  | .str _ => true
  | .nil => true
  | .ref _ => true
  | .ptr _ _ => true
  | .nilI => true
  | .nilp => true
  | .agg cs => go cs
  | .tup cs => go cs
  | .iface _ v => detP v
  | _ => false
where
  go : List PV → Bool
    | [] => true
    | v :: vs => detP v && go vs
/-- Those of before that hang on the world are as_ they were. -/
def rechk (ops : Array Oper) (σ : St) : List (Nat × Bool) → Prop
  | [] => True
  | (_, true) :: r => rechk ops σ r
  | (q, false) :: r => (match ops[q]? with
    | some o => match o.dst with
      | some d => match lk σ.L d with
        | some v => detP v = true ∧ qop tb σ o.op fun v' => v' = v
        | none => False
      | none => False
    | none => False) ∧ rechk ops σ r
def keptOf (kp : List Nat) (dn : List (Nat × Bool)) : List (Nat × Bool) := dn.filter fun p => kp.any (Nat.beq p.1)
/-- A cut behind an operation, if there is one. -/
def rst (cs : List (Nat × Cut)) (e : Nat) (σ : St) (k : St → Prop) : Prop := match lk cs e with
  | some c => ∃ J : St → Prop, σ.cutK c J ∧ ∀ s, J s → s.frc k
  | none => k σ
/-- The choices: each of them. -/
def exalt (ops : Array Oper) (cs : List (Nat × Cut)) (kp : PV → St → Prop) (k : St → Prop) : Gt → List (Nat × Bool) → St → Prop
  | .fin, _, σ => k σ
  | .one e kpl qs2 g, dn1, σ1 => match opAt ops e with
    | some o => exo tb cty ann con ops σ1 o (fun σ2 => rst cs e σ2 fun σ2 => exqs tb ops qs2 σ2 (keptOf kpl dn1) fun σ3 dn3 => rechk tb ops σ3 (keptOf kpl dn1) ∧ exalt ops cs kp k g dn3 σ3) kp
    | none => False
  | .alt e kpl qs2 g r, dn1, σ1 => (match opAt ops e with
    | some o => exo tb cty ann con ops σ1 o (fun σ2 => rst cs e σ2 fun σ2 => exqs tb ops qs2 σ2 (keptOf kpl dn1) fun σ3 dn3 => rechk tb ops σ3 (keptOf kpl dn1) ∧ exalt ops cs kp k g dn3 σ3) kp
    | none => False) ∧ exalt ops cs kp k r dn1 σ1
def exdraw (ops : Array Oper) (cs : List (Nat × Cut)) (kp : PV → St → Prop) (k : St → Prop) (g : Gt) (qs : List Nat) (σ : St) : Prop :=
  exqs tb ops qs σ [] fun σ1 dn1 => rechk tb ops σ1 [] ∧ exalt tb cty ann con ops cs kp k g dn1 σ1
/-- A chain, as_ one row. -/
inductive It where
  | q (q : Nat)
  | a (e : Nat) (kpl : List Nat)
def qsIt : List Nat → List It → List It
  | [], r => r
  | q :: qs, r => .q q :: qsIt qs r
def itsOf : Gt → List It
  | .fin => []
  | .one e kpl qs sub => .a e kpl :: qsIt qs (itsOf sub)
  | .alt _ _ _ _ _ => []
def chainG : Gt → Bool
  | .fin => true
  | .one _ _ _ sub => chainG sub
  | .alt _ _ _ _ _ => false
def dnI : It → List Nat → List Nat
  | .q q, dn => q :: dn
  | .a _ kpl, dn => keepN kpl dn
def clrI (ops : Array Oper) : List It → List Nat → Bool
  | [], _ => true
  | .q q :: r, dn => clrQ ops [q] dn && clrI ops r (dnI (.q q) dn)
  | .a e kpl :: r, dn => (match ops[e]? with
    | some o => match o.dst with
      | some d => clearD ops d (keepN kpl dn)
      | none => true
    | none => true) && kpl.all (fun q => dn.any (Nat.beq q)) && clrI ops r (dnI (.a e kpl) dn)
def allT : List (Nat × Bool) → Bool
  | [] => true
  | (_, b) :: r => b && allT r
/-- An operation that hangs on no world, whatever is known. -/
def synQ : Op → Bool
  | .load _ _ => false
  | .call _ => false
  | _ => true
def synO (ops : Array Oper) (q : Nat) : Bool := match opAt ops q with
  | some o => synQ o.op
  | none => true
def frDn : List (Nat × Bool) → (List (Nat × Bool) → Prop) → Prop
  | [], k => k []
  | (q, true) :: r, k => frDn r fun r => k ((q, true) :: r)
  | (q, false) :: r, k => frDn r fun r => k ((q, false) :: r)
theorem frDn_eq : ∀ (l : List (Nat × Bool)) (k : List (Nat × Bool) → Prop), frDn l k = k l
  | [], _ => rfl
  | (q, true) :: r, k => by rw [frDn, frDn_eq r]
  | (q, false) :: r, k => by rw [frDn, frDn_eq r]
def ex1 (ops : Array Oper) (kp : PV → St → Prop) : It → St → List (Nat × Bool) → (St → List (Nat × Bool) → Prop) → Prop
  | .q q, σ, dn, k => exq tb ops σ dn q k
  | .a e kpl, σ, dn, k => frDn (keptOf kpl dn) fun dn => match allT dn with
    | true => match opAt ops e with
      | some o => exo tb cty ann con ops σ o (fun s => k s dn) kp
      | none => False
    | false => False
def exits (ops : Array Oper) (kp : PV → St → Prop) (k : St → List (Nat × Bool) → Prop) : List It → St → List (Nat × Bool) → Prop
  | [], σ, dn => k σ dn
  | i :: r, σ, dn => ex1 tb cty ann con ops kp i σ dn fun σ dn => exits ops kp k r σ dn
def dnIs : List It → List Nat → List Nat
  | [], dn => dn
  | i :: r, dn => dnIs r (dnI i dn)
def dnA (ops : Array Oper) (l : List It) (dn : List (Nat × Bool)) : List (Nat × Bool) := (dnIs l (dn.map (·.1))).map fun q => (q, synO ops q)
def exlin (ops : Array Oper) (kp : PV → St → Prop) (k : St → Prop) : List (Nat × Nat × Cut) → List It → St → List (Nat × Bool) → Prop
  | [], its, σ, dn => exits tb cty ann con ops kp (fun s _ => k s) its σ dn
  | (n0, m, c) :: r, its, σ, dn => exits tb cty ann con ops kp (fun σ dn => ∃ J : St → Prop, exits tb cty ann con ops kp (fun s _ => s.cutK c J) ((its.drop n0).take m) σ dn ∧ ∀ s, J s → s.frc fun s => exlin ops kp k r ((its.drop n0).drop m) s (dnA ops ((its.drop n0).take m) dn)) (its.take n0) σ dn
def exreg (ops : Array Oper) (kp : PV → St → Prop) (k : St → Prop) (d : Drw) (σ : St) : Prop := match d.lin with
  | some l => exlin tb cty ann con ops kp k l (qsIt d.qs (itsOf d.g)) σ []
  | none => match d.c with
    | none => exdraw tb cty ann con ops d.cs kp k d.g d.qs σ
    | some c => ∃ J : St → Prop, exdraw tb cty ann con ops d.cs kp (fun s => s.cutK c J) d.g d.qs σ ∧ ∀ s, J s → s.frc k

inductive Flow where
  | normal
  | exit (i : Nat)
  | ret
  | pan (v : PV)
/-- What follows where a part ends by itself. -/
def kSeq (f : St → Prop) (k : Flow → St → Prop) : Flow → St → Prop
  | .normal, s => f s
  | .exit i, s => k (.exit i) s
  | .ret, s => k .ret s
  | .pan v, s => k (.pan v) s
def kBlk (i : Nat) (k : Flow → St → Prop) : Flow → St → Prop
  | .normal, s => k .normal s
  | .exit j, s => match Nat.beq i j with
    | true => k .normal s
    | false => k (.exit j) s
  | .ret, s => k .ret s
  | .pan v, s => k (.pan v) s
def firstR : Code → Option Nat
  | .region i _ _ => some i
  | .seq a b => match firstR a with
    | some i => some i
    | none => firstR b
  | .cond _ a b => match firstR a with
    | some i => some i
    | none => firstR b
  | .block _ a => firstR a
  | .loop a => firstR a
  | .scope a => firstR a
  | .exit i => some (1000000 + i)
  | _ => none
def cutOf (l : List (Nat × Cut)) (c : Code) : Option Cut := match firstR c with
  | some i => lk l i
  | none => none
/-- The least that is closed under 'step'. -/
def LW (step : (St → Prop) → St → Prop) (σ : St) : Prop := ∀ I : St → Prop, (∀ s, step I s → I s) → I σ
def ex : Code → St → (Flow → St → Prop) → Prop
  | .skip, σ, k => k .normal σ
  | .label _, σ, k => k .normal σ
  | .region id ops dr, σ, k => match dr with
    | false => exsegs tb cty ann con ops (fun v s => k (.pan v) s) (fun s => k .normal s) (match lk ann.reg id with | some l => l | none => []) ops.toList σ
    | true => wt (lk ann.drw id) fun d => exreg tb cty ann con ops (fun v s => k (.pan v) s) (fun s => k .normal s) d σ
  | .seq a b, σ, k => match cutOf ann.seq b with
    | some c => ∃ J : St → Prop, ex a σ (kSeq (fun s => s.cutK c J) k) ∧ ∀ s, J s → s.frc fun s => ex b s k
    | none => ex a σ (kSeq (fun s => ex b s k) k)
  | .cond c a b, σ, k => match σ.ev c with
    | some (.bool x) => cond x (ex a σ k) (ex b σ k)
    | _ => False
  | .block i a, σ, k => ex a σ (kBlk i k)
  | .exit i, σ, k => k (.exit i) σ
  | .ret, σ, k => k .ret σ
  | .loop a, σ, k => wt (cutOf ann.loop a) fun c => σ.cutK c fun σ => LW (fun I s => s.frc fun s => ex a s (kSeq (fun s => s.cutK c I) k)) σ
  | _, _, _ => False
end
end
section
open Go.RowKit Go.Lk
def en {β : Type} : Nat → List β → List (Nat × β)
  | _, [] => []
  | i, x :: r => (i, x) :: en (i + 1) r
def entry (i : CIn) : St := { L := en 0 i.vs, B := en 0 i.B, A := en 0 (i.A.map fun e => (⟨false, e.1, e.2.1, e.2.2⟩ : Arr)) }
def resV (tb : Tb) (σ : St) : List ResultVar → Option (List PV)
  | [] => some []
  | .tmp t :: r => match lk σ.L t, resV tb σ r with
    | some v, some vs => some (v :: vs)
    | _, _ => none
  | .cell t T :: r => match lk σ.L t with
    | some (.ptr b 0) => match lkB σ.B b, lk tb.shp T with
      | some e, some s => match Nat.beq e.cs.length s.2, aggOf s.1 s.2 e.cs, resV tb σ r with
        | true, some v, some vs => some (v :: vs)
        | _, _, _ => none
      | _, _ => none
    | _ => none
def rslots : List ResultVar → List Nat
  | [] => []
  | .tmp t :: r => t :: rslots r
  | .cell t _ :: r => t :: rslots r
/-- Which boxes the places' pointers lead to. -/
def St.keysAt (σ : St) : List Place → Option (List Nat)
  | [] => some []
  | p :: r => match σ.at p, σ.keysAt r with
    | some (.ptr b 0), some l => some (b :: l)
    | _, _ => none
def rng : Nat → Nat → List Nat
  | 0, _ => []
  | n + 1, i => i :: rng n (i + 1)
def arrsOut (σ : St) : Nat → List (Option (Nat × Nat × List (List D))) → Prop
  | _, [] => True
  | i, none :: r => arrsOut σ (i + 1) r
  | i, some e :: r => (match lk σ.A i with
    | some x => x.T = e.1 ∧ x.n = e.2.1 ∧ x.l = e.2.2
    | none => False) ∧ arrsOut σ (i + 1) r
def finO (tb : Tb) (ann : Ann) (res : List ResultVar) (σ : St) (vs : List PV) (B : List Bx) (A : List (Option (Nat × Nat × List (List D)))) : Prop :=
  wt (({ σ with L := keepK (rslots res) σ.L } : St).home ann.fin) fun σ => wt (resV tb σ res) fun rs => wt (σ.freeze (lent.go vs rs)) fun σ' => wt (σ.keysAt ann.finB) fun nk =>
    nrm.go σ vs rs = renP.go (rng ann.nb 0 ++ nk) (rng A.length 0) vs ∧ boxesOk σ' (rng ann.nb 0 ++ nk) (rng A.length 0) (rng ann.nb 0 ++ nk) B ∧ arrsOut σ' 0 A ∧
    (inR.go B.length A.length vs && B.all (fun e => inR.go B.length A.length e.cs) && nodupN nk && nk.all (Nat.ble 1000) && Nat.beq B.length (ann.nb + nk.length)) = true
/-- What is shown of a function's end. -/
def fin (tb : Tb) (ann : Ann) (res : List ResultVar) (out : COut) : Flow → St → Prop
  | .ret, σ => match out with
    | .ok vs B A => finO tb ann res σ vs B A
    | _ => False
  | .normal, σ => match out with
    | .ok vs B A => finO tb ann res σ vs B A
    | _ => False
  | .pan v, σ => match out with
    | .panB v' B => v' = v ∧ hasSl v' = false ∧ finO tb { nb := ann.nb } [] σ [] B []
    | o => o = .pan v
  | .exit _, _ => False
def bodyOf (f : Func) : Code := match f.body with
  | some c => c
  | none => .refuse ""

/-- Whatever the model's y comes to, W holds of it. -/
def S {R : Type} (y : Option R) (W : R → Prop) : Prop := ∀ r, y = some r → W r
section
variable {R A : Type} {W W1 W2 : R → Prop} {y y1 y2 : Option R}
theorem S.cb {b : Bool} (h1 : S y1 W1) (h2 : S y2 W2) : S (if b = true then y1 else y2) (fun r => cond b (W1 r) (W2 r)) := by
  intro r h
  cases b with
  | true => exact h1 r h
  | false => exact h2 r h
theorem S.e {z : Option A} {F : R → A → Prop} {g : A → Option R} (h : ∀ a, S (g a) (fun r => F r a)) : S (z >>= g) (fun r => Ex z (F r)) := by
  intro r hm
  obtain ⟨a, h1, h2⟩ := bnd hm
  exact ⟨a, h1, h a r h2⟩
theorem S.eq {z : Option A} {F : R → A → Prop} {a : A} (hz : z = some a) (h : S y (fun r => F r a)) : S y (fun r => Ex z (F r)) := fun r hm => ⟨a, hz, h r hm⟩
theorem S.z {a : R} (h : W a) : S (some a) W := fun r e => by cases e; exact h
theorem S.ix {X : Type} {f c : X → List D} {l : List (List D)} {xs : List X} {i : Int} {F : R → List D → Prop} {g : X → Option R} (hl : l = xs.map f) (hc : ∀ x, f x = c x) (h : ∀ x, S (g x) (fun r => F r (c x))) : S (Go.Lk.ix xs i >>= g) (fun r => Ex (Go.Lk.ix l i) (F r)) := by
  intro r hm
  obtain ⟨a, h1, h2⟩ := bnd hm
  obtain ⟨j, rfl, h3⟩ := ix_some h1
  exact ⟨f a, by rw [hl]; simp [Go.Lk.ix, h3], by rw [hc]; exact h a r h2⟩
theorem S.sub {X : Type} {f : X → List D} {l : List (List D)} {xs : List X} {i j : Int} {F : R → List (List D) → Prop} {g : List X → Option R} (hl : l = xs.map f) (h : ∀ x, S (g x) (fun r => F r (x.map f))) : S (Go.Lk.sub xs i j >>= g) (fun r => Ex (Go.Lk.sub l i j) (F r)) := by
  intro r hm
  obtain ⟨a, h1, h2⟩ := bnd hm
  refine ⟨a.map f, ?_, h a r h2⟩
  subst hl
  unfold Go.Lk.sub at h1 ⊢
  split at h1
  · rename_i hc
    cases h1
    rw [if_pos (by simpa using hc)]
    simp
  · cases h1
theorem S.app {X : Type} {f : X → List D} {l l2 : List (List D)} {xs ys : List X} {n : Nat} {F : R → List (List D) → Prop} {g : List X → Option R} (hl : l = xs.map f) (hl2 : l2 = ys.map f) (h : ∀ x, S (g x) (fun r => F r (x.map f))) : S (Go.Lk.app n xs ys >>= g) (fun r => Ex (Go.Lk.app n l l2) (F r)) := by
  intro r hm
  obtain ⟨a, h1, h2⟩ := bnd hm
  refine ⟨a.map f, ?_, h a r h2⟩
  subst hl hl2
  unfold Go.Lk.app at h1 ⊢
  split at h1
  · rename_i hc
    cases h1
    rw [if_pos (by simpa using hc)]
    simp
  · cases h1
/-- A cut: what the first part comes to has the shape 'sh a'. -/
theorem S.j {B : R → St → Prop} {A' : R → (St → Prop) → Prop} {z : Option A} {g : A → Option R} (sh : A → St) (hA : ∀ r, S z fun a => A' r fun s => s = sh a) (hB : ∀ a, S (g a) (fun r => B r (sh a))) : S (z >>= g) (fun r => ∃ J : St → Prop, A' r J ∧ ∀ s, J s → B r s) := by
  intro r hm
  obtain ⟨a, h1, h2⟩ := bnd hm
  exact ⟨_, hA r a h1, fun s hs => by subst hs; exact hB a r h2⟩
theorem cnd {b : Bool} {p q : Prop} (h1 : b = true → p) (h2 : b = false → q) : cond b p q := by
  cases b with
  | true => exact h1 rfl
  | false => exact h2 rfl
/-- A call. -/
theorem S.k {con : Nat → CIn → COut → Prop} {σ : St} {f : Nat} {args : List PV} {k : R → PV → St → Prop} {kp : R → PV → St → Prop} {z : Option A} {g : A → Option R} {i : CIn} {o : A → COut} (bs as_ as_' : List Nat) (hc : ∀ a, z = some a → con f i (o a))
    (h1 : nrm.go σ i.vs args = renP.go bs as_ i.vs) (h2 : boxesOk σ bs as_ bs i.B) (h3 : arrsOk σ as_ i.A) (h4 : callOk σ bs as_ (lent.go i.vs args) i = true)
    (h : ∀ a, S (g a) (fun r => callK bs as_ as_' i args σ (k r) (kp r) (o a))) : S (z >>= g) (fun r => callW con σ f args (k r) (kp r)) := by
  intro r hm
  obtain ⟨a, h5, h6⟩ := bnd hm
  exact ⟨bs, as_, as_', i, o a, hc a h5, h1, h2, h3, h4, h a r h6⟩
/-- The evaluator is monotone in what follows. -/
theorem wt_mono {α : Type} {z : Option α} {k k' : α → Prop} (h : ∀ a, k a → k' a) (hw : wt z k) : wt z k' := by
  cases z with
  | none => exact hw
  | some a => exact h a hw
theorem Ex_mono {α : Type} {z : Option α} {k k' : α → Prop} (h : ∀ a, k a → k' a) (hw : Ex z k) : Ex z k' := by
  obtain ⟨a, h1, h2⟩ := hw
  exact ⟨a, h1, h a h2⟩
theorem cond_mono {b : Bool} {p q p' q' : Prop} (h1 : p → p') (h2 : q → q') (h : cond b p q) : cond b p' q' := by
  cases b with
  | true => exact h1 h
  | false => exact h2 h
end
end
section
open Go.RowKit Go.Lk
theorem bop_mono {td : TypeDesc} {op : BinOp} {u v : PV} {k k' : PV → Prop} (h : ∀ a, k a → k' a) (hw : bop td op u v k) : bop td op u v k' := by
  revert hw
  unfold bop
  repeat' split
  all_goals first
    | exact fun hw => Ex_mono (fun _ => h _) hw
    | exact fun hw => wt_mono (fun _ => h _) hw
    | exact fun hw => h _ hw
    | exact fun hw => hw
theorem uop_mono {op : UnOp} {u : PV} {k k' : PV → Prop} (h : ∀ a, k a → k' a) (hw : uop op u k) : uop op u k' := by
  revert hw
  unfold uop
  repeat' split
  all_goals first
    | exact fun hw => wt_mono (fun _ => h _) hw
    | exact fun hw => h _ hw
    | exact fun hw => hw
theorem loadE_mono {σ : St} {g : Bool} {n : Nat} {u : PV} {k k' : PV → Prop} (h : ∀ a, k a → k' a) (hw : loadE σ g n u k) : loadE σ g n u k' := by
  revert hw
  unfold loadE
  split
  · refine fun hw => wt_mono (fun _ => ?_) hw
    split <;> first | exact Ex_mono (fun _ => wt_mono h) | exact id
  · exact fun hw => wt_mono h hw
theorem lenM_mono {σ : St} {u : PV} {k k' : Int → Prop} (h : ∀ a, k a → k' a) : lenM σ u k → lenM σ u k' := by
  unfold lenM
  split
  · split
    · split
      · split <;> first | exact Ex_mono h | exact id
      · exact id
    · exact id
  · exact id
theorem lenW_mono {td : TypeDesc} {σ : St} {u : PV} {k k' : Int → Prop} (h : ∀ a, k a → k' a) : lenW td σ u k → lenW td σ u k' := by
  unfold lenW
  split
  · exact h _
  · exact Ex_mono h
  · exact h _
  · exact wt_mono fun _ => Ex_mono h
  · exact lenM_mono h
  · exact id
theorem loW_mono {σ : St} {x : Option Operand} {k k' : Int → Prop} (h : ∀ a, k a → k' a) : loW σ x k → loW σ x k' := by
  unfold loW
  split
  · exact h _
  · split <;> first | exact h _ | exact id
theorem hiW_mono {td : TypeDesc} {σ : St} {u : PV} {x : Option Operand} {k k' : Int → Prop} (h : ∀ a, k a → k' a) : hiW td σ u x k → hiW td σ u x k' := by
  unfold hiW
  split
  · exact lenW_mono h
  · split <;> first | exact h _ | exact id
theorem mmW_mono {b : Bool} {u v : PV} {k k' : PV → Prop} (h : ∀ x, k x → k' x) : mmW b u v k → mmW b u v k' := by
  unfold mmW
  split
  · split <;> first | exact h _ | exact id
  · exact id
theorem nilF_mono {td : TypeDesc} {op : BinOp} {u : PV} {k k' : PV → Prop} (h : ∀ a, k a → k' a) (hw : nilF td op u k) : nilF td op u k' := by
  revert hw
  unfold nilF
  split
  · split <;> first | exact h _ | exact id
  · exact id
theorem arrW_mono {n : Nat} {op : BinOp} {u v : PV} {k k' : PV → Prop} (h : ∀ a, k a → k' a) (hw : arrW n op u v k) : arrW n op u v k' := by
  revert hw
  unfold arrW
  split
  · refine wt_mono fun _ => ?_
    split <;> first | exact h _ | exact id
  · exact id
theorem qop_mono {tb : Tb} {σ : St} {op : Op} {k k' : PV → Prop} (h : ∀ a, k a → k' a) (hw : qop tb σ op k) : qop tb σ op k' := by
  revert hw
  unfold qop
  split
  case h_1 => exact wt_mono h
  case h_2 => exact wt_mono h
  case h_3 => split <;> first | exact wt_mono (fun _ => wt_mono fun _ => cond_mono (h _) (h _)) | exact id
  case h_4 =>
    split
    · split
      · refine wt_mono fun _ => ?_
        split <;> first | exact h _ | exact id
      · exact id
    · split
      · exact wt_mono fun _ => wt_mono fun _ => arrW_mono h
      · refine wt_mono fun _ => wt_mono fun _ => ?_
        split
        · exact nilF_mono h
        · exact wt_mono fun _ => bop_mono h
  case h_5 => exact wt_mono fun _ => uop_mono h
  case h_6 => refine wt_mono fun _ => ?_; split <;> first | exact h _ | exact id
  case h_7 => refine wt_mono fun _ => ?_; split <;> first | exact h _ | exact id
  case h_8 =>
    split
    · exact id
    · exact wt_mono fun _ => wt_mono fun _ => h _
  case h_9 => split <;> first | exact wt_mono h | exact id
  case h_10 => refine wt_mono fun _ => ?_; split <;> first | exact h _ | exact id
  case h_11 => refine wt_mono fun _ => wt_mono fun _ => ?_; split <;> first | exact h _ | exact id
  case h_12 => refine wt_mono fun _ => ?_; split <;> first | exact wt_mono h | exact id
  case h_13 => exact wt_mono fun _ => wt_mono fun _ => loadE_mono h
  case h_14 => split <;> first | exact Ex_mono fun _ => h _ | exact id
  case h_15 =>
    split
    · refine wt_mono fun _ => ?_
      split
      · refine wt_mono fun _ => ?_; split <;> first | exact Ex_mono fun _ => h _ | exact id
      · exact id
    refine wt_mono fun _ => ?_
    split
    · refine wt_mono fun _ => ?_
      split
      · split <;> first | exact Ex_mono fun _ => h _ | exact id
      · refine wt_mono fun _ => ?_; split <;> first | exact Ex_mono fun _ => h _ | exact id
      · exact id
    · exact id
  case h_16 =>
    refine wt_mono fun _ => wt_mono fun _ => loW_mono fun _ => hiW_mono fun _ => ?_
    split
    · exact Ex_mono fun _ => h _
    · refine wt_mono fun _ => ?_; split <;> first | exact Ex_mono fun _ => h _ | exact id
    · exact id
  case h_17 => split <;> first | exact wt_mono fun _ => wt_mono fun _ => lenW_mono fun _ => h _ | exact wt_mono fun _ => wt_mono fun _ => mmW_mono fun _ => h _ | exact id
  case h_19 =>
    refine wt_mono fun _ => ?_
    split
    · split <;> first | exact h _ | exact id
    · exact wt_mono fun _ => wt_mono fun _ => by simp only [frcW_eq, fillW_eq]; split <;> first | exact h _ | exact id
  case h_18 =>
    refine wt_mono fun _ => ?_
    split
    · split <;> exact h _
    · exact h _
    · exact id
  case h_20 =>
    refine wt_mono fun _ => ?_
    split
    · refine wt_mono fun _ => ?_
      split
      · exact Ex_mono fun _ => Ex_mono fun _ => Ex_mono fun _ => h _
      · exact id
    · exact id
  case h_21 => exact id
section
variable {tb : Tb} {cty : List (Nat × List (Option (Nat × Nat)))} {ann : Ann} {con : Nat → CIn → COut → Prop}
theorem callK_mono {bs as_ as_' : List Nat} {i : CIn} {args : List PV} {σ : St} {k k' : PV → St → Prop} {kp kp' : PV → St → Prop} (h : ∀ a s, k a s → k' a s) (hp : ∀ v s, kp v s → kp' v s) : ∀ {o : COut}, callK bs as_ as_' i args σ k kp o → callK bs as_ as_' i args σ k' kp' o
  | .ok _ _ _, hw => wt_mono (fun _ hw => ⟨hw.1, St.frcIf_eq.mpr (h _ _ (St.frcIf_eq.mp hw.2))⟩) hw
  | .okI _ _ _, hw => wt_mono (fun _ hw => ⟨hw.1, St.frcIf_eq.mpr (h _ _ (St.frcIf_eq.mp hw.2))⟩) hw
  | .pan _, hw => ⟨hw.1, hp _ _ hw.2⟩
  | .panB _ _, hw => wt_mono (fun _ h => ⟨h.1, St.frc_eq.mpr (hp _ _ (St.frc_eq.mp h.2))⟩) hw
theorem callW_mono {σ : St} {f : Nat} {args : List PV} {k k' : PV → St → Prop} {kp kp' : PV → St → Prop} (h : ∀ a s, k a s → k' a s) (hp : ∀ v s, kp v s → kp' v s) (hw : callW con σ f args k kp) : callW con σ f args k' kp' := by
  obtain ⟨bs, as_, as_', i, o, h1, h2, h3, h4, h5, h6⟩ := hw
  exact ⟨bs, as_, as_', i, o, h1, h2, h3, h4, h5, callK_mono h hp h6⟩
theorem born_mono {σ : St} {key E : Nat} {k k' : St → Prop} (h : ∀ s, k s → k' s) : σ.born key E k → σ.born key E k' := by
  unfold St.born
  refine wt_mono fun _ => ?_
  split <;> first | exact h _ | exact id
theorem NxW_mono {rem : List (List D)} {k0 k0' : Prop} {k1 k1' : List D → List (List D) → Prop} (h0 : k0 → k0') (h1 : ∀ x r, k1 x r → k1' x r) : NxW rem k0 k1 → NxW rem k0' k1' :=
  fun h => ⟨fun e => h0 (h.1 e), fun i x e => h1 _ _ (h.2 i x e)⟩
theorem actM_mono {σ : St} {o : Oper} {k k' : St → Prop} (h : ∀ s, k s → k' s) (hw : actM tb cty σ o k) : actM tb cty σ o k' := by
  revert hw
  unfold actM
  split
  case h_1 =>
    refine wt_mono fun _ => ?_
    split
    · refine wt_mono fun _ => wt_mono fun _ => ?_; split <;> first | exact h _ | exact id
    · exact id
  case h_2 =>
    split
    · split
      · refine wt_mono fun _ => wt_mono fun _ => wt_mono fun _ => wt_mono fun _ => wt_mono fun _ => wt_mono fun _ => wt_mono fun _ => wt_mono fun _ => wt_mono fun _ => wt_mono fun _ => ?_
        split <;> first | exact Ex_mono fun _ => h _ | exact id
      · exact id
    · exact id
  case h_3 =>
    split
    · split
      · refine wt_mono fun _ => wt_mono fun _ => wt_mono fun _ => wt_mono fun _ => wt_mono fun _ => wt_mono fun _ => wt_mono fun _ => wt_mono fun _ => wt_mono fun _ => wt_mono fun _ => ?_
        split <;> first | exact Ex_mono fun _ => h _ | exact id
      · exact id
    · exact id
  case h_4 =>
    refine wt_mono fun _ => ?_
    split
    · refine wt_mono fun _ => wt_mono fun _ => wt_mono fun _ => wt_mono fun _ => wt_mono fun _ => wt_mono fun _ => wt_mono fun _ => wt_mono fun _ => ?_
      split
      · refine Ex_mono fun _ => wt_mono fun _ => ?_
        split
        · exact h _
        · exact Ex_mono fun _ => h _
      · exact id
    · exact id
  case h_5 =>
    refine wt_mono fun _ => ?_
    split
    · refine wt_mono fun _ => wt_mono fun _ => wt_mono fun _ => wt_mono fun _ => ?_; split <;> first | exact h _ | exact id
    · exact id
  case h_6 =>
    refine wt_mono fun _ => wt_mono fun _ => ?_
    split
    · refine wt_mono fun _ => ?_
      split
      · split <;> first | exact NxW_mono (h _) fun _ _ => h _ | exact id
      · exact id
    · exact id
  case h_7 =>
    refine wt_mono fun _ => wt_mono fun _ => ?_
    split
    · refine wt_mono fun _ => ?_
      split
      · split <;> first | exact wt_mono fun _ => h _ | exact id
      · exact id
    · exact id
  case h_8 =>
    split
    · split
      · split
        · exact wt_mono fun _ => wt_mono fun _ => wt_mono fun _ => wt_mono fun _ => wt_mono fun _ => wt_mono fun _ => Ex_mono fun _ => h _
        · exact id
      · exact id
    · exact id
  case h_9 => exact id
set_option maxRecDepth 100000 in
theorem stR_mono {σ : St} {n T d : Nat} {y : Operand} {k k' : St → Prop} (h : ∀ s, k s → k' s) (hw : stR cty σ n T d y k) : stR cty σ n T d y k' := by
  revert hw
  unfold stR
  refine wt_mono fun _ => wt_mono fun _ => wt_mono fun _ => wt_mono fun _ => ?_
  split
  · refine wt_mono fun _ => wt_mono fun _ => ?_; split <;> first | exact h _ | exact id
  · exact id
set_option maxRecDepth 100000 in
theorem act_mono {σ : St} {o : Oper} {k k' : St → Prop} {kp kp' : PV → St → Prop} (h : ∀ s, k s → k' s) (hp : ∀ v s, kp v s → kp' v s) (hw : act tb cty ann con σ o k kp) : act tb cty ann con σ o k' kp' := by
  revert hw
  unfold act
  split
  case h_1 =>
    refine wt_mono fun _ => wt_mono fun _ => ?_
    split
    · split
      · exact h _
      · exact born_mono h
    · exact id
  case h_2 =>
    refine wt_mono fun _ => wt_mono fun _ => ?_
    split
    · refine wt_mono fun _ => ?_; split <;> first | exact h _ | exact id
    · split <;> first | exact h _ | exact id
  case h_3 =>
    split
    · refine wt_mono fun _ => ?_
      split
      · exact stR_mono h
      refine wt_mono fun _ => wt_mono fun _ => ?_
      split
      · exact wt_mono fun _ => wt_mono fun _ => h _
      · refine wt_mono fun _ => wt_mono fun _ => wt_mono fun _ => wt_mono fun _ => ?_; split <;> first | exact Ex_mono fun _ => h _ | exact id
      · exact id
    · exact id
  case h_4 =>
    refine wt_mono fun _ => ?_
    split
    · refine wt_mono fun _ => wt_mono fun _ => wt_mono fun _ => wt_mono fun _ => wt_mono fun _ => wt_mono fun _ => ?_
      split
      · split
        · split <;> first | exact h _ | exact id
        · exact h _
      · exact id
    · exact id
  case h_5 => refine wt_mono fun _ => ?_; split <;> first | exact hp _ _ | exact id
  case h_6 =>
    refine wt_mono fun _ => wt_mono fun _ => ?_
    split
    · split
      · refine Ex_mono fun _ => ?_
        split
        · split <;> first | exact h _ | exact id
        · exact h _
      · exact id
    · split <;> first | exact Ex_mono fun _ => h _ | exact id
    · refine wt_mono fun _ => ?_; split <;> first | exact Ex_mono fun _ => h _ | exact id
    · exact id
  case h_7 =>
    split
    · refine wt_mono fun _ => wt_mono fun _ => wt_mono fun _ => ?_
      split
      · split
        · refine wt_mono fun _ => wt_mono fun _ => wt_mono fun _ => wt_mono fun _ => ?_
          split
          · split
            · split <;> first | exact Ex_mono fun _ => h _ | exact id
            · split
              · split <;> first | exact Ex_mono fun _ => h _ | exact id
              · refine wt_mono fun _ => ?_; split <;> first | exact Ex_mono fun _ => h _ | exact id
            · exact id
          · exact id
        · exact id
      · exact id
    · refine wt_mono fun _ => ?_
      split
      · exact callW_mono (fun _ _ => h _) hp
      · exact id
    · exact actM_mono h
  case h_8 => exact actM_mono h
theorem go_mono {σ : St} {k k' : St → Prop} (h : ∀ s, k s → k' s) : σ.go k → σ.go k' := by
  rw [St.go_eq, St.go_eq]
  exact h σ
theorem frc_mono {σ : St} {k k' : St → Prop} (h : ∀ s, k s → k' s) : σ.frc k → σ.frc k' := by
  rw [St.frc_eq, St.frc_eq]
  exact h σ
theorem cutK_mono {σ : St} {c : Cut} {k k' : St → Prop} (h : ∀ s, k s → k' s) : σ.cutK c k → σ.cutK c k' := wt_mono fun _ => frc_mono h
theorem frs_mono {σ : St} {k k' : St → Prop} (h : ∀ s, k s → k' s) : σ.frs k → σ.frs k' := by
  rw [St.frs_eq, St.frs_eq]
  exact h σ
theorem run_mono {σ : St} {o : Oper} {k k' : St → Prop} {kp kp' : PV → St → Prop} (h : ∀ s, k s → k' s) (hp : ∀ v s, kp v s → kp' v s) (hw : run tb cty ann con σ o k kp) : run tb cty ann con σ o k' kp' := by
  revert hw
  unfold run
  split
  · exact qop_mono fun _ => go_mono h
  · exact act_mono (fun _ => frs_mono h) hp
theorem exo_mono {ops : Array Oper} {σ : St} {o : Oper} {k k' : St → Prop} {kp kp' : PV → St → Prop} (h : ∀ s, k s → k' s) (hp : ∀ v s, kp v s → kp' v s) (hw : exo tb cty ann con ops σ o k kp) : exo tb cty ann con ops σ o k' kp' := by
  revert hw
  unfold exo
  split
  · exact run_mono h hp
  · split
    · exact id
    · split
      · split
        · exact cond_mono (go_mono fun _ => run_mono h hp) (go_mono h)
        · exact cond_mono (go_mono h) (go_mono fun _ => run_mono h hp)
      · exact go_mono h
      · exact id
theorem exops_mono {ops : Array Oper} {k k' : St → Prop} {kp kp' : PV → St → Prop} (h : ∀ s, k s → k' s) (hp : ∀ v s, kp v s → kp' v s) : ∀ (os : List Oper) (σ : St), exops tb cty ann con ops kp k os σ → exops tb cty ann con ops kp' k' os σ
  | [], σ, hw => h _ hw
  | o :: os, σ, hw => exo_mono (fun s => exops_mono h hp os s) hp hw
theorem exsegs_mono {ops : Array Oper} {k k' : St → Prop} {kp kp' : PV → St → Prop} (h : ∀ s, k s → k' s) (hp : ∀ v s, kp v s → kp' v s) : ∀ (l : List (Nat × Nat × Cut)) (os : List Oper) (σ : St), exsegs tb cty ann con ops kp k l os σ → exsegs tb cty ann con ops kp' k' l os σ
  | [], os, σ, hw => exops_mono h hp os σ hw
  | (n0, m, c) :: r, os, σ, hw => exops_mono (fun _ ⟨J, h1, h2⟩ => ⟨J, exops_mono (fun _ => id) hp _ _ h1, fun s hs => frc_mono (fun s => exsegs_mono h hp r _ s) (h2 s hs)⟩) hp _ σ hw
theorem exq_mono {ops : Array Oper} {σ : St} {dn : List (Nat × Bool)} {q : Nat} {k k' : St → List (Nat × Bool) → Prop} (h : ∀ s d, k s d → k' s d) (hw : exq tb ops σ dn q k) : exq tb ops σ dn q k' := by
  revert hw
  unfold exq
  split
  · exact id
  · split
    · split
      · exact qop_mono fun _ => go_mono fun _ => h _ _
      · split
        · exact id
        · split
          · split
            · exact cond_mono (go_mono fun _ => qop_mono fun _ => go_mono fun _ => h _ _) (go_mono fun _ => h _ _)
            · exact cond_mono (go_mono fun _ => h _ _) (go_mono fun _ => qop_mono fun _ => go_mono fun _ => h _ _)
          · exact go_mono fun _ => h _ _
          · exact id
    · exact id
theorem exqs_mono {ops : Array Oper} {k k' : St → List (Nat × Bool) → Prop} (h : ∀ s d, k s d → k' s d) : ∀ (qs : List Nat) (σ : St) (dn : List (Nat × Bool)), exqs tb ops qs σ dn k → exqs tb ops qs σ dn k'
  | [], σ, dn, hw => h _ _ hw
  | _ :: r, σ, dn, hw => exq_mono (fun s d => exqs_mono h r s d) hw
theorem rst_mono {cs : List (Nat × Cut)} {e : Nat} {σ : St} {k k' : St → Prop} (h : ∀ s, k s → k' s) : rst cs e σ k → rst cs e σ k' := by
  unfold rst
  split
  · exact fun ⟨J, h1, h2⟩ => ⟨J, h1, fun s hs => frc_mono h (h2 s hs)⟩
  · exact h _
theorem exalt_mono {ops : Array Oper} {cs : List (Nat × Cut)} {k k' : St → Prop} {kp kp' : PV → St → Prop} (h : ∀ s, k s → k' s) (hp : ∀ v s, kp v s → kp' v s) : ∀ (g : Gt) (dn : List (Nat × Bool)) (σ : St), exalt tb cty ann con ops cs kp k g dn σ → exalt tb cty ann con ops cs kp' k' g dn σ
  | .fin, dn, σ, hw => h _ hw
  | .one e kpl qs2 g, dn, σ, hw => by
    revert hw
    unfold exalt
    split
    · exact exo_mono (fun s => rst_mono fun s => exqs_mono (fun s d hw => ⟨hw.1, exalt_mono h hp g d s hw.2⟩) _ _ _) hp
    · exact id
  | .alt e kpl qs2 g r, dn, σ, hw => by
    revert hw
    unfold exalt
    refine fun hw => ⟨?_, exalt_mono h hp r dn σ hw.2⟩
    have h1 := hw.1
    revert h1
    split
    · exact exo_mono (fun s => rst_mono fun s => exqs_mono (fun s d hw => ⟨hw.1, exalt_mono h hp g d s hw.2⟩) _ _ _) hp
    · exact id
theorem exdraw_mono {ops : Array Oper} {cs : List (Nat × Cut)} {k k' : St → Prop} {kp kp' : PV → St → Prop} (h : ∀ s, k s → k' s) (hp : ∀ v s, kp v s → kp' v s) (g : Gt) (qs : List Nat) (σ : St) (hw : exdraw tb cty ann con ops cs kp k g qs σ) : exdraw tb cty ann con ops cs kp' k' g qs σ :=
  exqs_mono (fun s d hw => ⟨hw.1, exalt_mono h hp g d s hw.2⟩) qs σ [] hw
theorem ex1_mono {ops : Array Oper} {k k' : St → List (Nat × Bool) → Prop} {kp kp' : PV → St → Prop} (h : ∀ s d, k s d → k' s d) (hp : ∀ v s, kp v s → kp' v s) : ∀ (i : It) (σ : St) (dn : List (Nat × Bool)), ex1 tb cty ann con ops kp i σ dn k → ex1 tb cty ann con ops kp' i σ dn k'
  | .q q, σ, dn, hw => exq_mono h hw
  | .a e kpl, σ, dn, hw => by
    simp only [ex1, frDn_eq] at hw ⊢
    revert hw
    split
    · split
      · exact exo_mono (fun s => h s _) hp
      · exact id
    · exact id
theorem exits_mono {ops : Array Oper} {k k' : St → List (Nat × Bool) → Prop} {kp kp' : PV → St → Prop} (h : ∀ s d, k s d → k' s d) (hp : ∀ v s, kp v s → kp' v s) : ∀ (l : List It) (σ : St) (dn : List (Nat × Bool)), exits tb cty ann con ops kp k l σ dn → exits tb cty ann con ops kp' k' l σ dn
  | [], σ, dn, hw => h _ _ hw
  | i :: r, σ, dn, hw => ex1_mono (fun s d => exits_mono h hp r s d) hp i σ dn hw
theorem exlin_mono {ops : Array Oper} {k k' : St → Prop} {kp kp' : PV → St → Prop} (h : ∀ s, k s → k' s) (hp : ∀ v s, kp v s → kp' v s) : ∀ (l : List (Nat × Nat × Cut)) (its : List It) (σ : St) (dn : List (Nat × Bool)), exlin tb cty ann con ops kp k l its σ dn → exlin tb cty ann con ops kp' k' l its σ dn
  | [], its, σ, dn, hw => exits_mono (fun s _ => h s) hp its σ dn hw
  | (_, _, _) :: r, _, σ, dn, hw => exits_mono (fun _ _ ⟨J, h1, h2⟩ => ⟨J, exits_mono (fun _ _ => id) hp _ _ _ h1, fun s hs => frc_mono (fun s => exlin_mono h hp r _ s _) (h2 s hs)⟩) hp _ σ dn hw
theorem exreg_mono {ops : Array Oper} {k k' : St → Prop} {kp kp' : PV → St → Prop} (h : ∀ s, k s → k' s) (hp : ∀ v s, kp v s → kp' v s) (d : Drw) (σ : St) (hw : exreg tb cty ann con ops kp k d σ) : exreg tb cty ann con ops kp' k' d σ := by
  revert hw
  unfold exreg
  split
  · exact exlin_mono h hp _ _ _ _
  split
  · exact exdraw_mono h hp _ _ _
  · exact fun ⟨J, h1, h2⟩ => ⟨J, exdraw_mono (fun _ => id) hp _ _ _ h1, fun s hs => frc_mono h (h2 s hs)⟩
theorem kSeq_mono {f f' : St → Prop} {k k' : Flow → St → Prop} (hf : ∀ s, f s → f' s) (hk : ∀ fl s, k fl s → k' fl s) : ∀ fl s, kSeq f k fl s → kSeq f' k' fl s
  | .normal, s, h => hf s h
  | .exit _, s, h => hk _ s h
  | .ret, s, h => hk _ s h
  | .pan _, s, h => hk _ s h
theorem kBlk_mono {i : Nat} {k k' : Flow → St → Prop} (hk : ∀ fl s, k fl s → k' fl s) : ∀ fl s, kBlk i k fl s → kBlk i k' fl s
  | .normal, s, h => hk _ s h
  | .exit j, s, h => by
    simp only [kBlk] at h ⊢
    cases hb : Nat.beq i j with
    | true => simp only [hb] at h ⊢; exact hk _ _ h
    | false => simp only [hb] at h ⊢; exact hk _ _ h
  | .ret, s, h => hk _ s h
  | .pan _, s, h => hk _ s h
theorem LW.mono {step step' : (St → Prop) → St → Prop} (h : ∀ I s, step I s → step' I s) {s : St} (hw : LW step s) : LW step' s := fun I hI => hw I fun s hs => hI s (h I s hs)
theorem ex_mono : ∀ (c : Code) (σ : St) (k k' : Flow → St → Prop), (∀ fl s, k fl s → k' fl s) → ex tb cty ann con c σ k → ex tb cty ann con c σ k'
  | .skip, σ, k, k', h, hw => h _ _ hw
  | .label _, σ, k, k', h, hw => h _ _ hw
  | .region id ops dr, σ, k, k', h, hw => by
    cases dr with
    | false => exact exsegs_mono (fun s => h _ s) (fun v s => h _ s) _ _ _ hw
    | true => exact wt_mono (fun _ => exreg_mono (fun s => h _ s) (fun v s => h _ s) _ _) hw
  | .seq a b, σ, k, k', h, hw => by
    unfold ex at hw ⊢
    split at hw
    · obtain ⟨J, h1, h2⟩ := hw
      exact ⟨J, ex_mono a _ _ _ (kSeq_mono (fun _ => id) h) h1, fun s hs => frc_mono (fun s => ex_mono b _ _ _ h) (h2 s hs)⟩
    · exact ex_mono a _ _ _ (kSeq_mono (fun s => ex_mono b s _ _ h) h) hw
  | .cond c a b, σ, k, k', h, hw => by
    unfold ex at hw ⊢
    split at hw
    · exact cond_mono (ex_mono a _ _ _ h) (ex_mono b _ _ _ h) hw
    · exact hw
  | .block i a, σ, k, k', h, hw => ex_mono a _ _ _ (kBlk_mono h) hw
  | .exit i, σ, k, k', h, hw => h _ _ hw
  | .ret, σ, k, k', h, hw => h _ _ hw
  | .loop a, σ, k, k', h, hw => by
    unfold ex at hw ⊢
    exact wt_mono (fun _ => wt_mono fun _ => frc_mono fun _ => LW.mono fun I s => frc_mono fun s => ex_mono a _ _ _ (kSeq_mono (fun _ => id) h)) hw
  | .rangeFunc .., σ, k, k', h, hw => hw
  | .scope _, σ, k, k', h, hw => hw
  | .goto _, σ, k, k', h, hw => hw
  | .refuse _, σ, k, k', h, hw => hw
@[reducible] def Stp (tb : Tb) (cty : List (Nat × List (Option (Nat × Nat)))) (ann : Ann) (con : Nat → CIn → COut → Prop) (a : Code) (c : Cut) (k : Flow → St → Prop) (I : St → Prop) (s : St) : Prop := s.frc fun s => ex tb cty ann con a s (kSeq (fun s => s.cutK c I) k)
theorem step_mono (a : Code) (c : Cut) (k : Flow → St → Prop) : ∀ I I' : St → Prop, (∀ s, I s → I' s) → ∀ s, Stp tb cty ann con a c k I s → Stp tb cty ann con a c k I' s :=
  fun _ _ h _ => frc_mono fun s hw => ex_mono a s _ _ (kSeq_mono (fun _ => cutK_mono h) fun _ _ => id) hw
theorem LW.fold {step : (St → Prop) → St → Prop} (hm : ∀ I I' : St → Prop, (∀ s, I s → I' s) → ∀ s, step I s → step I' s) {s : St} (h : step (LW step) s) : LW step s := fun I hI => hI s (hm _ _ (fun s' h' => h' I hI) s h)
/-- A loop, by its model's own induction: of one variable, of two, .. -/
theorem S.lw {X R : Type} {a : Code} {c : Cut} {k : R → Flow → St → Prop} {σ : St} {L : X → Option R} {Bd : (X → Option R) → X → Option R} {x : X} (sh : X → Ov)
    (pc : ∀ motive : X → R → Prop, (∀ f : X → Option R, (∀ x r, f x = some r → motive x r) → ∀ x r, Bd f x = some r → motive x r) → ∀ x r, L x = some r → motive x r)
    (h0 : σ = ovS σ c (sh x)) (h : ∀ (f : X → Option R) (I : R → St → Prop), (∀ x, S (f x) (fun r => I r (ovS σ c (sh x)))) → ∀ x, S (Bd f x) (fun r => Stp tb cty ann con a c (k r) (I r) (ovS σ c (sh x)))) :
    S (L x) (fun r => LW (Stp tb cty ann con a c (k r)) σ) := by
  intro r hm
  rw [h0]
  exact pc (fun x r => LW (Stp tb cty ann con a c (k r)) (ovS σ c (sh x))) (fun f ih x r hm => LW.fold (step_mono a c (k r)) (h f (fun r => LW (Stp tb cty ann con a c (k r))) ih x r hm)) x r hm
end
end
section
open Go.RowKit Go.Lk
theorem lk_map {β γ : Type} (f : β → γ) : ∀ (l : List (Nat × β)) (t : Nat), lk (l.map fun p => (p.1, f p.2)) t = (lk l t).map f
  | [], t => rfl
  | (s, v) :: r, t => by
    simp only [List.map_cons, lk]
    cases Nat.beq s t with
    | true => rfl
    | false => exact lk_map f r t
theorem lk_cons {β : Type} {s t : Nat} {x v : β} {l : List (Nat × β)} (h : lk ((s, x) :: l) t = some v) : (t = s ∧ v = x) ∨ (t ≠ s ∧ lk l t = some v) := by
  unfold lk at h
  split at h
  · rename_i e
    cases h
    exact .inl ⟨(Nat.eq_of_beq_eq_true e).symm, rfl⟩
  · rename_i e
    exact .inr ⟨fun h' => Nat.ne_of_beq_eq_false e h'.symm, h⟩
theorem lk_delk {β : Type} {a t : Nat} {v : β} : ∀ {l : List (Nat × β)}, lk (delk a l) t = some v → t ≠ a ∧ lk l t = some v
  | [], h => by cases h
  | (s, x) :: r, h => by
    unfold delk at h
    split at h
    · rename_i e
      have e := Nat.eq_of_beq_eq_true e
      subst e
      obtain ⟨h1, h2⟩ := lk_delk h
      refine ⟨h1, ?_⟩
      unfold lk
      split
      · rename_i e2
        exact (h1 (Nat.eq_of_beq_eq_true e2).symm).elim
      · exact h2
    · rename_i e
      have e := Nat.ne_of_beq_eq_false e
      rcases lk_cons h with ⟨rfl, rfl⟩ | ⟨h1, h2⟩
      · refine ⟨e, ?_⟩
        unfold lk
        simp
      · obtain ⟨h3, h4⟩ := lk_delk h2
        refine ⟨h3, ?_⟩
        unfold lk
        split
        · rename_i e2
          exact (h1 (Nat.eq_of_beq_eq_true e2).symm).elim
        · exact h4
theorem lk_delks {β : Type} {t : Nat} {v : β} : ∀ {as_ : List Nat} {l : List (Nat × β)}, lk (delks as_ l) t = some v → t ∉ as_ ∧ lk l t = some v
  | [], l, h => ⟨by simp, h⟩
  | a :: as_, l, h => by
    obtain ⟨h1, h2⟩ := lk_delks (as_ := as_) h
    obtain ⟨h3, h4⟩ := lk_delk h2
    exact ⟨by simp [h1, h3], h4⟩
theorem lk_setk {β : Type} {a t : Nat} {x v : β} : ∀ {l : List (Nat × β)}, lk (setk a x l) t = some v → (t = a ∧ v = x) ∨ (t ≠ a ∧ lk l t = some v)
  | [], h => by cases h
  | (s, y) :: r, h => by
    unfold setk at h
    split at h
    · rename_i e
      have e := Nat.eq_of_beq_eq_true e
      subst e
      rcases lk_cons h with h | ⟨h1, h2⟩
      · exact .inl h
      · refine .inr ⟨h1, ?_⟩
        unfold lk
        split
        · rename_i e2
          exact (h1 (Nat.eq_of_beq_eq_true e2).symm).elim
        · exact h2
    · rename_i e
      have e := Nat.ne_of_beq_eq_false e
      rcases lk_cons h with ⟨rfl, rfl⟩ | ⟨h1, h2⟩
      · refine .inr ⟨e, ?_⟩
        unfold lk
        simp
      · rcases lk_setk h2 with h3 | ⟨h3, h4⟩
        · exact .inl h3
        · refine .inr ⟨h3, ?_⟩
          unfold lk
          split
          · rename_i e2
            exact (h1 (Nat.eq_of_beq_eq_true e2).symm).elim
          · exact h4
theorem lk_keepK {β : Type} {t : Nat} {v : β} : ∀ {ks : List Nat} {l : List (Nat × β)}, lk (keepK ks l) t = some v → lk l t = some v
  | [], l, h => by cases h
  | x :: r, l, h => by
    unfold keepK at h
    split at h
    · rename_i y e
      rcases lk_cons h with ⟨rfl, rfl⟩ | ⟨_, h2⟩
      · exact e
      · exact lk_keepK h2
    · exact lk_keepK h

abbrev FL := Nat → Option PV
abbrev FB := Nat → Option Bx
abbrev FA := Nat → Option Arr
def upd {β : Type} (f : Nat → Option β) (a : Nat) (v : β) : Nat → Option β := fun x => if x = a then some v else f x
def del {β : Type} (f : Nat → Option β) (a : Nat) : Nat → Option β := fun x => if x = a then none else f x
def Le {β : Type} (f g : Nat → Option β) : Prop := ∀ x v, f x = some v → g x = some v
theorem Le.refl {β : Type} (f : Nat → Option β) : Le f f := fun _ _ h => h
theorem Le.cons {β : Type} {s : Nat} {x : β} {l : List (Nat × β)} : Le (lk ((s, x) :: l)) (upd (lk l) s x) := fun t v h => by
  unfold upd
  rcases lk_cons h with ⟨rfl, rfl⟩ | ⟨h1, h2⟩
  · simp
  · rw [if_neg h1]; exact h2
theorem Le.delk {β : Type} {a : Nat} {l : List (Nat × β)} : Le (lk (delk a l)) (del (lk l) a) := fun t v h => by
  unfold del
  obtain ⟨h1, h2⟩ := lk_delk h
  rw [if_neg h1]; exact h2
theorem Le.setk {β : Type} {s : Nat} {x : β} {l : List (Nat × β)} : Le (lk (setk s x l)) (upd (del (lk l) s) s x) := fun t v h => by
  unfold upd del
  rcases lk_setk h with ⟨rfl, rfl⟩ | ⟨h1, h2⟩
  · simp
  · rw [if_neg h1, if_neg h1]; exact h2
theorem upd_del {β : Type} {f : Nat → Option β} {a t : Nat} {v x : β} (h : upd f a v t = some x) : (t = a ∧ x = v) ∨ (t ≠ a ∧ f t = some x) := by
  unfold upd at h
  split at h
  · cases h; exact .inl ⟨by assumption, rfl⟩
  · exact .inr ⟨by assumption, h⟩
theorem del_some {β : Type} {f : Nat → Option β} {a t : Nat} {x : β} (h : del f a t = some x) : t ≠ a ∧ f t = some x := by
  unfold del at h
  split at h
  · cases h
  · exact ⟨by assumption, h⟩
def ren (φ : Nat → Nat) (a b : Nat) : Nat → Nat := fun x => if x = a then b else φ x
def renA (α : Nat → Value) (a : Nat) (v : Value) : Nat → Value := fun x => if x = a then v else α x

/-- What a call begins with, and what it may turn. -/
structure W0 where
  w : World
  O : Nat → Prop
  F : Nat → Prop
  G : World → (Nat → Prop) → Prop
  hF : ∀ x, F x → O x
  hB : Bd O w
  hG : ∀ {O w O' w'}, Tr O w O' w' → G w O → G w' O'
  φ0 : Nat → Nat

/-- As Own, of a row whose head may be frozen. -/
def OwnZ (w : World) (O : Nat → Prop) (T m : Nat) (v : Value) (l : List (List D)) : Prop :=
  ∃ xs, w.ownsRowF 0 T m v l.length xs ∧ RDl w O m l xs ∧ (∀ x ∈ xs, x.oneCell' = true) ∧ ∀ b, v.ownBlock = some b → O b
/-- An array of the state's: one whose head may be frozen has 1000000 on its type, a marked one 2000000. -/
def OwnX (w : World) (O : Nat → Prop) (T m : Nat) (v : Value) (l : List (List D)) : Prop :=
  (T < 1000000 ∧ Own w O T m v l) ∨ (1000000 ≤ T ∧ T < 2000000 ∧ OwnZ w O (T - 1000000) m v l) ∨ (2000000 ≤ T ∧ OwnM w O (T - 2000000) m v l)
theorem OwnX.un {w : World} {O : Nat → Prop} {T m : Nat} {v : Value} {l : List (List D)} (h : OwnX w O T m v l) (ht : T < 1000000) : Own w O T m v l := by
  rcases h with h | h | h
  · exact h.2
  · omega
  · omega
theorem OwnX.mk_ {w : World} {O : Nat → Prop} {T m : Nat} {v : Value} {l : List (List D)} (h : OwnX w O T m v l) (ht : 2000000 ≤ T) : OwnM w O (T - 2000000) m v l := by
  rcases h with h | h | h
  · omega
  · omega
  · exact h.2
theorem OwnZ.keep {w w' : World} {O O' F : Nat → Prop} {T m : Nat} {v : Value} {l : List (List D)} (h : OwnZ w O T m v l) (x : Ext F w w') (hf : ∀ b, v.ownBlock = some b → ¬ F b) (t : Tr O w O' w') (ho : ∀ b, O b → O' b) : OwnZ w' O' T m v l := by
  obtain ⟨xs, h1, h2, h3, h4⟩ := h
  refine ⟨xs, ⟨h1.1, ?_⟩, h2.tr t, h3, fun b hb => ho b (h4 b hb)⟩
  rcases h1.2 with h5 | ⟨g, cap, cur, fz, rfl, h6, h7, h8⟩
  · exact .inl h5
  · exact .inr ⟨g, cap, cur, fz, rfl, h6, (x.block g (Array.getElem?_eq_some_iff.1 h7).1 (hf g rfl)).trans h7, h8⟩
theorem OwnX.nil (w : World) (O : Nat → Prop) (T m : Nat) : OwnX w O T m (.slice none 0 0) [] := by
  rcases Nat.lt_or_ge T 1000000 with h | h
  · exact .inl ⟨h, Own.nil w O T m⟩
  · rcases Nat.lt_or_ge T 2000000 with h2 | h2
    · exact .inr (.inl ⟨h, h2, [], World.ownsRowF_of (World.ownsRow_nil w 0 _ m), trivial, by simp, by simp [Value.ownBlock]⟩)
    · exact .inr (.inr ⟨h2, OwnM.nil w O _ m⟩)
theorem OwnX.keep {w w' : World} {O O' F : Nat → Prop} {T m : Nat} {v : Value} {l : List (List D)} (h : OwnX w O T m v l) (x : Ext F w w') (hf : ∀ b, v.ownBlock = some b → ¬ F b) (t : Tr O w O' w') (ho : ∀ b, O b → O' b) : OwnX w' O' T m v l :=
  h.imp (fun h => ⟨h.1, h.2.keep x hf t ho⟩) fun h => h.imp (fun h => ⟨h.1, h.2.1, h.2.2.keep x hf t ho⟩) fun h => ⟨h.1, h.2.keep x hf t ho⟩
theorem OwnX.mem {w : World} {O : Nat → Prop} {T m : Nat} {v : Value} {l : List (List D)} (h : OwnX w O T m v l) : ∀ b, v.ownBlock = some b → O b := by
  rcases h with ⟨_, h⟩ | ⟨_, _, xs, _, _, _, h⟩ | ⟨_, xs, _, _, _, h⟩
  · exact h.mem
  · exact h
  · exact h
theorem OwnX.down {w : World} {O O' : Nat → Prop} {T m : Nat} {v : Value} {l : List (List D)} (h : OwnX w O T m v l) (ho : ∀ x, O' x → O x) (hv : ∀ b, v.ownBlock = some b → O' b) : OwnX w O' T m v l := by
  rcases h with ⟨k, h⟩ | ⟨k, k', xs, h1, h2, h3, _⟩ | ⟨k, xs, h1, h2, h3, _⟩
  · exact .inl ⟨k, h.down ho hv⟩
  · exact .inr (.inl ⟨k, k', xs, h1, h2.tr (Tr.drop w ho), h3, hv⟩)
  · exact .inr (.inr ⟨k, xs, h1, h2.tr (Tr.drop w ho), h3, hv⟩)
theorem OwnX.lt {w : World} {O : Nat → Prop} {T m : Nat} {v : Value} {l : List (List D)} (h : OwnX w O T m v l) : ∀ b, v.ownBlock = some b → b < w.heap.size := by
  rcases h with ⟨k, h⟩ | ⟨k, _, xs, h1, _⟩ | ⟨_, h⟩
  · exact h.lt
  · intro b hb
    rcases h1.2 with ⟨rfl, _⟩ | ⟨g, cap, cur, fz, rfl, _, h7, _⟩
    · simp [Value.ownBlock] at hb
    · simp only [Value.ownBlock, Option.some.injEq] at hb
      subst hb
      exact (Array.getElem?_eq_some_iff.1 h7).1
  · exact h.lt
theorem OwnX.len {w : World} {O : Nat → Prop} {T m : Nat} {v : Value} {l : List (List D)} (h : OwnX w O T m v l) : ∃ p c, v = .slice p l.length c := by
  rcases h with ⟨k, h⟩ | ⟨k, _, xs, h1, _⟩ | ⟨_, h⟩
  · exact h.len
  · rcases h1.2 with ⟨rfl, h0⟩ | ⟨g, cap, cur, fz, rfl, _⟩
    · exact ⟨none, 0, by rw [h0]⟩
    · exact ⟨_, _, rfl⟩
  · exact h.len
/-- One that is not frozen, as_ data. -/
theorem OwnX.data {w : World} {O : Nat → Prop} {T m : Nat} {v : Value} {l : List (List D)} (h : OwnX w O T m v l) (hT : T < 1000000 ∨ 2000000 ≤ T) : ∃ U, RD w (Del O v) (.sl U m l) v := by
  rcases h with ⟨_, h⟩ | ⟨_, _, _⟩ | ⟨_, h⟩
  · exact ⟨_, h.data⟩
  · omega
  · exact ⟨_, h.data⟩
/-- Where such a row lies. -/
theorem OwnX.at_ {w : World} {O : Nat → Prop} {T m : Nat} {v : Value} {l : List (List D)} (h : OwnX w O T m v l) (hT : T < 1000000 ∨ 2000000 ≤ T) : (v = .slice none 0 0 ∧ l.length = 0) ∨ ∃ b cap, v = .slice (some ⟨b, 0, none⟩) l.length cap := by
  rcases h with ⟨_, xs, h, _⟩ | ⟨_, _, _⟩ | ⟨_, xs, h, _⟩
  · rcases h.2 with h | ⟨b, cap, _, h, _⟩
    · exact .inl h
    · exact .inr ⟨b, cap, h⟩
  · omega
  · rcases h.2 with h | ⟨b, cap, _, _, h, _⟩
    · exact .inl h
    · exact .inr ⟨b, cap, h⟩

structure Rel (z : W0) (fL : FL) (fB : FB) (fA : FA) (V : Env) (w : World) (O : Nat → Prop) (φ : Nat → Nat) (α : Nat → Value) : Prop where
  env : ∀ t v, fL t = some v → ∃ u, Env.get V t = some u ∧ VR w O φ α v u
  box : ∀ b e, fB b = some e → O (φ b) ∧ ∃ us, BoxQ w (φ b) e.T us ∧ VRs w O φ α e.cs us
  arr : ∀ a e, fA a = some e → OwnX w O e.T e.n (α a) e.l
  bb : ∀ a b e e', fB a = some e → fB b = some e' → a ≠ b → φ a ≠ φ b
  aa : ∀ a b e e', fA a = some e → fA b = some e' → a ≠ b → ∀ x, (α a).ownBlock = some x → (α b).ownBlock ≠ some x
  ab : ∀ a b e e', fA a = some e → fB b = some e' → (α a).ownBlock ≠ some (φ b)
  bF : ∀ b e, fB b = some e → (b < 1000 ∧ z.F (φ b)) ∨ z.w.heap.size ≤ φ b
  aF : ∀ a e, fA a = some e → ∀ x, (α a).ownBlock = some x → (e.mine = false ∧ z.F x) ∨ z.w.heap.size ≤ x
  bd : Bd O w
  ext : Ext z.F z.w w
  only : ∀ x, O x → z.O x ∨ z.w.heap.size ≤ x
  gl : z.G w O
  keep : ∀ b, b < 1000 → φ b = z.φ0 b

section
variable {z : W0} {fL fL' : FL} {fB fB' : FB} {fA fA' : FA} {V : Env} {w w' : World} {O O' : Nat → Prop} {φ φ' : Nat → Nat} {α α' : Nat → Value}
theorem Rel.mono (h : Rel z fL fB fA V w O φ α) (hL : Le fL' fL) (hB : Le fB' fB) (hA : Le fA' fA) : Rel z fL' fB' fA' V w O φ α :=
  ⟨fun t v e => h.env t v (hL _ _ e), fun b e k => h.box b e (hB _ _ k), fun b e k => h.arr b e (hA _ _ k), fun a b e e' k k' => h.bb a b e e' (hB _ _ k) (hB _ _ k'),
    fun a b e e' k k' => h.aa a b e e' (hA _ _ k) (hA _ _ k'), fun a b e e' k k' => h.ab a b e e' (hA _ _ k) (hB _ _ k'), fun b e k => h.bF b e (hB _ _ k), fun a e k => h.aF a e (hA _ _ k), h.bd, h.ext, h.only, h.gl, h.keep⟩
/-- A step of the world that turns H, none of which the state knows. -/
theorem Rel.move {H : Nat → Prop} (h : Rel z fL fB fA V w O φ α) (x : Ext H w w') (t : Tr O w O' w') (more : ∀ y, O y → O' y) (bd' : Bd O' w') (hB : ∀ b e, fB b = some e → ¬ H (φ b)) (hA : ∀ a e, fA a = some e → ∀ y, (α a).ownBlock = some y → ¬ H y)
    (hx : Ext z.F z.w w') (only' : ∀ x, O' x → z.O x ∨ z.w.heap.size ≤ x) : Rel z fL fB fA V w' O' φ α := by
  refine ⟨fun s v e => ?_, fun b e k => ?_, fun a e k => (h.arr a e k).keep x (hA a e k) t more, h.bb, h.aa, h.ab, h.bF, h.aF, bd', hx, only', z.hG t h.gl, h.keep⟩
  · obtain ⟨u, h1, h2⟩ := h.env s v e
    exact ⟨u, h1, h2.tr t⟩
  · obtain ⟨h1, us, h2, h3⟩ := h.box b e k
    exact ⟨more _ h1, us, h2.keep x (hB b e k), VRs.tr t _ _ h3⟩
/-- Other keys. -/
theorem Rel.re {kb ka : Nat → Prop} (h : Rel z fL fB fA V w O φ α) (hk : ∀ x, x < 1000 → kb x) (hφ : ∀ x, kb x → φ' x = φ x) (hα : ∀ x, ka x → α' x = α x) (hL : ∀ t v, fL t = some v → keyP kb ka v) (hB : ∀ b e, fB b = some e → kb b ∧ keyP.go kb ka e.cs) (hA : ∀ a e, fA a = some e → ka a) : Rel z fL fB fA V w O φ' α' := by
  have eb : ∀ b e, fB b = some e → φ' b = φ b := fun b e k => hφ b (hB b e k).1
  have ea : ∀ b e, fA b = some e → α' b = α b := fun b e k => hα b (hA b e k)
  refine ⟨fun s v e => ?_, fun b e k => ?_, fun a e k => ?_, fun a b e e' k k' hn => ?_, fun a b e e' k k' hn => ?_, fun a b e e' k k' => ?_, fun b e k => ?_, fun a e k => ?_, h.bd, h.ext, h.only, h.gl, fun b hb => (hφ b (hk b hb)).trans (h.keep b hb)⟩
  · obtain ⟨u, h1, h2⟩ := h.env s v e
    exact ⟨u, h1, VR.re hφ hα _ _ (hL _ _ e) h2⟩
  · obtain ⟨h1, us, h2, h3⟩ := h.box b e k
    rw [eb b e k]
    exact ⟨h1, us, h2, VRs.re hφ hα _ _ (hB b e k).2 h3⟩
  · rw [ea a e k]; exact h.arr a e k
  · rw [eb a e k, eb b e' k']; exact h.bb a b e e' k k' hn
  · rw [ea a e k, ea b e' k']; exact h.aa a b e e' k k' hn
  · rw [ea a e k, eb b e' k']; exact h.ab a b e e' k k'
  · rw [eb b e k]; exact h.bF b e k
  · rw [ea a e k]; exact h.aF a e k
theorem Rel.put (h : Rel z fL fB fA V w O φ α) {d : Nat} {v : PV} {u : Value} (hv : VR w O φ α v u) : Rel z (upd fL d v) fB fA ((d, u) :: V) w O φ α := by
  refine ⟨fun t x e => ?_, h.box, h.arr, h.bb, h.aa, h.ab, h.bF, h.aF, h.bd, h.ext, h.only, h.gl, h.keep⟩
  rcases upd_del e with ⟨rfl, rfl⟩ | ⟨h1, h2⟩
  · exact ⟨u, by simp [Env.get], hv⟩
  · obtain ⟨u', h3, h4⟩ := h.env t x h2
    refine ⟨u', ?_, h4⟩
    unfold Env.get
    split
    · rename_i e2
      exact (h1 (Nat.eq_of_beq_eq_true e2).symm).elim
    · exact h3
theorem Rel.addB (h : Rel z fL fB fA V w O φ α) {b : Nat} {e : Bx} {us : List Value} (ho : O (φ b)) (hb : BoxQ w (φ b) e.T us) (hv : VRs w O φ α e.cs us) (h1 : ∀ c e', fB c = some e' → c ≠ b → φ c ≠ φ b) (h2 : ∀ a e', fA a = some e' → (α a).ownBlock ≠ some (φ b))
    (h3 : (b < 1000 ∧ z.F (φ b)) ∨ z.w.heap.size ≤ φ b) : Rel z fL (upd fB b e) fA V w O φ α := by
  refine ⟨h.env, fun c e' k => ?_, h.arr, fun c d e1 e2 k1 k2 hn => ?_, h.aa, fun a c e1 e2 k1 k2 => ?_, fun c e' k => ?_, h.aF, h.bd, h.ext, h.only, h.gl, h.keep⟩
  · rcases upd_del k with ⟨rfl, rfl⟩ | ⟨_, k⟩
    · exact ⟨ho, us, hb, hv⟩
    · exact h.box c e' k
  · rcases upd_del k1 with ⟨rfl, rfl⟩ | ⟨n1, j1⟩ <;> rcases upd_del k2 with ⟨rfl, rfl⟩ | ⟨n2, j2⟩
    · exact (hn rfl).elim
    · exact fun e => h1 d e2 j2 n2 e.symm
    · exact h1 c e1 j1 n1
    · exact h.bb c d e1 e2 j1 j2 hn
  · rcases upd_del k2 with ⟨rfl, rfl⟩ | ⟨n2, k2⟩
    · exact h2 a e1 k1
    · exact h.ab a c e1 e2 k1 k2
  · rcases upd_del k with ⟨rfl, rfl⟩ | ⟨_, k⟩
    · exact h3
    · exact h.bF c e' k
theorem Rel.addA (h : Rel z fL fB fA V w O φ α) {a : Nat} {e : Arr} (ho : OwnX w O e.T e.n (α a) e.l) (h1 : ∀ c e', fA c = some e' → c ≠ a → ∀ x, (α c).ownBlock = some x → (α a).ownBlock ≠ some x) (h2 : ∀ b e', fB b = some e' → (α a).ownBlock ≠ some (φ b))
    (h3 : ∀ x, (α a).ownBlock = some x → (e.mine = false ∧ z.F x) ∨ z.w.heap.size ≤ x) : Rel z fL fB (upd fA a e) V w O φ α := by
  refine ⟨h.env, h.box, fun c e' k => ?_, h.bb, fun c d e1 e2 k1 k2 hn => ?_, fun c b e1 e2 k1 k2 => ?_, h.bF, fun c e' k => ?_, h.bd, h.ext, h.only, h.gl, h.keep⟩
  · rcases upd_del k with ⟨rfl, rfl⟩ | ⟨_, k⟩
    · exact ho
    · exact h.arr c e' k
  · rcases upd_del k1 with ⟨rfl, rfl⟩ | ⟨n1, j1⟩ <;> rcases upd_del k2 with ⟨rfl, rfl⟩ | ⟨n2, j2⟩
    · exact (hn rfl).elim
    · exact fun x e => fun e' => h1 d e2 j2 n2 x e' e
    · exact h1 c e1 j1 n1
    · exact h.aa c d e1 e2 j1 j2 hn
  · rcases upd_del k1 with ⟨rfl, rfl⟩ | ⟨n1, k1⟩
    · exact h2 b e2 k2
    · exact h.ab c b e1 e2 k1 k2
  · rcases upd_del k with ⟨rfl, rfl⟩ | ⟨_, k⟩
    · exact h3
    · exact h.aF c e' k
theorem Rel.boxLt (h : Rel z fL fB fA V w O φ α) {b : Nat} {e : Bx} (k : fB b = some e) : φ b < w.heap.size := h.bd _ (h.box b e k).1
theorem Rel.arrLt (h : Rel z fL fB fA V w O φ α) {a : Nat} {e : Arr} (k : fA a = some e) {x : Nat} (hx : (α a).ownBlock = some x) : x < w.heap.size := (h.arr a e k).lt x hx
theorem Rel.arrO (h : Rel z fL fB fA V w O φ α) {a : Nat} {e : Arr} (k : fA a = some e) {x : Nat} (hx : (α a).ownBlock = some x) : O x := (h.arr a e k).mem x hx
end
end
end Go.Pe
