import Derived.Test.YtfhgkcjhgmoceaaGreatDoorPfQ
import Derived.Test.YtfhgkcjhgmoceaaGreatDoorOfShelf
import Derived.OwnWalkIn
import Derived.TacticsInMore
import Derived.LoopNIn
import Derived.LoopIn
set_option linter.all false
namespace Go.Proofs.YtfhgkcjhgmoceaaGreatDoor
open Go.Proofs Go.Lk Go.Pe Go.RowKit Go.Shelf Go.Maps Go.Sort
attribute [local go_sem] Oper.semAt_some
theorem take_succ (zs : List (List UInt8)) {k : Nat} (h : k < zs.length) : zs.take (k + 1) = zs.take k ++ [zs[k]?.getD []] := by
  rw [List.take_add_one]
  simp [h]
set_option maxRecDepth 100000 in
set_option maxHeartbeats 2000000 in
theorem values1 (F : Fence) (n : Nat) (h7 : F.fn 352) (hro : F.round = none) (hn : 1 ≤ n) (l Bs n₀ b off cap : Nat) (zs : List (List UInt8)) (hreach : zs.length * 16 ≤ 140737488355328) (hb : b < n₀) (w0 : World) (J : List (List UInt8) → World → Prop)
    (hY : ∀ pre x W, J pre W → pre.length < zs.length → YieldAt F (n - 1) Tryz.prog l #[encStr x] W fun e W' => e = .returned (.bool true) ∧ J (pre ++ [x]) W' ∧ KeepsWalks W W')
    (hJB : ∀ pre W, J pre W → Below n₀ w0 W)
    (W : World) (hBs : W.cell? ⟨Bs, 0, none⟩ = some (.slice (some ⟨b, off, none⟩) zs.length cap)) (hc : ∀ j, j < zs.length → w0.cell? ⟨b, off + j, none⟩ = some (encStr (zs[j]?.getD []))) (h0 : J [] W) :
    CallsIn F n Tryz.prog 352 #[.func (.yield l) #[] #[], .pointer (some ⟨Bs, 0, none⟩)] W fun e W' => (∃ v, e = .returned v) ∧ ∃ xs, xs = zs ∧ J xs W' := by
  refine callsIn_of_wp Tryz.func352 rfl h7 ?_ hro
  simp only [Tryz.ntmps352, List.size_toArray, List.length_cons, List.length_nil, Nat.reduceAdd, Nat.reduceSub, Array.replicate_succ, Array.replicate_zero, List.push_toArray, List.append_toArray, List.nil_append, List.cons_append]
  gi_wp2
  gi_loopw [7] (fun i wr => ∃ k : Nat, k ≤ zs.length ∧ i = .int .i64 k ∧ J (zs.take k) wr)
    (fun i _ => zs.length - (intOf i).toNat)
  case atStart => exact ⟨0, Nat.zero_le _, rfl, h0⟩
  case round =>
    obtain ⟨k, hk, rfl, hJs⟩ := hrel
    have hcx : k < zs.length → wr.cell? ⟨b, off + k, none⟩ = some (encStr (zs[k]?.getD [])) := fun h => ((hJB _ _ hJs).cell (p := ⟨b, off + k, none⟩) hb).trans (hc k h)
    by_cases hlt : k < zs.length
    · have hcx' := hcx hlt
      have hts := take_succ zs hlt
      obtain ⟨x, hx⟩ : ∃ x, zs[k]?.getD [] = x := ⟨_, rfl⟩
      rw [hx] at hcx' hts
      clear hcx hx
      obtain ⟨fn, tmps, assign, body, hy, hR⟩ := hY _ x wr hJs (by rw [List.length_take]; omega)
      gi_wp2
      refine hR.mono ?_
      rintro e W3 ⟨rfl, hJ3, hk3⟩
      gi_wp2
      go_roundw
      case rel => exact ⟨k + 1, by omega, by simp, by rw [hts]; exact hJ3⟩
      case measure => simp [intOf]; omega
    · obtain rfl : k = zs.length := by omega
      gi_wp2
      go_end0
      exact ⟨⟨_, rfl⟩, zs, rfl, by rw [List.take_length] at hJs; exact hJs⟩
set_option maxRecDepth 100000 in
set_option maxHeartbeats 1000000 in
theorem values1_nil (F : Fence) (n : Nat) (h7 : F.fn 352) (hro : F.round = none) (l Bs : Nat) (p : Option Addr) (J : List (List UInt8) → World → Prop) (W : World) (hBs : W.cell? ⟨Bs, 0, none⟩ = some (.slice p 0 0)) (h0 : J [] W) :
    CallsIn F n Tryz.prog 352 #[.func (.yield l) #[] #[], .pointer (some ⟨Bs, 0, none⟩)] W fun e W' => (∃ v, e = .returned v) ∧ J [] W' := by
  refine callsIn_of_wp Tryz.func352 rfl h7 ?_ hro
  simp only [Tryz.ntmps352, List.size_toArray, List.length_cons, List.length_nil, Nat.reduceAdd, Nat.reduceSub, Array.replicate_succ, Array.replicate_zero, List.push_toArray, List.append_toArray, List.nil_append, List.cons_append]
  gi_wp2
  gi_loopw [7] (fun i wr => i = .int .i64 0 ∧ J [] wr) (fun _ _ => 0)
  case atStart => exact ⟨rfl, h0⟩
  case round =>
    obtain ⟨rfl, hJs⟩ := hrel
    gi_wp2
    go_end0
    exact ⟨⟨_, rfl⟩, hJs⟩
set_option maxHeartbeats 1000000 in
theorem values (F : Fence) (n : Nat) (h5 : F.fn 349) (hro : F.round = none) (a : Option Addr) (len cap : Nat) (w : World) :
    CallsIn F n Tryz.prog 349 #[.slice a len cap] w fun e w' => e = .returned (.func (.func 352) #[] #[.pointer (some ⟨w.heap.size, 0, none⟩)]) ∧ w' = w.alloc (.cells #[.slice a len cap] 24) := by
  refine callsIn_of_wp Tryz.func349 rfl h5 ?_ hro
  simp only [Tryz.ntmps349, List.size_toArray, List.length_cons, List.length_nil, Nat.reduceAdd, Nat.reduceSub, Array.replicate_succ, Array.replicate_zero, List.push_toArray, List.append_toArray, List.nil_append, List.cons_append]
  gi_wp2
  go_ret
  exact ⟨rfl, rfl⟩
theorem sorts (m : Nat) : AnyZ.SortsIn Tryz.prog Tryz.sorted239_ren Fence.wide m :=
  ⟨fun blk off cap ss W hH hblk hsz => callsIn_wide.2 (Any.slices_Sort_string Tryz.lays190 blk off cap ss W hH hblk hsz),
   fun p cap W => callsIn_wide.2 (Any.slices_Sort_string_none Tryz.lays190 p cap W)⟩
/-- The slice value v holds the texts zs. -/
def Texts (w : World) (v : Value) (zs : List (List UInt8)) : Prop :=
  (∃ p, v = .slice p 0 0 ∧ zs = []) ∨ ∃ b off cap, v = .slice (some ⟨b, off, none⟩) zs.length cap ∧ b < w.heap.size ∧ ∀ j, j < zs.length → w.cell? ⟨b, off + j, none⟩ = some (encStr (zs[j]?.getD []))
theorem values_gives (w : World) (n : Nat) (hn : 1 ≤ n) (a : Option Addr) (len cap : Nat) (zs : List (List UInt8)) (hreach : zs.length * 16 ≤ 140737488355328) (h : Texts w (.slice a len cap) zs) :
    SeqB Fence.wide n Tryz.prog 352 #[.pointer (some ⟨w.heap.size, 0, none⟩)] encStr zs (w.alloc (.cells #[.slice a len cap] 24)) := fun l J W hW hJ hY hJB h0 => by
  have hnew : (w.alloc (.cells #[.slice a len cap] 24)).cell? ⟨w.heap.size, 0, none⟩ = some (.slice a len cap) := by simp
  have hBs := (hW.cell (p := ⟨w.heap.size, 0, none⟩) (by simp)).trans hnew
  rcases h with ⟨p, e, rfl⟩ | ⟨b, off, cap', e, hb, hc⟩
  · cases e
    exact (values1_nil Fence.wide n trivial rfl l w.heap.size _ J W hBs h0).mono fun e W' ⟨he, hj⟩ => ⟨he, _, rfl, hj⟩
  · cases e
    refine values1 Fence.wide n trivial rfl hn l w.heap.size _ b off cap zs hreach (by simp; omega) (w.alloc (.cells #[.slice (some ⟨b, off, none⟩) zs.length cap] 24)) J hY hJB W hBs (fun j hj => ?_) h0
    exact ((Below.refl w.heap.size w).alloc (Nat.le_refl _) _).cell (p := ⟨b, off + j, none⟩) hb |>.trans (hc j hj)
set_option maxRecDepth 100000 in
set_option maxHeartbeats 2000000 in
theorem single_low (w : World) (a : Option Addr) (len cap : Nat) (zs : List (List UInt8)) (hreach : zs.length * 16 ≤ 140737488355328) (hlen : len = zs.length) (h : Texts w (.slice a len cap) zs) :
    Calls Tryz.prog 346 #[.slice a len cap] w fun e w' => e = .returned (.bool (decide (((Lib.compact (zs.mergeSort fun x y => decide (x ≤ y))).length : Int) = zs.length))) ∧ Below w.heap.size w w' := by
  refine (callsIn_wide (n := 6)).1 ?_
  subst hlen
  obtain ⟨N, hN⟩ : ∃ N, (Lib.compact (zs.mergeSort fun x y => decide (x ≤ y))).length = N := ⟨_, rfl⟩
  rw [hN]
  have cS := seqB_sorted (ρ := Tryz.sorted239_ren) Tryz.sorted239 Fence.wide 5 trivial trivial trivial trivial rfl (by omega) (sorts _) (enters_of Tryz.func19 (by kernel_rfl) rfl) 352 #[.pointer (some ⟨w.heap.size, 0, none⟩)] trivial (enters_of Tryz.func352 (by kernel_rfl) rfl) zs (by unfold maxLen; omega) (by omega) _ (values_gives w 2 (by omega) a zs.length cap zs hreach h)
  change CallsIn _ _ Tryz.prog 239 _ _ _ at cS
  have hf69 : Fence.wide.fn 349 := trivial
  have hf68 : Fence.wide.fn 239 := trivial
  have hf70 : Fence.wide.fn 206 := trivial
  refine callsIn_of_wp Tryz.func346 rfl trivial ?_ rfl
  simp only [Tryz.ntmps346, List.size_toArray, List.length_cons, List.length_nil, Nat.reduceAdd, Nat.reduceSub, Array.replicate_succ, Array.replicate_zero, List.push_toArray, List.append_toArray, List.nil_append, List.cons_append]
  gi_wp2_with (first
    | (gi_at_call 349; refine (values Fence.wide 5 trivial rfl a zs.length cap w).mono ?_; rintro e w' ⟨rfl, rfl⟩)
    | (gi_at_call 239; refine cS.mono ?_; rintro e w1 ⟨v, ss, rfl, hS, hrow, hnil, hb⟩; subst ss))
  have b1 : Below w.heap.size w w1 := ((Below.refl _ w).alloc (Nat.le_refl _) _).trans (hb.mono (by simp))
  rcases hrow.2 with ⟨rfl, hz⟩ | ⟨gb, cap2, cur, rfl, hbase, hgb, r1, r2, r3, r4⟩
  · obtain rfl : zs = [] := List.eq_nil_of_length_eq_zero (by simpa using hz)
    gi_wp2_with (gi_at_call 206; refine (callsIn_wide.2 (Any.slices_Compact_string_empty Tryz.lays194 none 0 w1)).mono ?_; rintro e w' ⟨rfl, rfl⟩)
    go_ret
    refine ⟨?_, b1⟩
    have e0 : Lib.compact (([] : List (List UInt8)).mergeSort fun x y => decide (x ≤ y)) = [] := by rw [List.mergeSort_nil]; rfl
    rw [e0] at hN
    subst hN
    rfl
  · obtain ⟨ys, hys⟩ : ∃ ys, zs.mergeSort (fun x y => decide (x ≤ y)) = ys := ⟨_, rfl⟩
    have hyl : ys.length = zs.length := by rw [← hys]; exact List.length_mergeSort _
    rw [hys] at hN r4
    have hH : Holds encStr w1 gb 0 ys.toArray := holds_of_block hgb (by rw [hyl]; simpa using r4)
    have cC := Any.slices_Compact_string Tryz.lays194 gb 0 cap2 ys w1 hH (by omega) (by omega)
    rw [hyl, hN] at cC
    gi_wp2_with (gi_at_call 206; refine (callsIn_wide.2 cC).mono ?_; rintro e w' ⟨rfl, q, rfl⟩)
    go_ret
    refine ⟨rfl, ?_⟩
    have hg : w1.grownBy (putRow encStr (Sort.ahead w1 q) gb 0 (Lib.compact ys ++ List.replicate (ys.length - (Lib.compact ys).length) []).toArray) (some gb) := by
      refine ⟨rfl, rfl, rfl, by simp, fun k hk hne => ?_⟩
      have : gb ≠ k := fun e => hne (by rw [e])
      simp [putRow, mapBlock, Sort.ahead, Array.getElem?_modify, this]
    have := b1.grown hg b1.size (fun j hj => by cases hj; have := hbase; simp at this; omega)
    rw [hyl, hN] at this
    exact this
end Go.Proofs.YtfhgkcjhgmoceaaGreatDoor
