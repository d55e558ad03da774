/- Cbor, plainly: the document's reader. -/
import Derived.Test.YtmbckfhcljgniaaDoorCb9
namespace Go.Proofs.YtmbckfhcljgniaaDoor
open Go.Lk
/-- What the document's reader gives at i of s, where the rest is read as e. -/
def RefI (s : List UInt8) (i : Nat) (e : ER) (y : T_api_Cbor × Int × T_seneschalref03_reader) : Prop := match e with
  | .ok (x, r) => y.1 = x ∧ y.2.1 = 0 ∧ ∃ j : Nat, y.2.2 = ⟨s, (j : Int)⟩ ∧ i < j ∧ j ≤ s.length ∧ s.drop j = r
  | .error e => y.1 = zeroT ∧ y.2.1 = e ∧ e ≠ 0
def RefL (s : List UInt8) (a b : Int) (c : List UInt8) (e : Except Int (List T_api_Cbor × List UInt8)) (y : T_api_Cbor × Int × T_seneschalref03_reader) : Prop := match e with
  | .ok (l, r) => y.1 = ⟨a, b, c, l⟩ ∧ y.2.1 = 0 ∧ ∃ j : Nat, y.2.2 = ⟨s, (j : Int)⟩ ∧ j ≤ s.length ∧ s.drop j = r
  | .error e => y.1 = zeroT ∧ y.2.1 = e ∧ e ≠ 0
theorem sub_nat {α : Type} (l : List α) (a b : Nat) (h1 : a ≤ b) (h2 : b ≤ l.length) : sub l (a : Int) (b : Int) = some ((l.take b).drop a) := by
  unfold sub
  rw [if_pos (by omega)]
  simp
theorem take_drop_told {s : List UInt8} {i j : Nat} {t : List UInt8} (h : s.drop i = t ++ s.drop j) (hij : i ≤ j) (hj : j ≤ s.length) : (s.take j).drop i = t := by
  have h1 : t.length = j - i := by
    have := congrArg List.length h
    simp only [List.length_append, List.length_drop] at this
    omega
  rw [List.drop_take, h, List.take_append_of_le_length (by omega), List.take_of_length_le (by omega)]
theorem keyV_snd {x : T_api_Cbor} (last : List UInt8) (h : fieldsV x = true) : keyV x last = if x.gKind = 0 ∨ x.gKind = 2 then (told x, !(slt (told x) last || decide (told x = last))) else ([], false) := by
  unfold keyV
  simp [h]
theorem ritem_k3 (fuel : Nat) (self : T_seneschalref03_reader → Int → Option (T_api_Cbor × Int × T_seneschalref03_reader)) (it : List UInt8 → ER) (s : List UInt8) (p1 q : Int) (k n0 : Nat) (bb : Bool) (rd : T_seneschalref03_reader) (x183 x184 : Int) (x185 : List UInt8) (x186 : List T_api_Cbor) (x190 x191 : Int) (x192 : List UInt8) {w : Nat}
    (hq : IntKind.wrap .i64 (p1 + 1) = q) (hsl : s.length ≤ 100000) (hn0 : n0 < 9223372036854775808)
    (hs : ∀ i : Nat, i ≤ s.length → ∃ y, self ⟨s, (i : Int)⟩ q = some y ∧ RefI s i (it (s.drop i)) y) (hit : Snd w it) :
    ∀ (f n : Nat) (last : List UInt8) (acc : List T_api_Cbor) (i : Nat), n ≤ n0 → s.length - i < f → acc.length + 2 * (s.length - i) ≤ 200000 → i ≤ s.length →
      ∃ y, M.r03_reader_item_k3 fuel self p1 ((k : Int), (n0 : Int), bb, rd) s (i : Int) x183 x184 x185 x186 x190 x191 x192 acc last (((n0 - n : Nat) : Int)) = some y ∧ RefL s x190 x191 x192 (decL it (k == 5) f n last acc (s.drop i)) y
  | f, 0, last, acc, i, _, _, _, hi => by
    unfold M.r03_reader_item_k3
    rw [if_neg (by simp)]
    refine ⟨_, rfl, ?_⟩
    have : decL it (k == 5) f 0 last acc (s.drop i) = .ok (acc, s.drop i) := by cases f <;> rfl
    rw [this]
    exact ⟨rfl, rfl, i, rfl, hi, rfl⟩
  | 0, n + 1, _, _, _, _, h, _, _ => by omega
  | f + 1, n + 1, last, acc, i, hn, h1, h2, hi => by
    unfold M.r03_reader_item_k3
    rw [if_pos (by simp; omega)]
    have e0 : IntKind.wrap .i64 (((n0 - (n + 1) : Nat) : Int) + 1) = ((n0 - n : Nat) : Int) := by rw [w64] <;> omega
    obtain ⟨y, hy, R⟩ := hs i hi
    simp only [Option.bind_eq_bind, hq, decide_eq_true_eq, e0, hy, Option.bind_some, decL]
    by_cases k5 : k = 5
    · subst k5
      rw [if_pos (by omega)]
      cases hx : it (s.drop i) with
      | error e =>
        rw [hx] at R
        obtain ⟨r1, r2, r3⟩ := R
        simp only [r2, r3, if_false, decide_false, Bool.not_false, if_true]
        exact ⟨_, rfl, rfl, rfl, r3⟩
      | ok p =>
        obtain ⟨x, s1⟩ := p
        rw [hx] at R
        obtain ⟨r1, r2, j, r3, hij, hj, rfl⟩ := R
        obtain ⟨q1, q2, q3⟩ := hit _ _ _ hx
        have fx := (checkV_zero q2).2.1
        have hsub : sub s (i : Int) (j : Int) = some (told x) := by rw [sub_nat s i j (by omega) hj, take_drop_told q1 (by omega) hj]
        obtain ⟨y2, hy2, R2⟩ := hs j hj
        simp only [r1, r2, r3, if_true, decide_true, Bool.not_true, Bool.false_eq_true, if_false, hsub, Option.bind_some, hy2, show ((5 : Nat) == 5) = true from rfl]
        rw [keyV_snd last fx]
        have cont : ∃ z, ((app 56 acc [x]).bind fun l1 => if (!decide (y2.2.1 = 0)) = true then some (T_api_Cbor.mk 0 0 [] [], y2.2.1, y2.2.2) else (app 56 l1 [y2.1]).bind fun l2 =>
            M.r03_reader_item_k3 fuel self p1 (((5 : Nat) : Int), (n0 : Int), bb, rd) y2.2.2.gs y2.2.2.gi x183 x184 x185 x186 x190 x191 x192 l2 (told x) (((n0 - n : Nat) : Int))) = some z ∧
            RefL s x190 x191 x192 (match it (s.drop j) with
              | .error e => .error e
              | .ok (y, s2) => decL it true f n (told x) (acc ++ [x] ++ [y]) s2) z := by
          rw [app_ok (by simp; omega)]
          simp only [Option.bind_some]
          cases hx2 : it (s.drop j) with
          | error e =>
            rw [hx2] at R2
            obtain ⟨t1, t2, t3⟩ := R2
            simp only [t2, t3, decide_false, Bool.not_false, if_true]
            exact ⟨_, rfl, rfl, rfl, t3⟩
          | ok p =>
            obtain ⟨x2, s2⟩ := p
            rw [hx2] at R2
            obtain ⟨t1, t2, j2, t3, hij2, hj2, rfl⟩ := R2
            simp only [t1, t2, t3, decide_true, Bool.not_true, Bool.false_eq_true, if_false]
            rw [app_ok (by simp; omega)]
            simp only [Option.bind_some]
            exact ritem_k3 fuel self it s p1 q 5 n0 bb rd x183 x184 x185 x186 x190 x191 x192 hq hsl hn0 hs hit f n (told x) (acc ++ [x] ++ [x2]) j2 (by omega) (by omega) (by simp; omega) hj2
        by_cases g0 : x.gKind = 0
        · simp only [g0, decide_true, Bool.not_true, Bool.false_eq_true, if_false, true_or, if_true]
          cases hc : (slt (told x) last || decide (told x = last)) with
          | true =>
            simp only [Bool.not_true]
            exact ⟨_, rfl, rfl, rfl, by decide⟩
          | false =>
            simp only [Bool.false_eq_true, if_false, Bool.not_false]
            exact cont
        by_cases g2 : x.gKind = 2
        · simp only [g2, decide_true, Bool.not_true, Bool.false_eq_true, if_false, or_true, if_true]
          cases hc : (slt (told x) last || decide (told x = last)) with
          | true =>
            simp only [Bool.not_true]
            exact ⟨_, rfl, rfl, rfl, by decide⟩
          | false =>
            simp only [Bool.false_eq_true, if_false, Bool.not_false]
            exact cont
        · simp only [g0, g2, decide_false, Bool.not_false, if_true, or_self, if_false]
          exact ⟨_, rfl, rfl, rfl, by decide⟩
    · rw [if_neg (by omega)]
      have kb : (k == 5) = false := by simpa using k5
      cases hx : it (s.drop i) with
      | error e =>
        rw [hx] at R
        obtain ⟨r1, r2, r3⟩ := R
        simp only [r2, r3, decide_false, Bool.not_false, if_true]
        exact ⟨_, rfl, rfl, rfl, r3⟩
      | ok p =>
        obtain ⟨x, s1⟩ := p
        rw [hx] at R
        obtain ⟨r1, r2, j, r3, hij, hj, rfl⟩ := R
        simp only [r1, r2, r3, decide_true, Bool.not_true, Bool.false_eq_true, if_false, kb]
        rw [app_ok (by simp; omega)]
        simp only [Option.bind_some]
        have := ritem_k3 fuel self it s p1 q k n0 bb rd x183 x184 x185 x186 x190 x191 x192 hq hsl hn0 hs hit f n last (acc ++ [x]) j (by omega) (by omega) (by simp; omega) hj
        rw [kb] at this
        exact this
theorem ritem_step (m fuel : Nat) (s : List UInt8) (hm : m ≤ 16) (hl : s.length ≤ 100000)
    (ih : 1 ≤ m → ∀ i : Nat, i ≤ s.length → ∃ y, M.r03_reader_item fuel ⟨s, (i : Int)⟩ ((16 - (m - 1) : Nat) : Int) = some y ∧ RefI s i (decI (m - 1) (s.drop i)) y) (i : Nat) (hi : i ≤ s.length) :
    ∃ y, M.r03_reader_item (fuel + 1) ⟨s, (i : Int)⟩ ((16 - m : Nat) : Int) = some y ∧ RefI s i (decI m (s.drop i)) y := by
  rw [M.r03_reader_item, decI_eq]
  obtain ⟨k, n, ok, j, h1, h2⟩ := r03_reader_head_eq s i (by omega) hi
  rw [h1]
  simp only [Option.bind_eq_bind, Option.bind_some]
  cases hh : rdHead (s.drop i) with
  | none =>
    rw [hh] at h2
    simp only at h2
    subst h2
    exact ⟨_, rfl, rfl, rfl, by decide⟩
  | some p =>
    obtain ⟨k, n, r⟩ := p
    rw [hh] at h2
    obtain ⟨rfl, rfl, rfl, j, rfl, hij, hj, rfl⟩ := h2
    obtain ⟨g1, g2, g3⟩ := rdHead_sound hh
    simp only [Bool.not_true, Bool.false_eq_true, if_false, decide_eq_true_eq, itemR]
    by_cases k0 : k = 0
    · rw [if_pos (by omega), if_pos k0]
      exact ⟨_, rfl, rfl, rfl, j, rfl, hij, hj, rfl⟩
    rw [if_neg (by omega), if_neg k0]
    by_cases k1 : k = 1
    · rw [if_pos (by omega), if_pos k1, w64 (by omega) (by omega)]
      exact ⟨_, rfl, rfl, rfl, j, rfl, hij, hj, rfl⟩
    rw [if_neg (by omega), if_neg k1]
    have e1 : IntKind.wrap .i64 ((s.length : Int) - (j : Int)) = ((s.length - j : Nat) : Int) := by rw [w64 (by omega) (by omega)]; omega
    have e4 : IntKind.wrap .i64 ((k : Int) - 1) = (k : Int) - 1 := by rw [w64] <;> omega
    have hdl : (s.drop j).length = s.length - j := List.length_drop
    have k1t : M.r03_reader_item_k1 (fuel + 1) (M.r03_reader_item fuel) ((16 - m : Nat) : Int) ((k : Int), (n : Int), true, ⟨s, (j : Int)⟩) true = 
        if s.length - j < n then some (zeroT, 30, ⟨s, (j : Int)⟩) else if k = 3 ∧ Lib.validD ((s.drop j).take n) = false then some (zeroT, 30, ⟨s, ((j + n : Nat) : Int)⟩) else some (⟨(k : Int) - 1, 0, (s.drop j).take n, []⟩, 0, ⟨s, ((j + n : Nat) : Int)⟩) := by
      unfold M.r03_reader_item_k1
      rw [if_pos rfl]
      simp only [e1, e4, decide_eq_true_eq, Option.bind_eq_bind]
      by_cases c : s.length - j < n
      · rw [if_pos (by omega), if_pos c]; rfl
      rw [if_neg (by omega), if_neg c]
      have e5 : IntKind.wrap .i64 ((j : Int) + (n : Int)) = ((j + n : Nat) : Int) := by rw [w64] <;> omega
      rw [e5, sub_nat s j (j + n) (by omega) (by omega)]
      have e6 : (s.take (j + n)).drop j = (s.drop j).take n := by rw [List.drop_take]; congr 1; omega
      rw [e6]
      simp only [Option.bind_some]
      by_cases k3 : k = 3
      · rw [if_pos (by omega)]
        simp only [M.validString, Option.bind_eq_bind]
        rw [chk_ok (by simp; omega)]
        simp only [Option.bind_some]
        cases hv : Lib.validD ((s.drop j).take n) with
        | true => simp [k3]
        | false => simp [k3, zeroT]
      · rw [if_neg (by omega), if_neg (fun h => k3 h.1)]
        rfl
    by_cases k2 : k = 2
    · rw [if_pos (by omega), if_pos k2, decide_eq_true (by omega), k1t]
      by_cases c : s.length - j < n
      · rw [if_pos c, if_neg (by omega)]
        exact ⟨_, rfl, rfl, rfl, by decide⟩
      · rw [if_neg c, if_neg (by omega), if_pos (by omega)]
        refine ⟨_, rfl, by rw [k2]; rfl, rfl, j + n, rfl, by omega, by omega, by rw [List.drop_drop]⟩
    rw [if_neg (by omega), if_neg k2]
    by_cases k3 : k = 3
    · rw [decide_eq_true (by omega), k1t, if_pos k3]
      by_cases c : s.length - j < n
      · rw [if_pos c, if_neg (show ¬ n ≤ (s.drop j).length by omega)]
        exact ⟨_, rfl, rfl, rfl, by decide⟩
      · rw [if_neg c, if_pos (show n ≤ (s.drop j).length by omega)]
        cases hv : Lib.validD ((s.drop j).take n) with
        | true =>
          rw [if_neg (by simp), if_pos rfl]
          refine ⟨_, rfl, by rw [k3]; rfl, rfl, j + n, rfl, by omega, by omega, by rw [List.drop_drop]⟩
        | false =>
          rw [if_pos ⟨k3, rfl⟩, if_neg (by simp)]
          exact ⟨_, rfl, rfl, rfl, by decide⟩
    rw [decide_eq_false (by omega), if_neg k3]
    unfold M.r03_reader_item_k1
    rw [if_neg (by simp)]
    simp only [decide_eq_true_eq, e4]
    by_cases m0 : m = 0
    · subst m0
      rw [if_pos (by omega)]
      exact ⟨_, rfl, rfl, rfl, by decide⟩
    rw [if_neg (by omega)]
    have e2 : IntKind.wrap .i64 (((16 - m : Nat) : Int) + 1) = ((16 - (m - 1) : Nat) : Int) := by rw [w64] <;> omega
    have hnest : nestI m k n (s.drop j) = decL (decI (m - 1)) (k == 5) (s.length - j + 1) n [] [] (s.drop j) := by
      cases m with
      | zero => omega
      | succ m => rw [← hdl]; rfl
    obtain ⟨y, hy, R⟩ := ritem_k3 (fuel + 1) (M.r03_reader_item fuel) (decI (m - 1)) s _ _ k n true ⟨s, (j : Int)⟩ 0 0 [] [] ((k : Int) - 1) 0 [] e2 hl g3 (ih (by omega)) (decI_sound (m - 1) (by omega)) (s.length - j + 1) n [] [] j (by omega) (by omega) (by simp; omega) hj
    rw [Nat.sub_self] at hy
    refine ⟨y, hy, ?_⟩
    rw [hnest]
    cases hd : decL (decI (m - 1)) (k == 5) (s.length - j + 1) n [] [] (s.drop j) with
    | error e =>
      rw [hd] at R
      exact R
    | ok p =>
      obtain ⟨l, r⟩ := p
      rw [hd] at R
      obtain ⟨a1, a2, j', a3, a4, a5⟩ := R
      refine ⟨a1, a2, j', a3, ?_, a4, a5⟩
      obtain ⟨l', _, b1, b2, b3, _⟩ := decL_sound (decI_sound (m - 1) (by omega)) (k == 5) _ _ _ _ _ _ _ hd
      have c1 := congrArg List.length b2
      have c2 := congrArg List.length a5
      simp only [List.length_append, List.length_drop] at c1 c2
      omega
theorem ritem_eq : ∀ (m fuel : Nat) (s : List UInt8), m ≤ 16 → m < fuel → s.length ≤ 100000 → ∀ i : Nat, i ≤ s.length → ∃ y, M.r03_reader_item fuel ⟨s, (i : Int)⟩ ((16 - m : Nat) : Int) = some y ∧ RefI s i (decI m (s.drop i)) y := by
  intro m
  induction m with
  | zero =>
    intro fuel s hm hf hl
    obtain ⟨fuel, rfl⟩ : ∃ g, fuel = g + 1 := ⟨fuel - 1, by omega⟩
    exact ritem_step 0 fuel s hm hl (fun h => by omega)
  | succ m ih =>
    intro fuel s hm hf hl
    obtain ⟨fuel, rfl⟩ : ∃ g, fuel = g + 1 := ⟨fuel - 1, by omega⟩
    exact ritem_step (m + 1) fuel s hm hl (fun _ => ih fuel s (by omega) (by omega) hl)
theorem r03_Decode_eq (fuel : Nat) (s : List UInt8) (hf : 16 < fuel) : M.r03_Decode fuel s = some (decode s) := by
  unfold M.r03_Decode decode
  simp only [decide_eq_true_eq]
  by_cases c : 4096 < s.length
  · rw [if_pos (by omega), if_pos c]; rfl
  rw [if_neg (by omega), if_neg c]
  obtain ⟨y, hy, R⟩ := ritem_eq 16 fuel s (by omega) hf (by omega) 0 (by omega)
  rw [show ((16 - 16 : Nat) : Int) = 0 from rfl] at hy
  rw [hy]
  simp only [Option.bind_eq_bind, Option.bind_some]
  rw [List.drop_zero] at R
  cases h : decI 16 s with
  | error e =>
    rw [h] at R
    obtain ⟨r1, r2, r3⟩ := R
    simp [r2, r3, zeroT]
  | ok p =>
    obtain ⟨x, r⟩ := p
    rw [h] at R
    obtain ⟨r1, r2, j, r3, r4, r5, rfl⟩ := R
    simp only [r1, r2, r3, decide_true, Bool.not_true, Bool.false_eq_true, if_false]
    rw [List.length_drop, show s.length - (s.length - j) = j by omega]
end Go.Proofs.YtmbckfhcljgniaaDoor
