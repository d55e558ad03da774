/- Cbor, plainly: what was laid is read; what is cut is not. -/
import Derived.Test.YtmbckfhcljgniaaDoorCb7
namespace Go.Proofs.YtmbckfhcljgniaaDoor
open Go.Lk
/-- What a reader of items does with the items of l, whole or cut. -/
def Cpl (it : List UInt8 → ER) (l : List T_api_Cbor) : Prop := ∀ x ∈ l, (∀ t, it (told x ++ t) = .ok (x, t)) ∧ (∀ p q, told x = p ++ q → q ≠ [] → it p = .error 30)
theorem Cpl.tail {it : List UInt8 → ER} {x : T_api_Cbor} {l : List T_api_Cbor} (h : Cpl it (x :: l)) : Cpl it l := fun y hy => h y (by simp [hy])
theorem decL_complete {it : List UInt8 → ER} (mp : Bool) : ∀ (n f : Nat) (last : List UInt8) (acc l : List T_api_Cbor) (t : List UInt8), Cpl it l → l.length = mpN mp n → n ≤ f → (mp = true → keysOk l last = true) →
    decL it mp f n last acc (tolds l ++ t) = .ok (acc ++ l, t)
  | 0, f, last, acc, l, t, _, hl, _, _ => by
    have : l = [] := by
      apply List.eq_nil_of_length_eq_zero
      rw [hl]; unfold mpN; split <;> rfl
    subst this
    cases f <;> simp [decL, tolds, laidBs, byt]
  | n + 1, 0, _, _, _, _, _, _, hf, _ => by omega
  | n + 1, f + 1, last, acc, l, t, hc, hl, hf, hk => by
    cases mp with
    | false =>
      cases l with
      | nil => simp [mpN] at hl
      | cons x l =>
        rw [tolds_cons, List.append_assoc]
        simp only [decL, (hc x (by simp)).1]
        rw [decL_complete false n f _ _ l t hc.tail (by simp [mpN] at hl ⊢; omega) (by omega) (by simp)]
        simp
    | true =>
      match l, hc, hl, hk with
      | [], _, hl, _ => simp [mpN] at hl
      | [_], _, hl, _ => simp [mpN] at hl; omega
      | x :: y :: l, hc, hl, hk =>
        have hk := hk rfl
        simp only [keysOk, Bool.and_eq_true] at hk
        rw [tolds_cons, tolds_cons, List.append_assoc, List.append_assoc]
        simp only [decL, (hc x (by simp)).1, (hc y (by simp)).1, hk.1]
        rw [decL_complete true n f _ _ l t hc.tail.tail (by simp [mpN] at hl ⊢; omega) (by omega) (fun _ => hk.2)]
        simp
theorem decL_cut {it : List UInt8 → ER} (mp : Bool) : ∀ (n f : Nat) (last : List UInt8) (acc l : List T_api_Cbor) (p q : List UInt8), Cpl it l → l.length = mpN mp n → (mp = true → keysOk l last = true) → tolds l = p ++ q → q ≠ [] →
    decL it mp f n last acc p = .error 30
  | 0, f, last, acc, l, p, q, _, hl, _, he, hq => by
    have : l = [] := by
      apply List.eq_nil_of_length_eq_zero
      rw [hl]; unfold mpN; split <;> rfl
    subst this
    simp [tolds, laidBs, byt] at he
    exact absurd he.2 hq
  | n + 1, 0, _, _, _, _, _, _, _, _, _, _ => rfl
  | n + 1, f + 1, last, acc, l, p, q, hc, hl, hk, he, hq => by
    cases mp with
    | false =>
      cases l with
      | nil => simp [mpN] at hl
      | cons x l =>
        rw [tolds_cons] at he
        rcases List.append_eq_append_iff.1 he with ⟨a, rfl, h2⟩ | ⟨c, h1, rfl⟩
        · simp only [decL, (hc x (by simp)).1]
          exact decL_cut false n f _ _ l a q hc.tail (by simp [mpN] at hl ⊢; omega) (by simp) h2 hq
        · by_cases c0 : c = []
          · subst c0
            simp only [List.append_nil] at h1
            have := (hc x (by simp)).1 []
            rw [List.append_nil] at this
            simp only [decL, ← h1, this]
            exact decL_cut false n f _ _ l [] (tolds l) hc.tail (by simp [mpN] at hl ⊢; omega) (by simp) rfl (by simpa using hq)
          · simp only [decL, (hc x (by simp)).2 _ _ h1 c0]
    | true =>
      match l, hc, hl, hk, he with
      | [], _, hl, _, _ => simp [mpN] at hl
      | [_], _, hl, _, _ => simp [mpN] at hl; omega
      | x :: y :: l, hc, hl, hk, he =>
        have hk := hk rfl
        simp only [keysOk, Bool.and_eq_true] at hk
        have hy := hc y (by simp)
        have hx := hc x (by simp)
        have tl : ∀ a q, tolds l = a ++ q → q ≠ [] → ∀ acc, decL it true f n (keyV x last).1 acc a = .error 30 := fun a q h hq acc => decL_cut true n f _ _ l a q hc.tail.tail (by simp [mpN] at hl ⊢; omega) (fun _ => hk.2) h hq
        have two : ∀ a q, told y ++ tolds l = a ++ q → q ≠ [] → (match it a with | .error e => .error e | .ok (y, s2) => decL it true f n (keyV x last).1 (acc ++ [x] ++ [y]) s2) = Except.error 30 := by
          intro a q h hq
          rcases List.append_eq_append_iff.1 h with ⟨b, rfl, h2⟩ | ⟨c, h1, rfl⟩
          · simp only [hy.1]
            exact tl b q h2 hq _
          · by_cases c0 : c = []
            · subst c0
              simp only [List.append_nil] at h1
              have := hy.1 []
              rw [List.append_nil] at this
              simp only [← h1, this]
              exact tl [] (tolds l) rfl (by simpa using hq) _
            · simp only [hy.2 _ _ h1 c0]
        rw [tolds_cons, tolds_cons] at he
        rcases List.append_eq_append_iff.1 he with ⟨a, rfl, h2⟩ | ⟨c, h1, rfl⟩
        · simp only [decL, hx.1, hk.1]
          exact two a q h2 hq
        · by_cases c0 : c = []
          · subst c0
            simp only [List.append_nil] at h1
            have := hx.1 []
            rw [List.append_nil] at this
            simp only [decL, ← h1, this, hk.1]
            exact two [] _ rfl (by simpa using hq)
          · simp only [decL, hx.2 _ _ h1 c0]
theorem rdHead_cut {k n : Nat} {p q : List UInt8} (hk : k ≤ 5) (h : byt (headB k n) = p ++ q) (hq : q ≠ []) : rdHead p = none := by
  cases p with
  | nil => rfl
  | cons b p =>
    have key : ∀ m w : Nat, 24 ≤ m ∧ m < 28 → 2 ^ (m - 24) = w → headB k n = ((32 * k + m : Nat) : Int) :: be w n → rdHead (b :: p) = none := by
      intro m w hm hw hh
      rw [hh, byt_cons, List.cons_append] at h
      injection h with h1 h2
      have hb : b.toNat = 32 * k + m := by rw [← h1]; simp; omega
      have hl := congrArg List.length h2
      rw [byt_length, be_length, List.length_append] at hl
      have : 1 ≤ q.length := by
        cases q with
        | nil => exact absurd rfl hq
        | cons _ _ => simp
      simp only [rdHead]
      rw [hb, show (32 * k + m) % 32 = m by omega, show (32 * k + m) / 32 = k by omega, if_neg (by omega), if_neg (by omega), hw, if_pos (by omega)]
    by_cases c1 : n < 24
    · have : headB k n = [((32 * k + n : Nat) : Int)] := by unfold headB; rw [if_pos c1]
      rw [this, byt_cons, List.cons_append] at h
      injection h with h1 h2
      have h2 : [] = p ++ q := h2
      have := List.append_eq_nil_iff.1 h2.symm
      exact absurd this.2 hq
    by_cases c2 : n < 256
    · exact key 24 1 (by omega) (by simp) (by unfold headB; rw [if_neg c1, if_pos c2])
    by_cases c3 : n < 65536
    · exact key 25 2 (by omega) (by simp) (by unfold headB; rw [if_neg c1, if_neg c2, if_pos c3])
    by_cases c4 : n < 4294967296
    · exact key 26 4 (by omega) (by simp) (by unfold headB; rw [if_neg c1, if_neg c2, if_neg c3, if_pos c4])
    · exact key 27 8 (by omega) (by simp) (by unfold headB; rw [if_neg c1, if_neg c2, if_neg c3, if_neg c4])
theorem tolds_length {w : Nat} : ∀ {l : List T_api_Cbor}, checkVs w l = 0 → l.length ≤ (tolds l).length
  | [], _ => by simp
  | x :: l, h => by
    obtain ⟨h1, h2⟩ := checkVs_cons.1 h
    have := told_pos h1
    have := tolds_length h2
    rw [tolds_cons, List.length_append, List.length_cons]
    omega
/-- What an item may be, by its kind's number and n. -/
theorem told_cases {m : Nat} {v : T_api_Cbor} (hm : m ≤ 16) (hc : checkV (16 - m) v = 0) (ho : v.ok) (hl : v.gText.length ≤ 2000000 ∧ v.gList.length ≤ 2000000) :
    ∃ k n : Nat, k ≤ 5 ∧ n < 9223372036854775808 ∧ ((k = 0 ∧ v = ⟨0, n, [], []⟩ ∧ told v = byt (headB k n)) ∨ (k = 1 ∧ v = ⟨0, -1 - n, [], []⟩ ∧ told v = byt (headB k n)) ∨
      (k = 2 ∧ n = v.gText.length ∧ v = ⟨1, 0, v.gText, []⟩ ∧ told v = byt (headB k n) ++ v.gText) ∨ (k = 3 ∧ n = v.gText.length ∧ v = ⟨2, 0, v.gText, []⟩ ∧ Lib.validD v.gText = true ∧ told v = byt (headB k n) ++ v.gText) ∨
      ((k = 4 ∨ k = 5) ∧ 1 ≤ m ∧ v = ⟨(k : Int) - 1, 0, [], v.gList⟩ ∧ v.gList.length = mpN (k == 5) n ∧ ((k == 5) = true → keysOk v.gList [] = true) ∧ checkVs (16 - (m - 1)) v.gList = 0 ∧ told v = byt (headB k n) ++ tolds v.gList)) := by
  obtain ⟨h1, h2, h3, h4⟩ := checkV_zero hc
  rw [fieldsV_iff] at h2
  rw [T_api_Cbor.ok_eq] at ho
  obtain ⟨k, n, t, l⟩ := v
  simp only at h1 h2 h3 h4 ho hl ⊢
  obtain ⟨g1, g2, g3, g4, g5⟩ := h2
  by_cases k0 : k = 0
  · have ht : t = [] := by
      rcases g3 with h | h | h
      · omega
      · omega
      · exact h
    have hll : l = [] := by
      rcases g4 with h | h | h
      · omega
      · omega
      · exact h
    subst ht hll k0
    by_cases hn : n < 0
    · refine ⟨1, (-1 - n).toNat, by omega, by omega, .inr (.inl ⟨rfl, by rw [show -1 - (((-1 - n).toNat : Nat) : Int) = n by omega], ?_⟩)⟩
      rw [told_num 0 rfl, if_pos hn]
    · refine ⟨0, n.toNat, by omega, by omega, .inl ⟨rfl, by rw [show ((n.toNat : Nat) : Int) = n by omega], ?_⟩⟩
      rw [told_num 0 rfl, if_neg hn]
  have n0 : n = 0 := by omega
  subst n0
  by_cases k12 : k = 1 ∨ k = 2
  · have hll : l = [] := by
      rcases g4 with h | h | h
      · omega
      · omega
      · exact h
    subst hll
    have ht : told ⟨k, 0, t, []⟩ = byt (headB (k.toNat + 1) t.length) ++ t := by
      rw [told_eq]
      simp only [hdB]
      rw [if_neg k0, if_pos k12, byt_append, byt_unb]
      simp [laidBs, byt]
    rcases k12 with k1 | k2
    · subst k1
      exact ⟨2, t.length, by omega, by omega, .inr (.inr (.inl ⟨rfl, rfl, rfl, ht⟩))⟩
    · subst k2
      exact ⟨3, t.length, by omega, by omega, .inr (.inr (.inr (.inl ⟨rfl, rfl, rfl, g5 rfl, ht⟩)))⟩
  have ht : t = [] := by
    rcases g3 with h | h | h
    · omega
    · omega
    · exact h
  subst ht
  have hm1 : 1 ≤ m := by omega
  have h4' : checkVs (16 - (m - 1)) l = 0 := by rw [show 16 - (m - 1) = 16 - m + 1 by omega]; exact h4
  by_cases k3 : k = 3
  · subst k3
    refine ⟨4, l.length, by omega, by omega, .inr (.inr (.inr (.inr ⟨.inl rfl, hm1, rfl, rfl, (fun h => absurd h (by decide)), h4', ?_⟩)))⟩
    rw [told_eq]
    rfl
  · have k4 : k = 4 := by omega
    subst k4
    have h5 : l.length % 2 ≠ 1 ∧ keysOk l [] = true := by
      constructor
      · intro h; exact h3 ⟨rfl, .inl h⟩
      · cases h : keysOk l [] with
        | true => rfl
        | false => exact absurd ⟨rfl, .inr h⟩ h3
    refine ⟨5, l.length / 2, by omega, by omega, .inr (.inr (.inr (.inr ⟨.inr rfl, hm1, rfl, by simp [mpN]; omega, fun _ => h5.2, h4', ?_⟩)))⟩
    rw [told_eq]
    rfl
theorem itemR2 (n : Nat) (r : List UInt8) (nest : Except Int (List T_api_Cbor × List UInt8)) : itemR 2 n r nest = if n ≤ r.length then .ok (⟨1, 0, r.take n, []⟩, r.drop n) else .error 30 := rfl
theorem itemR3 (n : Nat) (r : List UInt8) (nest : Except Int (List T_api_Cbor × List UInt8)) : itemR 3 n r nest = if n ≤ r.length then (if Lib.validD (r.take n) = true then .ok (⟨2, 0, r.take n, []⟩, r.drop n) else .error 30) else .error 30 := rfl
theorem decI_cplS (m : Nat) (hm : m ≤ 16) (ih : 1 ≤ m → ∀ v : T_api_Cbor, checkV (16 - (m - 1)) v = 0 → v.ok → v.sz ≤ 2000000 → (∀ t, decI (m - 1) (told v ++ t) = .ok (v, t)) ∧ (∀ p q, told v = p ++ q → q ≠ [] → decI (m - 1) p = .error 30))
    (v : T_api_Cbor) (hc : checkV (16 - m) v = 0) (ho : v.ok) (hz : v.sz ≤ 2000000) : (∀ t, decI m (told v ++ t) = .ok (v, t)) ∧ (∀ p q, told v = p ++ q → q ≠ [] → decI m p = .error 30) := by
  have hl := szs_len v.gList
  have hzz := hz
  rw [v.sz_eq] at hz
  obtain ⟨k, n, hk, hn, h⟩ := told_cases hm hc ho (by omega)
  rcases h with ⟨k0, hv, ht⟩ | ⟨k0, hv, ht⟩ | ⟨k0, hl, hv, ht⟩ | ⟨k0, hl, hv, hd, ht⟩ | ⟨k0, h1, hv, hl, hko, hcs, ht⟩
  · subst k0
    refine ⟨fun t => ?_, fun p q e hq => ?_⟩
    · rw [decI_eq, ht, rdHead_complete 0 n t hk hn, hv]; rfl
    · rw [decI_eq, rdHead_cut hk (ht ▸ e) hq]
  · subst k0
    refine ⟨fun t => ?_, fun p q e hq => ?_⟩
    · rw [decI_eq, ht, rdHead_complete 1 n t hk hn, hv]; rfl
    · rw [decI_eq, rdHead_cut hk (ht ▸ e) hq]
  · subst k0
    refine ⟨fun t => ?_, fun p q e hq => ?_⟩
    · rw [decI_eq, ht, List.append_assoc, rdHead_complete 2 n _ hk hn]
      simp only [itemR2]
      rw [if_pos (by rw [List.length_append]; omega), hl]
      simp only [List.take_left, List.drop_left]
      rw [← hv]
    · rw [ht] at e
      rcases List.append_eq_append_iff.1 e with ⟨a, rfl, h2⟩ | ⟨c, h1, rfl⟩
      · rw [decI_eq, rdHead_complete 2 n a hk hn]
        simp only [itemR2]
        have := congrArg List.length h2
        have : 1 ≤ q.length := List.length_pos_iff.2 hq
        rw [if_neg (by simp only [List.length_append] at *; omega)]
      · by_cases c0 : c = []
        · subst c0
          have h3 := rdHead_complete 2 n [] hk hn
          rw [List.append_nil] at h1 h3
          rw [decI_eq, ← h1, h3]
          have : 1 ≤ v.gText.length := List.length_pos_iff.2 (by simpa using hq)
          simp only [itemR2]
          rw [if_neg (by simp only [List.length_nil]; omega)]
        · rw [decI_eq, rdHead_cut hk h1 c0]
  · subst k0
    refine ⟨fun t => ?_, fun p q e hq => ?_⟩
    · rw [decI_eq, ht, List.append_assoc, rdHead_complete 3 n _ hk hn]
      simp only [itemR3]
      rw [if_pos (by rw [List.length_append]; omega), hl]
      simp only [List.take_left, List.drop_left]
      rw [if_pos hd, ← hv]
    · rw [ht] at e
      rcases List.append_eq_append_iff.1 e with ⟨a, rfl, h2⟩ | ⟨c, h1, rfl⟩
      · rw [decI_eq, rdHead_complete 3 n a hk hn]
        simp only [itemR3]
        have := congrArg List.length h2
        have : 1 ≤ q.length := List.length_pos_iff.2 hq
        rw [if_neg (by simp only [List.length_append] at *; omega)]
      · by_cases c0 : c = []
        · subst c0
          have h3 := rdHead_complete 3 n [] hk hn
          rw [List.append_nil] at h1 h3
          rw [decI_eq, ← h1, h3]
          have : 1 ≤ v.gText.length := List.length_pos_iff.2 (by simpa using hq)
          simp only [itemR3]
          rw [if_neg (by simp only [List.length_nil]; omega)]
        · rw [decI_eq, rdHead_cut hk h1 c0]
  · have hos := ((T_api_Cbor.ok_eq v).1 ho).2.2
    have cpl : Cpl (decI (m - 1)) v.gList := fun x hx => ih h1 x (by
        have : ∀ {l : List T_api_Cbor}, checkVs (16 - (m - 1)) l = 0 → x ∈ l → checkV (16 - (m - 1)) x = 0 := by
          intro l
          induction l with
          | nil => intro _ h; cases h
          | cons y l ih =>
            intro h1 h2
            obtain ⟨h3, h4⟩ := checkVs_cons.1 h1
            rcases List.mem_cons.1 h2 with rfl | h2
            · exact h3
            · exact ih h4 h2
        exact this hcs hx) (oks_mem hos x hx) (by have := szs_mem hx; omega)
    have hnk : ¬ k = 0 ∧ ¬ k = 1 ∧ ¬ k = 2 ∧ ¬ k = 3 := by omega
    have hnl : n ≤ v.gList.length := by rw [hl]; unfold mpN; split <;> omega
    have hnest : ∀ r, nestI m k n r = decL (decI (m - 1)) (k == 5) (r.length + 1) n [] [] r := fun r => by
      cases m with
      | zero => omega
      | succ m => rfl
    refine ⟨fun t => ?_, fun p q e hq => ?_⟩
    · rw [decI_eq, ht, List.append_assoc, rdHead_complete k n _ hk hn]
      simp only [itemR, hnest, hnk, if_false]
      have hlen := tolds_length hcs
      rw [decL_complete (k == 5) n _ _ _ v.gList t cpl hl (by rw [List.length_append]; omega) hko]
      simp only [List.nil_append]
      rw [← hv]
    · rw [ht] at e
      have rest : ∀ a, tolds v.gList = a ++ q → decI m (byt (headB k n) ++ a) = .error 30 := fun a h2 => by
        rw [decI_eq, rdHead_complete k n a hk hn]
        simp only [itemR, hnest, hnk, if_false]
        rw [decL_cut (k == 5) n _ _ _ v.gList a q cpl hl hko h2 hq]
      rcases List.append_eq_append_iff.1 e with ⟨a, rfl, h2⟩ | ⟨c, h1, rfl⟩
      · exact rest a h2
      · by_cases c0 : c = []
        · subst c0
          have := rest [] (by simp)
          rw [List.append_nil] at this h1
          rw [← h1, this]
        · rw [decI_eq, rdHead_cut hk h1 c0]
theorem decI_cpl : ∀ (m : Nat) (v : T_api_Cbor), m ≤ 16 → checkV (16 - m) v = 0 → v.ok → v.sz ≤ 2000000 → (∀ t, decI m (told v ++ t) = .ok (v, t)) ∧ (∀ p q, told v = p ++ q → q ≠ [] → decI m p = .error 30) := by
  intro m
  induction m with
  | zero => exact fun v hm => decI_cplS 0 hm (fun h => by omega) v
  | succ m ih => exact fun v hm => decI_cplS (m + 1) hm (fun _ v => ih v (by omega)) v
end Go.Proofs.YtmbckfhcljgniaaDoor
