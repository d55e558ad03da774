/- Cbor, plainly: what is read is what was laid, and the other way round. -/
import Derived.Test.YtmbckfhcljgniaaDoorCb6
namespace Go.Proofs.YtmbckfhcljgniaaDoor
open Go.Lk
theorem fieldsV_iff (v : T_api_Cbor) : fieldsV v = true ↔ (0 ≤ v.gKind ∧ v.gKind < 5) ∧ (v.gKind = 0 ∨ v.gNum = 0) ∧ (v.gKind = 1 ∨ v.gKind = 2 ∨ v.gText = []) ∧ (v.gKind = 3 ∨ v.gKind = 4 ∨ v.gList = []) ∧ (v.gKind = 2 → Lib.validD v.gText = true) := by
  unfold fieldsV
  exact decide_eq_true_iff
/-- What a sound item has. -/
theorem checkV_zero {w : Nat} {v : T_api_Cbor} (h : checkV w v = 0) : ¬ ((v.gKind = 3 ∨ v.gKind = 4) ∧ 16 ≤ w) ∧ fieldsV v = true ∧ ¬ (v.gKind = 4 ∧ (v.gList.length % 2 = 1 ∨ keysOk v.gList [] = false)) ∧ checkVs (w + 1) v.gList = 0 := by
  rw [checkV_eq] at h
  split at h
  · cases h
  rename_i h1
  split at h
  · cases h
  rename_i h2
  split at h
  · cases h
  rename_i h3
  exact ⟨h1, by simpa using h2, h3, h⟩
theorem checkV_mk {w : Nat} {v : T_api_Cbor} (h1 : ¬ ((v.gKind = 3 ∨ v.gKind = 4) ∧ 16 ≤ w)) (h2 : fieldsV v = true) (h3 : ¬ (v.gKind = 4 ∧ (v.gList.length % 2 = 1 ∨ keysOk v.gList [] = false))) (h4 : checkVs (w + 1) v.gList = 0) : checkV w v = 0 := by
  rw [checkV_eq, if_neg h1, if_neg (by simp [h2]), if_neg h3, h4]
theorem checkVs_cons {w : Nat} {x : T_api_Cbor} {l : List T_api_Cbor} : checkVs w (x :: l) = 0 ↔ checkV w x = 0 ∧ checkVs w l = 0 := by
  simp only [checkVs]
  split
  · rename_i h; simp [h]
  · rename_i h; simp [h]
theorem checkVs_append {w : Nat} : ∀ {l l2 : List T_api_Cbor}, checkVs w (l ++ l2) = 0 ↔ checkVs w l = 0 ∧ checkVs w l2 = 0
  | [], l2 => by simp [checkVs]
  | x :: l, l2 => by
    rw [List.cons_append, checkVs_cons, checkVs_cons, checkVs_append, and_assoc]
theorem checkVs_nil (w : Nat) : checkVs w [] = 0 := by simp [checkVs]
theorem hdB_pos {v : T_api_Cbor} (h : fieldsV v = true) (len : Nat) : 1 + v.gText.length ≤ (hdB v.gKind v.gNum v.gText len).length := by
  rw [fieldsV_iff] at h
  unfold hdB
  have L := fun a b => headB_length a b
  obtain ⟨h1, h2, h3, h4, h5⟩ := h
  by_cases k0 : v.gKind = 0
  · have : v.gText = [] := by
      rcases h3 with h | h | h
      · omega
      · omega
      · exact h
    rw [if_pos k0, this]
    split <;> simp [L]
  rw [if_neg k0]
  by_cases k12 : v.gKind = 1 ∨ v.gKind = 2
  · rw [if_pos k12]
    have := L (v.gKind.toNat + 1) v.gText.length
    simp only [List.length_append, unb_length]
    omega
  rw [if_neg k12]
  have : v.gText = [] := by
    rcases h3 with h | h | h
    · omega
    · omega
    · exact h
  rw [this]
  by_cases k3 : v.gKind = 3
  · rw [if_pos k3]
    simp [L]
  rw [if_neg k3, if_pos (by omega)]
  simp [L]
mutual
theorem sz_le : ∀ (v : T_api_Cbor) (w : Nat), checkV w v = 0 → v.sz + 1 ≤ 2 * (laidB v).length
  | ⟨k, n, t, l⟩, w, h => by
    obtain ⟨h1, h2, h3, h4⟩ := checkV_zero h
    have h5 := hdB_pos h2 l.length
    have h6 := szs_le l (w + 1) h4
    simp only [T_api_Cbor.sz, laidB, List.length_append]
    simp only at h5
    omega
theorem szs_le : ∀ (l : List T_api_Cbor) (w : Nat), checkVs w l = 0 → szs l ≤ 2 * (laidBs l).length
  | [], _, _ => by simp [szs]
  | x :: l, w, h => by
    obtain ⟨h1, h2⟩ := checkVs_cons.1 h
    have h3 := sz_le x w h1
    have h4 := szs_le l w h2
    simp only [szs, laidBs, List.length_append]
    omega
end
mutual
theorem dep_le : ∀ (v : T_api_Cbor) (w : Nat), w ≤ 16 → checkV w v = 0 → v.dep + w ≤ 17
  | ⟨k, n, t, l⟩, w, hw, h => by
    obtain ⟨h1, h2, h3, h4⟩ := checkV_zero h
    rw [fieldsV_iff] at h2
    simp only [T_api_Cbor.dep]
    rcases h2.2.2.2.1 with h | h | h
    · simp only at h h1
      have := deps_le l (w + 1) (by omega) h4
      omega
    · simp only at h h1
      have := deps_le l (w + 1) (by omega) h4
      omega
    · simp only at h
      subst h
      simp only [deps]
      omega
theorem deps_le : ∀ (l : List T_api_Cbor) (w : Nat), w ≤ 16 → checkVs w l = 0 → deps l + w ≤ 17
  | [], w, hw, _ => by simp only [deps]; omega
  | x :: l, w, hw, h => by
    obtain ⟨h1, h2⟩ := checkVs_cons.1 h
    have h3 := dep_le x w hw h1
    have h4 := deps_le l w hw h2
    simp only [deps]
    omega
end
theorem told_eq (v : T_api_Cbor) : told v = byt (hdB v.gKind v.gNum v.gText v.gList.length) ++ byt (laidBs v.gList) := by
  unfold told
  rw [laidB_eq, byt_append]
/-- The bytes of items, one behind the other. -/
def tolds (l : List T_api_Cbor) : List UInt8 := byt (laidBs l)
theorem tolds_cons (x : T_api_Cbor) (l : List T_api_Cbor) : tolds (x :: l) = told x ++ tolds l := by simp [tolds, told, laidBs, byt_append]
theorem told_pos {w : Nat} {v : T_api_Cbor} (h : checkV w v = 0) : 1 ≤ (told v).length := by
  have := hdB_pos (checkV_zero h).2.1 v.gList.length
  rw [told_eq, List.length_append, byt_length]
  omega
def mpN (mp : Bool) (n : Nat) : Nat := if mp then 2 * n else n
/-- What a sound reader of items gives. -/
def Snd (w : Nat) (it : List UInt8 → ER) : Prop := ∀ s x r, it s = .ok (x, r) → s = told x ++ r ∧ checkV w x = 0 ∧ x.ok
theorem decL_sound {w : Nat} {it : List UInt8 → ER} (hit : Snd w it) (mp : Bool) : ∀ (f n : Nat) (last : List UInt8) (acc : List T_api_Cbor) (s : List UInt8) (l : List T_api_Cbor) (r : List UInt8), decL it mp f n last acc s = .ok (l, r) →
    ∃ l', l = acc ++ l' ∧ l'.length = mpN mp n ∧ s = tolds l' ++ r ∧ checkVs w l' = 0 ∧ oks l' ∧ (mp = true → keysOk l' last = true)
  | f, 0, last, acc, s, l, r, h => by
    have h : decL it mp f 0 last acc s = .ok (acc, s) := by cases f <;> rfl
    rename_i h0
    rw [h] at h0
    cases h0
    exact ⟨[], by simp, by simp [mpN], by simp [tolds, laidBs, byt], checkVs_nil w, trivial, fun _ => rfl⟩
  | 0, n + 1, last, acc, s, l, r, h => by cases h
  | f + 1, n + 1, last, acc, s, l, r, h => by
    simp only [decL] at h
    split at h
    · cases h
    rename_i x s1 hx
    obtain ⟨e1, c1, o1⟩ := hit _ _ _ hx
    cases mp with
    | false =>
      simp only at h
      obtain ⟨l', rfl, hl, hs, hc, ho, _⟩ := decL_sound hit false f n _ _ _ _ _ h
      refine ⟨x :: l', by simp, by simp [mpN] at hl ⊢; omega, ?_, checkVs_cons.2 ⟨c1, hc⟩, ⟨o1, ho⟩, by simp⟩
      rw [tolds_cons, List.append_assoc, ← hs, e1]
    | true =>
      simp only at h
      split at h
      · rename_i hk
        split at h
        · cases h
        rename_i y s2 hy
        obtain ⟨e2, c2, o2⟩ := hit _ _ _ hy
        obtain ⟨l', rfl, hl, hs, hc, ho, hko⟩ := decL_sound hit true f n _ _ _ _ _ h
        refine ⟨x :: y :: l', by simp, by simp [mpN] at hl ⊢; omega, ?_, checkVs_cons.2 ⟨c1, checkVs_cons.2 ⟨c2, hc⟩⟩, ⟨o1, o2, ho⟩, fun _ => ?_⟩
        · rw [tolds_cons, tolds_cons, List.append_assoc, List.append_assoc, ← hs, ← e2, e1]
        · simp only [keysOk, hk, hko rfl, Bool.and_self]
      · cases h
theorem told_num {n : Int} (k : Int) (hk : k = 0) : told ⟨k, n, [], []⟩ = if n < 0 then byt (headB 1 (-1 - n).toNat) else byt (headB 0 n.toNat) := by
  rw [told_eq]
  simp only [hdB, hk, if_true, laidBs, byt, List.map_nil, List.append_nil]
  split <;> rfl
theorem checkV_leaf {w : Nat} {v : T_api_Cbor} (h1 : v.gKind = 0 ∨ v.gKind = 1 ∨ v.gKind = 2) (h2 : v.gKind = 0 ∨ v.gNum = 0) (h3 : v.gKind = 1 ∨ v.gKind = 2 ∨ v.gText = []) (h4 : v.gList = []) (h5 : v.gKind = 2 → Lib.validD v.gText = true) : checkV w v = 0 :=
  checkV_mk (by omega) ((fieldsV_iff v).2 ⟨by omega, h2, h3, .inr (.inr h4), h5⟩) (by omega) (by rw [h4]; exact checkVs_nil _)
theorem itemR_sound {m k n : Nat} {s r : List UInt8} {x : T_api_Cbor} {r' : List UInt8} {nest : Except Int (List T_api_Cbor × List UInt8)} (hs : s = byt (headB k n) ++ r) (hk : k ≤ 5) (hn : n < 9223372036854775808) (hm : m ≤ 16)
    (hnest : ∀ l r', nest = .ok (l, r') → 1 ≤ m ∧ l.length = mpN (k == 5) n ∧ r = tolds l ++ r' ∧ checkVs (16 - m + 1) l = 0 ∧ oks l ∧ ((k == 5) = true → keysOk l [] = true))
    (h : itemR k n r nest = .ok (x, r')) : s = told x ++ r' ∧ checkV (16 - m) x = 0 ∧ x.ok := by
  unfold itemR at h
  split at h
  · rename_i k0
    cases h
    refine ⟨?_, checkV_leaf (.inl rfl) (.inl rfl) (.inr (.inr rfl)) rfl (fun h => by cases h), (T_api_Cbor.ok_eq _).2 ⟨by simp, ⟨by simp only; omega, by simp only; omega⟩, trivial⟩⟩
    rw [told_num 0 rfl, if_neg (by omega), hs, k0]
    simp
  rename_i k0
  split at h
  · rename_i k1
    cases h
    refine ⟨?_, checkV_leaf (.inl rfl) (.inl rfl) (.inr (.inr rfl)) rfl (fun h => by cases h), (T_api_Cbor.ok_eq _).2 ⟨by simp, ⟨by simp only; omega, by simp only; omega⟩, trivial⟩⟩
    rw [told_num 0 rfl, if_pos (by omega), hs, k1, show (-1 - (-1 - (n : Int))).toNat = n by omega]
  rename_i k1
  have txt : ∀ kd : Nat, (kd = 1 ∨ kd = 2) → k = kd + 1 → n ≤ r.length → (kd = 2 → Lib.validD (r.take n) = true) → s = told ⟨(kd : Int), 0, r.take n, []⟩ ++ r.drop n ∧ checkV (16 - m) ⟨(kd : Int), 0, r.take n, []⟩ = 0 ∧ T_api_Cbor.ok ⟨(kd : Int), 0, r.take n, []⟩ := by
    intro kd hkd hk hl hv
    refine ⟨?_, checkV_leaf (by simp only; omega) (.inr rfl) (by simp only; omega) rfl (fun h => hv (by simp only at h; omega)), (T_api_Cbor.ok_eq _).2 ⟨by simp only; omega, by simp, trivial⟩⟩
    rw [told_eq]
    simp only [hdB]
    rw [if_neg (by omega), if_pos (by omega), show ((kd : Int).toNat + 1) = k by omega, List.length_take, Nat.min_eq_left hl, byt_append, byt_unb, hs]
    simp [laidBs, byt]
  split at h
  · rename_i k2
    split at h
    · rename_i hl
      cases h
      exact txt 1 (.inl rfl) k2 hl (fun h => by cases h)
    · cases h
  rename_i k2
  split at h
  · rename_i k3
    split at h
    · rename_i hl
      split at h
      · rename_i hv
        cases h
        exact txt 2 (.inr rfl) k3 hl (fun _ => hv)
      · cases h
    · cases h
  rename_i k3
  split at h
  · cases h
  rename_i l r2
  cases h
  obtain ⟨hm1, hlen, hr, hc, ho, hko⟩ := hnest _ _ rfl
  have hkk : k = 4 ∨ k = 5 := by omega
  refine ⟨?_, checkV_mk (by simp only; omega) ((fieldsV_iff _).2 ⟨by simp only; omega, .inr rfl, .inr (.inr rfl), by simp only; omega, fun h => by simp only at h; omega⟩) ?_ hc, (T_api_Cbor.ok_eq _).2 ⟨by simp only; omega, by simp, ho⟩⟩
  · rw [told_eq]
    simp only [hdB]
    rcases hkk with k4 | k5
    · subst k4
      rw [if_neg (by omega), if_neg (by omega), if_pos (by omega)]
      have : l.length = n := by simpa [mpN] using hlen
      rw [this, hs, hr, List.append_assoc]
      rfl
    · subst k5
      rw [if_neg (by omega), if_neg (by omega), if_neg (by omega), if_pos (by omega)]
      have : l.length = 2 * n := by simpa [mpN] using hlen
      rw [this, show 2 * n / 2 = n by omega, hs, hr, List.append_assoc]
      rfl
  · simp only
    rintro ⟨h4, h5⟩
    have k5 : k = 5 := by omega
    subst k5
    have : l.length = 2 * n := by simpa [mpN] using hlen
    have := hko rfl
    rcases h5 with h5 | h5
    · omega
    · rw [this] at h5; cases h5
theorem decI_sound : ∀ m, m ≤ 16 → Snd (16 - m) (decI m)
  | 0, hm => fun s x r h => by
    rw [decI_eq] at h
    split at h
    · cases h
    rename_i k n r0 hh
    obtain ⟨h1, h2, h3⟩ := rdHead_sound hh
    exact itemR_sound h1 h2 h3 hm (fun l r' e => by cases e) h
  | m + 1, hm => fun s x r h => by
    rw [decI_eq] at h
    split at h
    · cases h
    rename_i k n r0 hh
    obtain ⟨h1, h2, h3⟩ := rdHead_sound hh
    refine itemR_sound h1 h2 h3 hm (fun l r' e => ?_) h
    have ih := decI_sound m (by omega)
    rw [show 16 - (m + 1) + 1 = 16 - m by omega]
    obtain ⟨l', hl, a1, a2, a3, a4, a5⟩ := decL_sound ih (k == 5) _ _ _ _ _ _ _ e
    simp only [List.nil_append] at hl
    subst hl
    exact ⟨by omega, a1, a2, a3, a4, a5⟩
end Go.Proofs.YtmbckfhcljgniaaDoor
