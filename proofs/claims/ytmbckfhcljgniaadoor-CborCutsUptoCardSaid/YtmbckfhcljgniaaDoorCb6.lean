/- Cbor, plainly: what the bytes of an item are read as. -/
import Derived.Test.YtmbckfhcljgniaaDoorCb5
namespace Go.Proofs.YtmbckfhcljgniaaDoor
open Go.Lk
theorem byt_append (a b : List Int) : byt (a ++ b) = byt a ++ byt b := by simp [byt]
theorem byt_unb (t : List UInt8) : byt (unb t) = t := by
  induction t with
  | nil => rfl
  | cons c t ih =>
    have : byt (unb (c :: t)) = UInt8.ofNat ((c.toNat : Int).toNat) :: byt (unb t) := rfl
    rw [this, ih]
    simp
theorem byt_cons (n : Nat) (l : List Int) : byt ((n : Int) :: l) = UInt8.ofNat n :: byt l := by simp [byt]
theorem byt_length (l : List Int) : (byt l).length = l.length := by simp [byt]
theorem beval_div (l : List UInt8) (x : Nat) : beval x l / 256 ^ l.length = x := by
  have h1 := beval_ge l x
  have h2 := beval_lt l x
  have hp : 0 < 256 ^ l.length := Nat.pow_pos (by omega)
  apply Nat.div_eq_of_lt_le h1 h2
theorem be_beval : ∀ (l : List UInt8) (x : Nat), byt (be l.length (beval x l)) = l
  | [], x => rfl
  | c :: l, x => by
    have h := beval_div l (256 * x + c.toNat)
    have hc := u8lt c
    simp only [List.length_cons, beval, be]
    rw [byt_cons, be_beval l, h, show (256 * x + c.toNat) % 256 = c.toNat by omega]
    simp
theorem beval_be (n : Nat) : ∀ (w x : Nat), beval x (byt (be w n)) = x * 256 ^ w + n % 256 ^ w
  | 0, x => by simp [be, byt, beval, Nat.mod_one]
  | w + 1, x => by
    simp only [be]
    rw [byt_cons]
    simp only [beval]
    rw [beval_be n w]
    have h1 : (UInt8.ofNat (n / 256 ^ w % 256)).toNat = n / 256 ^ w % 256 := by simp
    rw [h1, Nat.mod_pow_succ, Nat.add_mul, Nat.pow_succ]
    rw [Nat.mul_comm 256 x, Nat.mul_assoc, Nat.mul_comm 256 (256 ^ w), Nat.mul_comm (n / 256 ^ w % 256) (256 ^ w)]
    omega
theorem rdHead_sound {s : List UInt8} {k n : Nat} {r : List UInt8} (h : rdHead s = some (k, n, r)) : s = byt (headB k n) ++ r ∧ k ≤ 5 ∧ n < 9223372036854775808 := by
  cases s with
  | nil => simp [rdHead] at h
  | cons b r0 =>
    have hb := u8lt b
    simp only [rdHead] at h
    split at h
    · cases h
    rename_i c1
    split at h
    · rename_i c2
      simp only [Option.some.injEq, Prod.mk.injEq] at h
      obtain ⟨rfl, rfl, rfl⟩ := h
      refine ⟨?_, by omega, by omega⟩
      unfold headB
      rw [if_pos c2, byt_cons, show 32 * (b.toNat / 32) + b.toNat % 32 = b.toNat by omega]
      simp [byt]
    rename_i c2
    split at h
    · cases h
    rename_i c3
    split at h
    · rename_i c4
      simp only [Option.some.injEq, Prod.mk.injEq] at h
      obtain ⟨rfl, rfl, rfl⟩ := h
      obtain ⟨c5, c6⟩ := c4
      refine ⟨?_, by omega, c5⟩
      have hw := pow_small (m := b.toNat % 32) (by omega)
      have hm : b.toNat % 32 = 24 ∧ 2 ^ (b.toNat % 32 - 24) = 1 ∨ b.toNat % 32 = 25 ∧ 2 ^ (b.toNat % 32 - 24) = 2 ∨ b.toNat % 32 = 26 ∧ 2 ^ (b.toNat % 32 - 24) = 4 ∨ b.toNat % 32 = 27 ∧ 2 ^ (b.toNat % 32 - 24) = 8 := by
        have : b.toNat % 32 = 24 ∨ b.toNat % 32 = 25 ∨ b.toNat % 32 = 26 ∨ b.toNat % 32 = 27 := by omega
        rcases this with h | h | h | h <;> simp [h]
      have key : ∀ w j : Nat, (r0.take w).length = w → b.toNat % 32 = 24 + j → headB (b.toNat / 32) (beval 0 (r0.take w)) = ((32 * (b.toNat / 32) + (24 + j) : Nat) : Int) :: be w (beval 0 (r0.take w)) → b :: r0 = byt (headB (b.toNat / 32) (beval 0 (r0.take w))) ++ r0.drop w := by
        intro w j hl hj hh
        have h1 := be_beval (r0.take w) 0
        rw [hl] at h1
        rw [hh, byt_cons, h1, show 32 * (b.toNat / 32) + (24 + j) = b.toNat by omega]
        simp
      have hl : ∀ w, ¬ r0.length < w → (r0.take w).length = w := fun w h => by rw [List.length_take]; omega
      rcases hm with ⟨hm, hw⟩ | ⟨hm, hw⟩ | ⟨hm, hw⟩ | ⟨hm, hw⟩ <;> rw [hw] at c3 c5 c6 ⊢
      all_goals
        unfold headB at c6
        repeat' split at c6
      all_goals try (simp [be_length] at c6; done)
      · exact key 1 0 (hl _ c3) (by omega) (by unfold headB; simp [*])
      · exact key 2 1 (hl _ c3) (by omega) (by unfold headB; simp [*])
      · exact key 4 2 (hl _ c3) (by omega) (by unfold headB; simp [*])
      · exact key 8 3 (hl _ c3) (by omega) (by unfold headB; simp [*])
    · cases h
theorem rdHead_mk (k m w n : Nat) (r : List UInt8) (hk : k ≤ 5) (hm : 24 ≤ m ∧ m < 28) (hw : 2 ^ (m - 24) = w) (hn : n < 256 ^ w) (hn2 : n < 9223372036854775808) (hh : headB k n = ((32 * k + m : Nat) : Int) :: be w n) : rdHead (byt (headB k n) ++ r) = some (k, n, r) := by
  have hl : (byt (be w n)).length = w := by rw [byt_length, be_length]
  have hv : beval 0 (byt (be w n)) = n := by rw [beval_be, Nat.mod_eq_of_lt hn]; omega
  have hb : (UInt8.ofNat (32 * k + m)).toNat = 32 * k + m := by simp; omega
  have e1 : (32 * k + m) / 32 = k := by omega
  have e2 : (32 * k + m) % 32 = m := by omega
  have hhl : (headB k n).length = 1 + w := by rw [hh]; simp [be_length]; omega
  have ht : (byt (be w n) ++ r).take w = byt (be w n) := by rw [List.take_append_of_le_length (by omega), List.take_of_length_le (by omega)]
  have hd : (byt (be w n) ++ r).drop w = r := by rw [List.drop_append_of_le_length (by omega), List.drop_of_length_le (by omega)]; rfl
  rw [hh, byt_cons, List.cons_append]
  simp only [rdHead, hb, e1, e2]
  rw [if_neg (by omega), if_neg (by omega), hw, if_neg (by simp only [List.length_append]; omega), ht, hv, hd, if_pos ⟨hn2, hhl⟩]
theorem rdHead_complete (k n : Nat) (r : List UInt8) (hk : k ≤ 5) (hn : n < 9223372036854775808) : rdHead (byt (headB k n) ++ r) = some (k, n, r) := by
  by_cases c1 : n < 24
  · have : headB k n = [((32 * k + n : Nat) : Int)] := by unfold headB; rw [if_pos c1]
    rw [this, byt_cons]
    have hb : (UInt8.ofNat (32 * k + n)).toNat = 32 * k + n := by simp; omega
    have e1 : (32 * k + n) / 32 = k := by omega
    have e2 : (32 * k + n) % 32 = n := by omega
    simp only [byt, List.map_nil, List.cons_append, List.nil_append, rdHead, hb, e1, e2]
    rw [if_neg (by omega), if_pos c1]
  by_cases c2 : n < 256
  · exact rdHead_mk k 24 1 n r hk (by omega) (by simp) (by omega) hn (by unfold headB; rw [if_neg c1, if_pos c2])
  by_cases c3 : n < 65536
  · exact rdHead_mk k 25 2 n r hk (by omega) (by simp) (by omega) hn (by unfold headB; rw [if_neg c1, if_neg c2, if_pos c3])
  by_cases c4 : n < 4294967296
  · exact rdHead_mk k 26 4 n r hk (by omega) (by simp) (by omega) hn (by unfold headB; rw [if_neg c1, if_neg c2, if_neg c3, if_pos c4])
  · exact rdHead_mk k 27 8 n r hk (by omega) (by simp) (by omega) hn (by unfold headB; rw [if_neg c1, if_neg c2, if_neg c3, if_neg c4])
abbrev ER := Except Int (T_api_Cbor × List UInt8)
def zeroT : T_api_Cbor := ⟨0, 0, [], []⟩
def decL (it : List UInt8 → ER) (mp : Bool) : Nat → Nat → List UInt8 → List T_api_Cbor → List UInt8 → Except Int (List T_api_Cbor × List UInt8)
  | _, 0, _, acc, s => .ok (acc, s)
  | 0, _ + 1, _, _, _ => .error 30
  | f + 1, n + 1, last, acc, s => match it s with
    | .error e => .error e
    | .ok (x, s1) => match mp with
      | true => match (keyV x last).2 with
        | true => match it s1 with
          | .error e => .error e
          | .ok (y, s2) => decL it mp f n (keyV x last).1 (acc ++ [x] ++ [y]) s2
        | false => .error 30
      | false => decL it mp f n last (acc ++ [x]) s1
def itemR (k n : Nat) (r : List UInt8) (nest : Except Int (List T_api_Cbor × List UInt8)) : ER :=
  if k = 0 then .ok (⟨0, n, [], []⟩, r)
  else if k = 1 then .ok (⟨0, -1 - n, [], []⟩, r)
  else if k = 2 then (if n ≤ r.length then .ok (⟨1, 0, r.take n, []⟩, r.drop n) else .error 30)
  else if k = 3 then (if n ≤ r.length then (if Lib.validD (r.take n) = true then .ok (⟨2, 0, r.take n, []⟩, r.drop n) else .error 30) else .error 30)
  else match nest with
    | .error e => .error e
    | .ok (l, r') => .ok (⟨(k : Int) - 1, 0, [], l⟩, r')
def decI : Nat → List UInt8 → ER
  | 0, s => match rdHead s with
    | none => .error 30
    | some (k, n, r) => itemR k n r (.error 31)
  | m + 1, s => match rdHead s with
    | none => .error 30
    | some (k, n, r) => itemR k n r (decL (decI m) (k == 5) (r.length + 1) n [] [] r)
def nestI (m k n : Nat) (r : List UInt8) : Except Int (List T_api_Cbor × List UInt8) := match m with
  | 0 => .error 31
  | m + 1 => decL (decI m) (k == 5) (r.length + 1) n [] [] r
theorem decI_eq (m : Nat) (s : List UInt8) : decI m s = match rdHead s with
    | none => .error 30
    | some (k, n, r) => itemR k n r (nestI m k n r) := by cases m <;> rfl
end Go.Proofs.YtmbckfhcljgniaaDoor
