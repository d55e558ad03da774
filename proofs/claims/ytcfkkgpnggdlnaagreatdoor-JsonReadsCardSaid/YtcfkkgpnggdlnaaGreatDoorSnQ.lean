/- utf8.Valid of bytes, plainly: it tells what the library's plain function tells. -/
import Derived.Test.YtcfkkgpnggdlnaaGreatDoorJsM
import Derived.Test.YtcfkkgpnggdlnaaGreatDoorSnA
set_option linter.all false
namespace Go.Sen
open Go.Lk Go.Pe
theorem orI_nat {a b : Nat} (ha : a < 18446744073709551616) (hb : b < 18446744073709551616) : orI .u64 (a : Int) (b : Int) = ((a ||| b : Nat) : Int) := by
  have h : (a ||| b) < 2 ^ 64 := Nat.or_lt_two_pow (by simpa using ha) (by simpa using hb)
  have e : (BitVec.ofInt IntKind.u64.bits (a : Int) ||| BitVec.ofInt IntKind.u64.bits (b : Int)).toNat = a ||| b := by
    show (BitVec.ofInt 64 (a : Int) ||| BitVec.ofInt 64 (b : Int)).toNat = a ||| b
    rw [BitVec.toNat_or, BitVec.ofInt_natCast, BitVec.ofInt_natCast, BitVec.toNat_ofNat, BitVec.toNat_ofNat, Nat.mod_eq_of_lt (by simpa using ha), Nat.mod_eq_of_lt (by simpa using hb)]
  unfold orI
  rw [e, wu64 (by omega) (by omega)]
theorem andI_nat {a b : Nat} (ha : a < 18446744073709551616) (hb : b < 18446744073709551616) : andI .u64 (a : Int) (b : Int) = ((a &&& b : Nat) : Int) := by
  have h : (a &&& b) < 2 ^ 64 := Nat.and_lt_two_pow _ (by simpa using hb)
  have e : (BitVec.ofInt IntKind.u64.bits (a : Int) &&& BitVec.ofInt IntKind.u64.bits (b : Int)).toNat = a &&& b := by
    show (BitVec.ofInt 64 (a : Int) &&& BitVec.ofInt 64 (b : Int)).toNat = a &&& b
    rw [BitVec.toNat_and, BitVec.ofInt_natCast, BitVec.ofInt_natCast, BitVec.toNat_ofNat, BitVec.toNat_ofNat, Nat.mod_eq_of_lt (by simpa using ha), Nat.mod_eq_of_lt (by simpa using hb)]
  unfold andI
  rw [e, wu64 (by omega) (by omega)]
theorem shlI_nat {a k : Nat} (hk : k ≤ 64) (ha : a * 2 ^ k < 18446744073709551616) : shlI .u64 (a : Int) ((k : Nat) : Int) = ((a * 2 ^ k : Nat) : Int) := by
  have e : min ((k : Nat) : Int).toNat IntKind.u64.bits = k := by
    show min ((k : Nat) : Int).toNat 64 = k
    omega
  unfold shlI
  rw [e, show (a : Int) * 2 ^ k = ((a * 2 ^ k : Nat) : Int) by simp, wu64 (by omega) (by omega)]
def hiB : Nat := 9259542123273814144
theorem mask_tab : ∀ b : Fin 256, ∀ i : Fin 8, (b.val * 2 ^ (8 * i.val)) &&& hiB = 0 → b.val < 128 := by decide +kernel
theorem mask_b {b : UInt8} (i : Nat) (hi : i < 8) (h : (b.toNat * 2 ^ (8 * i)) &&& hiB = 0) : b.toNat < 128 := mask_tab ⟨b.toNat, nat_lt⟩ ⟨i, hi⟩ h
theorem byte_lt {b : UInt8} (i : Nat) (hi : i < 8) : b.toNat * 2 ^ (8 * i) < 18446744073709551616 := by
  have h1 := nat_lt (b := b)
  have h2 : 2 ^ (8 * i) ≤ 2 ^ 56 := Nat.pow_le_pow_right (by decide) (by omega)
  have h3 : b.toNat * 2 ^ (8 * i) ≤ 255 * 2 ^ 56 := Nat.mul_le_mul (by omega) h2
  omega
theorem or_lt {a b : Nat} (ha : a < 18446744073709551616) (hb : b < 18446744073709551616) : (a ||| b) < 18446744073709551616 := by
  have h : (a ||| b) < 2 ^ 64 := Nat.or_lt_two_pow (by simpa using ha) (by simpa using hb)
  simpa using h
theorem word_eq {s : List UInt8} (h : 8 ≤ s.length) : ∃ W : Nat, W < 18446744073709551616 ∧ M.word (unb s) = some (W : Int) ∧ (W &&& hiB = 0 → ∀ b ∈ s.take 8, b.toNat < 128) := by
  obtain ⟨b0, b1, b2, b3, b4, b5, b6, b7, r, rfl⟩ : ∃ b0 b1 b2 b3 b4 b5 b6 b7 r, s = b0 :: b1 :: b2 :: b3 :: b4 :: b5 :: b6 :: b7 :: r := by
    match s, h with
    | b0 :: b1 :: b2 :: b3 :: b4 :: b5 :: b6 :: b7 :: r, _ => exact ⟨b0, b1, b2, b3, b4, b5, b6, b7, r, rfl⟩
  have w : ∀ b : UInt8, IntKind.wrap .u64 (b.toNat : Int) = (b.toNat : Int) := fun b => wu64 (by omega) (by have := nat_lt (b := b); omega)
  have l0 := byte_lt (b := b0) 0 (by decide); have l1 := byte_lt (b := b1) 1 (by decide); have l2 := byte_lt (b := b2) 2 (by decide); have l3 := byte_lt (b := b3) 3 (by decide)
  have l4 := byte_lt (b := b4) 4 (by decide); have l5 := byte_lt (b := b5) 5 (by decide); have l6 := byte_lt (b := b6) 6 (by decide); have l7 := byte_lt (b := b7) 7 (by decide)
  have s1 : shlI .u64 (b1.toNat : Int) 8 = _ := shlI_nat (k := 8 * 1) (by decide) l1
  have s2 : shlI .u64 (b2.toNat : Int) 16 = _ := shlI_nat (k := 8 * 2) (by decide) l2
  have s3 : shlI .u64 (b3.toNat : Int) 24 = _ := shlI_nat (k := 8 * 3) (by decide) l3
  have s4 : shlI .u64 (b4.toNat : Int) 32 = _ := shlI_nat (k := 8 * 4) (by decide) l4
  have s5 : shlI .u64 (b5.toNat : Int) 40 = _ := shlI_nat (k := 8 * 5) (by decide) l5
  have s6 : shlI .u64 (b6.toNat : Int) 48 = _ := shlI_nat (k := 8 * 6) (by decide) l6
  have s7 : shlI .u64 (b7.toNat : Int) 56 = _ := shlI_nat (k := 8 * 7) (by decide) l7
  have z0 : b0.toNat < 18446744073709551616 := by have := nat_lt (b := b0); omega
  have o1 := or_lt z0 l1; have o2 := or_lt o1 l2; have o3 := or_lt o2 l3; have o4 := or_lt o3 l4; have o5 := or_lt o4 l5; have o6 := or_lt o5 l6; have o7 := or_lt o6 l7
  refine ⟨_, o7, ?_, ?_⟩
  · unfold M.word
    have e : unb (b0 :: b1 :: b2 :: b3 :: b4 :: b5 :: b6 :: b7 :: r) = (b0.toNat : Int) :: (b1.toNat : Int) :: (b2.toNat : Int) :: (b3.toNat : Int) :: (b4.toNat : Int) :: (b5.toNat : Int) :: (b6.toNat : Int) :: (b7.toNat : Int) :: unb r := rfl
    rw [e]
    have i0 : ∀ (l : List Int), ix l 0 = l[0]? := fun l => by simp [ix]
    have i1 : ∀ (l : List Int), ix l 1 = l[1]? := fun l => by simp [ix]
    have i2 : ∀ (l : List Int), ix l 2 = l[2]? := fun l => by simp [ix]
    have i3 : ∀ (l : List Int), ix l 3 = l[3]? := fun l => by simp [ix]
    have i4 : ∀ (l : List Int), ix l 4 = l[4]? := fun l => by simp [ix]
    have i5 : ∀ (l : List Int), ix l 5 = l[5]? := fun l => by simp [ix]
    have i6 : ∀ (l : List Int), ix l 6 = l[6]? := fun l => by simp [ix]
    have i7 : ∀ (l : List Int), ix l 7 = l[7]? := fun l => by simp [ix]
    simp only [i0, i1, i2, i3, i4, i5, i6, i7, List.getElem?_cons_zero, List.getElem?_cons_succ, Option.bind_eq_bind, Option.bind_some, w, s1, s2, s3, s4, s5, s6, s7]
    rw [orI_nat z0 l1, orI_nat o1 l2, orI_nat o2 l3, orI_nat o3 l4, orI_nat o4 l5, orI_nat o5 l6, orI_nat o6 l7]
  · intro hz
    simp only [Lib.or_mask] at hz
    obtain ⟨⟨⟨⟨⟨⟨⟨h0, h1⟩, h2⟩, h3⟩, h4⟩, h5⟩, h6⟩, h7⟩ := hz
    intro b hb
    simp only [List.take_succ_cons, List.take_zero, List.mem_cons, List.not_mem_nil, or_false] at hb
    rcases hb with rfl | rfl | rfl | rfl | rfl | rfl | rfl | rfl
    · exact mask_b 0 (by decide) (by simpa using h0)
    · exact mask_b 1 (by decide) h1
    · exact mask_b 2 (by decide) h2
    · exact mask_b 3 (by decide) h3
    · exact mask_b 4 (by decide) h4
    · exact mask_b 5 (by decide) h5
    · exact mask_b 6 (by decide) h6
    · exact mask_b 7 (by decide) h7
theorem unb_drop (s : List UInt8) (k : Nat) : (unb s).drop k = unb (s.drop k) := by simp [unb]
theorem sub_unb {s : List UInt8} {k : Nat} (h : k ≤ s.length) : sub (unb s) (k : Int) ((unb s).length : Int) = some (unb (s.drop k)) := by
  rw [sub_d (by rw [unb_length]; exact h), unb_drop]
theorem hi_cast : (9259542123273814144 : Int) = ((hiB : Nat) : Int) := rfl
theorem and_hi {W : Nat} (h : W < 18446744073709551616) : (decide (andI .u64 (W : Int) 9259542123273814144 = 0)) = decide (W &&& hiB = 0) := by
  rw [hi_cast, andI_nat h (by decide)]
  exact decide_eq_decide.2 (by omega)
theorem asc_more {s : List UInt8} {a b : Nat} (ha : ∀ x ∈ s.take a, x.toNat < 128) (hb : ∀ x ∈ (s.drop a).take b, x.toNat < 128) : ∀ x ∈ s.take (a + b), x.toNat < 128 := by
  intro x hx
  rw [List.take_add] at hx
  rcases List.mem_append.1 hx with h | h
  · exact ha x h
  · exact hb x h
theorem valid_k2_eq : ∀ (n : Nat) (s : List UInt8), s.length ≤ n → ∃ k, M.valid_k2 (unb s) = some (unb (s.drop k)) ∧ ∀ b ∈ s.take k, b.toNat < 128 := by
  intro n
  induction n with
  | zero =>
    intro s hs
    refine ⟨0, ?_, by simp⟩
    rw [M.valid_k2.eq_1]
    have h1 : ¬ (32 : Int) < ((unb s).length : Int) := by rw [unb_length]; omega
    simp [h1]
  | succ n ih =>
    intro s hs
    rw [M.valid_k2.eq_1]
    by_cases h32 : 32 < s.length
    · have h1 : (32 : Int) < ((unb s).length : Int) := by rw [unb_length]; omega
      have e8 : sub (unb s) 8 ((unb s).length : Int) = some (unb (s.drop 8)) := sub_unb (k := 8) (by omega)
      have e16 : sub (unb s) 16 ((unb s).length : Int) = some (unb (s.drop 16)) := sub_unb (k := 16) (by omega)
      have e24 : sub (unb s) 24 ((unb s).length : Int) = some (unb (s.drop 24)) := sub_unb (k := 24) (by omega)
      have e32 : sub (unb s) 32 ((unb s).length : Int) = some (unb (s.drop 32)) := sub_unb (k := 32) (by omega)
      obtain ⟨W0, a0, b0, c0⟩ := word_eq (s := s) (by omega)
      obtain ⟨W1, a1, b1, c1⟩ := word_eq (s := s.drop 8) (by simp; omega)
      obtain ⟨W2, a2, b2, c2⟩ := word_eq (s := s.drop 16) (by simp; omega)
      obtain ⟨W3, a3, b3, c3⟩ := word_eq (s := s.drop 24) (by simp; omega)
      simp only [h1, decide_true, if_true, e8, e16, e24, e32, b0, b1, b2, b3, Option.bind_eq_bind, Option.bind_some]
      rw [orI_nat a0 a1, orI_nat a2 a3, orI_nat (or_lt a0 a1) (or_lt a2 a3), and_hi (or_lt (or_lt a0 a1) (or_lt a2 a3))]
      by_cases hz : (W0 ||| W1 ||| (W2 ||| W3)) &&& hiB = 0
      · simp only [hz, decide_true, if_true]
        obtain ⟨k, k1, k2⟩ := ih (s.drop 32) (by simp; omega)
        simp only [Lib.or_mask] at hz
        refine ⟨32 + k, by rw [k1, List.drop_drop], asc_more ?_ k2⟩
        have t1 := asc_more (c0 hz.1.1) (c1 hz.1.2)
        have t2 := asc_more t1 (c2 hz.2.1)
        exact asc_more t2 (c3 hz.2.2)
      · simp only [hz, decide_false, Bool.false_eq_true, if_false]
        exact ⟨0, by simp, by simp⟩
    · have h1 : ¬ (32 : Int) < ((unb s).length : Int) := by rw [unb_length]; omega
      exact ⟨0, by simp [h1], by simp⟩
theorem first_at {c : Nat} (h : c < 256) : ix utf8First (c : Int) = some ((Lib.firstT c : Nat) : Int) := by
  rw [ix_n]
  unfold utf8First
  simp [h]
theorem acc_at {i : Nat} (h : i < 16) : ix utf8Acc (i : Int) = some ⟨((Lib.accLo i : Nat) : Int), ((Lib.accHi i : Nat) : Int)⟩ := by
  rw [ix_n]
  unfold utf8Acc
  simp [h]
theorem first_lt (c : Nat) : Lib.firstT c < 256 := by
  unfold Lib.firstT
  repeat' split
  all_goals omega
theorem and7_tab : ∀ b : Fin 256, IntKind.wrap .i64 (andI .u8 ((b.val : Nat) : Int) 7) = ((b.val % 8 : Nat) : Int) := by decide +kernel
theorem shr4 {n : Nat} : shrI .u8 (n : Int) 4 = ((n / 16 : Nat) : Int) := by
  have e : min (4 : Int).toNat IntKind.u8.bits = 4 := rfl
  unfold shrI
  rw [e, show ((2 : Int) ^ 4) = 16 from rfl, Int.fdiv_eq_ediv_of_nonneg _ (by decide)]
  omega
theorem ix_unb {s : List UInt8} {i : Nat} (h : i < s.length) : ix (unb s) (i : Int) = some (((s.getD i 0).toNat : Nat) : Int) := by
  rw [ix_n, unb_get, List.getElem?_eq_getElem h, List.getD_eq_getElem?_getD, List.getElem?_eq_getElem h]
  rfl
def VK (b : Bool) : Jn Bool Unit := if b = true then .go () else .done false
set_option maxRecDepth 100000 in
set_option maxHeartbeats 2000000 in
theorem valid_k1_eq : ∀ (n : Nat) (s : List UInt8), s.length ≤ n → M.valid_k1 (unb s) = some (VK (Lib.validD s)) := by
  intro n
  induction n with
  | zero =>
    intro s hs
    obtain rfl : s = [] := List.eq_nil_of_length_eq_zero (by omega)
    rw [M.valid_k1.eq_1]
    rfl
  | succ n ih =>
    intro s hs
    by_cases hne : s = []
    · subst hne
      rw [M.valid_k1.eq_1]
      rfl
    have hpos : 0 < s.length := List.length_pos_iff.2 hne
    rw [M.valid_k1.eq_1]
    have h0 : (0 : Int) < ((unb s).length : Int) := by rw [unb_length]; omega
    have x0 : ix (unb s) 0 = some (((s.getD 0 0).toNat : Nat) : Int) := ix_unb (i := 0) hpos
    simp only [h0, decide_true, if_true, x0, Option.bind_eq_bind, Option.bind_some]
    by_cases hc : (s.getD 0 0).toNat < 128
    · have hci : (((s.getD 0 0).toNat : Nat) : Int) < 128 := by omega
      have e1 : sub (unb s) 1 ((unb s).length : Int) = some (unb (s.drop 1)) := sub_unb (k := 1) (by omega)
      have hs1 : (s.drop 1).length < s.length := by simp; omega
      have a0 : ∀ b ∈ s.take 1, b.toNat < 128 := by
        obtain ⟨c, r, rfl⟩ : ∃ c r, s = c :: r := by
          cases s with
          | nil => exact (hne rfl).elim
          | cons c r => exact ⟨c, r, rfl⟩
        intro b hb
        simp only [List.take_succ_cons, List.take_zero, List.mem_singleton] at hb
        subst hb
        simpa using hc
      have fin : ∀ k : Nat, (∀ b ∈ (s.drop 1).take k, b.toNat < 128) → ((M.valid_k1 (unb ((s.drop 1).drop k))).bind fun r => some (Jn.done r : Jn (Jn Bool Unit) Unit)) = some (.done (VK (Lib.validD s))) := fun k hk => by
        rw [ih _ (by rw [List.length_drop]; omega), Option.bind_some, ← Lib.validD_ascii k _ hk, ← Lib.validD_ascii 1 _ a0]
      simp only [hci, decide_true, if_true, e1, Option.bind_some]
      generalize s.drop 1 = t at e1 hs1 fin
      by_cases h8 : 8 < t.length
      · have h8i : (8 : Int) < ((unb t).length : Int) := by rw [unb_length]; omega
        obtain ⟨W0, a0', b0, c0⟩ := word_eq (s := t) (by omega)
        simp only [h8i, decide_true, if_true, b0, Option.bind_some]
        rw [and_hi a0']
        by_cases hz : W0 &&& hiB = 0
        · have e8 : sub (unb t) 8 ((unb t).length : Int) = some (unb (t.drop 8)) := sub_unb (k := 8) (by omega)
          simp only [hz, decide_true, if_true, e8, Option.bind_some]
          have k8 := c0 hz
          by_cases h16 : 16 < (t.drop 8).length
          · have h16i : (16 : Int) < ((unb (t.drop 8)).length : Int) := by rw [unb_length]; omega
            obtain ⟨W1, a1, b1, c1⟩ := word_eq (s := t.drop 8) (by omega)
            obtain ⟨W2, a2, b2, c2⟩ := word_eq (s := (t.drop 8).drop 8) (by rw [List.length_drop]; omega)
            have e82 : sub (unb (t.drop 8)) 8 ((unb (t.drop 8)).length : Int) = some (unb ((t.drop 8).drop 8)) := sub_unb (k := 8) (by omega)
            have e16 : sub (unb (t.drop 8)) 16 ((unb (t.drop 8)).length : Int) = some (unb ((t.drop 8).drop 16)) := sub_unb (k := 16) (by omega)
            simp only [h16i, decide_true, if_true, e82, b1, b2, Option.bind_some]
            rw [orI_nat a1 a2, and_hi (or_lt a1 a2)]
            by_cases hz2 : (W1 ||| W2) &&& hiB = 0
            · simp only [hz2, decide_true, if_true, e16, Option.bind_some]
              obtain ⟨k, k1, k2⟩ := valid_k2_eq _ ((t.drop 8).drop 16) (Nat.le_refl _)
              simp only [Lib.or_mask] at hz2
              have q1 := asc_more (c1 hz2.1) (c2 hz2.2)
              have q2 := asc_more q1 k2
              have q3 := asc_more k8 q2
              have f := fin (8 + (8 + 8 + k)) q3
              have ek : ((t.drop 8).drop 16).drop k = t.drop (8 + (8 + 8 + k)) := by
                rw [List.drop_drop, List.drop_drop]
              rw [ek] at k1
              simp only [k1, Option.bind_some, f]
            · have f := fin 8 k8
              simp only [hz2, decide_false, Bool.false_eq_true, if_false, Option.bind_some, f]
          · have h16i : ¬ (16 : Int) < ((unb (t.drop 8)).length : Int) := by rw [unb_length]; omega
            have f := fin 8 k8
            simp only [h16i, decide_false, Bool.false_eq_true, if_false, Option.bind_some, f]
        · have f := fin 0 (by simp)
          rw [List.drop_zero] at f
          simp only [hz, decide_false, Bool.false_eq_true, if_false, Option.bind_some, f]
      · have h8i : ¬ (8 : Int) < ((unb t).length : Int) := by rw [unb_length]; omega
        have f := fin 0 (by simp)
        rw [List.drop_zero] at f
        simp only [h8i, decide_false, Bool.false_eq_true, if_false, Option.bind_some, f]
    · have hci : ¬ (((s.getD 0 0).toNat : Nat) : Int) < 128 := by omega
      have hc256 := nat_lt (b := s.getD 0 0)
      have hF := first_lt (s.getD 0 0).toNat
      have hand := and7_tab ⟨Lib.firstT (s.getD 0 0).toNat, hF⟩
      simp only at hand
      rw [Lib.validD_lead s hne (by omega)]
      simp only [hci, decide_false, Bool.false_eq_true, if_false, Option.bind_some, first_at hc256, shr4, acc_at (i := Lib.firstT (s.getD 0 0).toNat / 16) (by omega), hand]
      generalize Lib.firstT (s.getD 0 0).toNat % 8 = sz
      generalize Lib.accLo (Lib.firstT (s.getD 0 0).toNat / 16) = lo
      generalize Lib.accHi (Lib.firstT (s.getD 0 0).toNat / 16) = hi
      have hl : ((unb s).length : Int) = (s.length : Int) := by rw [unb_length]
      have x1 : 1 < s.length → ix (unb s) 1 = some (((s.getD 1 0).toNat : Nat) : Int) := fun h => ix_unb (i := 1) h
      have x2 : 2 < s.length → ix (unb s) 2 = some (((s.getD 2 0).toNat : Nat) : Int) := fun h => ix_unb (i := 2) h
      have x3 : 3 < s.length → ix (unb s) 3 = some (((s.getD 3 0).toNat : Nat) : Int) := fun h => ix_unb (i := 3) h
      have d2 : 2 ≤ s.length → sub (unb s) 2 ((unb s).length : Int) = some (unb (s.drop 2)) := fun h => sub_unb (k := 2) h
      have d3 : 3 ≤ s.length → sub (unb s) 3 ((unb s).length : Int) = some (unb (s.drop 3)) := fun h => sub_unb (k := 3) h
      have d4 : 4 ≤ s.length → sub (unb s) 4 ((unb s).length : Int) = some (unb (s.drop 4)) := fun h => sub_unb (k := 4) h
      rw [hl] at d2 d3 d4
      simp only [hl]
      generalize (s.getD 1 0).toNat = b1 at x1
      generalize (s.getD 2 0).toNat = b2 at x2
      generalize (s.getD 3 0).toNat = b3 at x3
      unfold Lib.checkN
      have no : some (Jn.done false : Jn Bool Unit) = some (VK false) := rfl
      by_cases z2 : sz = 2
      · have z2i : ((sz : Nat) : Int) = 2 := by omega
        simp only [z2, z2i, decide_true, if_true]
        by_cases q1 : s.length < 2
        · have q1i : (s.length : Int) < 2 := by omega
          simp only [q1, q1i, decide_true, if_true, true_or]
          exact no
        · have q1i : ¬ (s.length : Int) < 2 := by omega
          simp only [q1, q1i, decide_false, Bool.false_eq_true, if_false, false_or, x1 (by omega), Option.bind_some]
          by_cases q2 : b1 < lo
          · have q2i : (b1 : Int) < (lo : Int) := by omega
            simp only [q2, q2i, decide_true, if_true, true_or]
            exact no
          · have q2i : ¬ (b1 : Int) < (lo : Int) := by omega
            simp only [q2, q2i, decide_false, Bool.false_eq_true, if_false, false_or]
            by_cases q3 : hi < b1
            · have q3i : (hi : Int) < (b1 : Int) := by omega
              simp only [q3, q3i, decide_true, if_true]
              exact no
            · have q3i : ¬ (hi : Int) < (b1 : Int) := by omega
              simp only [q3, q3i, decide_false, Bool.false_eq_true, if_false, d2 (by omega), Option.bind_some]
              exact ih _ (by rw [List.length_drop]; omega)
      · have z2i : ¬ ((sz : Nat) : Int) = 2 := by omega
        simp only [z2, z2i, decide_false, Bool.false_eq_true, if_false]
        by_cases z3 : sz = 3
        · have z3i : ((sz : Nat) : Int) = 3 := by omega
          simp only [z3, z3i, decide_true, if_true]
          by_cases q1 : s.length < 3
          · have q1i : (s.length : Int) < 3 := by omega
            simp only [q1, q1i, decide_true, if_true, true_or]
            exact no
          · have q1i : ¬ (s.length : Int) < 3 := by omega
            simp only [q1, q1i, decide_false, Bool.false_eq_true, if_false, false_or, x1 (by omega), x2 (by omega), Option.bind_some]
            by_cases q2 : b1 < lo
            · have q2i : (b1 : Int) < (lo : Int) := by omega
              simp only [q2, q2i, decide_true, if_true, true_or]
              exact no
            · have q2i : ¬ (b1 : Int) < (lo : Int) := by omega
              simp only [q2, q2i, decide_false, Bool.false_eq_true, if_false, false_or]
              by_cases q3 : hi < b1
              · have q3i : (hi : Int) < (b1 : Int) := by omega
                simp only [q3, q3i, decide_true, if_true, true_or]
                exact no
              · have q3i : ¬ (hi : Int) < (b1 : Int) := by omega
                simp only [q3, q3i, decide_false, Bool.false_eq_true, if_false, false_or]
                by_cases q4 : b2 < 128
                · have q4i : (b2 : Int) < 128 := by omega
                  simp only [q4, q4i, decide_true, if_true, true_or]
                  exact no
                · have q4i : ¬ (b2 : Int) < 128 := by omega
                  simp only [q4, q4i, decide_false, Bool.false_eq_true, if_false, false_or]
                  by_cases q5 : 191 < b2
                  · have q5i : (191 : Int) < (b2 : Int) := by omega
                    simp only [q5, q5i, decide_true, if_true]
                    exact no
                  · have q5i : ¬ (191 : Int) < (b2 : Int) := by omega
                    simp only [q5, q5i, decide_false, Bool.false_eq_true, if_false, d3 (by omega), Option.bind_some]
                    exact ih _ (by rw [List.length_drop]; omega)
        · have z3i : ¬ ((sz : Nat) : Int) = 3 := by omega
          simp only [z3, z3i, decide_false, Bool.false_eq_true, if_false]
          by_cases z4 : sz = 4
          · have z4i : ((sz : Nat) : Int) = 4 := by omega
            simp only [z4, z4i, decide_true, if_true]
            by_cases q1 : s.length < 4
            · have q1i : (s.length : Int) < 4 := by omega
              simp only [q1, q1i, decide_true, if_true, true_or]
              exact no
            · have q1i : ¬ (s.length : Int) < 4 := by omega
              simp only [q1, q1i, decide_false, Bool.false_eq_true, if_false, false_or, x1 (by omega), x2 (by omega), x3 (by omega), Option.bind_some]
              by_cases q2 : b1 < lo
              · have q2i : (b1 : Int) < (lo : Int) := by omega
                simp only [q2, q2i, decide_true, if_true, true_or]
                exact no
              · have q2i : ¬ (b1 : Int) < (lo : Int) := by omega
                simp only [q2, q2i, decide_false, Bool.false_eq_true, if_false, false_or]
                by_cases q3 : hi < b1
                · have q3i : (hi : Int) < (b1 : Int) := by omega
                  simp only [q3, q3i, decide_true, if_true, true_or]
                  exact no
                · have q3i : ¬ (hi : Int) < (b1 : Int) := by omega
                  simp only [q3, q3i, decide_false, Bool.false_eq_true, if_false, false_or]
                  by_cases q4 : b2 < 128
                  · have q4i : (b2 : Int) < 128 := by omega
                    simp only [q4, q4i, decide_true, if_true, true_or]
                    exact no
                  · have q4i : ¬ (b2 : Int) < 128 := by omega
                    simp only [q4, q4i, decide_false, Bool.false_eq_true, if_false, false_or]
                    by_cases q5 : 191 < b2
                    · have q5i : (191 : Int) < (b2 : Int) := by omega
                      simp only [q5, q5i, decide_true, if_true, true_or]
                      exact no
                    · have q5i : ¬ (191 : Int) < (b2 : Int) := by omega
                      simp only [q5, q5i, decide_false, Bool.false_eq_true, if_false, false_or]
                      by_cases q6 : b3 < 128
                      · have q6i : (b3 : Int) < 128 := by omega
                        simp only [q6, q6i, decide_true, if_true, true_or]
                        exact no
                      · have q6i : ¬ (b3 : Int) < 128 := by omega
                        simp only [q6, q6i, decide_false, Bool.false_eq_true, if_false, false_or]
                        by_cases q7 : 191 < b3
                        · have q7i : (191 : Int) < (b3 : Int) := by omega
                          simp only [q7, q7i, decide_true, if_true]
                          exact no
                        · have q7i : ¬ (191 : Int) < (b3 : Int) := by omega
                          simp only [q7, q7i, decide_false, Bool.false_eq_true, if_false, d4 (by omega), Option.bind_some]
                          exact ih _ (by rw [List.length_drop]; omega)
          · have z4i : ¬ ((sz : Nat) : Int) = 4 := by omega
            simp only [z4, z4i, decide_false, Bool.false_eq_true, if_false]
            exact no
theorem valid_eq (s : List UInt8) : M.valid (unb s) = some (Lib.validD s) := by
  unfold M.valid
  have e0 : sub (unb s) 0 ((unb s).length : Int) = some (unb s) := sub_d (a := 0) (Nat.zero_le _)
  have h : ((unb s).length : Int) ≤ ((unb s).length : Int) := Int.le_refl _
  rw [chk_ok (by simp)]
  simp only [Option.bind_eq_bind, Option.bind_some, e0, valid_k1_eq _ s (Nat.le_refl _)]
  cases Lib.validD s <;> rfl
end Go.Sen
