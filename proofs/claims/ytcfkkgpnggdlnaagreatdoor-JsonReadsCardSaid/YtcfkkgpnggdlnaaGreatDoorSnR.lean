/- JSON, plainly: the document's reader tells what the program's tells. -/
import Derived.Test.YtcfkkgpnggdlnaaGreatDoorSnN
import Derived.Test.YtcfkkgpnggdlnaaGreatDoorSnQ
set_option linter.all false
namespace Go.Sen
open Go.Lk Go.Pe
abbrev RR := T_seneschalref02_reader
/-- What is left of s at i is r. -/
def At (s r : List UInt8) (i : Nat) : Prop := s.drop i = r ∧ i ≤ s.length
section
variable {s r : List UInt8} {c : UInt8} {i : Nat}
theorem At.len (h : At s r i) : i + r.length = s.length := by
  obtain ⟨h1, h2⟩ := h
  rw [← h1, List.length_drop]
  omega
theorem At.nil (h : At s [] i) : i = s.length := by simpa using h.len
theorem At.cons (h : At s (c :: r) i) : s[i]? = some c ∧ At s r (i + 1) ∧ i < s.length := by
  obtain ⟨h1, h2, h3⟩ := get_drop h.1
  exact ⟨h1, ⟨h2, h3⟩, h3⟩
theorem At.drop (h : At s r i) {k : Nat} (hk : k ≤ r.length) : At s (r.drop k) (i + k) := by
  have := h.len
  exact ⟨by rw [← h.1, List.drop_drop], by omega⟩
theorem At.start : At s s 0 := ⟨rfl, Nat.zero_le _⟩
theorem w64s {n : Nat} (h : n < 4611686018427387904) : IntKind.wrap .i64 ((n : Nat) : Int) = (n : Int) := w64 (by omega) (by omega)
theorem wnat {n m : Nat} (h : n + m < 4611686018427387904) : IntKind.wrap .i64 ((n : Int) + (m : Int)) = ((n + m : Nat) : Int) := wadd h
/-! Blanks, the byte that stands there, errors. -/
theorem r02_blanks_k1 (hs : s.length < 1000000) (g e : Int) : ∀ (r : List UInt8) (i : Nat), At s r i → ∃ j, At s (blanks r) j ∧ M.r02_reader_blanks_k1 ⟨s, g, e⟩ (i : Int) = some ⟨s, (j : Int), e⟩ := by
  intro r
  induction r with
  | nil =>
    intro i h
    have := h.nil
    refine ⟨i, h, ?_⟩
    rw [M.r02_reader_blanks_k1.eq_1]
    have h1 : ¬ ((i : Int) < (s.length : Int)) := by omega
    simp [h1]
  | cons c r ih =>
    intro i h
    obtain ⟨h1, h2, h3⟩ := h.cons
    have h4 : ((i : Int) < (s.length : Int)) := by omega
    have t1 : ((c.toNat : Int) = 32) ↔ c = 32 := toNat_eq (n := 32) (by omega)
    have t2 : ((c.toNat : Int) = 9) ↔ c = 9 := toNat_eq (n := 9) (by omega)
    have t3 : ((c.toNat : Int) = 10) ↔ c = 10 := toNat_eq (n := 10) (by omega)
    have t4 : ((c.toNat : Int) = 13) ↔ c = 13 := toNat_eq (n := 13) (by omega)
    rw [M.r02_reader_blanks_k1.eq_1]
    simp only [h4, decide_true, if_true, ix_n, h1, Option.bind_eq_bind, Option.bind_some, t1, t2, t3, t4]
    have hb := bl_tab c
    cases hc : bl c with
    | true =>
      obtain ⟨j, j1, j2⟩ := ih (i + 1) h2
      refine ⟨j, by rw [show blanks (c :: r) = blanks r by simp [blanks, hc]]; exact j1, ?_⟩
      rw [hc] at hb
      simp only [Bool.true_eq, Bool.or_eq_true, decide_eq_true_eq] at hb
      rw [w1 (by omega)]
      rcases hb with ((hb | hb) | hb) | hb <;> subst hb <;> simpa using j2
    | false =>
      refine ⟨i, by rw [blanks_cons hc]; exact h, ?_⟩
      rw [hc] at hb
      simp only [Bool.false_eq, Bool.or_eq_false_iff, decide_eq_false_iff_not] at hb
      obtain ⟨⟨⟨b1, b2⟩, b3⟩, b4⟩ := hb
      simp [b1, b2, b3, b4]
theorem r02_blanks_eq (hs : s.length < 1000000) (e : Int) (h : At s r i) : ∃ j, At s (blanks r) j ∧ M.r02_reader_blanks ⟨s, (i : Int), e⟩ = some ⟨s, (j : Int), e⟩ := r02_blanks_k1 hs _ e r i h
theorem r02_blanks_any (hs : s.length < 1000000) (e : Int) (i : Nat) : ∃ j : Nat, j ≤ max i s.length ∧ M.r02_reader_blanks ⟨s, (i : Int), e⟩ = some ⟨s, (j : Int), e⟩ := by
  by_cases h : i ≤ s.length
  · obtain ⟨j, h1, h2⟩ := r02_blanks_eq hs e (r := s.drop i) ⟨rfl, h⟩
    exact ⟨j, by have := h1.2; omega, h2⟩
  · refine ⟨i, by omega, ?_⟩
    unfold M.r02_reader_blanks
    rw [M.r02_reader_blanks_k1.eq_1]
    have h1 : ¬ ((i : Int) < (s.length : Int)) := by omega
    simp [h1]
/-- The byte that stands first; 0: none. -/
def hd : List UInt8 → Int
  | [] => 0
  | c :: _ => (c.toNat : Int)
theorem r02_at_eq (e : Int) (h : At s r i) : M.r02_reader_at ⟨s, (i : Int), e⟩ = some (hd r) := by
  unfold M.r02_reader_at
  cases r with
  | nil =>
    have := h.nil
    have h1 : ¬ ((i : Int) < (s.length : Int)) := by omega
    simp [h1, hd]
  | cons c r =>
    obtain ⟨h1, h2, h3⟩ := h.cons
    have h4 : ((i : Int) < (s.length : Int)) := by omega
    simp [h4, hd, ix_n, h1]
theorem r02_at_any (e : Int) (i : Nat) : ∃ c : Int, M.r02_reader_at ⟨s, (i : Int), e⟩ = some c := by
  by_cases h : i ≤ s.length
  · exact ⟨_, r02_at_eq e (r := s.drop i) ⟨rfl, h⟩⟩
  · refine ⟨0, ?_⟩
    unfold M.r02_reader_at
    have h1 : ¬ ((i : Int) < (s.length : Int)) := by omega
    simp [h1]
theorem r02_wrong_0 (i c : Int) : M.r02_reader_wrong ⟨s, i, 0⟩ c = some ⟨s, i, c⟩ := by simp [M.r02_reader_wrong]
theorem r02_wrong_e {i c e : Int} (h : ¬ e = 0) : M.r02_reader_wrong ⟨s, i, e⟩ c = some ⟨s, i, e⟩ := by simp [M.r02_reader_wrong, h]
/-! Escapes. -/
def hexs : List UInt8 → Nat → Option Nat
  | [], a => some a
  | c :: r, a => match hexv c with
    | none => none
    | some d => hexs r (16 * a + d)
theorem hexv_kind (c : UInt8) : (isD c = true ∧ 48 ≤ c.toNat ∧ c.toNat ≤ 57 ∧ hexv c = some (c.toNat - 48)) ∨ (isD c = false ∧ 97 ≤ c.toNat ∧ c.toNat ≤ 102 ∧ hexv c = some (c.toNat - 87)) ∨
    (isD c = false ∧ 65 ≤ c.toNat ∧ c.toNat ≤ 70 ∧ hexv c = some (c.toNat - 55)) ∨ (isD c = false ∧ ¬ (97 ≤ c.toNat ∧ c.toNat ≤ 102) ∧ ¬ (65 ≤ c.toNat ∧ c.toNat ≤ 70) ∧ hexv c = none) := by
  unfold hexv
  cases h : isD c with
  | true =>
    left
    simp only [isD, Bool.and_eq_true, decide_eq_true_eq] at h
    exact ⟨rfl, h.1, h.2, by simp⟩
  | false =>
    right
    by_cases h1 : 97 ≤ c.toNat ∧ c.toNat ≤ 102
    · exact .inl ⟨rfl, h1.1, h1.2, by simp [h1]⟩
    · by_cases h2 : 65 ≤ c.toNat ∧ c.toNat ≤ 70
      · exact .inr (.inl ⟨rfl, h2.1, h2.2, by simp [h1, h2]⟩)
      · exact .inr (.inr ⟨rfl, h1, h2, by simp [h1, h2]⟩)
theorem r02_four_k1 (g e : Int) (b : Nat) (hb : b + 6 ≤ s.length) (hs : s.length < 1000000) : ∀ (n k acc m : Nat), b + 6 - k = n → k ≤ b + 6 → m + n ≤ 4 → acc < 16 ^ m →
    M.r02_reader_four_k1 (b : Int) ⟨s, g, e⟩ (acc : Int) (k : Int) = some (match hexs ((s.drop k).take n) acc with | some v => .go (v : Int) | none => .done (-1)) := by
  intro n
  induction n with
  | zero =>
    intro k acc m hn hk hm ha
    rw [M.r02_reader_four_k1.eq_1, show ((b : Int) + 6) = ((b + 6 : Nat) : Int) by omega, w64s (by omega)]
    have h1 : ¬ ((k : Int) < ((b + 6 : Nat) : Int)) := by omega
    rw [if_neg (by rw [decide_eq_true_eq]; exact h1)]
    simp [hexs]
  | succ n ih =>
    intro k acc m hn hk hm ha
    have hk2 : k < s.length := by omega
    have hacc : acc < 65536 := Nat.lt_of_lt_of_le ha (show 16 ^ m ≤ 16 ^ 4 from Nat.pow_le_pow_right (by decide) (by omega))
    rw [M.r02_reader_four_k1.eq_1, show ((b : Int) + 6) = ((b + 6 : Nat) : Int) by omega, w64s (by omega)]
    have h1 : ((k : Int) < ((b + 6 : Nat) : Int)) := by omega
    rw [drop_get hk2, List.take_succ_cons]
    simp only [h1, decide_true, if_true, ix_n, List.getElem?_eq_getElem hk2, Option.bind_eq_bind, Option.bind_some, r02_digit_eq]
    generalize s[k] = c
    have hc := nat_lt (b := c)
    have step : ∀ d : Nat, d < 16 → hexv c = some d → M.r02_reader_four_k1 (b : Int) ⟨s, g, e⟩ ((16 * acc + d : Nat) : Int) ((k + 1 : Nat) : Int) = some (match hexs (c :: (s.drop (k + 1)).take n) acc with | some v => .go (v : Int) | none => .done (-1)) := fun d hd hx => by
      rw [ih (k + 1) (16 * acc + d) (m + 1) (by omega) (by omega) (by omega) (by rw [Nat.pow_succ]; omega)]
      rw [hexs, hx]
    have e16 : IntKind.wrap .i64 (16 * (acc : Int)) = ((16 * acc : Nat) : Int) := by rw [w64] <;> omega
    rw [w1 (by omega), e16]
    rcases hexv_kind c with ⟨k1, k2, k3, k4⟩ | ⟨k1, k2, k3, k4⟩ | ⟨k1, k2, k3, k4⟩ | ⟨k1, k2, k3, k4⟩
    · have e2 : IntKind.wrap .u8 ((c.toNat : Int) - 48) = ((c.toNat - 48 : Nat) : Int) := by rw [wu8]; omega
      simp only [k1, if_true]
      rw [e2, w64s (by omega), wnat (by omega)]
      exact step _ (by omega) k4
    · have e2 : IntKind.wrap .u8 ((c.toNat : Int) - 97) = ((c.toNat - 97 : Nat) : Int) := by rw [wu8]; omega
      have q1 : (97 : Int) ≤ (c.toNat : Int) := by omega
      have q2 : (c.toNat : Int) ≤ 102 := by omega
      simp only [k1, Bool.false_eq_true, if_false, q1, q2, decide_true, Bool.and_true, if_true]
      rw [e2, w64s (by omega), wnat (by omega), show ((16 * acc + (c.toNat - 97) : Nat) : Int) + 10 = ((16 * acc + (c.toNat - 87) : Nat) : Int) by omega, w64s (by omega)]
      exact step _ (by omega) k4
    · have e2 : IntKind.wrap .u8 ((c.toNat : Int) - 65) = ((c.toNat - 65 : Nat) : Int) := by rw [wu8]; omega
      have q0 : ¬ (97 : Int) ≤ (c.toNat : Int) := by omega
      have q1 : (65 : Int) ≤ (c.toNat : Int) := by omega
      have q2 : (c.toNat : Int) ≤ 70 := by omega
      simp only [k1, Bool.false_eq_true, if_false, q0, q1, q2, decide_true, decide_false, Bool.false_and, Bool.and_true, if_true]
      rw [e2, w64s (by omega), wnat (by omega), show ((16 * acc + (c.toNat - 65) : Nat) : Int) + 10 = ((16 * acc + (c.toNat - 55) : Nat) : Int) by omega, w64s (by omega)]
      exact step _ (by omega) k4
    · have q1 : (decide ((97 : Int) ≤ (c.toNat : Int)) && decide ((c.toNat : Int) ≤ 102)) = false := by
        rw [Bool.and_eq_false_iff, decide_eq_false_iff_not, decide_eq_false_iff_not]; omega
      have q2 : (decide ((65 : Int) ≤ (c.toNat : Int)) && decide ((c.toNat : Int) ≤ 70)) = false := by
        rw [Bool.and_eq_false_iff, decide_eq_false_iff_not, decide_eq_false_iff_not]; omega
      simp only [k1, Bool.false_eq_true, if_false, q1, q2]
      rw [hexs, k4]
theorem hexs4 (a b c d : UInt8) : hexs [a, b, c, d] 0 = (hexv a).bind fun ha => (hexv b).bind fun hb => (hexv c).bind fun hc => (hexv d).bind fun hd => some (16 * (16 * (16 * ha + hb) + hc) + hd) := by
  simp only [hexs]
  cases hexv a with
  | none => rfl
  | some ha =>
    cases hexv b with
    | none => rfl
    | some hb =>
      cases hexv c with
      | none => rfl
      | some hc =>
        cases hexv d with
        | none => rfl
        | some hd => simp
def unitN (r : List UInt8) : Int := match unit r with
  | some (n, _) => (n : Int)
  | none => -1
theorem unit_short {r : List UInt8} (h : r.length < 6) : unit r = none := by
  cases hu : unit r with
  | none => rfl
  | some p =>
    obtain ⟨n, r1⟩ := p
    have := (unit_lt hu).2
    omega
theorem unit_drop {r r1 : List UInt8} {n : Nat} (h : unit r = some (n, r1)) : r1 = r.drop 6 ∧ 6 ≤ r.length := by
  have hl := (unit_lt h).2
  refine ⟨?_, by omega⟩
  unfold unit at h
  split at h
  · split at h
    · simp only [Option.bind_eq_some_iff] at h
      obtain ⟨_, _, _, _, _, _, _, _, h⟩ := h
      cases h
      rfl
    · cases h
  · cases h
theorem r02_four_eq (hs : s.length < 1000000) (g e : Int) (h : At s r i) : M.r02_reader_four ⟨s, g, e⟩ (i : Int) = some (unitN r) := by
  have hl := h.len
  unfold M.r02_reader_four unitN
  rw [show ((i : Int) + 6) = ((i + 6 : Nat) : Int) by omega, w64s (by omega)]
  by_cases h6 : r.length < 6
  · have h1 : ((s.length : Int) < ((i + 6 : Nat) : Int)) := by omega
    simp only [h1, decide_true, if_true, Option.bind_eq_bind, Option.bind_some, unit_short h6]
  · have h1 : ¬ ((s.length : Int) < ((i + 6 : Nat) : Int)) := by omega
    obtain ⟨x, y, a, b, c, d, t, rfl⟩ : ∃ x y a b c d t, r = x :: y :: a :: b :: c :: d :: t := by
      match r with
      | x :: y :: a :: b :: c :: d :: t => exact ⟨x, y, a, b, c, d, t, rfl⟩
      | [] => simp at h6
      | [_] => simp at h6
      | [_, _] => simp at h6
      | [_, _, _] => simp at h6
      | [_, _, _, _] => simp at h6
      | [_, _, _, _, _] => simp at h6
    obtain ⟨g1, g2, _⟩ := h.cons
    obtain ⟨g3, g4, _⟩ := g2.cons
    have t1 : ((x.toNat : Int) = 92) ↔ x = 92 := toNat_eq (n := 92) (by omega)
    have t2 : ((y.toNat : Int) = 117) ↔ y = 117 := toNat_eq (n := 117) (by omega)
    rw [w1 (by omega), show ((i : Int) + 2) = ((i + 2 : Nat) : Int) by omega, w64s (by omega)]
    simp only [List.length_cons] at hl
    have hk := r02_four_k1 g e i (by omega) hs 4 (i + 2) 0 0 (by omega) (by omega) (by omega) (by decide)
    rw [g4.1] at hk
    have e4 : (a :: b :: c :: d :: t).take 4 = [a, b, c, d] := rfl
    rw [e4, hexs4] at hk
    have hk : M.r02_reader_four_k1 (i : Int) ⟨s, g, e⟩ 0 ((i + 2 : Nat) : Int) = _ := hk
    simp only [h1, decide_false, Bool.false_eq_true, if_false, ix_n, g1, g3, Option.bind_eq_bind, Option.bind_some, t1, t2, hk]
    unfold unit
    by_cases hx : x = 92
    · by_cases hy : y = 117
      · simp only [hx, hy, decide_true, Bool.not_true, Bool.false_eq_true, if_false, and_self, if_true]
        cases hexv a with
        | none => rfl
        | some ha =>
          cases hexv b with
          | none => rfl
          | some hb =>
            cases hexv c with
            | none => rfl
            | some hc =>
              cases hexv d with
              | none => rfl
              | some hd => rfl
      · simp [hx, hy]
    · simp [hx]
theorem r02_esc_k1 (hs : s.length < 1000000) (e : Int) {c : UInt8} (hi : s[i + 1]? = some c) :
    M.r02_reader_escaped_k1 ⟨s, (i : Int), e⟩ 0 = some (match esc1 c with | some y => .done ([y], ⟨s, ((i + 2 : Nat) : Int), e⟩) | none => .go ()) := by
  have hlt : i + 1 < s.length := (List.getElem?_eq_some_iff.1 hi).1
  have st : ∀ (k : Nat) (x y : UInt8), k < 8 → ([34, 92, 47, 98, 102, 110, 114, 116] : List UInt8)[k]? = some x → ([34, 92, 47, 8, 12, 10, 13, 9] : List UInt8)[k]? = some y →
      M.r02_reader_escaped_k1 ⟨s, (i : Int), e⟩ (k : Int) = if c = x then some (.done ([y], ⟨s, ((i + 2 : Nat) : Int), e⟩)) else M.r02_reader_escaped_k1 ⟨s, (i : Int), e⟩ ((k + 1 : Nat) : Int) := by
    intro k x y hk h1 h2
    rw [M.r02_reader_escaped_k1.eq_1]
    have hk2 : ((k : Int) < (([34, 92, 47, 98, 102, 110, 114, 116] : List UInt8).length : Int)) := by simp only [List.length_cons, List.length_nil]; omega
    have hy : k < ([34, 92, 47, 8, 12, 10, 13, 9] : List UInt8).length := by simp only [List.length_cons, List.length_nil]; omega
    have hy2 : ([34, 92, 47, 8, 12, 10, 13, 9] : List UInt8)[k] = y := by
      have := List.getElem?_eq_getElem hy
      rw [h2] at this
      exact (Option.some.inj this).symm
    have tx : ((c.toNat : Int) = (x.toNat : Int)) ↔ c = x := by
      constructor
      · intro h; exact UInt8.toNat_inj.1 (by omega)
      · rintro rfl; rfl
    rw [w1 (by omega), sub_1 hy (by simp), hy2, w1 (by omega), show ((i : Int) + 2) = ((i + 2 : Nat) : Int) by omega, w64s (by omega)]
    simp only [hk2, decide_true, if_true, ix_n, hi, h1, Option.bind_eq_bind, Option.bind_some, tx]
    by_cases hcx : c = x
    · simp [hcx]
    · simp [hcx]
  have en : M.r02_reader_escaped_k1 ⟨s, (i : Int), e⟩ ((8 : Nat) : Int) = some (.go ()) := by
    rw [M.r02_reader_escaped_k1.eq_1]
    simp
  have s0 := st 0 34 34 (by omega) rfl rfl
  have s0 : M.r02_reader_escaped_k1 ⟨s, (i : Int), e⟩ 0 = _ := s0
  rw [s0, st 1 92 92 (by omega) rfl rfl, st 2 47 47 (by omega) rfl rfl, st 3 98 8 (by omega) rfl rfl, st 4 102 12 (by omega) rfl rfl, st 5 110 10 (by omega) rfl rfl, st 6 114 13 (by omega) rfl rfl, st 7 116 9 (by omega) rfl rfl, en]
  unfold esc1
  by_cases h1 : c = 34
  · rw [if_pos h1, if_pos h1]
  rw [if_neg h1, if_neg h1]
  by_cases h2 : c = 92
  · rw [if_pos h2, if_pos h2]
  rw [if_neg h2, if_neg h2]
  by_cases h3 : c = 47
  · rw [if_pos h3, if_pos h3]
  rw [if_neg h3, if_neg h3]
  by_cases h4 : c = 98
  · rw [if_pos h4, if_pos h4]
  rw [if_neg h4, if_neg h4]
  by_cases h5 : c = 102
  · rw [if_pos h5, if_pos h5]
  rw [if_neg h5, if_neg h5]
  by_cases h6 : c = 110
  · rw [if_pos h6, if_pos h6]
  rw [if_neg h6, if_neg h6]
  by_cases h7 : c = 114
  · rw [if_pos h7, if_pos h7]
  rw [if_neg h7, if_neg h7]
  by_cases h8 : c = 116
  · rw [if_pos h8, if_pos h8]
  rw [if_neg h8, if_neg h8]
theorem high_eq {n : Nat} (h : lowS n = false) : (decide ((n : Int) < 55296) || decide (56319 < (n : Int))) = !highS n := by
  unfold lowS at h
  unfold highS
  rw [Bool.and_eq_false_iff, decide_eq_false_iff_not, decide_eq_false_iff_not] at h
  rw [Bool.eq_iff_iff]
  simp only [Bool.or_eq_true, decide_eq_true_eq, Bool.not_eq_true', Bool.and_eq_false_iff, decide_eq_false_iff_not]
  omega
def EscOk (s : List UInt8) (z : Option (List UInt8 × RR)) : Option (List UInt8 × List UInt8) → Prop
  | some (t, r2) => ∃ j, At s r2 j ∧ z = some (t, ⟨s, (j : Int), 0⟩)
  | none => ∃ j : Nat, j ≤ s.length ∧ z = some ([], ⟨s, (j : Int), 20⟩)
theorem r02_escaped_eq (hs : s.length < 1000000) (h : At s (92 :: r) i) : EscOk s (M.r02_reader_escaped ⟨s, (i : Int), 0⟩) (escd (92 :: r)) := by
  obtain ⟨g1, g2, g3⟩ := h.cons
  have hl := h.len
  simp only [List.length_cons] at hl
  have four := r02_four_eq hs (i : Int) 0 h
  unfold M.r02_reader_escaped
  rw [w1 (by omega)]
  cases r with
  | nil =>
    have hn : ¬ (((i + 1 : Nat) : Int) < (s.length : Int)) := by simp only [List.length_nil] at hl; omega
    have e1 : escd [92] = none := rfl
    rw [e1]
    refine ⟨i, by omega, ?_⟩
    have hu : unitN [92] = -1 := rfl
    simp only [hn, decide_false, Bool.false_eq_true, if_false, Option.bind_eq_bind, Option.bind_some, four, hu, r02_wrong_0]
    rfl
  | cons c r =>
    obtain ⟨g4, g5, g6⟩ := g2.cons
    have hy : (((i + 1 : Nat) : Int) < (s.length : Int)) := by omega
    simp only [hy, decide_true, if_true, r02_esc_k1 hs 0 g4, Option.bind_eq_bind, Option.bind_some]
    cases hc : esc1 c with
    | some y =>
      rw [show escd (92 :: c :: r) = some ([y], r) by simp [escd, hc]]
      exact ⟨i + 2, g5, rfl⟩
    | none =>
      simp only [four, Option.bind_some]
      unfold unitN
      cases hu : unit (92 :: c :: r) with
      | none =>
        rw [show escd (92 :: c :: r) = none by simp [escd, hc, hu]]
        exact ⟨i, by omega, by simp [r02_wrong_0]⟩
      | some p =>
        obtain ⟨n, r1⟩ := p
        obtain ⟨u1, u2⟩ := unit_lt hu
        obtain ⟨u3, u4⟩ := unit_drop hu
        have a6 : At s r1 (i + 6) := by rw [u3]; exact h.drop u4
        have hn0 : ¬ ((n : Int) < 0) := by omega
        have e6 : IntKind.wrap .i64 ((i : Int) + 6) = ((i + 6 : Nat) : Int) := by rw [w64] <;> omega
        have e32 : IntKind.wrap .i32 (n : Int) = (n : Int) := w32 (by omega) (by omega)
        simp only [hn0, decide_false, Bool.false_or, rng3, e6, e32]
        cases c1 : lowS n with
        | true =>
          rw [show escd (92 :: c :: r) = none by simp [escd, hc, hu, c1]]
          exact ⟨i, by omega, by simp [r02_wrong_0]⟩
        | false =>
          simp only [Bool.false_eq_true, if_false, high_eq c1]
          cases c2 : highS n with
          | false =>
            rw [show escd (92 :: c :: r) = some (encS (n : Int), r1) by simp [escd, hc, hu, c1, c2]]
            exact ⟨i + 6, a6, by simp⟩
          | true =>
            have four2 := r02_four_eq hs ((i + 6 : Nat) : Int) 0 a6
            simp only [Bool.not_true, Bool.false_eq_true, if_false, Bool.true_eq_false, four2, Option.bind_some]
            unfold unitN
            have a6l := a6.2
            cases hu2 : unit r1 with
            | none =>
              rw [show escd (92 :: c :: r) = none by simp [escd, hc, hu, c1, c2, hu2]]
              exact ⟨i + 6, a6l, by simp [r02_wrong_0]⟩
            | some p2 =>
              obtain ⟨m, r2⟩ := p2
              obtain ⟨u5, u6⟩ := unit_lt hu2
              obtain ⟨u7, u8⟩ := unit_drop hu2
              have a12 : At s r2 (i + 6 + 6) := by rw [u7]; exact a6.drop u8
              simp only [rng1]
              cases c3 : lowS m with
              | false =>
                rw [show escd (92 :: c :: r) = none by simp [escd, hc, hu, c1, c2, hu2, c3]]
                exact ⟨i + 6, a6l, by simp [r02_wrong_0]⟩
              | true =>
                obtain ⟨q1, q2⟩ := highS_t c2
                obtain ⟨q3, q4⟩ := lowS_t c3
                have e12 : IntKind.wrap .i64 (((i + 6 : Nat) : Int) + 6) = ((i + 6 + 6 : Nat) : Int) := by rw [w64] <;> omega
                have n1 : IntKind.wrap .i64 ((n : Int) - 55296) = (n : Int) - 55296 := w64 (by omega) (by omega)
                have n2 : IntKind.wrap .i64 (1024 * ((n : Int) - 55296)) = 1024 * ((n : Int) - 55296) := w64 (by omega) (by omega)
                have n3 : IntKind.wrap .i64 (65536 + 1024 * ((n : Int) - 55296)) = 65536 + 1024 * ((n : Int) - 55296) := w64 (by omega) (by omega)
                have n4 : IntKind.wrap .i64 (65536 + 1024 * ((n : Int) - 55296) + (m : Int)) = 65536 + 1024 * ((n : Int) - 55296) + (m : Int) := w64 (by omega) (by omega)
                have n5 : IntKind.wrap .i64 (65536 + 1024 * ((n : Int) - 55296) + (m : Int) - 56320) = 65536 + 1024 * ((n : Int) - 55296) + (m : Int) - 56320 := w64 (by omega) (by omega)
                have n6 : IntKind.wrap .i32 (65536 + 1024 * ((n : Int) - 55296) + (m : Int) - 56320) = 65536 + 1024 * ((n : Int) - 55296) + (m : Int) - 56320 := w32 (by omega) (by omega)
                have n7 : 65536 + 1024 * ((n : Int) - 55296) + (m : Int) - 56320 = 65536 + ((n : Int) - 55296) * 1024 + (m : Int) - 56320 := by omega
                rw [show escd (92 :: c :: r) = some (encS (65536 + ((n : Int) - 55296) * 1024 + (m : Int) - 56320), r2) by simp [escd, hc, hu, c1, c2, hu2, c3]]
                simp only [if_true, e12, n1, n2, n3, n4, n5, n6]
                rw [n7]
                exact ⟨i + 6 + 6, a12, by simp⟩
/-! Texts. -/
theorem r02_text_stop {acc : List Int} {j : Int} : M.r02_reader_text_k1 acc s j 20 = some (.go (s, j, 20)) := by
  rw [M.r02_reader_text_k1.eq_1]
  simp
def TxtOk (s : List UInt8) (z : Option (Jn (List UInt8 × RR) (List UInt8 × Int × Int))) : Option (List UInt8 × List UInt8) → Prop
  | some (t, r2) => ∃ j, At s r2 j ∧ z = some (.done (t, ⟨s, (j : Int), 0⟩))
  | none => ∃ j : Nat, j ≤ s.length + 1 ∧ ((∃ t, z = some (.done (t, ⟨s, (j : Int), 20⟩))) ∨ z = some (.go (s, (j : Int), 20)))
def TextOk (s : List UInt8) (z : Option (List UInt8 × RR)) : Option (List UInt8 × List UInt8) → Prop
  | some (t, r2) => ∃ j, At s r2 j ∧ z = some (t, ⟨s, (j : Int), 0⟩)
  | none => ∃ t, ∃ j : Nat, j ≤ s.length + 1 ∧ z = some (t, ⟨s, (j : Int), 20⟩)
theorem r02_text_k1 (hs : s.length < 1000000) : ∀ (f : Nat) (r acc : List UInt8) (i : Nat), r.length < f → At s r i → acc.length + 4 * r.length < 1000000000 → TxtOk s (M.r02_reader_text_k1 (unb acc) s (i : Int) 0) (txt f r acc) := by
  intro f
  induction f with
  | zero => intro r acc i hf; omega
  | succ f ih =>
    intro r acc i hf h ha
    have hl := h.len
    rw [M.r02_reader_text_k1.eq_1]
    simp only [decide_true, if_true, r02_at_eq 0 h, Option.bind_eq_bind, Option.bind_some]
    cases r with
    | nil =>
      rw [txt]
      refine ⟨i, by omega, .inr ?_⟩
      simp [hd, r02_wrong_0, r02_text_stop]
    | cons c r =>
      obtain ⟨g1, g2, g3⟩ := h.cons
      simp only [List.length_cons] at hf hl ha
      have t34 : ((c.toNat : Int) = 34) ↔ c = 34 := toNat_eq (n := 34) (by omega)
      have t92 : ((c.toNat : Int) = 92) ↔ c = 92 := toNat_eq (n := 92) (by omega)
      have t32 : ((c.toNat : Int) < 32) ↔ c.toNat < 32 := by omega
      simp only [hd, t34, t92, t32]
      rw [txt]
      by_cases c34 : c = 34
      · subst c34
        have n32 : ¬ (34 : UInt8).toNat < 32 := by decide
        simp only [n32, if_false, if_true, decide_true, valid_eq acc, Option.bind_some]
        rw [w1 (by omega)]
        cases hv : Lib.validD acc with
        | true => exact ⟨i + 1, g2, by simp [byt_unb]⟩
        | false => exact ⟨i + 1, by omega, .inl ⟨acc, by simp [byt_unb, r02_wrong_0]⟩⟩
      · by_cases c32 : c.toNat < 32
        · simp only [c32, c34, if_true, decide_true, decide_false, Bool.false_eq_true, if_false, r02_wrong_0, Option.bind_some]
          exact ⟨i, by omega, .inr r02_text_stop⟩
        · by_cases c92 : c = 92
          · subst c92
            have he := r02_escaped_eq hs h
            simp only [c32, c34, if_true, decide_true, decide_false, Bool.false_eq_true, if_false]
            cases hx : escd (92 :: r) with
            | none =>
              rw [hx] at he
              obtain ⟨j, j1, j2⟩ := he
              simp only [j2, Option.bind_some]
              have ea : app 1 (unb acc) (unb []) = some (unb acc ++ unb []) := app_ok (by simp [unb]; omega)
              simp only [ea, Option.bind_some]
              exact ⟨j, by omega, .inr r02_text_stop⟩
            | some p =>
              obtain ⟨t, r2⟩ := p
              rw [hx] at he
              obtain ⟨j, j1, j2⟩ := he
              have hle := escd_len hx
              simp only [List.length_cons] at hle
              have ea : app 1 (unb acc) (unb t) = some (unb acc ++ unb t) := app_ok (by simp [unb]; omega)
              simp only [j2, Option.bind_some, ea]
              rw [← unb_append]
              exact ih r2 (acc ++ t) j (by omega) j1 (by simp; omega)
          · simp only [c32, c34, c92, if_true, decide_true, decide_false, Bool.false_eq_true, if_false]
            have ea : app 1 (unb acc) [(c.toNat : Int)] = some (unb acc ++ [(c.toNat : Int)]) := app_ok (by simp [unb]; omega)
            simp only [ea, Option.bind_some]
            rw [w1 (by omega), show unb acc ++ [(c.toNat : Int)] = unb (acc ++ [c]) by simp [unb]]
            exact ih r (acc ++ [c]) (i + 1) (by omega) g2 (by simp; omega)
theorem r02_text_eq (hs : s.length < 1000000) (h : At s r i) : TextOk s (M.r02_reader_text ⟨s, (i : Int), 0⟩) (text r) := by
  have hl := h.len
  unfold M.r02_reader_text
  simp only [r02_at_eq 0 h, Option.bind_eq_bind, Option.bind_some]
  cases r with
  | nil => exact ⟨[], i, by omega, by simp [hd, r02_wrong_0]⟩
  | cons c r =>
    obtain ⟨_, g2, _⟩ := h.cons
    have t34 : ((c.toNat : Int) = 34) ↔ c = 34 := toNat_eq (n := 34) (by omega)
    simp only [hd, t34]
    by_cases c34 : c = 34
    · rw [show text (c :: r) = txt (r.length + 1) r [] by simp [text, c34]]
      simp only [c34, decide_true, Bool.not_true, Bool.false_eq_true, if_false, if_true]
      rw [w1 (by omega)]
      have hk := r02_text_k1 hs (r.length + 1) r [] (i + 1) (by omega) g2 (by simp only [List.length_cons] at hl; simp; omega)
      have e0 : unb ([] : List UInt8) = [] := rfl
      rw [e0] at hk
      cases hx : txt (r.length + 1) r [] with
      | none =>
        rw [hx] at hk
        obtain ⟨j, j1, j2⟩ := hk
        rcases j2 with ⟨t, j2⟩ | j2
        · exact ⟨t, j, j1, by simp only [j2, Option.bind_some]⟩
        · exact ⟨[], j, j1, by simp only [j2, Option.bind_some]⟩
      | some p =>
        obtain ⟨t, r2⟩ := p
        rw [hx] at hk
        obtain ⟨j, j1, j2⟩ := hk
        exact ⟨j, j1, by simp only [j2, Option.bind_some]⟩
    · rw [text_ne c34]
      exact ⟨[], i, by omega, by simp [c34, r02_wrong_0]⟩
/-! Words and numbers. -/
theorem r02_word_k1 (hs : s.length < 1000000) (e : Int) (h : At s r i) : M.r02_reader_word_k1 ⟨s, (i : Int), e⟩ 0 = some (
    if ([110, 117, 108, 108] : List UInt8).isPrefixOf r = true then .done (⟨0, [], [], []⟩, ⟨s, ((i + 4 : Nat) : Int), e⟩)
    else if ([102, 97, 108, 115, 101] : List UInt8).isPrefixOf r = true then .done (⟨1, [], [], []⟩, ⟨s, ((i + 5 : Nat) : Int), e⟩)
    else if ([116, 114, 117, 101] : List UInt8).isPrefixOf r = true then .done (⟨2, [], [], []⟩, ⟨s, ((i + 4 : Nat) : Int), e⟩)
    else .go ()) := by
  have hl := h.len
  have st : ∀ (k : Nat) (p : List UInt8), k < 3 → p.length < 10 → ([([110, 117, 108, 108] : List UInt8), ([102, 97, 108, 115, 101] : List UInt8), ([116, 114, 117, 101] : List UInt8)])[k]? = some p →
      M.r02_reader_word_k1 ⟨s, (i : Int), e⟩ (k : Int) = if p.isPrefixOf r = true then some (.done (⟨(k : Int), [], [], []⟩, ⟨s, ((i + p.length : Nat) : Int), e⟩)) else M.r02_reader_word_k1 ⟨s, (i : Int), e⟩ ((k + 1 : Nat) : Int) := by
    intro k p hk hp hx
    rw [M.r02_reader_word_k1.eq_1]
    have hk2 : ((k : Int) < 3) := by omega
    have e1 : IntKind.wrap .i64 ((s.length : Int) - (i : Int)) = (r.length : Int) := by rw [w64] <;> omega
    rw [e1, w1 (by omega)]
    have e5 : IntKind.wrap .i64 ((i : Int) + (p.length : Int)) = ((i + p.length : Nat) : Int) := wnat (by omega)
    simp only [hk2, decide_true, if_true, ix_n, hx, Option.bind_eq_bind, Option.bind_some, e5]
    by_cases hle : p.length ≤ r.length
    · have e2 : sub s (i : Int) ((i + p.length : Nat) : Int) = some (r.take p.length) := by
        rw [sub_n (by omega) (by omega), List.drop_take, h.1]
        congr 2
        omega
      have e3 : ((p.length : Int) ≤ (r.length : Int)) := by omega
      simp only [e3, decide_true, if_true, e2, Option.bind_some, pre_take]
    · have e3 : ¬ ((p.length : Int) ≤ (r.length : Int)) := by omega
      have e4 : p.isPrefixOf r = false := by
        cases hq : p.isPrefixOf r with
        | false => rfl
        | true => exact (hle (pre_len hq)).elim
      simp only [e3, e4, decide_false, Bool.false_eq_true, if_false, Option.bind_some]
  have en : M.r02_reader_word_k1 ⟨s, (i : Int), e⟩ ((3 : Nat) : Int) = some (.go ()) := by
    rw [M.r02_reader_word_k1.eq_1]
    simp
  have s0 : M.r02_reader_word_k1 ⟨s, (i : Int), e⟩ 0 = _ := st 0 [110, 117, 108, 108] (by omega) (by decide) rfl
  rw [s0, st 1 [102, 97, 108, 115, 101] (by omega) (by decide) rfl, st 2 [116, 114, 117, 101] (by omega) (by decide) rfl, en]
  simp only [List.length_cons, List.length_nil]
  split
  · rfl
  · split
    · rfl
    · split <;> rfl
def WordOk (s : List UInt8) (z : Option (T_api_Json × RR)) : Rd → Prop
  | .ok (x, r2) => ∃ r1 j, At s r1 j ∧ blanks r1 = r2 ∧ z = some (x, ⟨s, (j : Int), 0⟩)
  | .pan c => c = 20 ∧ ∃ x, ∃ j : Nat, j ≤ s.length ∧ z = some (x, ⟨s, (j : Int), 20⟩)
theorem r02_word_eq (hs : s.length < 1000000) (h : At s r i) : WordOk s (M.r02_reader_word ⟨s, (i : Int), 0⟩) (word r) := by
  have hl := h.len
  unfold M.r02_reader_word word take
  rw [r02_word_k1 hs 0 h]
  by_cases p1 : ([110, 117, 108, 108] : List UInt8).isPrefixOf r = true
  · have := pre_len p1
    simp only [p1, if_true, Option.bind_eq_bind, Option.bind_some]
    exact ⟨_, i + 4, h.drop this, rfl, rfl⟩
  · by_cases p2 : ([102, 97, 108, 115, 101] : List UInt8).isPrefixOf r = true
    · have := pre_len p2
      simp only [p1, p2, if_true, Option.bind_eq_bind, Option.bind_some, if_false, Bool.false_eq_true]
      exact ⟨_, i + 5, h.drop this, rfl, rfl⟩
    · by_cases p3 : ([116, 114, 117, 101] : List UInt8).isPrefixOf r = true
      · have := pre_len p3
        simp only [p1, p2, p3, if_true, Option.bind_eq_bind, Option.bind_some, if_false, Bool.false_eq_true]
        exact ⟨_, i + 4, h.drop this, rfl, rfl⟩
      · have e1 : sub s (i : Int) (s.length : Int) = some r := by rw [sub_d (by omega), h.1]
        simp only [p1, p2, p3, Option.bind_eq_bind, Option.bind_some, if_false, Bool.false_eq_true, e1]
        rw [r02_number_eq (by omega)]
        simp only [Option.bind_some]
        have hn := num_le r
        by_cases hz : num r = 0
        · have hz2 : ((num r : Nat) : Int) = 0 := by omega
          simp only [hz, if_true]
          exact ⟨rfl, ⟨0, [], [], []⟩, i, by omega, by simp [r02_wrong_0]⟩
        · have hz2 : ¬ ((num r : Nat) : Int) = 0 := by omega
          have e2 : IntKind.wrap .i64 ((i : Int) + ((num r : Nat) : Int)) = ((i + num r : Nat) : Int) := wnat (by omega)
          have e3 : IntKind.wrap .i64 (((i + num r : Nat) : Int) - ((num r : Nat) : Int)) = (i : Int) := by rw [w64] <;> omega
          have e4 : sub s (i : Int) ((i + num r : Nat) : Int) = some (r.take (num r)) := by
            rw [sub_n (by omega) (by omega), List.drop_take, h.1]
            congr 2
            omega
          simp only [hz, hz2, if_false, decide_false, Bool.false_eq_true, e2, e3, e4, Option.bind_some]
          exact ⟨_, i + num r, h.drop hn, rfl, rfl⟩
end
end Go.Sen
namespace Go.Sen
open Go.Lk Go.Pe
section
variable {s r : List UInt8} {c : UInt8} {i : Nat}
abbrev RL := (List UInt8) × Int × Int × (List T_api_Json) × (List (List UInt8))
/-- What reads a member's key and the colon. -/
def keyX (s : List UInt8) (i : Int) (ks : List (List UInt8)) : Option ((List UInt8) × Int × Int × (List (List UInt8))) := do
  let a_2170 ← M.r02_reader_blanks (T_seneschalref02_reader.mk s i 0)
  let a_2172 ← M.r02_reader_text a_2170
  let l_2174 ← app 16 ks [a_2172.1]
  let j_2194 ← (do
      let j_2198 ← (do
          if (decide (a_2172.2.ge = 0)) then
            let a_2199 ← M.r02_twice l_2174
            some a_2199
          else
            some false : Option Bool)
      if j_2198 then
        let a_2201 ← M.r02_reader_wrong a_2172.2 20
        some (a_2201.gs, a_2201.gi, a_2201.ge)
      else
        some (a_2172.2.gs, a_2172.2.gi, a_2172.2.ge) : Option ((List UInt8) × Int × Int))
  let a_2203 ← M.r02_reader_blanks (T_seneschalref02_reader.mk j_2194.1 j_2194.2.1 j_2194.2.2)
  let j_2216 ← (do
      let a_2217 ← M.r02_reader_at a_2203
      if (!decide (a_2217 = 58)) then
        let a_2219 ← M.r02_reader_wrong a_2203 20
        some (a_2219.gs, a_2219.gi, a_2219.ge)
      else
        some (a_2203.gs, a_2203.gi, a_2203.ge) : Option ((List UInt8) × Int × Int))
  some (j_2216.1, (IntKind.wrap .i64 (j_2216.2.1 + 1)), j_2216.2.2, l_2174)
/-- What stands behind the key. -/
def tailX (a3 : Int) (self : RR → Int → Option (T_api_Json × RR)) (p1 : Int) (s : List UInt8) (i e : Int) (l : List T_api_Json) (ks : List (List UInt8)) : Option RL := do
  let j_2231 ← (do
      if (decide (e = 0)) then
        let a_2232 ← self (T_seneschalref02_reader.mk s i e) (IntKind.wrap .i64 (p1 + 1))
        let l_2234 ← app 72 l [a_2232.1]
        some (a_2232.2.gs, a_2232.2.gi, a_2232.2.ge, l_2234)
      else
        some (s, i, e, l) : Option ((List UInt8) × Int × Int × (List T_api_Json)))
  let a_2235 ← M.r02_reader_at (T_seneschalref02_reader.mk j_2231.1 j_2231.2.1 j_2231.2.2.1)
  if (decide (a_2235 = 44)) then
    M.r02_reader_value_k1 a3 self p1 (decide (a_2235 = 44)) j_2231.1 (IntKind.wrap .i64 (j_2231.2.1 + 1)) j_2231.2.2.1 j_2231.2.2.2 ks
  else
    M.r02_reader_value_k1 a3 self p1 (decide (a_2235 = 44)) j_2231.1 j_2231.2.1 j_2231.2.2.1 j_2231.2.2.2 ks
theorem k1_list (self : RR → Int → Option (T_api_Json × RR)) (p1 : Int) (s : List UInt8) (i : Int) (l : List T_api_Json) (ks : List (List UInt8)) :
    M.r02_reader_value_k1 91 self p1 true s i 0 l ks = tailX 91 self p1 s i 0 l ks := by
  rw [M.r02_reader_value_k1.eq_1]
  rfl
theorem k1_obj (self : RR → Int → Option (T_api_Json × RR)) (p1 : Int) (s : List UInt8) (i : Int) (l : List T_api_Json) (ks : List (List UInt8)) :
    M.r02_reader_value_k1 123 self p1 true s i 0 l ks = (keyX s i ks).bind fun j => tailX 123 self p1 j.1 j.2.1 j.2.2.1 l j.2.2.2 := by
  rw [M.r02_reader_value_k1.eq_1]
  rfl
theorem k1_exit (a3 : Int) (self : RR → Int → Option (T_api_Json × RR)) (p1 : Int) (b : Bool) (s : List UInt8) (i e : Int) (l : List T_api_Json) (ks : List (List UInt8)) (h : b = false ∨ ¬ e = 0) :
    M.r02_reader_value_k1 a3 self p1 b s i e l ks = some (s, i, e, l, ks) := by
  rw [M.r02_reader_value_k1.eq_1]
  rcases h with rfl | h
  · rfl
  · cases b with
    | true => simp [h]
    | false => rfl
def KeyOk (s : List UInt8) (z : Option ((List UInt8) × Int × Int × (List (List UInt8)))) : Rs (List UInt8 × List (List UInt8)) → Prop
  | .ok (r2, ks1) => ∃ r1 j, At s r1 j ∧ blanks r1 = r2 ∧ z = some (s, (j : Int), 0, ks1)
  | .pan c => c = 20 ∧ ∃ (j : Nat) (ks' : List (List UInt8)), j ≤ s.length + 3 ∧ z = some (s, (j : Int), 20, ks')
theorem keyX_eq (hs : s.length < 1000000) {ks : List (List UInt8)} (hk : ks.length < 1000000) (hn : ks.Nodup) (h : At s r i) : KeyOk s (keyX s (i : Int) ks) (key1 (blanks r) ks) := by
  obtain ⟨j1, a1, b1⟩ := r02_blanks_eq hs 0 h
  have ht := r02_text_eq hs a1
  unfold keyX key1
  simp only [b1, Option.bind_eq_bind, Option.bind_some]
  have bad : ∀ (j : Nat) (t : List UInt8), j ≤ s.length + 1 → ∃ (j' : Nat), j' ≤ s.length + 3 ∧ ((M.r02_reader_blanks ⟨s, (j : Int), 20⟩).bind fun a_2203 => ((M.r02_reader_at a_2203).bind fun a_2217 => if (!decide (a_2217 = 58)) then (M.r02_reader_wrong a_2203 20).bind fun a_2219 => some (a_2219.gs, a_2219.gi, a_2219.ge) else some (a_2203.gs, a_2203.gi, a_2203.ge)).bind fun j_2216 => some (j_2216.1, (IntKind.wrap .i64 (j_2216.2.1 + 1)), j_2216.2.2, ks ++ [t])) = some (s, (j' : Int), 20, ks ++ [t]) := by
    intro j t hj
    obtain ⟨j2, a2, b2⟩ := r02_blanks_any hs 20 j
    obtain ⟨c, hc⟩ := r02_at_any (s := s) 20 j2
    refine ⟨j2 + 1, by omega, ?_⟩
    simp only [b2, hc, Option.bind_some, r02_wrong_e (show ¬ (20 : Int) = 0 by decide)]
    have hw := w1 (n := j2) (by omega)
    split <;> simp [hw]
  cases hx : text (blanks r) with
  | none =>
    rw [hx] at ht
    obtain ⟨t, j2, h2, h3⟩ := ht
    have ea : app 16 ks [t] = some (ks ++ [t]) := app_ok (by simp; omega)
    obtain ⟨j', q1, q2⟩ := bad j2 t h2
    refine ⟨rfl, j', ks ++ [t], q1, ?_⟩
    simp only [h3, Option.bind_some, ea]
    exact q2
  | some p =>
    obtain ⟨t, r2⟩ := p
    rw [hx] at ht
    obtain ⟨j2, h2, h3⟩ := ht
    have h2l := h2.2
    have ea : app 16 ks [t] = some (ks ++ [t]) := app_ok (by simp; omega)
    have etw : M.r02_twice (ks ++ [t]) = some (decide (t ∈ ks)) := by
      rw [twice_eq (by simp; omega)]
      congr 1
      rw [Bool.eq_iff_iff]
      simp only [Bool.not_eq_true', decide_eq_false_iff_not, decide_eq_true_eq, List.nodup_append, hn, List.nodup_cons, List.not_mem_nil, not_false_eq_true, List.nodup_nil, and_self, true_and]
      constructor
      · intro hh
        apply Classical.byContradiction
        intro hm
        exact hh fun a ha b hb => by
          simp only [List.mem_singleton] at hb
          subst hb
          rintro rfl
          exact hm ha
      · intro hm hh
        exact hh t hm t (by simp) rfl
    simp only [h3, Option.bind_some, ea, decide_true, if_true, etw]
    by_cases hm : t ∈ ks
    · obtain ⟨j', q1, q2⟩ := bad j2 t (by omega)
      simp only [hm, decide_true, if_true, r02_wrong_0, Option.bind_some]
      exact ⟨rfl, j', ks ++ [t], q1, q2⟩
    · obtain ⟨j3, a3, b3⟩ := r02_blanks_eq hs 0 h2
      have hat := r02_at_eq 0 a3
      simp only [hm, decide_false, Bool.false_eq_true, if_false, Option.bind_some, b3, hat]
      rw [take_one]
      have a3l := a3.2
      cases hb : blanks r2 with
      | nil =>
        refine ⟨rfl, j3 + 1, ks ++ [t], by omega, ?_⟩
        simp [hd, r02_wrong_0, w1 (n := j3) (by omega)]
      | cons d r3 =>
        rw [hb] at a3
        have t58 : ((d.toNat : Int) = 58) ↔ d = 58 := toNat_eq (n := 58) (by omega)
        by_cases hd58 : d = 58
        · subst hd58
          have e58 : hd (58 :: r3) = 58 := rfl
          simp only [e58, decide_true, Bool.not_true, Bool.false_eq_true, if_false, if_true, Option.bind_some]
          exact ⟨r3, j3 + 1, a3.cons.2.1, rfl, by rw [w1 (by omega)]⟩
        · have n58 : ¬ hd (d :: r3) = 58 := fun e => hd58 (t58.1 e)
          simp only [n58, hd58, decide_false, Bool.not_false, if_true, if_false]
          refine ⟨rfl, j3 + 1, ks ++ [t], by omega, ?_⟩
          simp [r02_wrong_0, w1 (n := j3) (by omega)]
/-- What the loop over members or elements comes to. -/
def LoopOk (s : List UInt8) (o : Bool) (en : UInt8) (B : Nat) (z : Option RL) : Rd → Prop
  | .ok (x, r2) => ∃ r1 j, At s (en :: r1) j ∧ blanks r1 = r2 ∧ z = some (s, (j : Int), 0, x.gList, x.gKeys) ∧ x.gKind = (if o = true then 6 else 5) ∧ x.gText = []
  | .pan c => ∃ (j : Nat) (e' : Int) (l' : List T_api_Json) (ks' : List (List UInt8)), j ≤ B + 1 ∧ z = some (s, (j : Int), e', l', ks') ∧ ((e' = c ∧ ¬ c = 0) ∨ (e' = 0 ∧ c = 20 ∧ ∃ r1, At s r1 j ∧ ¬ hd r1 = (en.toNat : Int)))
def ValOk (s : List UInt8) (B : Nat) (z : Option (T_api_Json × RR)) : Rd → Prop
  | .ok (x, r2) => ∃ j, At s r2 j ∧ z = some (x, ⟨s, (j : Int), 0⟩)
  | .pan c => ¬ c = 0 ∧ ∃ x, ∃ j : Nat, j ≤ B ∧ z = some (x, ⟨s, (j : Int), c⟩)
theorem tail_bad (hs : s.length < 1000000) {a3 p1 e : Int} {self : RR → Int → Option (T_api_Json × RR)} {l : List T_api_Json} {ks : List (List UInt8)} {i B : Nat} (he : ¬ e = 0) (hB : i ≤ B) (hB2 : B < 2000000) (o : Bool) (en : UInt8) :
    LoopOk s o en B (tailX a3 self p1 s (i : Int) e l ks) (.pan e) := by
  obtain ⟨c, hc⟩ := r02_at_any (s := s) e i
  unfold tailX
  simp only [he, decide_false, Bool.false_eq_true, if_false, Option.bind_eq_bind, Option.bind_some, hc]
  rw [w1 (by omega)]
  split
  · exact ⟨i + 1, e, l, ks, by omega, k1_exit _ _ _ _ _ _ _ _ _ (.inr he), .inl ⟨rfl, he⟩⟩
  · exact ⟨i, e, l, ks, by omega, k1_exit _ _ _ _ _ _ _ _ _ (.inr he), .inl ⟨rfl, he⟩⟩
theorem tail_ok (hs : s.length < 1000000) {o : Bool} {en : UInt8} (hen : en = if o = true then 125 else 93) {a3 : Int} {w : Nat} (hw : w < 16) {self : RR → Int → Option (T_api_Json × RR)} {l : List T_api_Json} {ks : List (List UInt8)} {B : Nat} (hB : s.length + 3 ≤ B) (hB2 : B < 2000000)
    {vr : Rd} {f : Nat} {vf : List UInt8 → Rd} (hv : ValOk s B (self ⟨s, (i : Int), 0⟩ ((w + 1 : Nat) : Int)) vr) (hl : l.length < 1000000)
    (ih : ∀ x r2 j, vr = .ok (x, 44 :: r2) → At s (44 :: r2) j → LoopOk s o en B (M.r02_reader_value_k1 a3 self (w : Int) true s ((j + 1 : Nat) : Int) 0 (l ++ [x]) ks) (items vf o en f (blanks r2) (l ++ [x]) ks)) :
    LoopOk s o en B (tailX a3 self (w : Int) s (i : Int) 0 l ks) (match (generalizing := false) vr with
      | .pan c => .pan c
      | .ok (x, s2) => match take s2 [en] with
        | some r => .ok (⟨if o = true then 6 else 5, [], l ++ [x], ks⟩, r)
        | none => match take s2 [44] with
          | none => .pan 20
          | some r => items vf o en f r (l ++ [x]) ks) := by
  unfold tailX
  rw [w1 (by omega)]
  simp only [decide_true, if_true, Option.bind_eq_bind]
  cases vr with
  | pan c =>
    obtain ⟨hc0, x, j, hj, hx⟩ := hv
    have ea : app 72 l [x] = some (l ++ [x]) := app_ok (by simp; omega)
    obtain ⟨c', hc⟩ := r02_at_any (s := s) c j
    simp only [hx, Option.bind_some, ea, hc]
    rw [w1 (by omega)]
    split
    · exact ⟨j + 1, c, l ++ [x], ks, by omega, k1_exit _ _ _ _ _ _ _ _ _ (.inr hc0), .inl ⟨rfl, hc0⟩⟩
    · exact ⟨j, c, l ++ [x], ks, by omega, k1_exit _ _ _ _ _ _ _ _ _ (.inr hc0), .inl ⟨rfl, hc0⟩⟩
  | ok p =>
    obtain ⟨x, s2⟩ := p
    obtain ⟨j, hj, hx⟩ := hv
    have hjl := hj.2
    have ea : app 72 l [x] = some (l ++ [x]) := app_ok (by simp; omega)
    simp only [hx, Option.bind_some, ea, r02_at_eq 0 hj]
    rw [w1 (by omega), take_one, take_one]
    cases s2 with
    | nil =>
      have n44 : ¬ ((0 : Int) = 44) := by decide
      simp only [hd, n44, decide_false, Bool.false_eq_true, if_false]
      exact ⟨j, 0, l ++ [x], ks, by omega, k1_exit _ _ _ _ _ _ _ _ _ (.inl rfl), .inr ⟨rfl, rfl, [], hj, by subst hen; cases o <;> decide⟩⟩
    | cons d r2 =>
      have t44 : ((d.toNat : Int) = 44) ↔ d = 44 := toNat_eq (n := 44) (by omega)
      by_cases h44 : d = 44
      · subst h44
        have hne : ¬ ((44 : UInt8) = en) := by subst hen; cases o <;> decide
        have e44 : hd (44 :: r2) = 44 := rfl
        simp only [e44, decide_true, if_true, hne, if_false]
        exact ih x r2 j rfl hj
      · simp only [hd, t44, h44, decide_false, Bool.false_eq_true, if_false]
        by_cases hde : d = en
        · subst hde
          simp only [if_true]
          exact ⟨r2, j, hj, rfl, k1_exit _ _ _ _ _ _ _ _ _ (.inl rfl), rfl, rfl⟩
        · simp only [hde, if_false]
          refine ⟨j, 0, l ++ [x], ks, by omega, k1_exit _ _ _ _ _ _ _ _ _ (.inl rfl), .inr ⟨rfl, rfl, d :: r2, hj, fun e => hde ?_⟩⟩
          simp only [hd] at e
          exact UInt8.toNat_inj.1 (by omega)
theorem r02_items (hs : s.length < 1000000) {o : Bool} {en : UInt8} (hen : en = if o = true then 125 else 93) {w : Nat} (hw : w < 16) {self : RR → Int → Option (T_api_Json × RR)} {vf : List UInt8 → Rd} {B : Nat} (hB : s.length + 3 ≤ B) (hB2 : B < 2000000)
    (hv : ∀ r i, At s r i → ValOk s B (self ⟨s, (i : Int), 0⟩ ((w + 1 : Nat) : Int)) (vf (blanks r))) (hvl : ∀ s x r, vf s = .ok (x, r) → r.length + 1 ≤ s.length) :
    ∀ (f : Nat) (r : List UInt8) (i : Nat) (l : List J) (ks : List (List UInt8)), r.length < f → At s r i → l.length ≤ i → ks.length ≤ i → ks.Nodup →
      LoopOk s o en B (M.r02_reader_value_k1 (if o = true then 123 else 91) self (w : Int) true s (i : Int) 0 l ks) (items vf o en f (blanks r) l ks) := by
  intro f
  induction f with
  | zero => intro r i l ks hf; omega
  | succ f ih =>
    intro r i l ks hf h hl hk hn
    have hi := h.2
    have hlen := h.len
    rw [items]
    cases o with
    | false =>
      simp only [Bool.false_eq_true, if_false]
      rw [k1_list]
      refine tail_ok (o := false) (l := l) hs hen hw hB hB2 (vf := vf) (f := f) (hv r i h) (by omega) fun x r2 j hx hj => ?_
      have h1 := hvl _ _ _ hx
      have h2 := blanks_len r
      have hjl := hj.len
      simp only [List.length_cons] at h1 hjl
      exact ih r2 (j + 1) (l ++ [x]) ks (by omega) hj.cons.2.1 (by simp; omega) (by omega) hn
    | true =>
      simp only [if_true]
      rw [k1_obj]
      have hkey := keyX_eq hs (by omega) hn h
      cases hkx : key1 (blanks r) ks with
      | pan c =>
        rw [hkx] at hkey
        obtain ⟨rfl, j, ks', hj, hx⟩ := hkey
        simp only [hx, Option.bind_some]
        exact tail_bad hs (by decide) (by omega) hB2 _ _
      | ok p =>
        obtain ⟨r2, ks1⟩ := p
        rw [hkx] at hkey
        obtain ⟨r1, j, hj, hb, hx⟩ := hkey
        obtain ⟨k1, k2⟩ := key1_len hkx
        obtain ⟨kk, k3, k4, _⟩ := key1_ok hkx
        have h2 := blanks_len r
        have h3 := blanks_len r1
        have hjl := hj.len
        have hgt : i < j ∨ ¬ i < j := by omega
        subst hb
        simp only [hx, Option.bind_some]
        refine tail_ok (o := true) (l := l) hs hen hw hB hB2 (vf := vf) (f := f) (hv r1 j hj) (by omega) fun x r3 j3 hx3 hj3 => ?_
        have h1 := hvl _ _ _ hx3
        have hjl3 := hj3.len
        simp only [List.length_cons] at h1 hjl3
        refine ih r3 (j3 + 1) (l ++ [x]) ks1 (by omega) hj3.cons.2.1 (by simp; omega) (by omega) ?_
        rw [k3, List.nodup_append]
        refine ⟨hn, by simp, fun a ha b hb => ?_⟩
        simp only [List.mem_singleton] at hb
        subst hb
        rintro rfl
        exact k4 ha
theorem val_end (hs : s.length < 1000000) {r1 : List UInt8} {j : Nat} (h : At s r1 j) (x : T_api_Json) (B : Nat) :
    ValOk s B ((M.r02_reader_blanks (T_seneschalref02_reader.mk s (j : Int) 0)).bind fun a => some (x, a)) (.ok (x, blanks r1)) := by
  obtain ⟨j2, h1, h2⟩ := r02_blanks_eq hs 0 h
  exact ⟨j2, h1, by rw [h2]; rfl⟩
theorem blanks_twice (s : List UInt8) : blanks (blanks s) = blanks s := by
  induction s with
  | nil => rfl
  | cons c s ih =>
    cases h : bl c with
    | true => rw [show blanks (c :: s) = blanks s by simp [blanks, h]]; exact ih
    | false => rw [blanks_cons h, blanks_cons h]
theorem r02_value_eq (hs : s.length < 1000000) : ∀ (f F : Nat) (r : List UInt8) (i w : Nat), w ≤ 16 → 17 ≤ f + w → f ≤ F → f ≤ 17 → At s r i → ValOk s (s.length + 4 * f + 4) (M.r02_reader_value F ⟨s, (i : Int), 0⟩ (w : Int)) (val f (blanks r) w) := by
  intro f
  induction f with
  | zero => intro F r i w h1 h2; omega
  | succ f ih =>
    intro F r i w hw hfw hF hf17 h
    obtain ⟨F, rfl⟩ : ∃ F', F = F' + 1 := ⟨F - 1, by omega⟩
    obtain ⟨j1, a1, b1⟩ := r02_blanks_eq hs 0 h
    have a1l := a1.len
    have hat := r02_at_eq 0 a1
    rw [M.r02_reader_value, val]
    simp only [b1, hat, Option.bind_eq_bind, Option.bind_some]
    generalize hr1 : blanks r = r1 at a1 a1l hat
    have htx := r02_text_eq hs a1
    by_cases c34 : hd r1 = 34
    · -- a text
      have hh : r1.head? = some 34 := by
        cases r1 with
        | nil => cases c34
        | cons c t =>
          have t34 : ((c.toNat : Int) = 34) ↔ c = 34 := toNat_eq (n := 34) (by omega)
          simp only [hd] at c34
          rw [t34.1 c34]
          rfl
      simp only [c34, decide_true, if_true]
      cases hx : text r1 with
      | none =>
        rw [hx] at htx
        obtain ⟨t, j, hj, ht⟩ := htx
        simp only [ht, Option.bind_some, hh, if_true]
        have n20 : ¬ ((20 : Int) = 0) := by decide
        simp only [n20, decide_false, Bool.false_eq_true, if_false]
        exact ⟨by decide, _, j, by omega, rfl⟩
      | some p =>
        obtain ⟨t, r2⟩ := p
        rw [hx] at htx
        obtain ⟨j, hj, ht⟩ := htx
        simp only [ht, Option.bind_some, decide_true, if_true]
        exact val_end hs hj _ _
    · have hnh : ¬ r1.head? = some 34 := fun e => c34 (by
        cases r1 with
        | nil => cases e
        | cons c t => cases e; rfl)
      have hxn : text r1 = none := by
        cases r1 with
        | nil => rfl
        | cons c t => exact text_ne fun e => c34 (by rw [e]; rfl)
      simp only [c34, decide_false, Bool.false_eq_true, if_false, hxn, hnh]
      -- a list or an object
      have nested : ∀ (o : Bool) (r2 : List UInt8), r1 = (if o = true then 123 else 91) :: r2 → ValOk s (s.length + 4 * (f + 1) + 4)
          ((if (decide (16 ≤ (w : Int))) then
              (M.r02_reader_wrong ⟨s, (j1 : Int), 0⟩ 21).bind fun a_1140 => some (Jn.done ((T_api_Json.mk 0 ([] : List UInt8) [] []), a_1140))
            else
              (M.r02_reader_blanks (T_seneschalref02_reader.mk s (IntKind.wrap .i64 ((j1 : Int) + 1)) 0)).bind fun a_1145 =>
              ((M.r02_reader_at a_1145).bind fun a_1695 => M.r02_reader_value_k1 (if o = true then 123 else 91) (M.r02_reader_value F) (w : Int) (!decide (a_1695 = (if o = true then 125 else 93))) a_1145.gs a_1145.gi a_1145.ge [] []).bind fun j_1694 =>
              ((M.r02_reader_at (T_seneschalref02_reader.mk j_1694.1 j_1694.2.1 j_1694.2.2.1)).bind fun a_2249 =>
                  if (!decide (a_2249 = (if o = true then 125 else 93))) then
                    (M.r02_reader_wrong (T_seneschalref02_reader.mk j_1694.1 j_1694.2.1 j_1694.2.2.1) 20).bind fun a_2251 =>
                    some (a_2251.gs, a_2251.gi, a_2251.ge)
                  else
                    some (j_1694.1, j_1694.2.1, j_1694.2.2.1)).bind fun j_2248 =>
              some (Jn.go (j_2248.1, (IntKind.wrap .i64 (j_2248.2.1 + 1)), j_2248.2.2, (if o = true then (6 : Int) else 5), ([] : List UInt8), j_1694.2.2.2.1, j_1694.2.2.2.2))).bind fun q_1133 => match q_1133 with
            | .done r => some r
            | .go j_1133 =>
              if (decide (j_1133.2.2.1 = 0)) then
                (M.r02_reader_blanks (T_seneschalref02_reader.mk j_1133.1 j_1133.2.1 j_1133.2.2.1)).bind fun a_2255 =>
                some ((T_api_Json.mk j_1133.2.2.2.1 j_1133.2.2.2.2.1 j_1133.2.2.2.2.2.1 j_1133.2.2.2.2.2.2), a_2255)
              else
                some ((T_api_Json.mk j_1133.2.2.2.1 j_1133.2.2.2.2.1 j_1133.2.2.2.2.2.1 j_1133.2.2.2.2.2.2), (T_seneschalref02_reader.mk j_1133.1 j_1133.2.1 j_1133.2.2.1)))
          (nest (fun s => val f s (w + 1)) o w (blanks r2)) := by
        intro o r2 er
        subst er
        unfold nest
        by_cases h16 : 16 ≤ w
        · have h16i : (16 : Int) ≤ (w : Int) := by omega
          simp only [h16, h16i, decide_true, if_true, r02_wrong_0, Option.bind_some]
          exact ⟨by decide, _, j1, by omega, rfl⟩
        · have h16i : ¬ (16 : Int) ≤ (w : Int) := by omega
          obtain ⟨g1, g2, g3⟩ := a1.cons
          obtain ⟨j2, a2, b2⟩ := r02_blanks_eq hs 0 g2
          have a2l := a2.len
          have hat2 := r02_at_eq 0 a2
          simp only [h16, h16i, decide_false, Bool.false_eq_true, if_false]
          rw [w1 (by omega)]
          simp only [b2, hat2, Option.bind_some]
          have hen : ∃ en : UInt8, en = if o = true then 125 else 93 := ⟨_, rfl⟩
          obtain ⟨en, hen⟩ := hen
          have heni : (if o = true then (125 : Int) else 93) = (en.toNat : Int) := by subst hen; cases o <;> rfl
          rw [← hen, heni]
          have hend : ∀ (q : List UInt8), (hd q = (en.toNat : Int)) ↔ ∃ t, q = en :: t := by
            intro q
            cases q with
            | nil =>
              constructor
              · intro e; simp only [hd] at e; subst hen; cases o <;> cases e
              · rintro ⟨t, e⟩; cases e
            | cons d t =>
              constructor
              · intro e; exact ⟨t, by rw [show d = en from UInt8.toNat_inj.1 (by simp only [hd] at e; omega)]⟩
              · rintro ⟨t', e⟩; cases e; rfl
          -- how it goes on behind the loop
          have fin_ok : ∀ (j : Nat) (t : List UInt8) (l : List J) (ks : List (List UInt8)), At s (en :: t) j → ValOk s (s.length + 4 * (f + 1) + 4)
              ((((M.r02_reader_at (T_seneschalref02_reader.mk s (j : Int) 0)).bind fun a_2249 =>
                  if (!decide (a_2249 = (en.toNat : Int))) then
                    (M.r02_reader_wrong (T_seneschalref02_reader.mk s (j : Int) 0) 20).bind fun a_2251 =>
                    some (a_2251.gs, a_2251.gi, a_2251.ge)
                  else
                    some (s, (j : Int), (0 : Int))).bind fun j_2248 =>
                (some (Jn.go (j_2248.1, (IntKind.wrap .i64 (j_2248.2.1 + 1)), j_2248.2.2, (if o = true then (6 : Int) else 5), ([] : List UInt8), l, ks)) : Option (Jn (T_api_Json × RR) _))).bind fun q_1133 => match q_1133 with
                | .done r => some r
                | .go j_1133 =>
                  if (decide (j_1133.2.2.1 = 0)) then
                    (M.r02_reader_blanks (T_seneschalref02_reader.mk j_1133.1 j_1133.2.1 j_1133.2.2.1)).bind fun a_2255 =>
                    some ((T_api_Json.mk j_1133.2.2.2.1 j_1133.2.2.2.2.1 j_1133.2.2.2.2.2.1 j_1133.2.2.2.2.2.2), a_2255)
                  else
                    some ((T_api_Json.mk j_1133.2.2.2.1 j_1133.2.2.2.2.1 j_1133.2.2.2.2.2.1 j_1133.2.2.2.2.2.2), (T_seneschalref02_reader.mk j_1133.1 j_1133.2.1 j_1133.2.2.1)))
              (.ok (⟨if o = true then 6 else 5, [], l, ks⟩, blanks t)) := by
            intro j t l ks hj
            have hjl := hj.2
            have e1 : hd (en :: t) = (en.toNat : Int) := rfl
            simp only [r02_at_eq 0 hj, e1, Option.bind_some, decide_true, Bool.not_true, Bool.false_eq_true, if_false, if_true]
            rw [w1 (by omega)]
            exact val_end hs hj.cons.2.1 _ _
          by_cases he : hd (blanks r2) = (en.toNat : Int)
          · obtain ⟨t, ht⟩ := (hend _).1 he
            rw [ht] at a2
            have et : take (blanks r2) [en] = some (blanks t) := by rw [ht, take_one]; simp
            simp only [he, decide_true, Bool.not_true, et]
            rw [k1_exit _ _ _ _ _ _ _ _ _ (.inl rfl)]
            exact fin_ok j2 t [] [] a2
          · have et : take (blanks r2) [en] = none := by
              rw [take_one]
              cases hb : blanks r2 with
              | nil => rfl
              | cons d t =>
                have : ¬ d = en := fun e => he (by rw [hb, e]; rfl)
                simp [this]
            simp only [he, decide_false, Bool.not_false, et]
            have hb0 : blanks (blanks r2) = blanks r2 := blanks_twice r2
            have hit := r02_items (s := s) (o := o) hs hen (w := w) (by omega) (self := M.r02_reader_value F) (vf := fun s => val f s (w + 1)) (B := s.length + 4 * f + 4) (by omega) (by omega)
              (fun r i hri => ih F r i (w + 1) (by omega) (by omega) (by omega) (by omega) hri) (fun s x r hx => val_len f s (w + 1) x r hx) ((blanks r2).length + 1) (blanks r2) j2 [] [] (by omega) a2 (Nat.zero_le _) (Nat.zero_le _) List.nodup_nil
            rw [hb0] at hit
            cases hx : items (fun s => val f s (w + 1)) o en ((blanks r2).length + 1) (blanks r2) [] [] with
            | ok p =>
              obtain ⟨x, r3⟩ := p
              rw [hx] at hit
              obtain ⟨t, j, hj, hbt, hz, hk, htx⟩ := hit
              simp only [hz, Option.bind_some]
              have := fin_ok j t x.gList x.gKeys hj
              rw [hbt, ← hk] at this
              obtain ⟨k, tx, l, ks⟩ := x
              simp only at hk htx this ⊢
              subst htx
              subst hk
              exact this
            | pan c =>
              rw [hx] at hit
              obtain ⟨j, e', l', ks', hj, hz, hc⟩ := hit
              simp only [hz, Option.bind_some]
              rcases hc with ⟨rfl, hc⟩ | ⟨rfl, rfl, t, ht, hne⟩
              · obtain ⟨c2, hc2⟩ := r02_at_any (s := s) e' j
                simp only [hc2, Option.bind_some, r02_wrong_e hc]
                have hw1 := w1 (n := j) (by omega)
                split
                · simp only [Option.bind_some, hc, decide_false, Bool.false_eq_true, if_false, hw1]
                  exact ⟨hc, _, j + 1, by omega, rfl⟩
                · simp only [Option.bind_some, hc, decide_false, Bool.false_eq_true, if_false, hw1]
                  exact ⟨hc, _, j + 1, by omega, rfl⟩
              · have hw1 := w1 (n := j) (by omega)
                have n20 : ¬ ((20 : Int) = 0) := by decide
                simp only [r02_at_eq 0 ht, Option.bind_some, hne, decide_false, Bool.not_false, if_true, r02_wrong_0, n20, Bool.false_eq_true, if_false, hw1]
                exact ⟨n20, _, j + 1, by omega, rfl⟩
      by_cases c91 : hd r1 = 91
      · obtain ⟨r2, er⟩ : ∃ r2, r1 = 91 :: r2 := by
          cases r1 with
          | nil => cases c91
          | cons c t =>
            have t91 : ((c.toNat : Int) = 91) ↔ c = 91 := toNat_eq (n := 91) (by omega)
            simp only [hd] at c91
            exact ⟨t, by rw [t91.1 c91]⟩
        have et : take r1 [91] = some (blanks r2) := by rw [er, take_one]; simp
        have hn := nested false r2 er
        have n123 : ¬ ((91 : Int) = 123) := by decide
        simp only [c91, decide_true, if_true, Option.bind_some, n123, decide_false, Bool.false_eq_true, if_false, et] at hn ⊢
        exact hn
      · by_cases c123 : hd r1 = 123
        · obtain ⟨r2, er⟩ : ∃ r2, r1 = 123 :: r2 := by
            cases r1 with
            | nil => cases c123
            | cons c t =>
              have t123 : ((c.toNat : Int) = 123) ↔ c = 123 := toNat_eq (n := 123) (by omega)
              simp only [hd] at c123
              exact ⟨t, by rw [t123.1 c123]⟩
          have et : take r1 [123] = some (blanks r2) := by rw [er, take_one]; simp
          have et0 : take r1 [91] = none := by rw [er, take_one]; rfl
          have hn := nested true r2 er
          have n91 : ¬ ((123 : Int) = 91) := by decide
          simp only [c123, decide_true, if_true, Option.bind_some, n91, decide_false, Bool.false_eq_true, if_false, et, et0] at hn ⊢
          exact hn
        · -- a word or a number
          have et0 : take r1 [91] = none := by
            rw [take_one]
            cases r1 with
            | nil => rfl
            | cons d t =>
              have : ¬ d = 91 := fun e => c91 (by rw [e]; rfl)
              simp [this]
          have et1 : take r1 [123] = none := by
            rw [take_one]
            cases r1 with
            | nil => rfl
            | cons d t =>
              have : ¬ d = 123 := fun e => c123 (by rw [e]; rfl)
              simp [this]
          have hword := r02_word_eq hs a1
          simp only [c91, c123, decide_false, Bool.false_eq_true, if_false, Option.bind_some, et0, et1]
          cases hx : word r1 with
          | ok p =>
            obtain ⟨x, r2⟩ := p
            rw [hx] at hword
            obtain ⟨t, j, hj, hb, hz⟩ := hword
            subst hb
            simp only [hz, Option.bind_some, decide_true, if_true]
            have e := json_eta x
            simp only [e]
            exact val_end hs hj x (s.length + 4 * (f + 1) + 4)
          | pan c =>
            rw [hx] at hword
            obtain ⟨rfl, x, j, hj, hz⟩ := hword
            have n20 : ¬ ((20 : Int) = 0) := by decide
            simp only [hz, Option.bind_some, n20, decide_false, Bool.false_eq_true, if_false]
            exact ⟨n20, _, j, by omega, rfl⟩
theorem r02_Parse_eq (s : List UInt8) {f : Nat} (hf : 17 ≤ f) : M.r02_Parse f s = some (parse s) := by
  unfold M.r02_Parse parse
  by_cases hl : 16384 < s.length
  · have : (16384 : Int) < (s.length : Int) := by omega
    simp [hl, this]
  · have : ¬ (16384 : Int) < (s.length : Int) := by omega
    have hv := r02_value_eq (s := s) (by omega) 17 f s 0 0 (by omega) (by omega) hf (by omega) At.start
    have hv : ValOk s (s.length + 4 * 17 + 4) (M.r02_reader_value f ⟨s, 0, 0⟩ 0) (val 17 (blanks s) 0) := hv
    simp only [this, decide_false, Bool.false_eq_true, if_false, hl, Option.bind_eq_bind]
    cases hx : val 17 (blanks s) 0 with
    | pan c =>
      rw [hx] at hv
      obtain ⟨hc, x, j, hj, hz⟩ := hv
      simp only [hz, Option.bind_some, r02_wrong_e hc]
      split <;> simp [hc]
    | ok p =>
      obtain ⟨x, r⟩ := p
      rw [hx] at hv
      obtain ⟨j, hj, hz⟩ := hv
      have hjl := hj.len
      simp only [hz, Option.bind_some]
      by_cases hr : r = []
      · subst hr
        have hn : ¬ ((j : Int) < (s.length : Int)) := by simp only [List.length_nil] at hjl; omega
        simp [hn]
      · have hpos : 0 < r.length := List.length_pos_iff.2 hr
        have hy : ((j : Int) < (s.length : Int)) := by omega
        simp [hy, hr, r02_wrong_0]
theorem reads_k2 : ∀ (n i : Nat) (l : List T_api_Json), l.length - i = n → i ≤ l.length → l.length < 1000000 → ∃ l', M.l02_JsonReads_k2 (i : Int) l = some l' := by
  intro n
  induction n with
  | zero =>
    intro i l hn hi hl
    refine ⟨l, ?_⟩
    rw [M.l02_JsonReads_k2.eq_1]
    have h1 : ¬ ((i : Int) < (l.length : Int)) := by omega
    simp [h1]
  | succ n ih =>
    intro i l hn hi hl
    have hlt : i < l.length := by omega
    obtain ⟨l', h⟩ := ih (i + 1) (l.set i ⟨2, [], [], []⟩) (by simp; omega) (by simp; omega) (by simp; omega)
    refine ⟨l', ?_⟩
    rw [M.l02_JsonReads_k2.eq_1]
    have h1 : ((i : Int) < (l.length : Int)) := by omega
    have e1 : setx l (i : Int) (⟨2, [], [], []⟩ : T_api_Json) = some (l.set i ⟨2, [], [], []⟩) := by simp [setx, hlt]
    simp only [h1, decide_true, if_true, ix_n, List.getElem?_eq_getElem hlt, Option.bind_eq_bind, Option.bind_some, e1]
    rw [w1 (by omega)]
    exact h
theorem reads_k3 : ∀ (n i : Nat) (l : List (List UInt8)), l.length - i = n → i ≤ l.length → l.length < 1000000 → M.l02_JsonReads_k3 (i : Int) l = some (.go ()) := by
  intro n
  induction n with
  | zero =>
    intro i l hn hi hl
    rw [M.l02_JsonReads_k3.eq_1]
    have h1 : ¬ ((i : Int) < (l.length : Int)) := by omega
    simp [h1]
  | succ n ih =>
    intro i l hn hi hl
    have hlt : i < l.length := by omega
    rw [M.l02_JsonReads_k3.eq_1]
    have h1 : ((i : Int) < (l.length : Int)) := by omega
    have e1 : setx l (i : Int) ([115, 112, 111, 105, 108, 116] : List UInt8) = some (l.set i [115, 112, 111, 105, 108, 116]) := by simp [setx, hlt]
    simp only [h1, decide_true, if_true, ix_n, List.getElem?_eq_getElem hlt, Option.bind_eq_bind, Option.bind_some, e1]
    rw [w1 (by omega)]
    exact ih (i + 1) _ (by simp; omega) (by simp; omega) (by simp; omega)
theorem law_JsonReads (s : List UInt8) {f : Nat} (hf : 131072 ≤ f) : M.l02_JsonReads f s = some true := by
  have hz := parse_sz s
  have hz2 := T_api_Json.sz_eq (parse s).1
  have hlen := szs_len (parse s).1.gList
  have hkl := kys_len (parse s).1.gKeys
  have hp : M.json_Parse f s = some (parse s) := json_Parse_eq s (by omega)
  have hq : M.r02_Parse f s = some (parse s) := r02_Parse_eq s (by omega)
  have hsame : M.r02_Same f (parse s).1 (parse s).1 = some true := same_eq f _ (by omega) (by omega)
  obtain ⟨l', hk2⟩ := reads_k2 _ 0 (parse s).1.gList rfl (Nat.zero_le _) (by omega)
  have hk2 : M.l02_JsonReads_k2 0 (parse s).1.gList = some l' := hk2
  have hk3 : M.l02_JsonReads_k3 0 (parse s).1.gKeys = some (.go ()) := reads_k3 _ 0 _ rfl (Nat.zero_le _) (by omega)
  have turn : ∀ (x : Int), x < 2 → M.l02_JsonReads_k1 f s x = M.l02_JsonReads_k1 f s (IntKind.wrap .i64 (x + 1)) := by
    intro x hx
    rw [M.l02_JsonReads_k1.eq_1]
    simp only [hx, decide_true, if_true, hp, hq, hsame, Option.bind_eq_bind, Option.bind_some, Bool.not_true, Bool.false_eq_true, if_false, hk2, hk3]
  have e1 : IntKind.wrap .i64 (0 + 1) = 1 := by decide
  have e2 : IntKind.wrap .i64 (1 + 1) = 2 := by decide
  have hend : M.l02_JsonReads_k1 f s 2 = some (.go ()) := by
    rw [M.l02_JsonReads_k1.eq_1]
    rfl
  unfold M.l02_JsonReads
  rw [turn 0 (by decide), e1, turn 1 (by decide), e2, hend]
  simp only [Option.bind_eq_bind, Option.bind_some]
  rw [awake_eq (by omega)]
  rfl
end
end Go.Sen
