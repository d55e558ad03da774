/- Plain lemmas on the models' words: numbers, places, parts. It speaks of no program. -/
import Derived.Test.YtcfkkgpnggdlnaaGreatDoorPeE
import Derived.Test.YtcfkkgpnggdlnaaGreatDoorJsM
set_option linter.all false
namespace Go.Sen
open Go.Lk Go.Pe
theorem w64 {x : Int} (h1 : -9223372036854775808 ≤ x) (h2 : x < 9223372036854775808) : IntKind.wrap .i64 x = x := by
  have h : IntKind.wrap .i64 x = if x % 18446744073709551616 ≥ 9223372036854775808 then x % 18446744073709551616 - 18446744073709551616 else x % 18446744073709551616 := by
    simp [IntKind.wrap, IntKind.bits, IntKind.signed]
  rw [h]
  split <;> omega
theorem w32 {x : Int} (h1 : -2147483648 ≤ x) (h2 : x < 2147483648) : IntKind.wrap .i32 x = x := by
  have h : IntKind.wrap .i32 x = if x % 4294967296 ≥ 2147483648 then x % 4294967296 - 4294967296 else x % 4294967296 := by
    simp [IntKind.wrap, IntKind.bits, IntKind.signed]
  rw [h]
  split <;> omega
theorem wu64 {x : Int} (h1 : 0 ≤ x) (h2 : x < 18446744073709551616) : IntKind.wrap .u64 x = x := by
  unfold IntKind.wrap
  simp only [IntKind.bits, IntKind.signed]
  simp
  omega
theorem wu8 (x : Int) : IntKind.wrap .u8 x = x % 256 := by
  unfold IntKind.wrap
  simp [IntKind.bits, IntKind.signed]
theorem w1 {n : Nat} (h : n < 4611686018427387904) : IntKind.wrap .i64 ((n : Int) + 1) = ((n + 1 : Nat) : Int) := by rw [w64] <;> omega
theorem wadd {n m : Nat} (h : n + m < 4611686018427387904) : IntKind.wrap .i64 ((n : Int) + (m : Int)) = ((n + m : Nat) : Int) := by rw [w64] <;> omega
theorem app_ok {α : Type} {k : Nat} {l l2 : List α} (h : (l.length + l2.length) * k ≤ 140737488355328) : app k l l2 = some (l ++ l2) := by
  unfold app
  rw [if_pos h]
theorem cat_ok {a b : List UInt8} (h : a.length + b.length ≤ 9223372036854775807) : cat a b = some (a ++ b) := by
  unfold cat
  rw [if_pos h]
theorem chk_ok {b : Bool} (h : b = true) : chk b = some () := by subst h; rfl
theorem ix_n {α : Type} (l : List α) (n : Nat) : ix l (n : Int) = l[n]? := by simp [ix]
theorem ix_0 {α : Type} (l : List α) : ix l 0 = l[0]? := by simp [ix]
theorem ix_1 {α : Type} (l : List α) : ix l 1 = l[1]? := by simp [ix]
theorem sub_n {α : Type} {l : List α} {a b : Nat} (h1 : a ≤ b) (h2 : b ≤ l.length) : sub l (a : Int) (b : Int) = some ((l.take b).drop a) := by
  unfold sub
  rw [if_pos (by omega)]
  simp
theorem sub_d {α : Type} {l : List α} {a : Nat} (h : a ≤ l.length) : sub l (a : Int) (l.length : Int) = some (l.drop a) := by
  rw [sub_n h (Nat.le_refl _)]
  simp
theorem sub_0 {α : Type} {l : List α} {a : Nat} (h : a ≤ l.length) : sub l 0 (a : Int) = some (l.take a) := by
  have := sub_n (l := l) (Nat.zero_le a) h
  simpa using this
theorem sub_1 {α : Type} {l : List α} {a : Nat} (h : a < l.length) (h2 : l.length < 4611686018427387904) : sub l (a : Int) (IntKind.wrap .i64 ((a : Int) + 1)) = some [l[a]] := by
  rw [w1 (by omega), sub_n (by omega) (by omega)]
  congr 1
  rw [List.drop_take]
  simp [List.take_one, h]
theorem unb_length (s : List UInt8) : (unb s).length = s.length := by simp [unb]
theorem unb_get (s : List UInt8) (i : Nat) : (unb s)[i]? = (s[i]?).map fun b => (b.toNat : Int) := by simp [unb]
theorem unb_append (a b : List UInt8) : unb (a ++ b) = unb a ++ unb b := by simp [unb]
theorem byt_unb (s : List UInt8) : byt (unb s) = s := by simp [unb, byt, Function.comp_def]
theorem unb_one (b : UInt8) : [(b.toNat : Int)] = unb [b] := rfl
theorem bind_some' {α β : Type} (a : α) (f : α → Option β) : (some a >>= f) = f a := rfl
theorem drop_get {α : Type} {l : List α} {i : Nat} (h : i < l.length) : l.drop i = l[i] :: l.drop (i + 1) := by simp
theorem get_drop {α : Type} {l r : List α} {i : Nat} {c : α} (h : l.drop i = c :: r) : l[i]? = some c ∧ l.drop (i + 1) = r ∧ i < l.length := by
  have hi : i < l.length := by
    rcases Nat.lt_or_ge i l.length with h1 | h1
    · exact h1
    · rw [List.drop_eq_nil_of_le h1] at h; cases h
  rw [List.drop_eq_getElem_cons hi] at h
  injection h with h1 h2
  exact ⟨by rw [List.getElem?_eq_getElem hi, h1], h2, hi⟩
theorem toNat_eq {b : UInt8} {n : Nat} (hn : n < 256) : ((b.toNat : Int) = (n : Int)) ↔ b = UInt8.ofNat n := by
  constructor
  · intro h
    have : b.toNat = n := by omega
    rw [← this]
    simp
  · rintro rfl
    simp [UInt8.toNat_ofNat']
    omega
theorem nat_lt {b : UInt8} : b.toNat < 256 := UInt8.toNat_lt b
theorem pre_nil (p : List UInt8) : p.isPrefixOf [] = p.isEmpty := by cases p <;> rfl
theorem pre_len {p s : List UInt8} (h : p.isPrefixOf s = true) : p.length ≤ s.length := (List.isPrefixOf_iff_prefix.1 h).length_le
theorem pre_take (p s : List UInt8) : decide (s.take p.length = p) = p.isPrefixOf s := by
  rw [Bool.eq_iff_iff, decide_eq_true_iff, List.isPrefixOf_iff_prefix, List.prefix_iff_eq_take]
  exact ⟨fun h => h.symm, fun h => h.symm⟩
end Go.Sen
namespace Go.Sen
open Go.Lk Go.Pe
theorem hasPrefix_eq (s p : List UInt8) : M.strings_HasPrefix s p = some (p.isPrefixOf s) := by
  unfold M.strings_HasPrefix M.internal_stringslite_HasPrefix
  by_cases h : p.length ≤ s.length
  · have h' : ((p.length : Int) ≤ (s.length : Int)) := by omega
    simp only [h', decide_true, if_true, sub_0 h, Option.bind_eq_bind, Option.bind_some, pre_take]
  · have h' : ¬ ((p.length : Int) ≤ (s.length : Int)) := by omega
    have : p.isPrefixOf s = false := by
      cases hp : p.isPrefixOf s with
      | false => rfl
      | true => exact absurd (pre_len hp) h
    simp [h', this]
theorem cutPrefix_eq (s p : List UInt8) : M.strings_CutPrefix s p = some (if p.isPrefixOf s then (s.drop p.length, true) else (s, false)) := by
  have h := hasPrefix_eq s p
  unfold M.strings_HasPrefix at h
  simp only [Option.bind_eq_bind] at h
  unfold M.strings_CutPrefix M.internal_stringslite_CutPrefix
  cases h1 : M.internal_stringslite_HasPrefix s p with
  | none => rw [h1] at h; cases h
  | some b =>
    rw [h1] at h
    simp only [Option.bind_some, Option.some.injEq] at h
    subst h
    cases hb : p.isPrefixOf s with
    | false => simp
    | true => simp [sub_d (pre_len hb)]
theorem trimPrefix_eq (s p : List UInt8) : M.strings_TrimPrefix s p = some (if p.isPrefixOf s then s.drop p.length else s) := by
  have h := hasPrefix_eq s p
  unfold M.strings_HasPrefix at h
  simp only [Option.bind_eq_bind] at h
  unfold M.strings_TrimPrefix M.internal_stringslite_TrimPrefix
  cases h1 : M.internal_stringslite_HasPrefix s p with
  | none => rw [h1] at h; cases h
  | some b =>
    rw [h1] at h
    simp only [Option.bind_some, Option.some.injEq] at h
    subst h
    cases hb : p.isPrefixOf s with
    | false => simp
    | true => simp [sub_d (pre_len hb)]
def isD (b : UInt8) : Bool := decide (48 ≤ b.toNat) && decide (b.toNat ≤ 57)
theorem isD_tab : ∀ b : UInt8, ([48, 49, 50, 51, 52, 53, 54, 55, 56, 57] : List UInt8).contains b = isD b := by
  intro b
  have h : ∀ n : Fin 256, ([48, 49, 50, 51, 52, 53, 54, 55, 56, 57] : List UInt8).contains (UInt8.ofNat n.val) = isD (UInt8.ofNat n.val) := by decide +kernel
  have := h ⟨b.toNat, nat_lt⟩
  simpa using this
def digs (s : List UInt8) : Nat := (s.takeWhile isD).length
theorem digs_le (s : List UInt8) : digs s ≤ s.length := by
  unfold digs
  exact (List.takeWhile_sublist _).length_le
theorem digs_cons (c : UInt8) (s : List UInt8) : digs (c :: s) = if isD c then digs s + 1 else 0 := by
  unfold digs
  rw [List.takeWhile_cons]
  split <;> simp
theorem digs_nil : digs [] = 0 := rfl
theorem json_digits_eq {s : List UInt8} (h : s.length < 4611686018427387904) : M.json_digits s = some (digs s : Int) := by
  unfold M.json_digits M.trimLeft
  have e : (decide ((([48, 49, 50, 51, 52, 53, 54, 55, 56, 57] : List UInt8)).length < 4294967281) && ([48, 49, 50, 51, 52, 53, 54, 55, 56, 57] : List UInt8).all fun b => decide (b.toNat < 128)) = true := by decide
  rw [chk_ok e]
  simp only [Option.bind_eq_bind, Option.bind_some]
  have e2 : Lib.trimLeftS s [48, 49, 50, 51, 52, 53, 54, 55, 56, 57] = s.dropWhile isD := by
    unfold Lib.trimLeftS
    congr 1
    funext b
    exact isD_tab b
  rw [e2]
  have e3 : digs s + (s.dropWhile isD).length = s.length := by
    unfold digs
    rw [← List.length_append, List.takeWhile_append_dropWhile]
  rw [w64 (by omega) (by omega)]
  congr 1
  omega
/-! The spec. -/
def sgn (s : List UInt8) : Nat := if s.head? = some 45 then 1 else 0
def intp (s : List UInt8) : Nat := if s.head? = some 48 then 1 else digs s
def frac : List UInt8 → Nat
  | 46 :: r => if 0 < digs r then 1 + digs r else 0
  | _ => 0
def sgn2 (s : List UInt8) : Nat := if s.head? = some 43 ∨ s.head? = some 45 then 1 else 0
def expo : List UInt8 → Nat
  | c :: r => if c = 101 ∨ c = 69 then (if 0 < digs (r.drop (sgn2 r)) then 1 + sgn2 r + digs (r.drop (sgn2 r)) else 0) else 0
  | [] => 0
def num (s : List UInt8) : Nat :=
  let i := sgn s
  if intp (s.drop i) = 0 then 0 else
  let i := i + intp (s.drop i)
  let i := i + frac (s.drop i)
  i + expo (s.drop i)
theorem sgn_le (s : List UInt8) : sgn s ≤ s.length := by
  unfold sgn
  cases s <;> simp
  split <;> omega
theorem sgn2_le (s : List UInt8) : sgn2 s ≤ s.length := by
  unfold sgn2
  cases s <;> simp
  split <;> omega
theorem intp_le (s : List UInt8) : intp s ≤ s.length := by
  unfold intp
  have := digs_le s
  cases s with
  | nil => simp [digs]
  | cons c r => split <;> simp_all
theorem frac_le (s : List UInt8) : frac s ≤ s.length := by
  unfold frac
  split
  · rename_i r
    have := digs_le r
    split <;> simp <;> omega
  · simp
theorem expo_le (s : List UInt8) : expo s ≤ s.length := by
  unfold expo
  split
  · rename_i c r
    have h1 := sgn2_le r
    have h2 := digs_le (r.drop (sgn2 r))
    rw [List.length_drop] at h2
    repeat' split
    all_goals simp only [List.length_cons]
    all_goals omega
  · simp
theorem num_le (s : List UInt8) : num s ≤ s.length := by
  unfold num
  simp only
  split
  · simp
  · have h1 := sgn_le s
    have h2 := intp_le (s.drop (sgn s))
    have h3 := frac_le (s.drop (sgn s + intp (s.drop (sgn s))))
    have h4 := expo_le (s.drop (sgn s + intp (s.drop (sgn s)) + frac (s.drop (sgn s + intp (s.drop (sgn s))))))
    simp only [List.length_drop] at h2 h3 h4
    omega
theorem digs_zero_intp (s : List UInt8) : digs s = 0 ↔ intp s = 0 := by
  unfold intp
  cases s with
  | nil => simp [digs]
  | cons c r =>
    by_cases h : c = 48
    · subst h
      simp [digs_cons, isD]
    · simp [h]
theorem head_get (s : List UInt8) : s.head? = s[0]? := by cases s <;> rfl
theorem getD {s : List UInt8} {i : Nat} : (s.drop i).head? = s[i]? := by rw [head_get]; simp
theorem json_number_eq {s : List UInt8} (h : s.length < 1152921504606846976) : M.json_number s = some (num s : Int) := by
  unfold M.json_number
  have a1 : (do
      let a_7 ← M.strings_HasPrefix s ([45] : List UInt8)
      if a_7 then
        some 1
      else
        some 0 : Option Int) = some ((sgn s : Nat) : Int) := by
    rw [hasPrefix_eq]
    unfold sgn
    cases s with
    | nil => rfl
    | cons c r =>
      by_cases hc : c = 45
      · subst hc; simp
      · have : ¬ (45 : UInt8) = c := fun e => hc e.symm
        simp [hc, this]
  rw [a1]
  simp only [Option.bind_eq_bind, Option.bind_some]
  have l1 := sgn_le s
  rw [sub_d l1]
  simp only [Option.bind_some]
  rw [json_digits_eq (by simp; omega)]
  simp only [Option.bind_some]
  unfold num
  simp only
  by_cases hz : digs (s.drop (sgn s)) = 0
  · rw [if_pos (by simpa using hz), if_pos ((digs_zero_intp _).1 hz)]
    rfl
  rw [if_neg (by simpa using hz), if_neg (fun e => hz ((digs_zero_intp _).2 e))]
  generalize hi : sgn s = i at *
  have hlt : i < s.length := by
    rcases Nat.lt_or_ge i s.length with h1 | h1
    · exact h1
    · rw [List.drop_eq_nil_of_le h1] at hz; exact absurd rfl hz
  rw [ix_n, List.getElem?_eq_getElem hlt]
  simp only [Option.bind_some]
  have a2 : (if (decide (((s[i]).toNat : Int) = 48)) = true then some 1 else some ((digs (s.drop i) : Nat) : Int)) = some ((intp (s.drop i) : Nat) : Int) := by
    unfold intp
    rw [getD, List.getElem?_eq_getElem hlt]
    by_cases hc : s[i] = 48
    · have : ((s[i]).toNat : Int) = 48 := by rw [hc]; rfl
      simp [hc]
    · have : ¬ ((s[i]).toNat : Int) = 48 := fun e => hc ((toNat_eq (n := 48) (by omega)).1 e)
      simp [hc, this]
  rw [a2]
  simp only [Option.bind_some]
  have l2 := intp_le (s.drop i)
  generalize hn : intp (s.drop i) = n at *
  rw [List.length_drop] at l2
  have e1 : IntKind.wrap .i64 ((i : Int) + (n : Int)) = ((i + n : Nat) : Int) := wadd (by omega)
  rw [e1]
  have hk : i + n ≤ s.length := by omega
  generalize hj : i + n = j at *
  have a3 : (do
      let s_31 ← sub s (j : Int) (s.length : Int)
      let a_32 ← M.strings_HasPrefix s_31 ([46] : List UInt8)
      if a_32 then
        let s_34 ← sub s (IntKind.wrap .i64 ((j : Int) + 1)) (s.length : Int)
        let a_35 ← M.json_digits s_34
        if (decide (0 < a_35)) then
          some (IntKind.wrap .i64 ((j : Int) + (IntKind.wrap .i64 (1 + a_35))))
        else
          some (j : Int)
      else
        some (j : Int) : Option Int) = some ((j + frac (s.drop j) : Nat) : Int) := by
    rw [sub_d hk]
    simp only [Option.bind_eq_bind, Option.bind_some, hasPrefix_eq]
    have ex : (∃ r, s.drop j = 46 :: r) ∨ (([46] : List UInt8).isPrefixOf (s.drop j) = false ∧ frac (s.drop j) = 0) := by
      cases hd : s.drop j with
      | nil => exact .inr ⟨rfl, rfl⟩
      | cons c r =>
        by_cases hc : c = 46
        · subst hc; exact .inl ⟨r, rfl⟩
        · have h46 : ¬ (46 : UInt8) = c := fun e => hc e.symm
          refine .inr ⟨by simp [List.isPrefixOf, h46], ?_⟩
          unfold frac
          split
          · rename_i r' hr
            injection hr with e1 e2
            exact absurd e1 hc
          · rfl
    rcases ex with ⟨r, hr⟩ | ⟨e1, e2⟩
    · obtain ⟨g1, g2, g3⟩ := get_drop hr
      have : ([46] : List UInt8).isPrefixOf (s.drop j) = true := by rw [hr]; rfl
      rw [this, if_pos rfl, w1 (by omega), sub_d (by omega), hr]
      simp only [Option.bind_some, frac]
      rw [g2, json_digits_eq (by rw [← g2]; simp; omega)]
      simp only [Option.bind_some]
      have := digs_le r
      have hr2 : r.length + (j + 1) = s.length := by rw [← g2]; simp; omega
      by_cases hd : 0 < digs r
      · rw [if_pos (by simpa using hd), if_pos hd]
        rw [show (1 : Int) + (digs r : Int) = ((1 + digs r : Nat) : Int) by omega, w64 (x := ((1 + digs r : Nat) : Int)) (by omega) (by omega), wadd (by omega)]
      · rw [if_neg (by simpa using hd), if_neg hd]
        rfl
    · rw [e1, e2]
      simp
  simp only [Option.bind_eq_bind] at a3
  rw [a3]
  simp only [Option.bind_some]
  have l3 := frac_le (s.drop j)
  rw [List.length_drop] at l3
  have hk2 : j + frac (s.drop j) ≤ s.length := by omega
  generalize j + frac (s.drop j) = k at *
  clear a1 a2 a3
  by_cases hks : k < s.length
  · have hks' : ((k : Int) < (s.length : Int)) := by omega
    have hdr : s.drop k = s[k] :: s.drop (k + 1) := by simp
    simp only [hks', decide_true, if_true, ix_n, List.getElem?_eq_getElem hks, Option.bind_some]
    have ec : (if (decide (((s[k]).toNat : Int) = 101)) = true then some true else some (decide (((s[k]).toNat : Int) = 69))) = some (decide (s[k] = 101 ∨ s[k] = 69)) := by
      have t1 : (((s[k]).toNat : Int) = 101) ↔ s[k] = 101 := toNat_eq (n := 101) (by omega)
      have t2 : (((s[k]).toNat : Int) = 69) ↔ s[k] = 69 := toNat_eq (n := 69) (by omega)
      simp only [t1, t2]
      by_cases q : s[k] = 101 <;> simp [q]
    rw [ec]
    simp only [Option.bind_some]
    rw [hdr]
    unfold expo
    simp only
    by_cases hc : s[k] = 101 ∨ s[k] = 69
    · rw [if_pos (by simpa using hc), if_pos hc, w1 (by omega)]
      have es : (do
          let j_60 ← (if decide (((k + 1 : Nat) : Int) < (s.length : Int)) = true then do
                let c_61 ← ix s ((k + 1 : Nat) : Int)
                if decide ((c_61.toNat : Int) = 43) = true then some true
                else do
                  let c_62 ← ix s ((k + 1 : Nat) : Int)
                  some (decide ((c_62.toNat : Int) = 45))
              else some false)
          if j_60 = true then some (IntKind.wrap .i64 (((k + 1 : Nat) : Int) + 1)) else some ((k + 1 : Nat) : Int)) = some ((k + 1 + sgn2 (s.drop (k + 1)) : Nat) : Int) := by
        unfold sgn2
        rw [getD]
        by_cases hk1 : k + 1 < s.length
        · have : (((k + 1 : Nat) : Int) < (s.length : Int)) := by omega
          simp only [this, decide_true, if_true, ix_n, List.getElem?_eq_getElem hk1, Option.bind_eq_bind, Option.bind_some]
          have t1 : (((s[k + 1]).toNat : Int) = 43) ↔ s[k + 1] = 43 := toNat_eq (n := 43) (by omega)
          have t2 : (((s[k + 1]).toNat : Int) = 45) ↔ s[k + 1] = 45 := toNat_eq (n := 45) (by omega)
          simp only [t1, t2, Option.some.injEq]
          have ww : IntKind.wrap .i64 (((k + 1 : Nat) : Int) + 1) = ((k + 1 + 1 : Nat) : Int) := w1 (by omega)
          rw [ww]
          by_cases q : s[k + 1] = 43
          · simp [q]
          · by_cases q2 : s[k + 1] = 45
            · simp [q2]
            · simp [q, q2]
        · have : ¬ ((k : Int) + 1 < (s.length : Int)) := by omega
          simp [this, List.getElem?_eq_none (Nat.le_of_not_lt hk1)]
      simp only [Option.bind_eq_bind] at es
      rw [es]
      simp only [Option.bind_some]
      have l4 := sgn2_le (s.drop (k + 1))
      rw [List.length_drop] at l4
      rw [sub_d (by omega)]
      simp only [Option.bind_some]
      rw [json_digits_eq (by simp; omega), ← List.drop_drop]
      simp only [Option.bind_some]
      have l5 := digs_le ((s.drop (k + 1)).drop (sgn2 (s.drop (k + 1))))
      rw [List.length_drop, List.length_drop] at l5
      by_cases hd : 0 < digs ((s.drop (k + 1)).drop (sgn2 (s.drop (k + 1))))
      · rw [if_pos (by simpa using hd), if_pos hd, wadd (by omega)]
        congr 2
        omega
      · rw [if_neg (by simpa using hd), if_neg hd]
        rfl
    · rw [if_neg (by simpa using hc), if_neg hc]
      rfl
  · have hks' : ¬ ((k : Int) < (s.length : Int)) := by omega
    rw [List.drop_eq_nil_of_le (Nat.le_of_not_lt hks)]
    simp [hks', expo]
end Go.Sen
namespace Go.Sen
open Go.Lk Go.Pe
theorem r02_digit_eq (b : UInt8) : M.r02_digit (b.toNat : Int) = some (isD b) := by
  unfold M.r02_digit isD
  congr 2
  · exact decide_eq_decide.2 (by omega)
  · exact decide_eq_decide.2 (by omega)
theorem digs_drop_in {s : List UInt8} {i : Nat} (h : i < s.length) : digs (s.drop i) = if isD s[i] then digs (s.drop (i + 1)) + 1 else 0 := by
  rw [List.drop_eq_getElem_cons h, digs_cons]
theorem digs_drop_out {s : List UInt8} {i : Nat} (h : s.length ≤ i) : digs (s.drop i) = 0 := by
  rw [List.drop_eq_nil_of_le h]
  rfl
theorem r02_k2 {s : List UInt8} (hs : s.length < 1152921504606846976) : ∀ (n i : Nat), s.length - i = n → i ≤ s.length → M.r02_number_k2 s (i : Int) = some ((i + digs (s.drop i) : Nat) : Int) := by
  intro n
  induction n with
  | zero =>
    intro i hn hi
    rw [M.r02_number_k2.eq_1]
    have : ¬ ((i : Int) < (s.length : Int)) := by omega
    simp [this, digs_drop_out (show s.length ≤ i by omega)]
  | succ n ih =>
    intro i hn hi
    have hlt : i < s.length := by omega
    rw [M.r02_number_k2.eq_1]
    have : ((i : Int) < (s.length : Int)) := by omega
    simp only [this, decide_true, if_true, ix_n, List.getElem?_eq_getElem hlt, Option.bind_eq_bind, Option.bind_some, r02_digit_eq]
    rw [digs_drop_in hlt]
    cases hd : isD s[i] with
    | false => simp
    | true =>
      simp only [if_true]
      rw [w1 (by omega), ih (i + 1) (by omega) (by omega)]
      congr 2
      omega
theorem r02_k3 {s : List UInt8} (hs : s.length < 1152921504606846976) : ∀ (n i : Nat), s.length - i = n → i ≤ s.length → M.r02_number_k3 s (i : Int) = some ((i + digs (s.drop i) : Nat) : Int) := by
  intro n
  induction n with
  | zero =>
    intro i hn hi
    rw [M.r02_number_k3.eq_1]
    have : ¬ ((i : Int) < (s.length : Int)) := by omega
    simp [this, digs_drop_out (show s.length ≤ i by omega)]
  | succ n ih =>
    intro i hn hi
    have hlt : i < s.length := by omega
    rw [M.r02_number_k3.eq_1]
    have : ((i : Int) < (s.length : Int)) := by omega
    simp only [this, decide_true, if_true, ix_n, List.getElem?_eq_getElem hlt, Option.bind_eq_bind, Option.bind_some, r02_digit_eq]
    rw [digs_drop_in hlt]
    cases hd : isD s[i] with
    | false => simp
    | true =>
      simp only [if_true]
      rw [w1 (by omega), ih (i + 1) (by omega) (by omega)]
      congr 2
      omega
theorem r02_k1 {s : List UInt8} (hs : s.length < 1152921504606846976) {b : Nat} (hb : b < s.length) (hz : ¬ s[b] = 48) : ∀ (n i : Nat), s.length - i = n → i ≤ s.length → M.r02_number_k1 s (b : Int) (i : Int) = some ((i + digs (s.drop i) : Nat) : Int) := by
  intro n
  induction n with
  | zero =>
    intro i hn hi
    rw [M.r02_number_k1.eq_1]
    have : ¬ ((i : Int) < (s.length : Int)) := by omega
    simp [this, digs_drop_out (show s.length ≤ i by omega)]
  | succ n ih =>
    intro i hn hi
    have hlt : i < s.length := by omega
    rw [M.r02_number_k1.eq_1]
    have : ((i : Int) < (s.length : Int)) := by omega
    have t : ¬ (((s[b]).toNat : Int) = 48) := fun e => hz ((toNat_eq (n := 48) (by omega)).1 e)
    simp only [this, decide_true, if_true, ix_n, List.getElem?_eq_getElem hlt, List.getElem?_eq_getElem hb, Option.bind_eq_bind, Option.bind_some, r02_digit_eq, t, decide_false, Bool.not_false]
    rw [digs_drop_in hlt]
    cases hd : isD s[i] with
    | false => simp
    | true =>
      have : (if decide ((i : Int) = (b : Int)) = true then some true else some true) = some true := by split <;> rfl
      simp only [if_true, this, Option.bind_some]
      rw [w1 (by omega), ih (i + 1) (by omega) (by omega)]
      congr 2
      omega
theorem r02_from {s : List UInt8} (hs : s.length < 1152921504606846976) {b : Nat} (hb : b ≤ s.length) : M.r02_number_k1 s (b : Int) (b : Int) = some ((b + intp (s.drop b) : Nat) : Int) := by
  rcases Nat.lt_or_ge b s.length with h | h
  · by_cases hz : s[b] = 48
    · rw [M.r02_number_k1.eq_1]
      have h1 : ((b : Int) < (s.length : Int)) := by omega
      have h2 : isD 48 = true := by decide
      simp only [h1, decide_true, if_true, ix_n, List.getElem?_eq_getElem h, Option.bind_eq_bind, Option.bind_some, r02_digit_eq, hz, h2]
      rw [w1 (by omega), M.r02_number_k1.eq_1]
      have e1 : intp (s.drop b) = 1 := by unfold intp; rw [getD, List.getElem?_eq_getElem h, hz]; rfl
      rw [e1]
      by_cases h3 : b + 1 < s.length
      · have h4 : (((b + 1 : Nat) : Int) < (s.length : Int)) := by omega
        have h5 : ¬ (((b + 1 : Nat) : Int) = (b : Int)) := by omega
        simp only [h4, decide_true, if_true, ix_n, List.getElem?_eq_getElem h3, List.getElem?_eq_getElem h, Option.bind_eq_bind, Option.bind_some, r02_digit_eq, h5, decide_false, hz]
        cases isD s[b + 1] <;> simp
      · have h4 : ¬ ((b : Int) + 1 < (s.length : Int)) := by omega
        simp [h4]
    · rw [r02_k1 hs h hz _ b rfl hb]
      have e1 : intp (s.drop b) = digs (s.drop b) := by unfold intp; rw [getD, List.getElem?_eq_getElem h]; simp [hz]
      rw [e1]
  · rw [M.r02_number_k1.eq_1]
    have : ¬ ((b : Int) < (s.length : Int)) := by omega
    have e1 : intp (s.drop b) = 0 := by rw [List.drop_eq_nil_of_le h]; rfl
    simp [this, e1]
theorem r02_number_eq {s : List UInt8} (h : s.length < 1152921504606846976) : M.r02_number s = some (num s : Int) := by
  unfold M.r02_number
  have a1 : (do
      let j_13 ← (do
          if (decide (0 < (s.length : Int))) then
            let c_14 ← ix s 0
            some (decide ((c_14.toNat : Int) = 45))
          else
            some false : Option Bool)
      if j_13 then
        some (IntKind.wrap .i64 (0 + 1))
      else
        some 0 : Option Int) = some ((sgn s : Nat) : Int) := by
    unfold sgn
    cases s with
    | nil => rfl
    | cons c r =>
      have h1 : (0 : Int) < ((c :: r).length : Int) := by simp only [List.length_cons]; omega
      have t1 : ((c.toNat : Int) = 45) ↔ c = 45 := toNat_eq (n := 45) (by omega)
      simp only [h1, decide_true, if_true, ix_0, List.getElem?_cons_zero, Option.bind_eq_bind, Option.bind_some, t1, List.head?_cons, Option.some.injEq]
      by_cases hc : c = 45 <;> simp [hc]
      rfl
  rw [a1]
  simp only [Option.bind_eq_bind, Option.bind_some]
  have l1 := sgn_le s
  rw [r02_from h l1]
  simp only [Option.bind_some]
  unfold num
  simp only
  generalize hi : sgn s = i at *
  have l2 := intp_le (s.drop i)
  rw [List.length_drop] at l2
  by_cases hz : intp (s.drop i) = 0
  · rw [if_pos (by simp [hz]), if_pos hz]; rfl
  rw [if_neg (by simp; omega), if_neg hz]
  have hk : i + intp (s.drop i) ≤ s.length := by omega
  generalize i + intp (s.drop i) = j at *
  clear a1
  have a3 : (do
        let j_132 ← (do
            if (decide ((IntKind.wrap .i64 ((j : Int) + 1)) < (s.length : Int))) then
              let c_133 ← ix s (j : Int)
              some (decide ((c_133.toNat : Int) = 46))
            else
              some false : Option Bool)
        let j_138 ← (do
            if j_132 then
              let c_139 ← ix s (IntKind.wrap .i64 ((j : Int) + 1))
              let a_140 ← M.r02_digit (c_139.toNat : Int)
              some a_140
            else
              some false : Option Bool)
        if j_138 then
          M.r02_number_k2 s (IntKind.wrap .i64 ((j : Int) + 1))
        else
          some (j : Int) : Option Int) = some ((j + frac (s.drop j) : Nat) : Int) := by
    rw [w1 (by omega)]
    by_cases h1 : j + 1 < s.length
    · have h1' : (((j + 1 : Nat) : Int) < (s.length : Int)) := by omega
      have h2 : j < s.length := by omega
      have t1 : (((s[j]).toNat : Int) = 46) ↔ s[j] = 46 := toNat_eq (n := 46) (by omega)
      simp only [h1', decide_true, if_true, ix_n, List.getElem?_eq_getElem h1, List.getElem?_eq_getElem h2, Option.bind_eq_bind, Option.bind_some, t1, r02_digit_eq]
      rw [List.drop_eq_getElem_cons h2]
      by_cases hc : s[j] = 46
      · rw [hc]
        unfold frac
        simp only [decide_true, if_true, Option.bind_some]
        have hd := digs_drop_in h1
        cases hq : isD s[j + 1] with
        | false => rw [hq] at hd; simp at hd; simp [hd]
        | true =>
          rw [hq] at hd
          simp only [if_true] at hd ⊢
          rw [r02_k2 h _ (j + 1) rfl (by omega), if_pos (by omega)]
          congr 2
          omega
      · have : frac (s[j] :: s.drop (j + 1)) = 0 := by
          unfold frac
          split
          · rename_i r hr
            injection hr with e1 e2
            exact absurd e1 hc
          · rfl
        rw [this]
        simp [hc]
    · have h1' : ¬ ((j : Int) + 1 < (s.length : Int)) := by omega
      have : frac (s.drop j) = 0 := by
        unfold frac
        split
        · rename_i r hr
          obtain ⟨_, g2, g3⟩ := get_drop hr
          have : r = [] := by rw [← g2]; exact List.drop_eq_nil_of_le (by omega)
          rw [this]
          rfl
        · rfl
      rw [this]
      simp [h1']
  simp only [Option.bind_eq_bind] at a3
  rw [a3]
  simp only [Option.bind_some]
  have l3 := frac_le (s.drop j)
  rw [List.length_drop] at l3
  have hk2 : j + frac (s.drop j) ≤ s.length := by omega
  generalize j + frac (s.drop j) = k at *
  clear a3
  by_cases hks : k < s.length
  · have hks' : ((k : Int) < (s.length : Int)) := by omega
    have hdr : s.drop k = s[k] :: s.drop (k + 1) := by simp
    simp only [hks', decide_true, if_true, ix_n, List.getElem?_eq_getElem hks, Option.bind_some]
    have ec : (if (decide (((s[k]).toNat : Int) = 101)) = true then some true else some (decide (((s[k]).toNat : Int) = 69))) = some (decide (s[k] = 101 ∨ s[k] = 69)) := by
      have t1 : (((s[k]).toNat : Int) = 101) ↔ s[k] = 101 := toNat_eq (n := 101) (by omega)
      have t2 : (((s[k]).toNat : Int) = 69) ↔ s[k] = 69 := toNat_eq (n := 69) (by omega)
      simp only [t1, t2]
      by_cases q : s[k] = 101 <;> simp [q]
    rw [ec]
    simp only [Option.bind_some]
    rw [hdr]
    unfold expo
    simp only
    by_cases hc : s[k] = 101 ∨ s[k] = 69
    · rw [if_pos (by simpa using hc), if_pos hc, w1 (by omega)]
      have es : (do
          let j_60 ← (if decide (((k + 1 : Nat) : Int) < (s.length : Int)) = true then do
                let c_61 ← ix s ((k + 1 : Nat) : Int)
                if decide ((c_61.toNat : Int) = 43) = true then some true
                else do
                  let c_62 ← ix s ((k + 1 : Nat) : Int)
                  some (decide ((c_62.toNat : Int) = 45))
              else some false)
          if j_60 = true then some (IntKind.wrap .i64 (((k + 1 : Nat) : Int) + 1)) else some ((k + 1 : Nat) : Int)) = some ((k + 1 + sgn2 (s.drop (k + 1)) : Nat) : Int) := by
        unfold sgn2
        rw [getD]
        by_cases hk1 : k + 1 < s.length
        · have : (((k + 1 : Nat) : Int) < (s.length : Int)) := by omega
          simp only [this, decide_true, if_true, ix_n, List.getElem?_eq_getElem hk1, Option.bind_eq_bind, Option.bind_some]
          have t1 : (((s[k + 1]).toNat : Int) = 43) ↔ s[k + 1] = 43 := toNat_eq (n := 43) (by omega)
          have t2 : (((s[k + 1]).toNat : Int) = 45) ↔ s[k + 1] = 45 := toNat_eq (n := 45) (by omega)
          simp only [t1, t2, Option.some.injEq]
          have ww : IntKind.wrap .i64 (((k + 1 : Nat) : Int) + 1) = ((k + 1 + 1 : Nat) : Int) := w1 (by omega)
          rw [ww]
          by_cases q : s[k + 1] = 43
          · simp [q]
          · by_cases q2 : s[k + 1] = 45
            · simp [q2]
            · simp [q, q2]
        · have : ¬ ((k : Int) + 1 < (s.length : Int)) := by omega
          simp [this, List.getElem?_eq_none (Nat.le_of_not_lt hk1)]
      simp only [Option.bind_eq_bind] at es
      rw [es]
      simp only [Option.bind_some]
      have l4 := sgn2_le (s.drop (k + 1))
      rw [List.length_drop] at l4
      have edd : s.drop (k + 1 + sgn2 (s.drop (k + 1))) = (s.drop (k + 1)).drop (sgn2 (s.drop (k + 1))) := by rw [List.drop_drop]
      rw [r02_k3 h _ _ rfl (by omega), edd]
      simp only [Option.bind_some]
      generalize digs ((s.drop (k + 1)).drop (sgn2 (s.drop (k + 1)))) = y at *
      generalize sgn2 (s.drop (k + 1)) = z at *
      by_cases hd : 0 < y
      · rw [if_pos (by simp only [decide_eq_true_eq]; omega), if_pos hd]
        simp only [Option.bind_some]
        congr 2
        omega
      · rw [if_neg (by simp only [decide_eq_true_eq]; omega), if_neg hd]
        rfl
    · rw [if_neg (by simpa using hc), if_neg hc]
      rfl
  · have hks' : ¬ ((k : Int) < (s.length : Int)) := by omega
    rw [List.drop_eq_nil_of_le (Nat.le_of_not_lt hks)]
    simp [hks', expo]
end Go.Sen
namespace Go.Sen
open Go.Lk Go.Pe
theorem fin256 {P : UInt8 → Prop} (h : ∀ n : Fin 256, P (UInt8.ofNat n.val)) (b : UInt8) : P b := by
  have := h ⟨b.toNat, nat_lt⟩
  simpa using this
theorem isPrefixOf_one (c : UInt8) (s : List UInt8) : [c].isPrefixOf s = decide (s.head? = some c) := by
  cases s with
  | nil => rfl
  | cons d r =>
    by_cases h : c = d
    · simp [List.isPrefixOf, h]
    · have : ¬ d = c := fun e => h e.symm
      simp [List.isPrefixOf, h, this]
/-! Sizes. -/
def kys (ks : List (List UInt8)) : Nat := (ks.map fun k => k.length + 1).sum
mutual
def T_api_Json.sz : T_api_Json → Nat
  | ⟨_, t, l, ks⟩ => szs l + t.length + kys ks + 1
def szs : List T_api_Json → Nat
  | [] => 0
  | x :: xs => x.sz + szs xs + 1
end
theorem T_api_Json.sz_eq (v : T_api_Json) : v.sz = szs v.gList + v.gText.length + kys v.gKeys + 1 := by cases v; simp [T_api_Json.sz]
theorem kys_nil : kys [] = 0 := rfl
theorem kys_cons (k : List UInt8) (ks : List (List UInt8)) : kys (k :: ks) = k.length + 1 + kys ks := by simp [kys]
theorem kys_len : ∀ ks : List (List UInt8), ks.length ≤ kys ks
  | [] => by simp
  | k :: ks => by have := kys_len ks; rw [kys_cons, List.length_cons]; omega
theorem kys_mem : ∀ {ks : List (List UInt8)} {k : List UInt8}, k ∈ ks → k.length < kys ks
  | a :: ks, k, h => by
    rw [kys_cons]
    rcases List.mem_cons.1 h with rfl | h
    · omega
    · have := kys_mem h; omega
theorem szs_mem : ∀ {l : List T_api_Json} {x : T_api_Json}, x ∈ l → x.sz < szs l
  | y :: l, x, hx => by
    simp only [szs]
    rcases List.mem_cons.1 hx with rfl | hx
    · omega
    · have := szs_mem hx; omega
theorem szs_len : ∀ l : List T_api_Json, l.length ≤ szs l
  | [] => by simp
  | y :: l => by have := szs_len l; simp only [szs, List.length_cons]; omega
/-! The spec. -/
def frm (k : Int) (t : List UInt8) (n : Nat) (ks : List (List UInt8)) : Bool :=
  ks.all Lib.validD &&
  if k = 0 ∨ k = 1 ∨ k = 2 then decide (t = []) && decide (n = 0) && decide (ks = [])
  else if k = 3 then !decide (t = []) && decide (num t = t.length) && decide (n = 0) && decide (ks = [])
  else if k = 4 then Lib.validD t && decide (n = 0) && decide (ks = [])
  else if k = 5 then decide (t = []) && decide (ks = [])
  else if k = 6 then decide (t = []) && decide (ks.length = n) && decide ks.Nodup
  else false
mutual
def chkJ : T_api_Json → Nat → Int
  | ⟨k, t, l, ks⟩, w => if (k = 5 ∨ k = 6) ∧ 16 ≤ w then 21 else if frm k t l.length ks = false then 23 else chkL l (w + 1)
def chkL : List T_api_Json → Nat → Int
  | [], _ => 0
  | x :: xs, w => if chkJ x w = 0 then chkL xs w else chkJ x w
end
theorem chkJ_eq (v : T_api_Json) (w : Nat) : chkJ v w = if (v.gKind = 5 ∨ v.gKind = 6) ∧ 16 ≤ w then 21 else if frm v.gKind v.gText v.gList.length v.gKeys = false then 23 else chkL v.gList (w + 1) := by cases v; simp only [chkJ]
def rsOf (e : Int) : Rs Unit := if e = 0 then .ok () else .pan e
theorem must_t (e : Int) : M.json_must true e = some (.ok ()) := by simp [M.json_must]
theorem must_f (e : Int) : M.json_must false e = some (.pan e) := by simp [M.json_must]
/-! Keys: no two alike. -/
instance : Std.Antisymm (α := List UInt8) (· ≤ ·) := ⟨fun _ _ h1 h2 => List.le_antisymm h1 h2⟩
theorem sorted_ms (l : List (List UInt8)) : (l.mergeSort fun x y => decide (x ≤ y)).Pairwise (· ≤ ·) := by
  have := List.pairwise_mergeSort (le := fun x y : List UInt8 => decide (x ≤ y)) (by intro a b c h1 h2; simp only [decide_eq_true_eq] at *; exact List.le_trans h1 h2) (by intro a b; simp only [Bool.or_eq_true, decide_eq_true_eq]; exact List.le_total a b) l
  exact this.imp fun h => by simpa using h
theorem sorted_nodup {m : List (List UInt8)} (hs : m.Pairwise (· ≤ ·)) : (∀ j, j < m.length → Lib.keeps m.toArray j = true) ↔ m.Nodup := by
  have get : ∀ i (h : i < m.length), m.toArray[i]! = m[i] := fun i h => by simp [h]
  rw [List.pairwise_iff_getElem] at hs
  constructor
  · intro hk
    rw [List.nodup_iff_pairwise_ne, List.pairwise_iff_getElem]
    intro i j hi hj hij he
    have h1 := hk j hj
    unfold Lib.keeps at h1
    simp only [decide_eq_true_eq] at h1
    rcases h1 with h1 | h1
    · omega
    · rw [get j hj, get (j - 1) (by omega)] at h1
      apply h1
      have h3 : m[j - 1] ≤ m[j] := hs (j - 1) j (by omega) hj (by omega)
      rcases Nat.lt_or_ge i (j - 1) with h | h
      · have h2 : m[i] ≤ m[j - 1] := hs i (j - 1) hi (by omega) h
        rw [he] at h2
        exact List.le_antisymm h2 h3
      · have : i = j - 1 := by omega
        subst this
        exact he.symm
  · intro hn j hj
    unfold Lib.keeps
    simp only [decide_eq_true_eq]
    rcases Nat.eq_zero_or_pos j with h | h
    · exact .inl h
    · refine .inr ?_
      rw [get j hj, get (j - 1) (by omega)]
      rw [List.nodup_iff_pairwise_ne, List.pairwise_iff_getElem] at hn
      exact fun e => hn (j - 1) j (by omega) hj (by omega) e.symm
theorem compact_len (m : List (List UInt8)) : (Lib.compact m).length = m.length ↔ ∀ j, j < m.length → Lib.keeps m.toArray j = true := by
  unfold Lib.compact Lib.compactUpTo
  rw [List.length_map]
  conv => lhs; rhs; rw [← List.length_range (n := m.length)]
  rw [List.length_filter_eq_length_iff]
  simp
theorem single_eq {l : List (List UInt8)} (h : l.length * 16 ≤ 140737488355328) : M.single l = some (decide l.Nodup) := by
  unfold M.single
  rw [chk_ok (by simpa using h)]
  simp only [Option.bind_eq_bind, Option.bind_some, Option.some.injEq]
  apply decide_eq_decide.2
  rw [← List.Perm.nodup_iff (List.mergeSort_perm l fun x y => decide (x ≤ y)), ← sorted_nodup (sorted_ms l), ← compact_len, List.length_mergeSort]
  omega
theorem validString_eq {s : List UInt8} (h : s.length ≤ 9223372036854775807) : M.validString s = some (Lib.validD s) := by
  unfold M.validString
  rw [chk_ok (by simpa using h)]
  rfl
theorem indexFunc_k1 {ks : List (List UInt8)} (hs : ∀ k ∈ ks, k.length < 1152921504606846976) (hl : ks.length < 1152921504606846976) : ∀ (n i : Nat), ks.length - i = n → i ≤ ks.length →
    ∃ r, M.slices_IndexFunc_string_string_k1 ks (i : Int) = some r ∧ (((ks.drop i).all Lib.validD = true ∧ r = .go ()) ∨ ((ks.drop i).all Lib.validD = false ∧ ∃ j : Nat, r = .done (j : Int))) := by
  intro n
  induction n with
  | zero =>
    intro i hn hi
    rw [M.slices_IndexFunc_string_string_k1.eq_1]
    have : ¬ ((i : Int) < (ks.length : Int)) := by omega
    exact ⟨_, by rw [if_neg (by simpa using this)], .inl ⟨by rw [List.drop_eq_nil_of_le (by omega)]; rfl, rfl⟩⟩
  | succ n ih =>
    intro i hn hi
    have hlt : i < ks.length := by omega
    rw [M.slices_IndexFunc_string_string_k1.eq_1]
    have h1 : ((i : Int) < (ks.length : Int)) := by omega
    have h2 := hs ks[i] (List.getElem_mem hlt)
    unfold M.json_checked_1
    simp only [h1, decide_true, if_true, ix_n, List.getElem?_eq_getElem hlt, Option.bind_eq_bind, Option.bind_some]
    rw [validString_eq (by omega), List.drop_eq_getElem_cons hlt]
    simp only [Option.bind_some, List.all_cons]
    cases hv : Lib.validD ks[i] with
    | false => exact ⟨_, by simp, .inr ⟨by simp, i, rfl⟩⟩
    | true =>
      rw [w1 (by omega)]
      obtain ⟨r, h3, h4⟩ := ih (i + 1) (by omega) (by omega)
      exact ⟨r, by simpa using h3, by simpa using h4⟩
theorem containsFunc_eq {ks : List (List UInt8)} (hs : ∀ k ∈ ks, k.length < 1152921504606846976) (hl : ks.length < 1152921504606846976) : M.slices_ContainsFunc_string_string ks = some (!ks.all Lib.validD) := by
  unfold M.slices_ContainsFunc_string_string M.slices_IndexFunc_string_string
  obtain ⟨r, h1, h2⟩ := indexFunc_k1 hs hl _ 0 rfl (Nat.zero_le _)
  have h1 : M.slices_IndexFunc_string_string_k1 ks 0 = some r := h1
  rw [h1]
  rcases h2 with ⟨h3, rfl⟩ | ⟨h3, j, rfl⟩
  · simp only [List.drop_zero] at h3
    rw [h3]
    simp
  · simp only [List.drop_zero] at h3
    rw [h3]
    simp
/-! checked. -/
theorem json_form {k : Int} {t : List UInt8} {n : Nat} {ks : List (List UInt8)} (hw : ¬ (k = 5 ∨ k = 6) ∨ True) :
    frm k t n ks = (((decide (0 ≤ k)) && (decide (k < 7))) && ((((decide (k = 5)) || (decide (k = 6))) || (decide ((n : Int) = 0))) && ((((decide (k = 6)) && (decide ((ks.length : Int) = (n : Int)))) || ((decide ((ks.length : Int) = 0)) && (!decide (k = 6)))) &&
      ((ks.all Lib.validD && decide ks.Nodup) && (if k = 3 then !decide (t = []) && decide (num t = t.length) else if k = 4 then Lib.validD t else decide (t = [])))))) := by
  have k0 : ((ks.length : Int) = 0) ↔ ks = [] := by rw [← List.length_eq_zero_iff]; omega
  have n0 : ((n : Int) = 0) ↔ n = 0 := by omega
  simp only [k0, n0]
  unfold frm
  by_cases h0 : k = 0
  · subst h0; cases ks <;> simp [and_comm, Bool.and_comm]
  by_cases h1 : k = 1
  · subst h1; cases ks <;> simp [and_comm, Bool.and_comm]
  by_cases h2 : k = 2
  · subst h2; cases ks <;> simp [and_comm, Bool.and_comm]
  by_cases h3 : k = 3
  · subst h3; cases ks <;> simp [Bool.and_comm, Bool.and_left_comm]
  by_cases h4 : k = 4
  · subst h4; cases ks <;> simp [Bool.and_comm, Bool.and_left_comm]
  by_cases h5 : k = 5
  · subst h5; cases ks <;> simp
  by_cases h6 : k = 6
  · subst h6
    have : (((ks.length : Int) = (n : Int))) ↔ ks.length = n := by omega
    simp [this, Bool.and_comm, Bool.and_left_comm, Bool.and_assoc]
  have : ((decide (0 ≤ k)) && (decide (k < 7))) = false := by
    rw [← Bool.not_eq_true, Bool.and_eq_true, decide_eq_true_iff, decide_eq_true_iff]
    omega
  rw [this]
  simp [h0, h1, h2, h3, h4, h5, h6]
end Go.Sen
