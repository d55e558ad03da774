/- JSON, plainly: the reader's parts: blanks, words, escapes, texts. -/
import Derived.Test.YtcfkkgpnggdlnaaGreatDoorSnE
set_option linter.all false
namespace Go.Sen
open Go.Lk Go.Pe
def bl (b : UInt8) : Bool := ([32, 9, 10, 13] : List UInt8).contains b
def blanks (s : List UInt8) : List UInt8 := s.dropWhile bl
theorem blanks_len (s : List UInt8) : (blanks s).length ≤ s.length := (List.dropWhile_sublist _).length_le
theorem json_blanks_eq (s : List UInt8) : M.json_reader_blanks ⟨s⟩ = some ⟨blanks s⟩ := by
  unfold M.json_reader_blanks M.trimLeft
  rw [chk_ok (by decide)]
  rfl
def take (s p : List UInt8) : Option (List UInt8) := if p.isPrefixOf s = true then some (blanks (s.drop p.length)) else none
theorem json_take_eq (s p : List UInt8) : M.json_reader_take ⟨s⟩ p = some (match take s p with | some r => (true, ⟨r⟩) | none => (false, ⟨s⟩)) := by
  unfold M.json_reader_take take
  rw [cutPrefix_eq]
  cases h : p.isPrefixOf s with
  | false => rfl
  | true => simp [json_blanks_eq]
theorem take_one (c : UInt8) (s : List UInt8) : take s [c] = match s with | [] => none | d :: r => if d = c then some (blanks r) else none := by
  unfold take
  cases s with
  | nil => rfl
  | cons d r =>
    by_cases h : c = d
    · subst h; simp [List.isPrefixOf]
    · have : ¬ d = c := fun e => h e.symm
      simp [List.isPrefixOf, h, this]
theorem take_len {s p r : List UInt8} (h : take s p = some r) : r.length + p.length ≤ s.length := by
  unfold take at h
  split at h
  · rename_i hp
    cases h
    have h1 := blanks_len (s.drop p.length)
    have h2 := pre_len hp
    rw [List.length_drop] at h1
    omega
  · cases h
/-! Numbers of base sixteen. -/
def hexv (c : UInt8) : Option Nat := if isD c = true then some (c.toNat - 48) else if 97 ≤ c.toNat ∧ c.toNat ≤ 102 then some (c.toNat - 87) else if 65 ≤ c.toNat ∧ c.toNat ≤ 70 then some (c.toNat - 55) else none
def hexset : List UInt8 := [48, 49, 50, 51, 52, 53, 54, 55, 56, 57, 97, 98, 99, 100, 101, 102, 65, 66, 67, 68, 69, 70]
theorem hexset_tab : ∀ c : UInt8, hexset.contains c = (hexv c).isSome := fin256 (by decide +kernel)
theorem hexv_lt : ∀ c : UInt8, ∀ d, hexv c = some d → d < 16 := by
  intro c d h
  unfold hexv isD at h
  have := nat_lt (b := c)
  split at h
  · rename_i hc
    simp only [Bool.and_eq_true, decide_eq_true_eq] at hc
    cases h
    omega
  · split at h
    · cases h; omega
    · split at h
      · cases h; omega
      · cases h
theorem dropWhile_nil {α : Type} (p : α → Bool) : ∀ l : List α, l.dropWhile p = [] ↔ ∀ b ∈ l, p b = true
  | [] => by simp
  | a :: l => by
    rw [List.dropWhile_cons]
    cases h : p a with
    | false => simp [h]
    | true => simp [h, dropWhile_nil p l]
theorem trimS_nil (l cs : List UInt8) : Lib.trimS l cs = [] ↔ ∀ b ∈ l, cs.contains b = true := by
  unfold Lib.trimS Lib.trimLeftS Lib.trimRightS
  rw [dropWhile_nil]
  constructor
  · intro h
    have h2 : l.reverse.dropWhile (cs.contains ·) = [] := by
      cases hd : l.reverse.dropWhile (cs.contains ·) with
      | nil => rfl
      | cons a r =>
        have h3 : ¬ cs.contains a = true := by
          have := List.head?_dropWhile_not (cs.contains ·) l.reverse
          rw [hd] at this
          simpa using this
        exact absurd (h a (by rw [hd]; simp)) h3
    rw [dropWhile_nil] at h2
    exact fun b hb => h2 b (by simpa using hb)
  · intro h b hb
    rw [List.mem_reverse] at hb
    exact h b (by simpa using (List.dropWhile_sublist _).subset hb)
def pstep (x : Int) : Option Int :=
  if ((decide (48 ≤ x)) && (decide (x ≤ 57))) = true then some (IntKind.wrap .u8 (x - 48))
  else if ((decide (97 ≤ orI .u8 x 32)) && (decide (orI .u8 x 32 ≤ 122))) = true then some (IntKind.wrap .u8 ((IntKind.wrap .u8 (orI .u8 x 32 - 97)) + 10)) else none
theorem pstep_tab : ∀ c : UInt8, ∀ d, hexv c = some d → pstep (c.toNat : Int) = some (d : Int) := by
  have : ∀ c : UInt8, (match hexv c with | some d => decide (pstep (c.toNat : Int) = some (d : Int)) | none => true) = true := fin256 (by decide +kernel)
  intro c d h
  have h2 := this c
  rw [h] at h2
  simpa using h2
theorem parse_step {s : List UInt8} {i n d : Nat} {c : UInt8} (hi : s[i]? = some c) (hl : s.length < 1000000) (hd : hexv c = some d) (hn : n < 4096) :
    M.internal_strconv_ParseUint_k1 (s, 16) 16 1152921504606846976 16 false (n : Int) (i : Int) = M.internal_strconv_ParseUint_k1 (s, 16) 16 1152921504606846976 16 false ((16 * n + d : Nat) : Int) ((i + 1 : Nat) : Int) := by
  have hlt : i < s.length := by
    rcases Nat.lt_or_ge i s.length with h | h
    · exact h
    · rw [List.getElem?_eq_none h] at hi; cases hi
  have hd16 := hexv_lt c d hd
  conv => lhs; rw [M.internal_strconv_ParseUint_k1.eq_1]
  have h1 : ((i : Int) < ((unb s).length : Int)) := by rw [unb_length]; omega
  have h16 : ¬ ((16 : Int) = 0) := by decide
  have h95 : (decide ((c.toNat : Int) = 95) && decide ((16 : Int) = 0)) = false := by simp
  simp only [h1, decide_true, if_true, ix_n, unb_get, hi, Option.map_some, Option.bind_eq_bind, Option.bind_some, h95, Bool.false_eq_true, if_false]
  have e0 : M.internal_strconv_lower (c.toNat : Int) = some (orI .u8 (c.toNat : Int) 32) := rfl
  simp only [e0, Option.bind_some]
  have hp := pstep_tab c d hd
  unfold pstep at hp
  have fin : ∀ q : Option (Jn (Jn (Int × Bool) (Bool × Int)) Int), q = some (.go (d : Int)) → (q.bind fun q_381 => match q_381 with
      | .done r => some r
      | .go j_381 => if decide (IntKind.wrap .u8 16 ≤ j_381) = true then some (.done (0, false)) else if decide (1152921504606846976 ≤ (n : Int)) = true then some (.done ((IntKind.wrap .u64 ((shlI .u64 1 (IntKind.wrap .u64 16)) - 1)), false)) else
        if (decide ((IntKind.wrap .u64 ((IntKind.wrap .u64 ((n : Int) * (IntKind.wrap .u64 16))) + (IntKind.wrap .u64 j_381))) < (IntKind.wrap .u64 ((n : Int) * (IntKind.wrap .u64 16)))) || decide ((IntKind.wrap .u64 ((shlI .u64 1 (IntKind.wrap .u64 16)) - 1)) < (IntKind.wrap .u64 ((IntKind.wrap .u64 ((n : Int) * (IntKind.wrap .u64 16))) + (IntKind.wrap .u64 j_381))))) = true then
          some (.done ((IntKind.wrap .u64 ((shlI .u64 1 (IntKind.wrap .u64 16)) - 1)), false))
        else M.internal_strconv_ParseUint_k1 (s, 16) 16 1152921504606846976 16 false (IntKind.wrap .u64 ((IntKind.wrap .u64 ((n : Int) * (IntKind.wrap .u64 16))) + (IntKind.wrap .u64 j_381))) (IntKind.wrap .i64 ((i : Int) + 1))) = M.internal_strconv_ParseUint_k1 (s, 16) 16 1152921504606846976 16 false ((16 * n + d : Nat) : Int) ((i + 1 : Nat) : Int) := by
    rintro q rfl
    simp only [Option.bind_some]
    have u16 : IntKind.wrap .u8 16 = 16 := by decide
    have v16 : IntKind.wrap .u64 16 = 16 := by decide
    have m16 : IntKind.wrap .u64 ((shlI .u64 1 16) - 1) = 65535 := by decide
    rw [u16, v16, m16, wu64 (x := (n : Int) * 16) (by omega) (by omega), wu64 (x := (d : Int)) (by omega) (by omega), wu64 (x := (n : Int) * 16 + (d : Int)) (by omega) (by omega), w1 (by omega)]
    rw [if_neg (by simp; omega), if_neg (by simp; omega), if_neg (by simp; omega)]
    congr 1
    omega
  refine fin _ ?_
  by_cases cd : ((decide (48 ≤ (c.toNat : Int))) && (decide ((c.toNat : Int) ≤ 57))) = true
  · rw [if_pos cd] at hp ⊢
    simp only [Option.some.injEq] at hp
    rw [hp]
  · rw [if_neg cd] at hp ⊢
    have ej : (if decide (97 ≤ orI .u8 (c.toNat : Int) 32) = true then some (decide (orI .u8 (c.toNat : Int) 32 ≤ 122)) else some false) = some ((decide (97 ≤ orI .u8 (c.toNat : Int) 32)) && (decide (orI .u8 (c.toNat : Int) 32 ≤ 122))) := by
      cases decide (97 ≤ orI .u8 (c.toNat : Int) 32) <;> simp
    rw [ej]
    simp only [Option.bind_some]
    by_cases cl : ((decide (97 ≤ orI .u8 (c.toNat : Int) 32)) && (decide (orI .u8 (c.toNat : Int) 32 ≤ 122))) = true
    · rw [if_pos cl] at hp ⊢
      simp only [Option.some.injEq] at hp
      rw [hp]
    · rw [if_neg cl] at hp; cases hp
theorem parseUint4 {a b c d : UInt8} {ha hb hc hd : Nat} (h1 : hexv a = some ha) (h2 : hexv b = some hb) (h3 : hexv c = some hc) (h4 : hexv d = some hd) :
    M.strconv_ParseUint [a, b, c, d] 16 16 = some ((((16 * (16 * (16 * ha + hb) + hc) + hd : Nat)) : Int), true) := by
  have l1 := hexv_lt a ha h1
  have l2 := hexv_lt b hb h2
  have l3 := hexv_lt c hc h3
  have l4 := hexv_lt d hd h4
  have s1 := parse_step (s := [a, b, c, d]) (i := 0) (n := 0) (d := ha) (c := a) rfl (by simp) h1 (by omega)
  have s2 := parse_step (s := [a, b, c, d]) (i := 1) (n := 16 * 0 + ha) (d := hb) (c := b) rfl (by simp) h2 (by omega)
  have s3 := parse_step (s := [a, b, c, d]) (i := 2) (n := 16 * (16 * 0 + ha) + hb) (d := hc) (c := c) rfl (by simp) h3 (by omega)
  have s4 := parse_step (s := [a, b, c, d]) (i := 3) (n := 16 * (16 * (16 * 0 + ha) + hb) + hc) (d := hd) (c := d) rfl (by simp) h4 (by omega)
  have s5 : M.internal_strconv_ParseUint_k1 ([a, b, c, d], 16) 16 1152921504606846976 16 false ((16 * (16 * (16 * (16 * 0 + ha) + hb) + hc) + hd : Nat) : Int) ((3 + 1 : Nat) : Int) = some (.go (false, ((16 * (16 * (16 * (16 * 0 + ha) + hb) + hc) + hd : Nat) : Int))) := by
    rw [M.internal_strconv_ParseUint_k1.eq_1]
    simp [unb]
  have s6 : M.internal_strconv_ParseUint_k1 ([a, b, c, d], 16) 16 1152921504606846976 16 false 0 0 = _ := s1.trans (s2.trans (s3.trans (s4.trans s5)))
  unfold M.strconv_ParseUint M.internal_strconv_ParseUint
  have e1 : IntKind.wrap .u64 16 = 16 := by decide
  simp [e1, chk_ok, s6]
/-- The number of a \u and its four digits. -/
def unit (s : List UInt8) : Option (Nat × List UInt8) :=
  match s with
  | x :: y :: a :: b :: c :: d :: r => if x = 92 ∧ y = 117 then (hexv a).bind fun ha => (hexv b).bind fun hb => (hexv c).bind fun hc => (hexv d).bind fun hd => some (16 * (16 * (16 * ha + hb) + hc) + hd, r) else none
  | _ => none
def oRs {α β : Type} (f : α → β) : Option α → Rs β
  | some a => .ok (f a)
  | none => .pan 20
theorem unit_lt {s r : List UInt8} {n : Nat} (h : unit s = some (n, r)) : n < 65536 ∧ r.length + 6 = s.length := by
  unfold unit at h
  split at h
  · rename_i x y a b c d r'
    split at h
    · obtain ⟨ha, h1, h⟩ := Option.bind_eq_some_iff.1 h
      obtain ⟨hb, h2, h⟩ := Option.bind_eq_some_iff.1 h
      obtain ⟨hc, h3, h⟩ := Option.bind_eq_some_iff.1 h
      obtain ⟨hd, h4, h⟩ := Option.bind_eq_some_iff.1 h
      have l1 := hexv_lt _ _ h1
      have l2 := hexv_lt _ _ h2
      have l3 := hexv_lt _ _ h3
      have l4 := hexv_lt _ _ h4
      cases h
      exact ⟨by omega, by simp⟩
    · cases h
  · cases h
theorem json_unit_eq (s : List UInt8) (hs : s.length < 1000000000) : M.json_reader_unit ⟨s⟩ = some (oRs (fun x => (((x.1 : Nat) : Int), (⟨x.2⟩ : T_json_reader))) (unit s)) := by
  unfold M.json_reader_unit
  rw [cutPrefix_eq]
  have shp : (∃ t, s = 92 :: 117 :: t) ∨ ((([92, 117] : List UInt8).isPrefixOf s) = false ∧ unit s = none) := by
    match s with
    | [] => exact .inr ⟨rfl, rfl⟩
    | [x] => exact .inr ⟨by simp [List.isPrefixOf], rfl⟩
    | x :: y :: t =>
      by_cases hx : x = 92 ∧ y = 117
      · obtain ⟨rfl, rfl⟩ := hx; exact .inl ⟨t, rfl⟩
      · refine .inr ⟨?_, ?_⟩
        · simp only [List.isPrefixOf, Bool.and_true, Bool.and_eq_false_iff, beq_eq_false_iff_ne]
          by_cases h1 : x = 92
          · exact .inr fun e => hx ⟨h1, e.symm⟩
          · exact .inl fun e => h1 e.symm
        · unfold unit
          split
          · rename_i h; injection h with e1 e2; injection e2 with e3 e4; subst e1 e3; rw [if_neg hx]
          · rfl
  rcases shp with ⟨t, rfl⟩ | ⟨h1, h2⟩
  · have hp : ([92, 117] : List UInt8).isPrefixOf (92 :: 117 :: t) = true := by simp [List.isPrefixOf]
    simp only [hp, if_true, List.length_cons, List.length_nil, List.drop_succ_cons, List.drop_zero, Option.bind_eq_bind, Option.bind_some, Bool.true_and]
    match t with
    | a :: b :: c :: d :: r =>
      have hl : (4 : Int) ≤ (((a :: b :: c :: d :: r).length : Nat) : Int) := by simp only [List.length_cons]; omega
      have hs4 : sub (a :: b :: c :: d :: r) 0 4 = some [a, b, c, d] := sub_0 (a := 4) (by simp)
      have hs5 : sub (a :: b :: c :: d :: r) 4 (((a :: b :: c :: d :: r).length : Nat) : Int) = some r := sub_d (a := 4) (by simp)
      simp only [hl, decide_true, if_true, hs4, hs5, Option.bind_some]
      unfold M.trim
      rw [chk_ok (by simp)]
      have ee : ((decide (Lib.trimS [a, b, c, d] [48, 49, 50, 51, 52, 53, 54, 55, 56, 57, 97, 98, 99, 100, 101, 102, 65, 66, 67, 68, 69, 70] = ([] : List UInt8)))) = ((hexv a).isSome && ((hexv b).isSome && ((hexv c).isSome && (hexv d).isSome))) := by
        rw [Bool.eq_iff_iff, decide_eq_true_iff, trimS_nil]
        have ht := hexset_tab
        unfold hexset at ht
        simp only [ht, List.mem_cons, List.not_mem_nil, or_false, forall_eq_or_imp, forall_eq, Bool.and_eq_true]
      simp only [Option.bind_eq_bind, Option.bind_some, ee, must_eq]
      unfold unit
      cases h1 : hexv a with
      | none => simp [oRs, h1]
      | some ha =>
        cases h2 : hexv b with
        | none => simp [oRs, h1, h2]
        | some hb =>
          cases h3 : hexv c with
          | none => simp [oRs, h1, h2, h3]
          | some hc =>
            cases h4 : hexv d with
            | none => simp [oRs, h1, h2, h3, h4]
            | some hd =>
              have l1 := hexv_lt a ha h1
              have l2 := hexv_lt b hb h2
              have l3 := hexv_lt c hc h3
              have l4 := hexv_lt d hd h4
              have hw : IntKind.wrap .i32 ((16 * (16 * (16 * ha + hb) + hc) + hd : Nat) : Int) = ((16 * (16 * (16 * ha + hb) + hc) + hd : Nat) : Int) := w32 (by omega) (by omega)
              have hq := parseUint4 h1 h2 h3 h4
              generalize hN : 16 * (16 * (16 * ha + hb) + hc) + hd = N at hw hq
              simp only [Option.isSome_some, Bool.true_and, if_true, hq, Option.bind_some, hw, h1, h2, h3, h4, and_self]
              simp [oRs]
              omega
    | [] => simp [unit, oRs, must_eq]
    | [_] => simp [unit, oRs, must_eq]
    | [_, _] => simp [unit, oRs, must_eq]
    | [_, _, _] => simp [unit, oRs, must_eq]
  · rw [h1, h2]
    simp [oRs, must_eq]
/-- The character of a \. -/
def esc1 (c : UInt8) : Option UInt8 := if c = 34 then some 34 else if c = 92 then some 92 else if c = 47 then some 47 else if c = 98 then some 8 else if c = 102 then some 12 else if c = 110 then some 10 else if c = 114 then some 13 else if c = 116 then some 9 else none
def lowS (n : Nat) : Bool := decide (56320 ≤ n) && decide (n ≤ 57343)
def highS (n : Nat) : Bool := decide (55296 ≤ n) && decide (n ≤ 57343)
def escd (s : List UInt8) : Option (List UInt8 × List UInt8) :=
  match s with
  | a :: c :: r => match esc1 c with
    | some x => some ([x], r)
    | none => match unit (a :: c :: r) with
      | none => none
      | some (n, r1) => if lowS n = true then none else if highS n = false then some (encS (n : Int), r1) else match unit r1 with
        | none => none
        | some (m, r2) => if lowS m = true then some (encS (65536 + ((n : Int) - 55296) * 1024 + (m : Int) - 56320), r2) else none
  | _ => none
theorem esc1_tab : ∀ c : UInt8, (match esc1 c with
    | some x => decide (0 ≤ Lib.indexByte [34, 92, 47, 98, 102, 110, 114, 116] (c.toNat : Int).toNat.toUInt8 ∧ sub ([34, 92, 47, 8, 12, 10, 13, 9] : List UInt8) (Lib.indexByte [34, 92, 47, 98, 102, 110, 114, 116] (c.toNat : Int).toNat.toUInt8) (IntKind.wrap .i64 (Lib.indexByte [34, 92, 47, 98, 102, 110, 114, 116] (c.toNat : Int).toNat.toUInt8 + 1)) = some [x])
    | none => decide (¬ 0 ≤ Lib.indexByte [34, 92, 47, 98, 102, 110, 114, 116] (c.toNat : Int).toNat.toUInt8)) = true := fin256 (by decide +kernel)
theorem encS_len (n : Int) : (encS n).length ≤ 4 := by
  unfold encS Utf8.encode
  repeat' split
  all_goals (try simp)
  all_goals (repeat' split)
  all_goals (simp [ByteArray.size])
theorem escd_len {s t r : List UInt8} (h : escd s = some (t, r)) : t.length ≤ 4 ∧ r.length + 2 ≤ s.length := by
  unfold escd at h
  split at h
  · rename_i a c r'
    split at h
    · cases h; simp
    · split at h
      · cases h
      · rename_i n r1 hu
        have := unit_lt hu
        split at h
        · cases h
        · split at h
          · simp only [Option.some.injEq, Prod.mk.injEq] at h
            obtain ⟨rfl, rfl⟩ := h
            have h9 := encS_len (n : Int)
            simp only [List.length_cons] at *
            exact ⟨h9, by omega⟩
          · split at h
            · cases h
            · rename_i m r2 hu2
              have := unit_lt hu2
              split at h
              · simp only [Option.some.injEq, Prod.mk.injEq] at h
                obtain ⟨rfl, rfl⟩ := h
                have h9 := encS_len (65536 + ((n : Int) - 55296) * 1024 + (m : Int) - 56320)
                simp only [List.length_cons] at *
                exact ⟨h9, by omega⟩
              · cases h
  · cases h
theorem surr_eq {n m : Int} (h1 : 55296 ≤ n) (h2 : n ≤ 57343) (h3 : 56320 ≤ m) (h4 : m ≤ 57343) :
    IntKind.wrap .i32 (IntKind.wrap .i32 (IntKind.wrap .i32 (65536 + shlI .i32 (IntKind.wrap .i32 (n - 55296)) 10) + m) - 56320) = 65536 + (n - 55296) * 1024 + m - 56320 := by
  have s2 : shlI .i32 (n - 55296) 10 = (n - 55296) * 1024 := by
    unfold shlI
    have : min (10 : Int).toNat IntKind.i32.bits = 10 := by decide
    have h10 : (2 : Int) ^ 10 = 1024 := by decide
    rw [this, h10, w32 (by omega) (by omega)]
  rw [w32 (x := n - 55296) (by omega) (by omega), s2, w32 (x := 65536 + (n - 55296) * 1024) (by omega) (by omega), w32 (x := 65536 + (n - 55296) * 1024 + m) (by omega) (by omega), w32 (by omega) (by omega)]
theorem rng1 (n : Nat) : (decide ((n : Int) < 56320) || decide (57343 < (n : Int))) = !lowS n := by
  unfold lowS
  rw [Bool.eq_iff_iff, Bool.or_eq_true, Bool.not_eq_true', ← Bool.not_eq_true, Bool.and_eq_true]; simp only [decide_eq_true_eq]; omega
theorem rng2 (n : Nat) : (decide ((n : Int) < 55296) || decide (57343 < (n : Int))) = !highS n := by
  unfold highS
  rw [Bool.eq_iff_iff, Bool.or_eq_true, Bool.not_eq_true', ← Bool.not_eq_true, Bool.and_eq_true]; simp only [decide_eq_true_eq]; omega
theorem rng3 (m : Nat) : (decide (56320 ≤ (m : Int)) && decide ((m : Int) ≤ 57343)) = lowS m := by
  unfold lowS
  rw [Bool.eq_iff_iff, Bool.and_eq_true, Bool.and_eq_true]; simp only [decide_eq_true_eq]; omega
theorem highS_t {n : Nat} (h : highS n = true) : 55296 ≤ (n : Int) ∧ (n : Int) ≤ 57343 := by
  unfold highS at h
  rw [Bool.and_eq_true] at h; simp only [decide_eq_true_eq] at h; omega
theorem lowS_t {n : Nat} (h : lowS n = true) : 56320 ≤ (n : Int) ∧ (n : Int) ≤ 57343 := by
  unfold lowS at h
  rw [Bool.and_eq_true] at h; simp only [decide_eq_true_eq] at h; omega
theorem json_escaped_eq (s : List UInt8) (hs : s.length < 1000000000) : M.json_reader_escaped ⟨s⟩ = some (oRs (fun x => (x.1, (⟨x.2⟩ : T_json_reader))) (escd s)) := by
  unfold M.json_reader_escaped
  match s with
  | [] => simp [must_eq, escd, oRs]
  | [_] => simp [must_eq, escd, oRs]
  | a :: c :: r =>
    have hl : (2 : Int) ≤ (((a :: c :: r).length : Nat) : Int) := by simp only [List.length_cons]; omega
    have hsub : sub (a :: c :: r) 2 (((a :: c :: r).length : Nat) : Int) = some r := sub_d (a := 2) (by simp)
    simp only [hl, decide_true, must_t, if_true, Option.bind_eq_bind, Option.bind_some, ix_1, List.getElem?_cons_succ, List.getElem?_cons_zero]
    unfold escd
    have ht := esc1_tab c
    unfold M.indexByte
    simp only [Option.bind_some]
    cases he : esc1 c with
    | some x =>
      rw [he] at ht
      simp only [decide_eq_true_eq] at ht
      rw [if_pos (by simpa using ht.1), hsub]
      simp only [Option.bind_some]
      rw [ht.2]
      simp [oRs]
    | none =>
      rw [he] at ht
      simp only [decide_eq_true_eq] at ht
      rw [if_neg (by simpa using ht), json_unit_eq _ hs]
      simp only [Option.bind_some]
      cases hu : unit (a :: c :: r) with
      | none => simp [oRs]
      | some p =>
        obtain ⟨n, r1⟩ := p
        obtain ⟨u1, u2⟩ := unit_lt hu
        simp only [oRs]
        rw [rng1, must_eq, rng2]
        simp only [Option.bind_some]
        cases c1 : lowS n with
        | true => simp
        | false =>
          simp only [Bool.not_false, if_true, Bool.false_eq_true, if_false]
          cases c2 : highS n with
          | false => simp
          | true =>
            simp only [Bool.not_true, Bool.false_eq_true, if_false, Bool.true_eq_false]
            rw [json_unit_eq _ (by omega)]
            simp only [Option.bind_some]
            cases hu2 : unit r1 with
            | none => simp [oRs]
            | some p2 =>
              obtain ⟨m, r2⟩ := p2
              obtain ⟨u3, u4⟩ := unit_lt hu2
              simp only [oRs]
              rw [rng3, must_eq]
              simp only [Option.bind_some]
              cases c3 : lowS m with
              | true =>
                obtain ⟨q1, q2⟩ := highS_t c2
                obtain ⟨q3, q4⟩ := lowS_t c3
                simp only [if_true]
                rw [surr_eq q1 q2 q3 q4]
              | false => simp
/-- A text behind its quote. -/
def txt : Nat → List UInt8 → List UInt8 → Option (List UInt8 × List UInt8)
  | 0, _, _ => none
  | _ + 1, [], _ => none
  | f + 1, c :: r, acc => if c.toNat < 32 then none else if c = 34 then (if Lib.validD acc = true then some (acc, r) else none)
    else if c = 92 then match escd (c :: r) with
      | none => none
      | some (t, r2) => txt f r2 (acc ++ t)
    else txt f r (acc ++ [c])
def text (s : List UInt8) : Option (List UInt8 × List UInt8) :=
  match s with
  | c :: r => if c = 34 then txt (r.length + 1) r [] else none
  | [] => none
theorem txt_len : ∀ (f : Nat) (s acc t r : List UInt8), txt f s acc = some (t, r) → r.length + 1 ≤ s.length ∧ t.length ≤ acc.length + 4 * s.length
  | 0, _, _, _, _, h => by simp [txt] at h
  | _ + 1, [], _, _, _, h => by simp [txt] at h
  | f + 1, c :: s, acc, t, r, h => by
    rw [txt] at h
    split at h
    · cases h
    · split at h
      · split at h
        · cases h; simp
        · cases h
      · split at h
        · split at h
          · cases h
          · rename_i t1 r1 he
            have h1 := escd_len he
            have h2 := txt_len f _ _ _ _ h
            simp only [List.length_append, List.length_cons] at *
            omega
        · have h2 := txt_len f _ _ _ _ h
          simp only [List.length_append, List.length_cons, List.length_nil] at *
          omega
theorem text_len {s t r : List UInt8} (h : text s = some (t, r)) : r.length + 2 ≤ s.length ∧ t.length ≤ 4 * s.length := by
  unfold text at h
  split at h
  · split at h
    · have := txt_len _ _ _ _ _ h
      simp only [List.length_cons, List.length_nil] at *
      omega
    · cases h
  · cases h
theorem json_text_k1 : ∀ (f : Nat) (s acc : List UInt8), s.length < f → acc.length + 4 * s.length < 4000000000 → s.length < 1000000000 →
    M.json_reader_text_k1 s (unb acc) = some (oRs (fun x => (x.1, (⟨blanks x.2⟩ : T_json_reader))) (txt f s acc)) := by
  intro f
  induction f with
  | zero => intro s acc h; omega
  | succ f ih =>
    intro s acc hf ha hs
    rw [M.json_reader_text_k1.eq_1]
    cases s with
    | nil => rfl
    | cons c r =>
      simp only [List.length_cons] at hf ha hs
      have e1 : (decide ((c :: r) = ([] : List UInt8))) = false := by simp
      have e2 : decide (32 ≤ (c.toNat : Int)) = decide (¬ c.toNat < 32) := decide_eq_decide.2 (by omega)
      have t34 : ((c.toNat : Int) = 34) ↔ c = 34 := toNat_eq (n := 34) (by omega)
      have t92 : ((c.toNat : Int) = 92) ↔ c = 92 := toNat_eq (n := 92) (by omega)
      simp only [e1, Bool.not_false, if_true, ix_0, List.getElem?_cons_zero, Option.bind_eq_bind, Option.bind_some, e2, must_eq, t34, t92]
      rw [txt]
      by_cases c32 : c.toNat < 32
      · simp [c32, oRs]
      · simp only [c32, not_false_eq_true, decide_true, if_true, if_false]
        by_cases c34 : c = 34
        · subst c34
          have hq : M.builderString (unb acc) = some acc := builderString_eq acc
          simp only [decide_true, if_true, hq, Option.bind_some]
          rw [validString_eq (by omega)]
          simp only [Option.bind_some]
          by_cases hv : Lib.validD acc = true
          · simp only [hv, if_true]
            rw [json_take_eq, take_one]
            simp [oRs]
          · simp [hv, oRs]
        · simp only [c34, decide_false, Bool.false_eq_true, if_false]
          by_cases c92 : c = 92
          · simp only [c92, decide_true, if_true]
            rw [json_escaped_eq _ (by simp only [List.length_cons]; omega)]
            simp only [Option.bind_some]
            cases he : escd (92 :: r) with
            | none => rfl
            | some p =>
              obtain ⟨t, r2⟩ := p
              have hl := escd_len he
              simp only [List.length_cons] at hl
              simp only [oRs]
              rw [writeString_eq (by simp [unb]; omega)]
              simp only [Option.bind_some]
              rw [← unb_append, ih r2 (acc ++ t) (by omega) (by simp; omega) (by omega)]
              rfl
          · simp only [c92, decide_false, Bool.false_eq_true, if_false]
            rw [writeByte_eq (by simp [unb]; omega)]
            simp only [Option.bind_some]
            have hsub : sub (c :: r) 1 (((c :: r).length : Nat) : Int) = some r := sub_d (a := 1) (by simp)
            rw [hsub]
            simp only [Option.bind_some]
            have e : unb acc ++ [(c.toNat : Int)] = unb (acc ++ [c]) := by simp [unb]
            rw [e, ih r (acc ++ [c]) (by omega) (by simp; omega) (by omega)]
theorem json_text_eq (s : List UInt8) (hs : s.length < 900000000) : M.json_reader_text ⟨s⟩ = some (oRs (fun x => (x.1, (⟨blanks x.2⟩ : T_json_reader))) (text s)) := by
  unfold M.json_reader_text
  rw [cutPrefix_eq, isPrefixOf_one]
  cases s with
  | nil => rfl
  | cons c r =>
    by_cases h : c = 34
    · subst h
      simp only [List.head?_cons, decide_true, if_true, List.length_cons, List.length_nil, List.drop_succ_cons, List.drop_zero, Option.bind_eq_bind, Option.bind_some, must_eq]
      simp only [List.length_cons] at hs
      exact json_text_k1 (r.length + 1) r [] (by omega) (by simp; omega) (by omega)
    · simp [h, must_eq, oRs, text]
end Go.Sen
namespace Go.Sen
open Go.Lk Go.Pe
theorem index_k1 {ks : List (List UInt8)} {k : List UInt8} (hl : ks.length < 1152921504606846976) : ∀ (n i : Nat), ks.length - i = n → i ≤ ks.length →
    M.slices_Index_string_string_k1 ks k (i : Int) = some (match (ks.drop i).findIdx? (fun x => decide (k = x)) with | some j => .done ((i + j : Nat) : Int) | none => .go ()) := by
  intro n
  induction n with
  | zero =>
    intro i hn hi
    rw [M.slices_Index_string_string_k1.eq_1]
    have : ¬ ((i : Int) < (ks.length : Int)) := by omega
    rw [if_neg (by simpa using this), List.drop_eq_nil_of_le (by omega)]
    rfl
  | succ n ih =>
    intro i hn hi
    have hlt : i < ks.length := by omega
    rw [M.slices_Index_string_string_k1.eq_1]
    have h1 : ((i : Int) < (ks.length : Int)) := by omega
    simp only [h1, decide_true, if_true, ix_n, List.getElem?_eq_getElem hlt, Option.bind_eq_bind, Option.bind_some]
    rw [w1 (by omega), ih (i + 1) (by omega) (by omega), List.drop_eq_getElem_cons hlt, List.findIdx?_cons]
    by_cases h : k = ks[i]
    · simp [h]
    · simp only [h, decide_false, Bool.false_eq_true, if_false]
      cases (ks.drop (i + 1)).findIdx? (fun x => decide (k = x)) with
      | none => rfl
      | some j => simp only [Option.map_some]; congr 3; omega
theorem index_eq {ks : List (List UInt8)} {k : List UInt8} (hl : ks.length < 1152921504606846976) : M.slices_Index_string_string ks k = some (match ks.findIdx? (fun x => decide (k = x)) with | some j => (j : Int) | none => -1) := by
  unfold M.slices_Index_string_string
  have h := index_k1 (k := k) hl _ 0 rfl (Nat.zero_le _)
  have h : M.slices_Index_string_string_k1 ks k 0 = _ := h
  rw [h, List.drop_zero]
  cases ks.findIdx? (fun x => decide (k = x)) with
  | none => rfl
  | some j => simp
theorem contains_eq {ks : List (List UInt8)} {k : List UInt8} (hl : ks.length < 1152921504606846976) : M.slices_Contains_string_string ks k = some (decide (k ∈ ks)) := by
  unfold M.slices_Contains_string_string
  rw [index_eq hl]
  simp only [Option.bind_eq_bind, Option.bind_some, Option.some.injEq]
  cases h : ks.findIdx? (fun x => decide (k = x)) with
  | none =>
    rw [List.findIdx?_eq_none_iff] at h
    have : ¬ k ∈ ks := fun hm => by simpa using h k hm
    simp [this]
  | some j =>
    have h2 := List.findIdx?_eq_some_iff_getElem.1 h
    obtain ⟨hj, h3, _⟩ := h2
    have : k ∈ ks := by simp at h3; rw [h3]; exact List.getElem_mem hj
    simp [this]
/-! The spec. -/
abbrev J := T_api_Json
abbrev Rd := Rs (J × List UInt8)
/-- A member's key, with the colon behind it. -/
def key1 (s : List UInt8) (ks : List (List UInt8)) : Rs (List UInt8 × List (List UInt8)) :=
  match text s with
  | none => .pan 20
  | some (k, r) => if k ∈ ks then .pan 20 else match take (blanks r) [58] with
    | none => .pan 20
    | some r2 => .ok (r2, ks ++ [k])
/-- What stands behind an opening bracket that nothing closes at once. -/
def items (vf : List UInt8 → Rd) (o : Bool) (e : UInt8) : Nat → List UInt8 → List J → List (List UInt8) → Rd
  | 0, _, _, _ => .pan 20
  | f + 1, s, l, ks => match (if o = true then key1 s ks else .ok (s, ks)) with
    | .pan c => .pan c
    | .ok (s1, ks1) => match vf s1 with
      | .pan c => .pan c
      | .ok (x, s2) => match take s2 [e] with
        | some r => .ok (⟨if o = true then 6 else 5, [], l ++ [x], ks1⟩, r)
        | none => match take s2 [44] with
          | none => .pan 20
          | some r => items vf o e f r (l ++ [x]) ks1
def nest (vf : List UInt8 → Rd) (o : Bool) (w : Nat) (s : List UInt8) : Rd :=
  if 16 ≤ w then .pan 21 else match take s [if o = true then 125 else 93] with
    | some r => .ok (⟨if o = true then 6 else 5, [], [], []⟩, r)
    | none => items vf o (if o = true then 125 else 93) (s.length + 1) s [] []
def word (s : List UInt8) : Rd :=
  match take s [110, 117, 108, 108] with
  | some r => .ok (⟨0, [], [], []⟩, r)
  | none => match take s [102, 97, 108, 115, 101] with
    | some r => .ok (⟨1, [], [], []⟩, r)
    | none => match take s [116, 114, 117, 101] with
      | some r => .ok (⟨2, [], [], []⟩, r)
      | none => if num s = 0 then .pan 20 else .ok (⟨3, s.take (num s), [], []⟩, blanks (s.drop (num s)))
def val : Nat → List UInt8 → Nat → Rd
  | 0, _, _ => .pan 20
  | f + 1, s, w => match text s with
    | some (t, r) => .ok (⟨4, t, [], []⟩, blanks r)
    | none => if s.head? = some 34 then .pan 20 else match take s [91] with
      | some r => nest (fun s => val f s (w + 1)) false w r
      | none => match take s [123] with
        | some r => nest (fun s => val f s (w + 1)) true w r
        | none => word s
def cv (x : J × List UInt8) : J × T_json_reader := (x.1, ⟨x.2⟩)
def mRs {α β : Type} (f : α → β) : Rs α → Rs β
  | .ok a => .ok (f a)
  | .pan c => .pan c
/-! How long what is left is. -/
theorem key1_len {s : List UInt8} {ks : List (List UInt8)} {r : List UInt8} {ks2 : List (List UInt8)} (h : key1 s ks = .ok (r, ks2)) : r.length + 3 ≤ s.length ∧ ks2.length = ks.length + 1 := by
  unfold key1 at h
  split at h
  · cases h
  · rename_i k r1 ht
    have h1 := text_len ht
    split at h
    · cases h
    · split at h
      · cases h
      · rename_i r2 ht2
        have h2 := take_len ht2
        have h3 := blanks_len r1
        cases h
        simp only [List.length_cons, List.length_nil] at h2
        exact ⟨by omega, by simp⟩
theorem items_len {vf : List UInt8 → Rd} {o : Bool} {e : UInt8} (hv : ∀ s x r, vf s = .ok (x, r) → r.length + 1 ≤ s.length) : ∀ (f : Nat) (s : List UInt8) (l : List J) (ks : List (List UInt8)) (x : J) (r : List UInt8), items vf o e f s l ks = .ok (x, r) → r.length + 1 ≤ s.length := by
  intro f
  induction f with
  | zero => intro s l ks x r h; simp [items] at h
  | succ f ih =>
    intro s l ks x r h
    rw [items] at h
    split at h
    · cases h
    · rename_i s1 ks1 hk
      have h1 : s1.length ≤ s.length := by
        split at hk
        · have := key1_len hk; omega
        · cases hk; omega
      split at h
      · cases h
      · rename_i x2 s2 hx
        have h2 := hv _ _ _ hx
        split at h
        · rename_i r2 ht
          have h3 := take_len ht
          cases h
          omega
        · split at h
          · cases h
          · rename_i r2 ht
            have h3 := take_len ht
            have h4 := ih _ _ _ _ _ h
            omega
theorem nest_len {vf : List UInt8 → Rd} {o : Bool} {w : Nat} (hv : ∀ s x r, vf s = .ok (x, r) → r.length + 1 ≤ s.length) {s r : List UInt8} {x : J} (h : nest vf o w s = .ok (x, r)) : r.length + 1 ≤ s.length := by
  unfold nest at h
  split at h
  · cases h
  · split at h
    · rename_i r2 ht
      have := take_len ht
      cases h
      simp only [List.length_cons, List.length_nil] at this
      omega
    · exact items_len hv _ _ _ _ _ _ h
theorem word_len {s r : List UInt8} {x : J} (h : word s = .ok (x, r)) : r.length + 1 ≤ s.length := by
  unfold word at h
  split at h
  · rename_i r2 ht
    have := take_len ht
    cases h
    simp only [List.length_cons, List.length_nil] at this
    omega
  · split at h
    · rename_i r2 ht
      have := take_len ht
      cases h
      simp only [List.length_cons, List.length_nil] at this
      omega
    · split at h
      · rename_i r2 ht
        have := take_len ht
        cases h
        simp only [List.length_cons, List.length_nil] at this
        omega
      · split at h
        · cases h
        · rename_i hn
          cases h
          have h1 := blanks_len (s.drop (num s))
          have h2 := num_le s
          rw [List.length_drop] at h1
          omega
theorem val_len : ∀ (f : Nat) (s : List UInt8) (w : Nat) (x : J) (r : List UInt8), val f s w = .ok (x, r) → r.length + 1 ≤ s.length := by
  intro f
  induction f with
  | zero => intro s w x r h; simp [val] at h
  | succ f ih =>
    intro s w x r h
    rw [val] at h
    split at h
    · rename_i t r2 ht
      have h1 := text_len ht
      have h2 := blanks_len r2
      cases h
      omega
    · split at h
      · cases h
      · split at h
        · rename_i r2 ht
          have h1 := take_len ht
          have h2 := nest_len (fun s x r => ih s (w + 1) x r) h
          omega
        · split at h
          · rename_i r2 ht
            have h1 := take_len ht
            have h2 := nest_len (fun s x r => ih s (w + 1) x r) h
            omega
          · exact word_len h
/-! The program's. -/
theorem word_k1 (s : List UInt8) : M.json_reader_value_k1 0 s = some (match take s [110, 117, 108, 108] with
    | some r => .done (.ok (⟨0, [], [], []⟩, ⟨r⟩))
    | none => match take s [102, 97, 108, 115, 101] with
      | some r => .done (.ok (⟨1, [], [], []⟩, ⟨r⟩))
      | none => match take s [116, 114, 117, 101] with
        | some r => .done (.ok (⟨2, [], [], []⟩, ⟨r⟩))
        | none => .go s) := by
  have e0 : IntKind.wrap .i64 (0 + 1) = 1 := by decide
  have e1 : IntKind.wrap .i64 (1 + 1) = 2 := by decide
  have e2 : IntKind.wrap .i64 (2 + 1) = 3 := by decide
  have i2 : ∀ {α : Type} (l : List α), ix l 2 = l[2]? := fun l => by simp [ix]
  rw [M.json_reader_value_k1.eq_1]
  have h0 : (0 : Int) < 3 := by decide
  have h1 : (1 : Int) < 3 := by decide
  have h2 : (2 : Int) < 3 := by decide
  simp only [List.length_cons, List.length_nil, ix_0, List.getElem?_cons_zero, Option.bind_eq_bind, Option.bind_some, json_take_eq, e0]
  rw [if_pos (by decide)]
  cases take s [110, 117, 108, 108] with
  | some r => rfl
  | none =>
    simp only [Bool.false_eq_true, if_false]
    rw [M.json_reader_value_k1.eq_1]
    simp only [List.length_cons, List.length_nil, ix_1, List.getElem?_cons_zero, List.getElem?_cons_succ, Option.bind_eq_bind, Option.bind_some, json_take_eq, e1]
    rw [if_pos (by decide)]
    cases take s [102, 97, 108, 115, 101] with
    | some r => rfl
    | none =>
      simp only [Bool.false_eq_true, if_false]
      rw [M.json_reader_value_k1.eq_1]
      simp only [List.length_cons, List.length_nil, i2, List.getElem?_cons_zero, List.getElem?_cons_succ, Option.bind_eq_bind, Option.bind_some, json_take_eq, e2]
      rw [if_pos (by decide)]
      cases take s [116, 114, 117, 101] with
      | some r => rfl
      | none =>
        simp only [Bool.false_eq_true, if_false]
        rw [M.json_reader_value_k1.eq_1]
        rw [if_neg (by decide)]
theorem nested_k1 {o : Bool} {w : Nat} (hw : w ≤ 16) {self : T_json_reader → Int → Option (Rs (J × T_json_reader))} {vf : List UInt8 → Rd} {N : Nat} (hN : N < 900000000)
    (hs : ∀ s : List UInt8, s.length ≤ N → self ⟨s⟩ ((w + 1 : Nat) : Int) = some (mRs cv (vf s))) (hv : ∀ s x r, vf s = .ok (x, r) → r.length + 1 ≤ s.length) :
    ∀ (f : Nat) (s : List UInt8) (l : List J) (ks : List (List UInt8)), s.length < f → s.length ≤ N → l.length + s.length ≤ N → ks.length + s.length ≤ N →
    M.json_reader_nested_k1 (if o = true then 6 else 5) self (w : Int) [if o = true then 125 else 93] s l ks = some (mRs cv (items vf o (if o = true then 125 else 93) f s l ks)) := by
  intro f
  induction f with
  | zero => intro s l ks h; omega
  | succ f ih =>
    intro s l ks hf hn hl hk
    rw [M.json_reader_nested_k1.eq_1, items]
    have step : ∀ (s1 : List UInt8) (ks1 : List (List UInt8)), s1.length ≤ s.length → ks1.length + s1.length ≤ N → (do
        let a_209 ← self (T_json_reader.mk s1) (IntKind.wrap .i64 ((w : Int) + 1))
        match a_209 with
        | .pan e_212 => some (.pan e_212)
        | .ok a_211 =>
          let l_213 ← app 72 l [a_211.1]
          let a_214 ← M.json_reader_take a_211.2 [if o = true then 125 else 93]
          if a_214.1 then
            some (.ok ((T_api_Json.mk (if o = true then 6 else 5) ([] : List UInt8) l_213 ks1), a_214.2))
          else
            let a_216 ← M.json_reader_take a_214.2 ([44] : List UInt8)
            let a_218 ← M.json_must a_216.1 20
            match a_218 with
            | .pan e_221 => some (.pan e_221)
            | .ok a_220 => M.json_reader_nested_k1 (if o = true then 6 else 5) self (w : Int) [if o = true then 125 else 93] a_216.2.gs l_213 ks1 : Option (Rs (J × T_json_reader))) = some (mRs cv (match vf s1 with
      | .pan c => .pan c
      | .ok (x, s2) => match take s2 [if o = true then 125 else 93] with
        | some r => .ok (⟨if o = true then 6 else 5, [], l ++ [x], ks1⟩, r)
        | none => match take s2 [44] with
          | none => .pan 20
          | some r => items vf o (if o = true then 125 else 93) f r (l ++ [x]) ks1)) := by
      intro s1 ks1 h1 h2
      rw [w1 (by omega), hs s1 (by omega)]
      simp only [Option.bind_eq_bind, Option.bind_some]
      cases hx : vf s1 with
      | pan c => rfl
      | ok p =>
        obtain ⟨x, s2⟩ := p
        have h3 := hv _ _ _ hx
        simp only [mRs, cv]
        rw [app_ok (by simp only [List.length_cons, List.length_nil]; omega), json_take_eq]
        simp only [Option.bind_some]
        cases ht : take s2 [if o = true then 125 else 93] with
        | some r => simp
        | none =>
          simp only [Bool.false_eq_true, if_false]
          rw [json_take_eq]
          simp only [Option.bind_some]
          cases ht2 : take s2 [44] with
          | none => simp [must_eq]
          | some r =>
            have h4 := take_len ht2
            simp only [List.length_cons, List.length_nil] at h4
            simp only [must_t, Option.bind_some]
            rw [ih r _ ks1 (by omega) (by omega) (by simp; omega) (by omega)]
            rfl
    cases o with
    | false =>
      have st := step s ks (Nat.le_refl _) hk
      simp only [Bool.false_eq_true, if_false, Option.bind_eq_bind] at st ⊢
      have e5 : decide ((5 : Int) = 6) = false := by decide
      simp only [e5, Bool.false_eq_true, if_false, Option.bind_some]
      exact st
    | true =>
      simp only [if_true, Option.bind_eq_bind] at step ⊢
      simp only [decide_true, if_true]
      rw [json_text_eq _ (by omega)]
      simp only [Option.bind_some]
      unfold key1
      cases ht : text s with
      | none => rfl
      | some p =>
        obtain ⟨k, r⟩ := p
        have h1 := text_len ht
        have h2 := blanks_len r
        simp only [oRs]
        rw [contains_eq (by omega)]
        simp only [Option.bind_some]
        by_cases hm : k ∈ ks
        · simp [hm, must_eq, mRs]
        · simp only [hm, decide_false, Bool.not_false, if_true, if_false]
          rw [json_take_eq]
          simp only [Option.bind_some]
          cases ht2 : take (blanks r) [58] with
          | none => simp [must_eq, mRs]
          | some r2 =>
            have h3 := take_len ht2
            simp only [List.length_cons, List.length_nil] at h3
            simp only [must_t, Option.bind_some]
            rw [app_ok (by simp only [List.length_cons, List.length_nil]; omega)]
            simp only [Option.bind_some]
            exact step r2 (ks ++ [k]) (by omega) (by simp; omega)
theorem json_value_eq {N : Nat} (hN : N < 900000000) : ∀ (f F : Nat) (s : List UInt8) (w : Nat), w ≤ 16 → 17 ≤ f + w → 2 * f ≤ F → s.length ≤ N → M.json_reader_value F ⟨s⟩ (w : Int) = some (mRs cv (val f s w)) := by
  intro f
  induction f with
  | zero => intro F s w h1 h2; omega
  | succ f ih =>
    intro F s w hw hf hF hn
    obtain ⟨F', rfl⟩ : ∃ F', F = F' + 2 := ⟨F - 2, by omega⟩
    rw [M.json_reader_value, val]
    rw [hasPrefix_eq, isPrefixOf_one]
    simp only [Option.bind_eq_bind, Option.bind_some]
    by_cases h34 : s.head? = some 34
    · simp only [h34, decide_true, if_true]
      rw [json_text_eq _ (by omega)]
      simp only [Option.bind_some]
      cases text s with
      | none => rfl
      | some p => rfl
    · have ht : text s = none := by
        unfold text
        cases s with
        | nil => rfl
        | cons c r => simp at h34; simp [h34]
      simp only [h34, decide_false, Bool.false_eq_true, if_false, ht]
      have nes : ∀ (o : Bool) (r : List UInt8), r.length ≤ N → M.json_reader_nested (F' + 1) ⟨r⟩ (if o = true then 6 else 5) (w : Int) [if o = true then 125 else 93] = some (mRs cv (nest (fun s => val f s (w + 1)) o w r)) := by
        intro o r hr
        rw [M.json_reader_nested]
        unfold nest
        by_cases h16 : 16 ≤ w
        · have : ¬ ((w : Int) < 16) := by omega
          simp [this, h16, must_eq, mRs]
        · have : ((w : Int) < 16) := by omega
          simp only [this, decide_true, must_t, Option.bind_eq_bind, Option.bind_some, h16, if_false, json_take_eq]
          cases hk : take r [if o = true then 125 else 93] with
          | some r2 => rfl
          | none =>
            simp only [Bool.false_eq_true, if_false]
            exact nested_k1 (o := o) (w := w) hw hN (fun s hs => ih F' s (w + 1) (by omega) (by omega) (by omega) hs) (fun s x r => val_len f s (w + 1) x r) (r.length + 1) r [] [] (by omega) hr (by simp; omega) (by simp; omega)
      rw [json_take_eq]
      simp only [Option.bind_some]
      cases h91 : take s [91] with
      | some r =>
        have hl := take_len h91
        have hq := nes false r (by simp at hl; omega)
        simp only [Bool.false_eq_true, if_false] at hq
        simp only [if_true, hq, Option.bind_some]
        cases nest (fun s => val f s (w + 1)) false w r with
        | ok p => rfl
        | pan c => rfl
      | none =>
        simp only [Bool.false_eq_true, if_false, json_take_eq, Option.bind_some]
        cases h123 : take s [123] with
        | some r =>
          have hl := take_len h123
          have hq := nes true r (by simp at hl; omega)
          simp only [if_true] at hq
          simp only [if_true, hq, Option.bind_some]
          cases nest (fun s => val f s (w + 1)) true w r with
          | ok p => rfl
          | pan c => rfl
        | none =>
          simp only [Bool.false_eq_true, if_false, word_k1, Option.bind_some]
          unfold word
          cases take s [110, 117, 108, 108] with
          | some r => rfl
          | none =>
            simp only
            cases take s [102, 97, 108, 115, 101] with
            | some r => rfl
            | none =>
              simp only
              cases take s [116, 114, 117, 101] with
              | some r => rfl
              | none =>
                simp only
                rw [json_number_eq (by omega)]
                simp only [Option.bind_some]
                by_cases hz : num s = 0
                · simp [hz, must_eq, mRs]
                · have hp : (0 : Int) < (num s : Int) := by omega
                  have hl := num_le s
                  have hd : take s (s.take (num s)) = some (blanks (s.drop (num s))) := by
                    unfold take
                    have hpre : (s.take (num s)).isPrefixOf s = true := by rw [List.isPrefixOf_iff_prefix]; exact List.take_prefix _ _
                    have hlen : (s.take (num s)).length = num s := by rw [List.length_take]; omega
                    rw [if_pos hpre, hlen]
                  simp only [hp, decide_true, must_t, Option.bind_some, sub_0 hl, json_take_eq, hd, hz, if_false]
                  rfl
/-- Parse's answer. -/
def parse (s : List UInt8) : J × Int := if 16384 < s.length then (⟨0, [], [], []⟩, 22) else match val 17 (blanks s) 0 with
  | .pan c => (⟨0, [], [], []⟩, c)
  | .ok (x, r) => if r = [] then (x, 0) else (⟨0, [], [], []⟩, 20)
theorem json_Parse_eq (s : List UInt8) {f : Nat} (hf : 34 ≤ f) : M.json_Parse f s = some (parse s) := by
  unfold M.json_Parse parse
  by_cases hl : 16384 < s.length
  · have : (16384 : Int) < (s.length : Int) := by omega
    simp [hl, this]
  · have : ¬ (16384 : Int) < (s.length : Int) := by omega
    have hb := blanks_len s
    have hq := json_value_eq (N := 16384) (by omega) 17 f (blanks s) 0 (by omega) (by omega) (by omega) (by omega)
    have hq : M.json_reader_value f ⟨blanks s⟩ 0 = _ := hq
    simp only [this, decide_false, Bool.false_eq_true, if_false, hl, json_blanks_eq, Option.bind_eq_bind, Option.bind_some, hq]
    cases val 17 (blanks s) 0 with
    | pan c => rfl
    | ok p =>
      obtain ⟨x, r⟩ := p
      simp only [mRs, cv]
      by_cases hr : r = []
      · simp [hr, must_eq]
      · simp [hr, must_eq]
end Go.Sen
