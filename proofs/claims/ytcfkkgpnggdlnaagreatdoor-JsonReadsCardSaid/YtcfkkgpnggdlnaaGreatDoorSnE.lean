/- JSON, plainly: Check in the program and in the document's answer. -/
import Derived.Test.YtcfkkgpnggdlnaaGreatDoorSnA
set_option linter.all false
namespace Go.Sen
open Go.Lk Go.Pe
theorem must_eq (b : Bool) (e : Int) : M.json_must b e = some (if b = true then .ok () else .pan e) := by cases b <;> simp [M.json_must]
theorem chkL_cons (x : T_api_Json) (xs : List T_api_Json) (w : Nat) : chkL (x :: xs) w = if chkJ x w = 0 then chkL xs w else chkJ x w := by simp only [chkL]
theorem checked_k1 {v : T_api_Json} {self : T_api_Json → Int → Option (Rs Unit)} {w : Nat} (hw : w ≤ 16) (hl : v.gList.length < 1152921504606846976) (hs : ∀ x ∈ v.gList, self x ((w + 1 : Nat) : Int) = some (rsOf (chkJ x (w + 1)))) :
    ∀ (n i : Nat), v.gList.length - i = n → i ≤ v.gList.length → M.json_checked_k1 v self (w : Int) (i : Int) = some (rsOf (chkL (v.gList.drop i) (w + 1))) := by
  intro n
  induction n with
  | zero =>
    intro i hn hi
    rw [M.json_checked_k1.eq_1]
    have : ¬ ((i : Int) < (v.gList.length : Int)) := by omega
    rw [if_neg (by simpa using this), List.drop_eq_nil_of_le (by omega)]
    rfl
  | succ n ih =>
    intro i hn hi
    have hlt : i < v.gList.length := by omega
    rw [M.json_checked_k1.eq_1]
    have h1 : ((i : Int) < (v.gList.length : Int)) := by omega
    simp only [h1, decide_true, if_true, ix_n, List.getElem?_eq_getElem hlt, Option.bind_eq_bind, Option.bind_some]
    rw [w1 (n := w) (by omega), hs _ (List.getElem_mem hlt), w1 (by omega), ih (i + 1) (by omega) (by omega), List.drop_eq_getElem_cons hlt, chkL_cons]
    simp only [Option.bind_some]
    unfold rsOf
    by_cases hc : chkJ v.gList[i] (w + 1) = 0
    · simp [hc]
    · simp [hc]
def Small (v : T_api_Json) : Prop := v.sz < 1000000000
theorem Small.mem {v x : T_api_Json} (h : Small v) (hx : x ∈ v.gList) : Small x := by
  unfold Small at *
  have := szs_mem hx
  rw [T_api_Json.sz_eq v] at h
  omega
theorem Small.parts {v : T_api_Json} (h : Small v) : v.gText.length < 1000000000 ∧ v.gList.length < 1000000000 ∧ v.gKeys.length < 1000000000 ∧ ∀ k ∈ v.gKeys, k.length < 1000000000 := by
  unfold Small at h
  rw [T_api_Json.sz_eq] at h
  have h1 := szs_len v.gList
  have h2 := kys_len v.gKeys
  exact ⟨by omega, by omega, by omega, fun k hk => by have := kys_mem hk; omega⟩
theorem json_checked_eq : ∀ (f : Nat) (v : T_api_Json) (w : Nat), w ≤ 16 → 17 ≤ f + w → Small v → M.json_checked f v (w : Int) = some (rsOf (chkJ v w)) := by
  intro f
  induction f with
  | zero => intro v w h1 h2; omega
  | succ f ih =>
    intro v w hw hf hsm
    obtain ⟨s1, s2, s3, s4⟩ := hsm.parts
    have hk1 : (v.gList = [] ∨ w < 16) → M.json_checked_k1 v (M.json_checked f) (w : Int) 0 = some (rsOf (chkL v.gList (w + 1))) := by
      intro h
      refine checked_k1 hw (by omega) (fun x hx => ?_) _ 0 rfl (Nat.zero_le _)
      rcases h with h | h
      · rw [h] at hx; cases hx
      · exact ih x (w + 1) (by omega) (by omega) (hsm.mem hx)
    rw [M.json_checked, chkJ_eq, json_form (.inr trivial)]
    simp only [must_eq, containsFunc_eq (fun k hk => by have := s4 k hk; omega) (show v.gKeys.length < 1152921504606846976 by omega), single_eq (show v.gKeys.length * 16 ≤ 140737488355328 by omega), Option.bind_eq_bind, Option.bind_some]
    have hj : (if (!(!v.gKeys.all Lib.validD)) = true then some (decide v.gKeys.Nodup) else some false) = some (v.gKeys.all Lib.validD && decide v.gKeys.Nodup) := by
      cases v.gKeys.all Lib.validD <;> simp
    rw [hj]
    simp only [Option.bind_some]
    have hn1 := json_number_eq (s := v.gText) (by omega)
    have hn2 := validString_eq (s := v.gText) (by omega)
    generalize hb5 : (v.gKeys.all Lib.validD && decide v.gKeys.Nodup) = b5
    generalize hb4 : (decide (v.gKind = 6) && decide ((v.gKeys.length : Int) = (v.gList.length : Int)) || decide ((v.gKeys.length : Int) = 0) && !decide (v.gKind = 6)) = b4
    generalize hb2 : (decide (0 ≤ v.gKind) && decide (v.gKind < 7)) = b2
    by_cases hd : (v.gKind = 5 ∨ v.gKind = 6) ∧ 16 ≤ w
    · have : (!(decide (v.gKind = 5) || decide (v.gKind = 6)) || decide ((w : Int) < 16)) = false := by
        rw [← Bool.not_eq_true, Bool.or_eq_true, Bool.not_eq_true', ← Bool.not_eq_true, Bool.or_eq_true]
        simp only [decide_eq_true_eq]
        omega
      rw [this, if_pos hd]
      rfl
    · have h1 : (!(decide (v.gKind = 5) || decide (v.gKind = 6)) || decide ((w : Int) < 16)) = true := by
        rw [Bool.or_eq_true, Bool.not_eq_true', ← Bool.not_eq_true, Bool.or_eq_true]
        simp only [decide_eq_true_eq]
        omega
      rw [h1, if_neg hd]
      have h3 : (decide (v.gKind = 5) || decide (v.gKind = 6) || decide ((v.gList.length : Int) = 0)) = true → (v.gList = [] ∨ w < 16) := by
        rw [Bool.or_eq_true, Bool.or_eq_true]
        simp only [decide_eq_true_eq]
        intro h
        rcases h with h | h
        · exact .inr (by omega)
        · exact .inl (List.eq_nil_of_length_eq_zero (by omega))
      generalize (decide (v.gKind = 5) || decide (v.gKind = 6) || decide ((v.gList.length : Int) = 0)) = b3 at *
      cases b2 with
      | false => rfl
      | true =>
        cases b3 with
        | false => rfl
        | true =>
          cases b4 with
          | false => rfl
          | true =>
            cases b5 with
            | false => rfl
            | true =>
              have hk := hk1 (h3 rfl)
              have e : ((num v.gText : Nat) : Int) = (v.gText.length : Int) ↔ num v.gText = v.gText.length := by omega
              simp only [if_true, Bool.true_and]
              by_cases k3 : v.gKind = 3
              · by_cases ht : v.gText = []
                · simp [k3, ht, rsOf]
                · by_cases hn : num v.gText = v.gText.length
                  · simp [k3, ht, hn, hn1, hk]
                  · have : ¬ ((num v.gText : Nat) : Int) = (v.gText.length : Int) := fun x => hn (e.1 x)
                    simp [k3, ht, hn, hn1, this, rsOf]
              · by_cases k4 : v.gKind = 4
                · cases hv : Lib.validD v.gText <;> simp [k4, hv, hn2, hk, rsOf]
                · by_cases ht : v.gText = [] <;> simp [k3, k4, ht, hk, rsOf]
theorem json_Check_eq {v : T_api_Json} {f : Nat} (hf : 17 ≤ f) (h : Small v) : M.json_Check f v = some (chkJ v 0) := by
  unfold M.json_Check
  have h1 := json_checked_eq f v 0 (by omega) (by omega) h
  have h1 : M.json_checked f v 0 = some (rsOf (chkJ v 0)) := h1
  rw [h1]
  simp only [Option.bind_eq_bind, Option.bind_some]
  unfold rsOf
  by_cases hc : chkJ v 0 = 0 <;> simp [hc]
/-! The document's. -/
theorem form_k1 {v : T_api_Json} (hs : ∀ k ∈ v.gKeys, k.length < 1152921504606846976) (hl : v.gKeys.length < 1152921504606846976) : ∀ (n i : Nat), v.gKeys.length - i = n → i ≤ v.gKeys.length →
    M.r02_form_k1 v (i : Int) = some (if (v.gKeys.drop i).all Lib.validD = true then .go () else .done false) := by
  intro n
  induction n with
  | zero =>
    intro i hn hi
    rw [M.r02_form_k1.eq_1]
    have : ¬ ((i : Int) < (v.gKeys.length : Int)) := by omega
    rw [if_neg (by simpa using this), List.drop_eq_nil_of_le (by omega)]
    rfl
  | succ n ih =>
    intro i hn hi
    have hlt : i < v.gKeys.length := by omega
    rw [M.r02_form_k1.eq_1]
    have h1 : ((i : Int) < (v.gKeys.length : Int)) := by omega
    have h2 := hs v.gKeys[i] (List.getElem_mem hlt)
    simp only [h1, decide_true, if_true, ix_n, List.getElem?_eq_getElem hlt, Option.bind_eq_bind, Option.bind_some]
    rw [validString_eq (by omega), List.drop_eq_getElem_cons hlt, w1 (by omega), ih (i + 1) (by omega) (by omega)]
    simp only [Option.bind_some, List.all_cons]
    by_cases hv : Lib.validD v.gKeys[i] = true <;> simp [hv]
theorem twice_k2 {l : List (List UInt8)} (hl : l.length < 1152921504606846976) {i : Nat} (hi : i < l.length) : ∀ (n k : Nat), i - k = n → k ≤ i →
    M.r02_twice_k2 (i : Int) l (k : Int) = some (if l[i] ∈ (l.take i).drop k then .done (.done true) else .go ()) := by
  intro n
  induction n with
  | zero =>
    intro k hn hk
    rw [M.r02_twice_k2.eq_1]
    have : ¬ ((k : Int) < (i : Int)) := by omega
    rw [if_neg (by simpa using this), List.drop_eq_nil_of_le (by simp; omega)]
    simp
  | succ n ih =>
    intro k hn hk
    rw [M.r02_twice_k2.eq_1]
    have h1 : ((k : Int) < (i : Int)) := by omega
    have hk' : k < l.length := by omega
    simp only [h1, decide_true, if_true, ix_n, List.getElem?_eq_getElem hi, List.getElem?_eq_getElem hk', Option.bind_eq_bind, Option.bind_some]
    rw [w1 (by omega), ih (k + 1) (by omega) (by omega)]
    have e : (l.take i).drop k = l[k] :: (l.take i).drop (k + 1) := by
      rw [List.drop_eq_getElem_cons (by simp; omega)]
      simp
    rw [e]
    by_cases h : l[i] = l[k]
    · simp [h]
    · simp [h]
theorem twice_k1 {l : List (List UInt8)} (hl : l.length < 1152921504606846976) : ∀ (n i : Nat), l.length - i = n → i ≤ l.length → (l.take i).Nodup →
    M.r02_twice_k1 l (i : Int) = some (if l.Nodup then .go () else .done true) := by
  intro n
  induction n with
  | zero =>
    intro i hn hi hd
    rw [M.r02_twice_k1.eq_1]
    have : ¬ ((i : Int) < (l.length : Int)) := by omega
    rw [List.take_of_length_le (by omega)] at hd
    rw [if_neg (by simpa using this), if_pos hd]
  | succ n ih =>
    intro i hn hi hd
    have hlt : i < l.length := by omega
    rw [M.r02_twice_k1.eq_1]
    have h1 : ((i : Int) < (l.length : Int)) := by omega
    have h2 := twice_k2 hl hlt _ 0 rfl (Nat.zero_le _)
    simp only [h1, decide_true, if_true, Option.bind_eq_bind]
    have h2 : M.r02_twice_k2 (i : Int) l 0 = _ := h2
    rw [h2]
    simp only [Option.bind_some, List.drop_zero]
    have e : l.take (i + 1) = l.take i ++ [l[i]] := by simp
    by_cases hm : l[i] ∈ l.take i
    · rw [if_pos hm]
      have : ¬ l.Nodup := fun h => by
        have h3 := (List.take_sublist (i + 1) l).nodup h
        rw [e, List.nodup_append] at h3
        exact h3.2.2 _ hm _ (by simp) rfl
      simp [this]
    · rw [if_neg hm]
      simp only
      rw [w1 (by omega)]
      refine ih (i + 1) (by omega) (by omega) ?_
      rw [e, List.nodup_append]
      exact ⟨hd, by simp, fun a ha b hb => by simp at hb; subst hb; intro h; subst h; exact hm ha⟩
theorem twice_eq {l : List (List UInt8)} (hl : l.length < 1152921504606846976) : M.r02_twice l = some (!decide l.Nodup) := by
  unfold M.r02_twice
  have h := twice_k1 hl _ 0 rfl (Nat.zero_le _) (by simp)
  have h : M.r02_twice_k1 l 0 = _ := h
  rw [h]
  by_cases hn : l.Nodup <;> simp [hn]
theorem r02_form_eq {v : T_api_Json} (h : Small v) : M.r02_form v = some (frm v.gKind v.gText v.gList.length v.gKeys) := by
  obtain ⟨s1, s2, s3, s4⟩ := h.parts
  unfold M.r02_form
  have h1 := form_k1 (v := v) (fun k hk => by have := s4 k hk; omega) (by omega) _ 0 rfl (Nat.zero_le _)
  have h1 : M.r02_form_k1 v 0 = _ := h1
  rw [h1]
  simp only [List.drop_zero, Option.bind_eq_bind, Option.bind_some]
  unfold frm
  cases hv : v.gKeys.all Lib.validD with
  | false => simp
  | true =>
    simp only [if_true, Bool.true_and]
    have k0 : ((v.gKeys.length : Int) = 0) ↔ v.gKeys = [] := by rw [← List.length_eq_zero_iff]; omega
    have l0 : ((v.gList.length : Int) = 0) ↔ v.gList.length = 0 := by omega
    have kl : ((v.gKeys.length : Int) = (v.gList.length : Int)) ↔ v.gKeys.length = v.gList.length := by omega
    have nn : ((num v.gText : Nat) : Int) = (v.gText.length : Int) ↔ num v.gText = v.gText.length := by omega
    rw [r02_number_eq (by omega), validString_eq (by omega), twice_eq (by omega)]
    simp only [Option.bind_some, k0, l0, kl, nn]
    by_cases h0 : v.gKind = 0
    · simp [h0]
    by_cases h1 : v.gKind = 1
    · simp [h1]
    by_cases h2 : v.gKind = 2
    · simp [h2]
    by_cases h3 : v.gKind = 3
    · by_cases ht : v.gText = []
      · simp [h3, ht]
      · by_cases hn : num v.gText = v.gText.length
        · by_cases hl : v.gList.length = 0
          · simp [h3, ht, hn, hl]
          · simp [h3, ht, hn, hl]
        · simp [h3, ht, hn]
    by_cases h4 : v.gKind = 4
    · simp [h4]
    by_cases h5 : v.gKind = 5
    · simp [h5]
    by_cases h6 : v.gKind = 6
    · by_cases ht : v.gText = [] <;> by_cases hn : v.gKeys.length = v.gList.length <;> simp [h6, ht, hn]
    simp [h0, h1, h2, h3, h4, h5, h6]
theorem check_k1 {v : T_api_Json} {self : T_api_Json → Int → Option Int} {w : Nat} (hw : w ≤ 16) (hl : v.gList.length < 1152921504606846976) (hs : ∀ x ∈ v.gList, self x ((w + 1 : Nat) : Int) = some (chkJ x (w + 1))) :
    ∀ (n i : Nat), v.gList.length - i = n → i ≤ v.gList.length → M.r02_check_k1 v self (w : Int) (i : Int) = some (if chkL (v.gList.drop i) (w + 1) = 0 then .go () else .done (chkL (v.gList.drop i) (w + 1))) := by
  intro n
  induction n with
  | zero =>
    intro i hn hi
    rw [M.r02_check_k1.eq_1]
    have : ¬ ((i : Int) < (v.gList.length : Int)) := by omega
    rw [if_neg (by simpa using this), List.drop_eq_nil_of_le (by omega)]
    rfl
  | succ n ih =>
    intro i hn hi
    have hlt : i < v.gList.length := by omega
    rw [M.r02_check_k1.eq_1]
    have h1 : ((i : Int) < (v.gList.length : Int)) := by omega
    simp only [h1, decide_true, if_true, ix_n, List.getElem?_eq_getElem hlt, Option.bind_eq_bind, Option.bind_some]
    rw [w1 (n := w) (by omega), hs _ (List.getElem_mem hlt), w1 (by omega), ih (i + 1) (by omega) (by omega), List.drop_eq_getElem_cons hlt, chkL_cons]
    simp only [Option.bind_some]
    by_cases hc : chkJ v.gList[i] (w + 1) = 0
    · simp [hc]
    · simp [hc]
theorem r02_check_eq : ∀ (f : Nat) (v : T_api_Json) (w : Nat), w ≤ 16 → 17 ≤ f + w → Small v → M.r02_check f v (w : Int) = some (chkJ v w) := by
  intro f
  induction f with
  | zero => intro v w h1 h2; omega
  | succ f ih =>
    intro v w hw hf hsm
    obtain ⟨s1, s2, s3, s4⟩ := hsm.parts
    rw [M.r02_check, chkJ_eq, r02_form_eq hsm]
    have e : ((decide (v.gKind = 5) || decide (v.gKind = 6)) && decide (16 ≤ (w : Int))) = decide ((v.gKind = 5 ∨ v.gKind = 6) ∧ 16 ≤ w) := by
      rw [Bool.eq_iff_iff, Bool.and_eq_true, Bool.or_eq_true]
      simp only [decide_eq_true_eq]
      omega
    rw [e]
    by_cases hd : (v.gKind = 5 ∨ v.gKind = 6) ∧ 16 ≤ w
    · simp [hd]
    · rw [if_neg (by simpa using hd), if_neg hd]
      simp only [Option.bind_eq_bind, Option.bind_some]
      cases hfm : frm v.gKind v.gText v.gList.length v.gKeys with
      | false => simp
      | true =>
        have hl : v.gList = [] ∨ w < 16 := by
          rw [json_form (.inr trivial)] at hfm
          simp only [Bool.and_eq_true, Bool.or_eq_true, decide_eq_true_eq] at hfm
          rcases hfm.2.1 with h | h
          · exact .inr (by omega)
          · exact .inl (List.eq_nil_of_length_eq_zero (by omega))
        have hk1 := check_k1 (v := v) (self := M.r02_check f) hw (by omega) (fun x hx => by
          rcases hl with h | h
          · rw [h] at hx; cases hx
          · exact ih x (w + 1) (by omega) (by omega) (hsm.mem hx)) _ 0 rfl (Nat.zero_le _)
        have hk1 : M.r02_check_k1 v (M.r02_check f) (w : Int) 0 = _ := hk1
        rw [hk1]
        simp only [List.drop_zero]
        by_cases hc : chkL v.gList (w + 1) = 0 <;> simp [hc]
theorem r02_Check_eq {v : T_api_Json} {f : Nat} (hf : 17 ≤ f) (h : Small v) : M.r02_Check f v = some (chkJ v 0) := by
  unfold M.r02_Check
  have h1 : M.r02_check f v 0 = some (chkJ v 0) := r02_check_eq f v 0 (by omega) (by omega) h
  rw [h1]
  rfl
end Go.Sen
namespace Go.Sen
open Go.Lk Go.Pe
theorem writeByte_eq {a : List Int} {b : Int} (h : a.length < 1099511627776) : M.strings_Builder_WriteByte a b = some (a ++ [b]) := by
  unfold M.strings_Builder_WriteByte M.copyCheck
  simp only [Option.bind_eq_bind, Option.bind_some]
  rw [app_ok (by simp; omega)]
  rfl
theorem writeString_eq {a : List Int} {b : List UInt8} (h : a.length + b.length < 1099511627776) : M.strings_Builder_WriteString a b = some ((b.length : Int), a ++ unb b) := by
  unfold M.strings_Builder_WriteString M.copyCheck
  simp only [Option.bind_eq_bind, Option.bind_some]
  rw [app_ok (by simp [unb]; omega)]
  rfl
theorem builderLen_eq (a : List Int) : M.strings_Builder_Len a = some (a.length : Int) := rfl
theorem builderString_eq (s : List UInt8) : M.builderString (unb s) = some s := by
  unfold M.builderString
  rw [chk_ok (by simp [byt_unb])]
  simp [byt_unb]
/-! Texts. -/
def hexd (n : Nat) : UInt8 := UInt8.ofNat (if n < 10 then 48 + n else 87 + n)
/-- A byte's form within a text. -/
def qb (c : UInt8) : List UInt8 :=
  if c = 34 ∨ c = 92 then [92, c] else if c = 8 then [92, 98] else if c = 9 then [92, 116] else if c = 10 then [92, 110] else if c = 12 then [92, 102] else if c = 13 then [92, 114]
  else if c.toNat < 32 then [92, 117, 48, 48, hexd (c.toNat / 16), hexd (c.toNat % 16)] else [c]
def qbs (s : List UInt8) : List UInt8 := s.flatMap qb
def qt (s : List UInt8) : List UInt8 := 34 :: qbs s ++ [34]
theorem qb_len (c : UInt8) : (qb c).length ≤ 6 := by
  unfold qb
  repeat' split
  all_goals simp
theorem qbs_len : ∀ s : List UInt8, (qbs s).length ≤ 6 * s.length
  | [] => by simp [qbs]
  | c :: s => by
    have h1 := qb_len c
    have h2 := qbs_len s
    simp only [qbs, List.flatMap_cons, List.length_append, List.length_cons] at *
    omega
theorem qt_len (s : List UInt8) : (qt s).length ≤ 6 * s.length + 2 := by
  have := qbs_len s
  simp only [qt, List.length_append, List.length_cons, List.length_nil]
  omega
theorem qbs_cons (c : UInt8) (s : List UInt8) : qbs (c :: s) = qb c ++ qbs s := by simp [qbs]
def jstep (x : Int) : Option (List UInt8) := do
  let a ← M.indexByte ([34, 92, 8, 9, 10, 12, 13] : List UInt8) x
  if (decide (0 ≤ a)) then
    let s_87 ← sub ([34, 92, 98, 116, 110, 102, 114] : List UInt8) a (IntKind.wrap .i64 (a + 1))
    cat ([92] : List UInt8) s_87
  else
    if (decide (x < 32)) then
      let s_91 ← sub ([48, 49] : List UInt8) (shrI .u8 x 4) (IntKind.wrap .u8 ((shrI .u8 x 4) + 1))
      let s_92 ← cat ([92, 117, 48, 48] : List UInt8) s_91
      let s_93 ← sub ([48, 49, 50, 51, 52, 53, 54, 55, 56, 57, 97, 98, 99, 100, 101, 102] : List UInt8) (andI .u8 x 15) (IntKind.wrap .u8 ((andI .u8 x 15) + 1))
      cat s_92 s_93
    else some [UInt8.ofNat x.toNat]
theorem jstep_eq : ∀ c : UInt8, jstep (c.toNat : Int) = some (qb c) := fin256 (by decide +kernel)
theorem quoted_k1 {s : List UInt8} (hs : s.length < 100000000000) : ∀ (n i : Nat) (acc : List Int), s.length - i = n → i ≤ s.length → acc.length + 6 * n < 1099511627776 → M.json_quoted_k1 s (i : Int) acc = some (acc ++ unb (qbs (s.drop i))) := by
  intro n
  induction n with
  | zero =>
    intro i acc hn hi ha
    rw [M.json_quoted_k1.eq_1]
    have : ¬ ((i : Int) < ((unb s).length : Int)) := by rw [unb_length]; omega
    rw [if_neg (by simpa using this), List.drop_eq_nil_of_le (by omega)]
    simp [qbs, unb]
  | succ n ih =>
    intro i acc hn hi ha
    have hlt : i < s.length := by omega
    have h1 : ((i : Int) < ((unb s).length : Int)) := by rw [unb_length]; omega
    have hj := jstep_eq s[i]
    have hq := qb_len s[i]
    rw [M.json_quoted_k1.eq_1]
    simp only [h1, decide_true, if_true, ix_n, unb_get, List.getElem?_eq_getElem hlt, Option.map_some, Option.bind_eq_bind, Option.bind_some]
    rw [w1 (by omega)]
    have next : ∀ a : List Int, a = acc ++ unb (qb s[i]) → M.json_quoted_k1 s ((i + 1 : Nat) : Int) a = some (acc ++ unb (qbs (s.drop i))) := by
      rintro a rfl
      rw [ih (i + 1) _ (by omega) (by omega) (by simp [unb]; omega), List.drop_eq_getElem_cons hlt, qbs_cons, unb_append, List.append_assoc]
    unfold jstep at hj
    simp only [Option.bind_eq_bind] at hj
    cases hx : M.indexByte ([34, 92, 8, 9, 10, 12, 13] : List UInt8) ((s[i]).toNat : Int) with
    | none => rw [hx] at hj; cases hj
    | some a =>
      rw [hx] at hj
      simp only [Option.bind_some] at hj ⊢
      by_cases ca : 0 ≤ a
      · rw [if_pos (by simpa using ca)] at hj ⊢
        cases hy : sub ([34, 92, 98, 116, 110, 102, 114] : List UInt8) a (IntKind.wrap .i64 (a + 1)) with
        | none => rw [hy] at hj; cases hj
        | some y =>
          rw [hy] at hj
          simp only [Option.bind_some] at hj ⊢
          rw [hj]
          simp only [Option.bind_some]
          rw [writeString_eq (by omega)]
          exact next _ rfl
      · rw [if_neg (by simpa using ca)] at hj ⊢
        by_cases cx : ((s[i]).toNat : Int) < 32
        · rw [if_pos (by simpa using cx)] at hj ⊢
          cases hy : sub ([48, 49] : List UInt8) (shrI .u8 ((s[i]).toNat : Int) 4) (IntKind.wrap .u8 ((shrI .u8 ((s[i]).toNat : Int) 4) + 1)) with
          | none => rw [hy] at hj; cases hj
          | some y =>
            rw [hy] at hj
            simp only [Option.bind_some] at hj ⊢
            cases hz : cat ([92, 117, 48, 48] : List UInt8) y with
            | none => rw [hz] at hj; cases hj
            | some z =>
              rw [hz] at hj
              simp only [Option.bind_some] at hj ⊢
              cases hu : sub ([48, 49, 50, 51, 52, 53, 54, 55, 56, 57, 97, 98, 99, 100, 101, 102] : List UInt8) (andI .u8 ((s[i]).toNat : Int) 15) (IntKind.wrap .u8 ((andI .u8 ((s[i]).toNat : Int) 15) + 1)) with
              | none => rw [hu] at hj; cases hj
              | some u =>
                rw [hu] at hj
                simp only [Option.bind_some] at hj ⊢
                rw [hj]
                simp only [Option.bind_some]
                rw [writeString_eq (by omega)]
                exact next _ rfl
        · rw [if_neg (by simpa using cx)] at hj ⊢
          rw [writeByte_eq (by omega)]
          simp only [Option.some.injEq] at hj
          refine next _ ?_
          rw [← hj]
          simp [unb]
theorem json_quoted_eq {s : List UInt8} {acc : List Int} (h : acc.length + 6 * s.length + 2 < 100000000000) : M.json_quoted acc s = some (acc ++ unb (qt s)) := by
  unfold M.json_quoted
  rw [writeByte_eq (by omega), chk_ok (by simp; omega)]
  simp only [Option.bind_eq_bind, Option.bind_some]
  have h1 := quoted_k1 (s := s) (by omega) _ 0 (acc ++ [34]) rfl (Nat.zero_le _) (by simp; omega)
  have h1 : M.json_quoted_k1 s 0 (acc ++ [34]) = _ := h1
  rw [h1]
  simp only [Option.bind_some, List.drop_zero]
  have := qbs_len s
  rw [writeByte_eq (by simp [unb]; omega)]
  simp [qt, unb]
theorem rstep_eq : ∀ c : UInt8, ∀ acc : List Int, acc.length < 1000000000000 → ∀ k : List Int → Option (List Int),
    ((if ((decide ((c.toNat : Int) = 34)) || (decide ((c.toNat : Int) = 92))) then (app 1 acc [92, (c.toNat : Int)]).bind k else
    if (decide ((c.toNat : Int) = 8)) then (app 1 acc (unb ([92, 98] : List UInt8))).bind k else
    if (decide ((c.toNat : Int) = 9)) then (app 1 acc (unb ([92, 116] : List UInt8))).bind k else
    if (decide ((c.toNat : Int) = 10)) then (app 1 acc (unb ([92, 110] : List UInt8))).bind k else
    if (decide ((c.toNat : Int) = 12)) then (app 1 acc (unb ([92, 102] : List UInt8))).bind k else
    if (decide ((c.toNat : Int) = 13)) then (app 1 acc (unb ([92, 114] : List UInt8))).bind k else
    if (decide ((c.toNat : Int) < 32)) then (ix ([48, 49, 50, 51, 52, 53, 54, 55, 56, 57, 97, 98, 99, 100, 101, 102] : List UInt8) (IntKind.wrap .u8 (Int.tdiv (c.toNat : Int) 16))).bind fun c_81 =>
      (ix ([48, 49, 50, 51, 52, 53, 54, 55, 56, 57, 97, 98, 99, 100, 101, 102] : List UInt8) (Int.tmod (c.toNat : Int) 16)).bind fun c_82 => (app 1 acc [92, 117, 48, 48, (c_81.toNat : Int), (c_82.toNat : Int)]).bind k else
    (app 1 acc [(c.toNat : Int)]).bind k : Option (List Int)) = k (acc ++ unb (qb c))) := by
  intro c acc ha k
  have ap : ∀ l : List Int, l.length ≤ 6 → app 1 acc l = some (acc ++ l) := fun l hl => app_ok (by omega)
  have t : ∀ n : Nat, n < 256 → (((c.toNat : Int) = (n : Int)) ↔ c = UInt8.ofNat n) := fun n hn => toNat_eq hn
  by_cases c34 : c = 34
  · subst c34; rw [if_pos (by decide), ap _ (by simp)]; rfl
  by_cases c92 : c = 92
  · subst c92; rw [if_pos (by decide), ap _ (by simp)]; rfl
  have n34 : ¬ (c.toNat : Int) = 34 := fun e => c34 ((t 34 (by omega)).1 e)
  have n92 : ¬ (c.toNat : Int) = 92 := fun e => c92 ((t 92 (by omega)).1 e)
  rw [if_neg (by simp [n34, n92])]
  by_cases c8 : c = 8
  · subst c8; rw [if_pos (by decide), ap _ (by decide)]; rfl
  rw [if_neg (by simpa using fun e => c8 ((t 8 (by omega)).1 e))]
  by_cases c9 : c = 9
  · subst c9; rw [if_pos (by decide), ap _ (by decide)]; rfl
  rw [if_neg (by simpa using fun e => c9 ((t 9 (by omega)).1 e))]
  by_cases c10 : c = 10
  · subst c10; rw [if_pos (by decide), ap _ (by decide)]; rfl
  rw [if_neg (by simpa using fun e => c10 ((t 10 (by omega)).1 e))]
  by_cases c12 : c = 12
  · subst c12; rw [if_pos (by decide), ap _ (by decide)]; rfl
  rw [if_neg (by simpa using fun e => c12 ((t 12 (by omega)).1 e))]
  by_cases c13 : c = 13
  · subst c13; rw [if_pos (by decide), ap _ (by decide)]; rfl
  rw [if_neg (by simpa using fun e => c13 ((t 13 (by omega)).1 e))]
  have eq : qb c = if c.toNat < 32 then [92, 117, 48, 48, hexd (c.toNat / 16), hexd (c.toNat % 16)] else [c] := by
    unfold qb
    simp [c34, c92, c8, c9, c10, c12, c13]
  rw [eq]
  by_cases cl : c.toNat < 32
  · have cl' : (c.toNat : Int) < 32 := by omega
    rw [if_pos (by simpa using cl'), if_pos cl]
    have tab : ∀ n : Fin 32, ix ([48, 49, 50, 51, 52, 53, 54, 55, 56, 57, 97, 98, 99, 100, 101, 102] : List UInt8) (IntKind.wrap .u8 (Int.tdiv (n.val : Int) 16)) = some (hexd (n.val / 16)) ∧ ix ([48, 49, 50, 51, 52, 53, 54, 55, 56, 57, 97, 98, 99, 100, 101, 102] : List UInt8) (Int.tmod (n.val : Int) 16) = some (hexd (n.val % 16)) := by decide +kernel
    obtain ⟨h1, h2⟩ := tab ⟨c.toNat, cl⟩
    simp only at h1 h2
    rw [h1, h2]
    simp only [Option.bind_some]
    rw [ap _ (by simp)]
    rfl
  · have cl' : ¬ (c.toNat : Int) < 32 := by omega
    rw [if_neg (by simpa using cl'), if_neg cl, ap _ (by simp)]
    rfl
theorem text_k1 {s : List UInt8} (hs : s.length < 100000000000) : ∀ (n i : Nat) (acc : List Int), s.length - i = n → i ≤ s.length → acc.length + 6 * n < 1000000000000 → M.r02_Text_k1 s acc (i : Int) = some (acc ++ unb (qbs (s.drop i))) := by
  intro n
  induction n with
  | zero =>
    intro i acc hn hi ha
    rw [M.r02_Text_k1.eq_1]
    have : ¬ ((i : Int) < (s.length : Int)) := by omega
    rw [if_neg (by simpa using this), List.drop_eq_nil_of_le (by omega)]
    simp [qbs, unb]
  | succ n ih =>
    intro i acc hn hi ha
    have hlt : i < s.length := by omega
    have h1 : ((i : Int) < (s.length : Int)) := by omega
    have hq := qb_len s[i]
    rw [M.r02_Text_k1.eq_1]
    simp only [h1, decide_true, if_true, ix_n, List.getElem?_eq_getElem hlt, Option.bind_eq_bind, Option.bind_some]
    rw [w1 (by omega)]
    rw [rstep_eq s[i] acc (by omega) (fun l => M.r02_Text_k1 s l ((i + 1 : Nat) : Int))]
    rw [ih (i + 1) _ (by omega) (by omega) (by simp [unb]; omega), List.drop_eq_getElem_cons hlt, qbs_cons, unb_append, List.append_assoc]
theorem r02_Text_eq {s : List UInt8} (h : s.length < 100000000000) : M.r02_Text s = some (unb (qt s)) := by
  unfold M.r02_Text
  have h1 := text_k1 (s := s) (by omega) _ 0 [34] rfl (Nat.zero_le _) (by simp; omega)
  have h1 : M.r02_Text_k1 s [34] 0 = _ := h1
  rw [h1]
  have := qbs_len s
  simp only [Option.bind_eq_bind, Option.bind_some, List.drop_zero]
  rw [app_ok (by simp [unb]; omega)]
  simp [qt, unb]
end Go.Sen
namespace Go.Sen
open Go.Lk Go.Pe
mutual
def prJ : T_api_Json → List UInt8
  | ⟨k, t, l, ks⟩ => if k = 0 then [110, 117, 108, 108] else if k = 1 then [102, 97, 108, 115, 101] else if k = 2 then [116, 114, 117, 101] else if k = 3 then t else if k = 4 then qt t
    else (if k = 6 then 123 else 91) :: prL (decide (k = 6)) l ks true ++ [if k = 6 then 125 else 93]
def prL (o : Bool) : List T_api_Json → List (List UInt8) → Bool → List UInt8
  | [], _, _ => []
  | x :: xs, ks, f => (if f = true then [] else [44]) ++ ((if o = true then qt (ks.head?.getD []) ++ [58] else []) ++ (prJ x ++ prL o xs ks.tail false))
end
theorem prJ_eq (v : T_api_Json) : prJ v = if v.gKind = 0 then [110, 117, 108, 108] else if v.gKind = 1 then [102, 97, 108, 115, 101] else if v.gKind = 2 then [116, 114, 117, 101] else if v.gKind = 3 then v.gText else if v.gKind = 4 then qt v.gText
    else (if v.gKind = 6 then 123 else 91) :: prL (decide (v.gKind = 6)) v.gList v.gKeys true ++ [if v.gKind = 6 then 125 else 93] := by cases v; simp only [prJ]
theorem prL_cons (o : Bool) (x : T_api_Json) (xs : List T_api_Json) (ks : List (List UInt8)) (f : Bool) : prL o (x :: xs) ks f = (if f = true then [] else [44]) ++ ((if o = true then qt (ks.head?.getD []) ++ [58] else []) ++ (prJ x ++ prL o xs ks.tail false)) := by simp only [prL]
theorem key_len (ks : List (List UInt8)) : (qt (ks.head?.getD [])).length ≤ 2 + 6 * (kys ks - kys ks.tail) ∧ kys ks.tail ≤ kys ks := by
  cases ks with
  | nil => simp [qt, qbs]
  | cons k ks =>
    have := qt_len k
    rw [kys_cons]
    simp only [List.head?_cons, Option.getD_some, List.tail_cons]
    omega
mutual
theorem prJ_len : ∀ v : T_api_Json, (prJ v).length ≤ 7 * v.sz
  | ⟨k, t, l, ks⟩ => by
    have h1 := prL_len (decide (k = 6)) l ks true
    have h2 := qt_len t
    simp only [prJ, T_api_Json.sz]
    repeat' split
    all_goals try simp only [List.length_append, List.length_cons, List.length_nil]
    all_goals omega
theorem prL_len : ∀ (o : Bool) (l : List T_api_Json) (ks : List (List UInt8)) (f : Bool), (prL o l ks f).length ≤ 7 * szs l + 7 * kys ks
  | _, [], _, _ => by simp [prL]
  | o, x :: xs, ks, f => by
    have h1 := prJ_len x
    have h2 := prL_len o xs ks.tail false
    obtain ⟨h3, h4⟩ := key_len ks
    simp only [prL, szs]
    repeat' split
    all_goals simp only [List.length_append, List.length_cons, List.length_nil]
    all_goals omega
end
theorem szs_drop : ∀ (l : List T_api_Json) (i : Nat), szs (l.drop i) ≤ szs l
  | l, 0 => by simp
  | [], i + 1 => by simp
  | x :: l, i + 1 => by have := szs_drop l i; simp only [List.drop_succ_cons, szs]; omega
theorem kys_drop : ∀ (l : List (List UInt8)) (i : Nat), kys (l.drop i) ≤ kys l
  | l, 0 => by simp
  | [], i + 1 => by simp
  | x :: l, i + 1 => by have := kys_drop l i; rw [List.drop_succ_cons, kys_cons]; omega
theorem tail_drop {α : Type} (l : List α) (i : Nat) : (l.drop i).tail = l.drop (i + 1) := by simp
theorem laid_k1 {v : T_api_Json} {self : List Int → T_api_Json → Option (List Int)} (hl : v.gList.length < 1152921504606846976) (hk : v.gKind = 6 → v.gKeys.length = v.gList.length)
    (hs : ∀ x ∈ v.gList, ∀ a : List Int, a.length + 7 * x.sz < 90000000000 → self a x = some (a ++ unb (prJ x))) : ∀ (n i : Nat) (acc : List Int), v.gList.length - i = n → i ≤ v.gList.length →
    acc.length + 7 * szs (v.gList.drop i) + 7 * kys (v.gKeys.drop i) < 90000000000 → M.json_laid_k1 v self (i : Int) acc = some (acc ++ unb (prL (decide (v.gKind = 6)) (v.gList.drop i) (v.gKeys.drop i) (decide (i = 0)))) := by
  intro n
  induction n with
  | zero =>
    intro i acc hn hi ha
    rw [M.json_laid_k1.eq_1]
    have : ¬ ((i : Int) < (v.gList.length : Int)) := by omega
    rw [if_neg (by simpa using this), List.drop_eq_nil_of_le (as := v.gList) (by omega)]
    simp [prL, unb]
  | succ n ih =>
    intro i acc hn hi ha
    have hlt : i < v.gList.length := by omega
    have h1 : ((i : Int) < (v.gList.length : Int)) := by omega
    rw [M.json_laid_k1.eq_1]
    simp only [h1, decide_true, if_true, ix_n, List.getElem?_eq_getElem hlt, Option.bind_eq_bind, Option.bind_some]
    rw [w1 (by omega)]
    have e0 : v.gList.drop i = v.gList[i] :: v.gList.drop (i + 1) := List.drop_eq_getElem_cons hlt
    have hsz : szs (v.gList.drop i) = (v.gList[i]).sz + szs (v.gList.drop (i + 1)) + 1 := by rw [e0]; simp only [szs]
    have hkd : kys (v.gKeys.drop (i + 1)) ≤ kys (v.gKeys.drop i) := by rw [← tail_drop]; exact (key_len _).2
    have ej : (if decide (0 < (i : Int)) = true then (M.strings_Builder_WriteByte acc 44).bind fun a_119 => some a_119 else some acc) = some (acc ++ unb (if decide (i = 0) = true then [] else [44])) := by
      by_cases hz : i = 0
      · simp [hz, unb]
      · have : 0 < (i : Int) := by omega
        rw [writeByte_eq (by omega)]
        simp [hz, this, unb]
    rw [ej]
    simp only [Option.bind_some]
    have hc : (if decide (i = 0) = true then ([] : List UInt8) else [44]).length ≤ 1 := by split <;> simp
    generalize hcm : (if decide (i = 0) = true then ([] : List UInt8) else [44]) = cm at ej hc
    have hx := hs _ (List.getElem_mem hlt)
    have hpl := prJ_len v.gList[i]
    by_cases h6 : v.gKind = 6
    · have hlk : i < v.gKeys.length := by rw [hk h6]; exact hlt
      have e1 : v.gKeys.drop i = v.gKeys[i] :: v.gKeys.drop (i + 1) := List.drop_eq_getElem_cons hlk
      have hks : kys (v.gKeys.drop i) = (v.gKeys[i]).length + 1 + kys (v.gKeys.drop (i + 1)) := by rw [e1, kys_cons]
      have hql := qt_len v.gKeys[i]
      simp only [h6, decide_true, if_true, List.getElem?_eq_getElem hlk, Option.bind_some]
      rw [json_quoted_eq (by simp [unb]; omega)]
      simp only [Option.bind_some]
      rw [writeByte_eq (by simp [unb]; omega)]
      simp only [Option.bind_some]
      rw [hx _ (by simp [unb]; omega)]
      simp only [Option.bind_some]
      rw [ih (i + 1) _ (by omega) (by omega) (by simp [unb]; omega), e0, prL_cons, hcm, e1]
      have e58 : ([58] : List Int) = unb [58] := rfl
      rw [e58]
      simp [h6, unb_append, List.getElem?_eq_getElem hlk]
      rw [← unb_append, ← unb_append]
      rfl
    · rw [if_neg (by simpa using h6)]
      rw [hx _ (by simp [unb]; omega)]
      simp only [Option.bind_some]
      rw [ih (i + 1) _ (by omega) (by omega) (by simp [unb]; omega), e0, prL_cons, hcm, tail_drop]
      simp [h6, unb_append]
theorem chkL_mem : ∀ {l : List T_api_Json} {w : Nat}, chkL l w = 0 → ∀ x ∈ l, chkJ x w = 0
  | y :: l, w, h, x, hx => by
    rw [chkL_cons] at h
    by_cases hc : chkJ y w = 0
    · rw [if_pos hc] at h
      rcases List.mem_cons.1 hx with rfl | hx
      · exact hc
      · exact chkL_mem h x hx
    · rw [if_neg hc] at h; exact absurd h hc
theorem chkJ_parts {v : T_api_Json} {w : Nat} (h : chkJ v w = 0) : ¬ ((v.gKind = 5 ∨ v.gKind = 6) ∧ 16 ≤ w) ∧ frm v.gKind v.gText v.gList.length v.gKeys = true ∧ chkL v.gList (w + 1) = 0 := by
  rw [chkJ_eq] at h
  split at h
  · cases h
  · rename_i h1
    split at h
    · cases h
    · rename_i h2
      exact ⟨h1, by simpa using h2, h⟩
theorem frm_keys {k : Int} {t : List UInt8} {n : Nat} {ks : List (List UInt8)} (h : frm k t n ks = true) : (k = 6 → ks.length = n) ∧ (¬ (k = 5 ∨ k = 6) → n = 0) ∧ (0 ≤ k ∧ k < 7) := by
  rw [json_form (.inr trivial)] at h
  simp only [Bool.and_eq_true, Bool.or_eq_true, decide_eq_true_eq] at h
  obtain ⟨h1, h2, h3, _⟩ := h
  refine ⟨fun e => ?_, fun e => ?_, h1⟩
  · rcases h3 with h3 | h3
    · omega
    · simp [e] at h3
  · rcases h2 with h2 | h2
    · exact absurd h2 e
    · omega
theorem json_laid_eq : ∀ (f : Nat) (v : T_api_Json) (w : Nat), w ≤ 16 → 17 ≤ f + w → chkJ v w = 0 → ∀ a : List Int, a.length + 7 * v.sz < 90000000000 → M.json_laid f a v = some (a ++ unb (prJ v)) := by
  intro f
  induction f with
  | zero => intro v w h1 h2; omega
  | succ f ih =>
    intro v w hw hf hc a ha
    obtain ⟨c1, c2, c3⟩ := chkJ_parts hc
    obtain ⟨d1, d2, d3⟩ := frm_keys c2
    have hsz := T_api_Json.sz_eq v
    have hpl := prJ_len v
    rw [M.json_laid, prJ_eq]
    rw [prJ_eq] at hpl
    by_cases h0 : v.gKind = 0
    · have hq : M.strings_Builder_WriteString a ([110, 117, 108, 108] : List UInt8) = _ := writeString_eq (by simp; omega)
      simp [h0, hq]
    by_cases h1 : v.gKind = 1
    · have hq : M.strings_Builder_WriteString a ([102, 97, 108, 115, 101] : List UInt8) = _ := writeString_eq (by simp; omega)
      simp [h1, hq]
    by_cases h2 : v.gKind = 2
    · have hq : M.strings_Builder_WriteString a ([116, 114, 117, 101] : List UInt8) = _ := writeString_eq (by simp; omega)
      simp [h2, hq]
    by_cases h3 : v.gKind = 3
    · have hq := writeString_eq (a := a) (b := v.gText) (by omega)
      simp [h3, hq]
    by_cases h4 : v.gKind = 4
    · have hq := json_quoted_eq (s := v.gText) (acc := a) (by omega)
      simp [h4, hq]
    have hl : v.gList = [] ∨ w < 16 := by
      by_cases h56 : v.gKind = 5 ∨ v.gKind = 6
      · exact .inr (by omega)
      · exact .inl (List.eq_nil_of_length_eq_zero (d2 h56))
    have hlen := szs_len v.gList
    have hk1 := fun (acc : List Int) (hacc : acc.length ≤ a.length + 1) => laid_k1 (v := v) (self := M.json_laid f) (by omega) d1 (fun x hx b hb => by
      rcases hl with h | h
      · rw [h] at hx; cases hx
      · exact ih x (w + 1) (by omega) (by omega) (chkL_mem c3 x hx) b hb) _ 0 acc rfl (Nat.zero_le _) (by simp only [List.drop_zero]; omega)
    have hpl2 := prL_len (decide (v.gKind = 6)) v.gList v.gKeys true
    rw [if_neg (by simpa using h0), if_neg (by simpa using h1), if_neg (by simpa using h2), if_neg (by simpa using h3), if_neg (by simpa using h4), if_neg h0, if_neg h1, if_neg h2, if_neg h3, if_neg h4]
    by_cases h6 : v.gKind = 6
    · simp only [h6, decide_true, if_true, Option.bind_eq_bind, Option.bind_some, ix_0, ix_1, List.getElem?_cons_zero, List.getElem?_cons_succ]
      rw [writeByte_eq (by omega)]
      simp only [Option.bind_some]
      have hq := hk1 (a ++ [123]) (by simp)
      have hq : M.json_laid_k1 v (M.json_laid f) 0 (a ++ [123]) = _ := hq
      simp only [List.drop_zero, decide_true, h6] at hq
      have e : (((123 : UInt8).toNat : Nat) : Int) = 123 := rfl
      rw [e, hq]
      simp only [Option.bind_some]
      simp only [h6, decide_true] at hpl2
      rw [writeByte_eq (by simp [unb]; omega)]
      simp [unb]
    · simp only [h6, decide_false, if_false, Option.bind_eq_bind, Option.bind_some, ix_0, ix_1, List.getElem?_cons_zero, List.getElem?_cons_succ, Bool.false_eq_true]
      rw [writeByte_eq (by omega)]
      simp only [Option.bind_some]
      have hq := hk1 (a ++ [91]) (by simp)
      have hq : M.json_laid_k1 v (M.json_laid f) 0 (a ++ [91]) = _ := hq
      simp only [List.drop_zero, decide_true, decide_false, h6] at hq
      have e : (((91 : UInt8).toNat : Nat) : Int) = 91 := rfl
      rw [e, hq]
      simp only [Option.bind_some]
      simp only [h6, decide_false] at hpl2
      rw [writeByte_eq (by simp [unb]; omega)]
      simp [unb]
/-! The document's. -/
theorem Form_k1 {v : T_api_Json} {self : T_api_Json → Option (List Int)} (hl : v.gList.length < 1152921504606846976) (hk : v.gKind = 6 → v.gKeys.length = v.gList.length)
    (hs : ∀ x ∈ v.gList, self x = some (unb (prJ x))) : ∀ (n i : Nat) (acc : List Int), v.gList.length - i = n → i ≤ v.gList.length →
    acc.length + 7 * szs (v.gList.drop i) + 7 * kys (v.gKeys.drop i) < 90000000000 → M.r02_Form_k1 v self acc (i : Int) = some (acc ++ unb (prL (decide (v.gKind = 6)) (v.gList.drop i) (v.gKeys.drop i) (decide (i = 0)))) := by
  intro n
  induction n with
  | zero =>
    intro i acc hn hi ha
    rw [M.r02_Form_k1.eq_1]
    have : ¬ ((i : Int) < (v.gList.length : Int)) := by omega
    rw [if_neg (by simpa using this), List.drop_eq_nil_of_le (as := v.gList) (by omega)]
    simp [prL, unb]
  | succ n ih =>
    intro i acc hn hi ha
    have hlt : i < v.gList.length := by omega
    have h1 : ((i : Int) < (v.gList.length : Int)) := by omega
    rw [M.r02_Form_k1.eq_1]
    simp only [h1, decide_true, if_true, ix_n, List.getElem?_eq_getElem hlt, Option.bind_eq_bind, Option.bind_some]
    rw [w1 (by omega)]
    have e0 : v.gList.drop i = v.gList[i] :: v.gList.drop (i + 1) := List.drop_eq_getElem_cons hlt
    have hsz : szs (v.gList.drop i) = (v.gList[i]).sz + szs (v.gList.drop (i + 1)) + 1 := by rw [e0]; simp only [szs]
    have hkd : kys (v.gKeys.drop (i + 1)) ≤ kys (v.gKeys.drop i) := by rw [← tail_drop]; exact (key_len _).2
    have ej : (if decide (0 < (i : Int)) = true then (app 1 acc [44]).bind fun a_119 => some a_119 else some acc) = some (acc ++ unb (if decide (i = 0) = true then [] else [44])) := by
      by_cases hz : i = 0
      · simp [hz, unb]
      · have : 0 < (i : Int) := by omega
        rw [app_ok (by simp; omega)]
        simp [hz, this, unb]
    rw [ej]
    simp only [Option.bind_some]
    have hc : (if decide (i = 0) = true then ([] : List UInt8) else [44]).length ≤ 1 := by split <;> simp
    generalize hcm : (if decide (i = 0) = true then ([] : List UInt8) else [44]) = cm at ej hc
    have hx := hs _ (List.getElem_mem hlt)
    have hpl := prJ_len v.gList[i]
    by_cases h6 : v.gKind = 6
    · have hlk : i < v.gKeys.length := by rw [hk h6]; exact hlt
      have e1 : v.gKeys.drop i = v.gKeys[i] :: v.gKeys.drop (i + 1) := List.drop_eq_getElem_cons hlk
      have hks : kys (v.gKeys.drop i) = (v.gKeys[i]).length + 1 + kys (v.gKeys.drop (i + 1)) := by rw [e1, kys_cons]
      have hql := qt_len v.gKeys[i]
      have hkl := kys_len (v.gKeys.drop i)
      simp only [h6, decide_true, if_true, List.getElem?_eq_getElem hlk, Option.bind_some]
      rw [r02_Text_eq (by omega)]
      simp only [Option.bind_some]
      rw [app_ok (by simp [unb]; omega)]
      simp only [Option.bind_some]
      rw [app_ok (by simp [unb]; omega)]
      simp only [Option.bind_some]
      rw [hx]
      simp only [Option.bind_some]
      rw [app_ok (by simp [unb]; omega)]
      simp only [Option.bind_some]
      rw [ih (i + 1) _ (by omega) (by omega) (by simp [unb]; omega), e0, prL_cons, hcm, e1]
      have e58 : ([58] : List Int) = unb [58] := rfl
      rw [e58]
      simp [h6, unb_append, List.getElem?_eq_getElem hlk]
      rw [← unb_append, ← unb_append]
      rfl
    · rw [if_neg (by simpa using h6)]
      simp only [Option.bind_some]
      rw [hx]
      simp only [Option.bind_some]
      rw [app_ok (by simp [unb]; omega)]
      simp only [Option.bind_some]
      rw [ih (i + 1) _ (by omega) (by omega) (by simp [unb]; omega), e0, prL_cons, hcm, tail_drop]
      simp [h6, unb_append]
theorem r02_Form_eq : ∀ (f : Nat) (v : T_api_Json) (w : Nat), w ≤ 16 → 17 ≤ f + w → chkJ v w = 0 → 7 * v.sz < 80000000000 → M.r02_Form f v = some (unb (prJ v)) := by
  intro f
  induction f with
  | zero => intro v w h1 h2; omega
  | succ f ih =>
    intro v w hw hf hc ha
    obtain ⟨c1, c2, c3⟩ := chkJ_parts hc
    obtain ⟨d1, d2, d3⟩ := frm_keys c2
    have hsz := T_api_Json.sz_eq v
    rw [M.r02_Form, prJ_eq]
    have ap : ∀ l : List UInt8, l.length < 80000000000 → app 1 ([] : List Int) (unb l) = some (unb l) := fun l hl => by rw [app_ok (by simp [unb]; omega)]; rfl
    by_cases h0 : v.gKind = 0
    · have hq := ap ([110, 117, 108, 108] : List UInt8) (by simp)
      simp [h0, hq]
    by_cases h1 : v.gKind = 1
    · have hq := ap ([102, 97, 108, 115, 101] : List UInt8) (by simp)
      simp [h1, hq]
    by_cases h2 : v.gKind = 2
    · have hq := ap ([116, 114, 117, 101] : List UInt8) (by simp)
      simp [h2, hq]
    by_cases h3 : v.gKind = 3
    · have hq := ap v.gText (by omega)
      simp [h3, hq]
    by_cases h4 : v.gKind = 4
    · have hq := r02_Text_eq (s := v.gText) (by omega)
      simp [h4, hq]
    have hl : v.gList = [] ∨ w < 16 := by
      by_cases h56 : v.gKind = 5 ∨ v.gKind = 6
      · exact .inr (by omega)
      · exact .inl (List.eq_nil_of_length_eq_zero (d2 h56))
    have hlen := szs_len v.gList
    have hk1 := fun (acc : List Int) (hacc : acc.length ≤ 1) => Form_k1 (v := v) (self := M.r02_Form f) (by omega) d1 (fun x hx => by
      have hxs := szs_mem hx
      rcases hl with h | h
      · rw [h] at hx; cases hx
      · exact ih x (w + 1) (by omega) (by omega) (chkL_mem c3 x hx) (by omega)) _ 0 acc rfl (Nat.zero_le _) (by simp only [List.drop_zero]; omega)
    have hpl2 := prL_len (decide (v.gKind = 6)) v.gList v.gKeys true
    rw [if_neg (by simpa using h0), if_neg (by simpa using h1), if_neg (by simpa using h2), if_neg (by simpa using h3), if_neg (by simpa using h4), if_neg h0, if_neg h1, if_neg h2, if_neg h3, if_neg h4]
    by_cases h6 : v.gKind = 6
    · simp only [h6, decide_true, if_true, Option.bind_eq_bind, Option.bind_some]
      rw [app_ok (by simp)]
      simp only [Option.bind_some]
      have hq := hk1 ([] ++ [123]) (by simp)
      have hq : M.r02_Form_k1 v (M.r02_Form f) ([] ++ [123]) 0 = _ := hq
      simp only [List.drop_zero, decide_true, h6] at hq
      rw [hq]
      simp only [Option.bind_some]
      simp only [h6, decide_true] at hpl2
      rw [app_ok (by simp [unb]; omega)]
      simp [unb]
    · simp only [h6, decide_false, if_false, Option.bind_eq_bind, Option.bind_some, Bool.false_eq_true]
      rw [app_ok (by simp)]
      simp only [Option.bind_some]
      have hq := hk1 ([] ++ [91]) (by simp)
      have hq : M.r02_Form_k1 v (M.r02_Form f) ([] ++ [91]) 0 = _ := hq
      simp only [List.drop_zero, decide_true, decide_false, h6] at hq
      rw [hq]
      simp only [Option.bind_some]
      simp only [h6, decide_false] at hpl2
      rw [app_ok (by simp [unb]; omega)]
      simp [unb]
/-- Print's answer. -/
def print (v : T_api_Json) : List UInt8 × Int := if chkJ v 0 = 0 then (if 16384 < (prJ v).length then ([], 22) else (prJ v, 0)) else ([], chkJ v 0)
theorem json_Print_eq {v : T_api_Json} {f : Nat} (hf : 17 ≤ f) (h : Small v) : M.json_Print f v = some (print v) := by
  unfold M.json_Print print
  rw [json_Check_eq hf h]
  simp only [Option.bind_eq_bind, Option.bind_some]
  by_cases hc : chkJ v 0 = 0
  · unfold Small at h
    have hl := json_laid_eq f v 0 (by omega) (by omega) hc [] (by simp; omega)
    rw [List.nil_append] at hl
    simp only [hc, decide_true, Bool.not_true, Bool.false_eq_true, if_false, if_true, hl, Option.bind_some, builderLen_eq, unb_length]
    by_cases h2 : 16384 < (prJ v).length
    · have : (16384 : Int) < ((prJ v).length : Int) := by omega
      simp [h2, this]
    · have : ¬ (16384 : Int) < ((prJ v).length : Int) := by omega
      simp [h2, this, builderString_eq]
  · simp [hc]
theorem r02_Print_eq {v : T_api_Json} {f : Nat} (hf : 17 ≤ f) (h : Small v) : M.r02_Print f v = some (print v) := by
  unfold M.r02_Print print
  rw [r02_Check_eq hf h]
  simp only [Option.bind_eq_bind, Option.bind_some]
  by_cases hc : chkJ v 0 = 0
  · unfold Small at h
    have hl := r02_Form_eq f v 0 (by omega) (by omega) hc (by omega)
    simp only [hc, decide_true, Bool.not_true, Bool.false_eq_true, if_false, if_true, hl, Option.bind_some, byt_unb]
    by_cases h2 : 16384 < (prJ v).length
    · have : (16384 : Int) < ((prJ v).length : Int) := by omega
      simp [h2, this]
    · have : ¬ (16384 : Int) < ((prJ v).length : Int) := by omega
      simp [h2, this]
  · simp [hc]
end Go.Sen
