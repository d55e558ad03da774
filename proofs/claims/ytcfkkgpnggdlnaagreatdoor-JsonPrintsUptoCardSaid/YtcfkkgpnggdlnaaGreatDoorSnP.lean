/- JSON, plainly: the law JsonFinds. -/
import Derived.Test.YtcfkkgpnggdlnaaGreatDoorSnN
set_option linter.all false
namespace Go.Sen
open Go.Lk Go.Pe
def nulJ : J := ⟨0, [], [], []⟩
def memb (v : J) (k : List UInt8) : J × Bool := if v.gKind = 6 then (match v.gKeys.findIdx? (fun x => decide (k = x)) with
  | some j => (match v.gList[j]? with | some x => (x, true) | none => (nulJ, false))
  | none => (nulJ, false)) else (nulJ, false)
theorem json_Member_eq {v : J} {k : List UInt8} (h : v.gKeys.length < 1000000000) : M.json_Member v k = some (memb v k) := by
  unfold M.json_Member memb
  rw [index_eq (by omega)]
  simp only [Option.bind_eq_bind, Option.bind_some]
  by_cases h6 : v.gKind = 6
  · simp only [h6, decide_true, Bool.true_and, if_true]
    cases v.gKeys.findIdx? (fun x => decide (k = x)) with
    | none => rfl
    | some j =>
      simp only
      have h0 : (0 : Int) ≤ (j : Int) := by omega
      by_cases hj : j < v.gList.length
      · have : (j : Int) < (v.gList.length : Int) := by omega
        simp [this, ix_n, List.getElem?_eq_getElem hj]
      · have : ¬ (j : Int) < (v.gList.length : Int) := by omega
        simp [this, List.getElem?_eq_none (Nat.le_of_not_lt hj), nulJ]
  · simp [h6, nulJ]
theorem member_k1 {v : J} {k : List UInt8} (hl : v.gKeys.length < 1000000000) : ∀ (n i : Nat), v.gKeys.length - i = n → i ≤ v.gKeys.length →
    M.r02_Member_k1 v k (i : Int) = some (match (v.gKeys.drop i).findIdx? (fun x => decide (k = x)) with | some j => (match v.gList[i + j]? with | some x => .done (x, true) | none => .go ()) | none => .go ()) := by
  intro n
  induction n with
  | zero =>
    intro i hn hi
    rw [M.r02_Member_k1.eq_1]
    have : ¬ ((i : Int) < (v.gKeys.length : Int)) := by omega
    rw [if_neg (by simp [this]), List.drop_eq_nil_of_le (by omega)]
    rfl
  | succ n ih =>
    intro i hn hi
    have hlt : i < v.gKeys.length := by omega
    rw [M.r02_Member_k1.eq_1]
    have h1 : ((i : Int) < (v.gKeys.length : Int)) := by omega
    rw [List.drop_eq_getElem_cons hlt, List.findIdx?_cons]
    by_cases h2 : i < v.gList.length
    · have h2' : ((i : Int) < (v.gList.length : Int)) := by omega
      simp only [h1, h2', decide_true, Bool.and_true, if_true, ix_n, List.getElem?_eq_getElem hlt, List.getElem?_eq_getElem h2, Option.bind_eq_bind, Option.bind_some]
      rw [w1 (by omega), ih (i + 1) (by omega) (by omega)]
      by_cases he : k = v.gKeys[i]
      · simp [← he, List.getElem?_eq_getElem h2]
      · have he' : ¬ v.gKeys[i] = k := fun e => he e.symm
        simp only [he, he', decide_false, Bool.false_eq_true, if_false]
        cases (v.gKeys.drop (i + 1)).findIdx? (fun x => decide (k = x)) with
        | none => rfl
        | some j =>
          simp only [Option.map_some]
          rw [show i + 1 + j = i + (j + 1) by omega]
    · have h2' : ¬ ((i : Int) < (v.gList.length : Int)) := by omega
      have nn : ∀ j, v.gList[i + j]? = none := fun j => List.getElem?_eq_none (by omega)
      rw [if_neg (by simp [h2'])]
      split
      · rename_i j hj
        rw [nn]
      · rfl
theorem r02_Member_eq {v : J} {k : List UInt8} (h : v.gKeys.length < 1000000000) : M.r02_Member v k = some (memb v k) := by
  unfold M.r02_Member memb
  by_cases h6 : v.gKind = 6
  · have hk := member_k1 (v := v) (k := k) h _ 0 rfl (Nat.zero_le _)
    have hk : M.r02_Member_k1 v k 0 = _ := hk
    simp only [h6, decide_true, Bool.not_true, Bool.false_eq_true, if_false, if_true, hk, List.drop_zero, Nat.zero_add, Option.bind_eq_bind, Option.bind_some]
    cases v.gKeys.findIdx? (fun x => decide (k = x)) with
    | none => rfl
    | some j =>
      simp only
      cases v.gList[j]? with
      | none => rfl
      | some x => rfl
  · simp [h6, nulJ]
theorem memb_sz (v : J) (k : List UInt8) : (memb v k).1.sz ≤ v.sz := by
  have h1 := T_api_Json.sz_eq v
  have h0 : nulJ.sz = 1 := by decide
  unfold memb
  split
  · split
    · split
      · rename_i x hx
        have := szs_mem (List.mem_of_getElem? hx)
        simp only
        omega
      · simp only; omega
    · simp only; omega
  · simp only; omega
/-! Lists of texts. -/
def texts : List J → Option (List (List UInt8))
  | [] => some []
  | x :: l => if x.gKind = 4 then (texts l).map (x.gText :: ·) else none
theorem json_Texts_k {v : J} (hl : v.gList.length < 1000000000) : ∀ (n i : Nat) (acc : List (List UInt8)), v.gList.length - i = n → i ≤ v.gList.length → acc.length + n < 1000000000 →
    M.json_Texts_k1 v acc (i : Int) = some (match texts (v.gList.drop i) with | some l => .go (acc ++ l) | none => .done ([], false)) := by
  intro n
  induction n with
  | zero =>
    intro i acc hn hi ha
    rw [M.json_Texts_k1.eq_1]
    have : ¬ ((i : Int) < (v.gList.length : Int)) := by omega
    rw [if_neg (by simp [this]), List.drop_eq_nil_of_le (by omega)]
    simp [texts]
  | succ n ih =>
    intro i acc hn hi ha
    have hlt : i < v.gList.length := by omega
    rw [M.json_Texts_k1.eq_1]
    have h1 : ((i : Int) < (v.gList.length : Int)) := by omega
    simp only [h1, decide_true, if_true, ix_n, List.getElem?_eq_getElem hlt, Option.bind_eq_bind, Option.bind_some]
    rw [List.drop_eq_getElem_cons hlt, texts]
    by_cases h4 : (v.gList[i]).gKind = 4
    · simp only [h4, decide_true, Bool.not_true, Bool.false_eq_true, if_false, if_true]
      rw [app_ok (by simp only [List.length_cons, List.length_nil]; omega), w1 (by omega)]
      simp only [Option.bind_some]
      rw [ih (i + 1) _ (by omega) (by omega) (by simp; omega)]
      cases texts (v.gList.drop (i + 1)) with
      | none => rfl
      | some l => simp
    · simp [h4]
theorem r02_Texts_k {v : J} (hl : v.gList.length < 1000000000) : ∀ (n i : Nat) (acc : List (List UInt8)), v.gList.length - i = n → i ≤ v.gList.length → acc.length + n < 1000000000 →
    M.r02_Texts_k1 v acc (i : Int) = some (match texts (v.gList.drop i) with | some l => .go (acc ++ l) | none => .done ([], false)) := by
  intro n
  induction n with
  | zero =>
    intro i acc hn hi ha
    rw [M.r02_Texts_k1.eq_1]
    have : ¬ ((i : Int) < (v.gList.length : Int)) := by omega
    rw [if_neg (by simp [this]), List.drop_eq_nil_of_le (by omega)]
    simp [texts]
  | succ n ih =>
    intro i acc hn hi ha
    have hlt : i < v.gList.length := by omega
    rw [M.r02_Texts_k1.eq_1]
    have h1 : ((i : Int) < (v.gList.length : Int)) := by omega
    simp only [h1, decide_true, if_true, ix_n, List.getElem?_eq_getElem hlt, Option.bind_eq_bind, Option.bind_some]
    rw [List.drop_eq_getElem_cons hlt, texts]
    by_cases h4 : (v.gList[i]).gKind = 4
    · simp only [h4, decide_true, Bool.not_true, Bool.false_eq_true, if_false, if_true]
      rw [app_ok (by simp only [List.length_cons, List.length_nil]; omega), w1 (by omega)]
      simp only [Option.bind_some]
      rw [ih (i + 1) _ (by omega) (by omega) (by simp; omega)]
      cases texts (v.gList.drop (i + 1)) with
      | none => rfl
      | some l => simp
    · simp [h4]
def textsOf (v : J) : List (List UInt8) × Bool := if v.gKind = 5 then (match texts v.gList with | some l => (l, true) | none => ([], false)) else ([], false)
theorem json_Texts_eq {v : J} (hl : v.gList.length < 100000000) : M.json_Texts v = some (textsOf v) := by
  unfold M.json_Texts textsOf
  by_cases h5 : v.gKind = 5
  · have hk := json_Texts_k (v := v) (by omega) _ 0 [] rfl (Nat.zero_le _) (by simp; omega)
    have hk : M.json_Texts_k1 v [] 0 = _ := hk
    simp only [h5, decide_true, Bool.not_true, Bool.false_eq_true, if_false, if_true, hk, List.drop_zero, List.nil_append, Option.bind_eq_bind, Option.bind_some]
    cases texts v.gList <;> rfl
  · simp [h5]
theorem r02_Texts_eq {v : J} (hl : v.gList.length < 100000000) : M.r02_Texts v = some (textsOf v) := by
  unfold M.r02_Texts textsOf
  by_cases h5 : v.gKind = 5
  · have hk := r02_Texts_k (v := v) (by omega) _ 0 [] rfl (Nat.zero_le _) (by simp; omega)
    have hk : M.r02_Texts_k1 v [] 0 = _ := hk
    simp only [h5, decide_true, Bool.not_true, Bool.false_eq_true, if_false, if_true, hk, List.drop_zero, List.nil_append, Option.bind_eq_bind, Option.bind_some]
    cases texts v.gList <;> rfl
  · simp [h5]
theorem texts_len : ∀ {l : List J} {r : List (List UInt8)}, texts l = some r → r.length = l.length
  | [], r, h => by cases h; rfl
  | x :: l, r, h => by
    rw [texts] at h
    split at h
    · obtain ⟨y, h1, rfl⟩ := Option.map_eq_some_iff.1 h
      simp [texts_len h1]
    · cases h
theorem textsOf_len (v : J) : (textsOf v).1.length ≤ v.gList.length := by
  unfold textsOf
  split
  · split
    · rename_i l h; simp [texts_len h]
    · simp
  · simp
theorem sameTexts_k (l : List (List UInt8)) (hl : l.length < 1000000000) : ∀ (n i : Nat), l.length - i = n → i ≤ l.length → M.r02_SameTexts_k1 l l (i : Int) = some (.go ()) := by
  intro n
  induction n with
  | zero =>
    intro i hn hi
    rw [M.r02_SameTexts_k1.eq_1]
    have : ¬ ((i : Int) < (l.length : Int)) := by omega
    rw [if_neg (by simp [this])]
  | succ n ih =>
    intro i hn hi
    have hlt : i < l.length := by omega
    rw [M.r02_SameTexts_k1.eq_1]
    have h1 : ((i : Int) < (l.length : Int)) := by omega
    simp only [h1, decide_true, if_true, ix_n, List.getElem?_eq_getElem hlt, Option.bind_eq_bind, Option.bind_some, Bool.not_true, Bool.false_eq_true, if_false]
    rw [w1 (by omega), ih (i + 1) (by omega) (by omega)]
theorem sameTexts_eq {l : List (List UInt8)} (hl : l.length < 1000000000) : M.r02_SameTexts l l = some true := by
  unfold M.r02_SameTexts
  have : M.r02_SameTexts_k1 l l 0 = some (.go ()) := sameTexts_k l hl _ 0 rfl (Nat.zero_le _)
  simp [this]
/-! Small whole numbers. -/
def dstep (a : Nat) (c : UInt8) : Nat := 10 * a + (c.toNat - 48)
def dval (a : Nat) (l : List UInt8) : Nat := l.foldl dstep a
theorem dstep_eq (a : Nat) (c : UInt8) : dstep a c = 10 * a + (c.toNat - 48) := rfl
theorem dval_nil (a : Nat) : dval a [] = a := rfl
theorem dval_cons (a : Nat) (c : UInt8) (r : List UInt8) : dval a (c :: r) = dval (dstep a c) r := by unfold dval; rw [List.foldl_cons]
theorem dval_app (l : List UInt8) (a : Nat) (c : UInt8) : dval a (l ++ [c]) = dstep (dval a l) c := by
  unfold dval
  rw [List.foldl_append]
  rfl
theorem isD_n {c : UInt8} (h : isD c = true) : 48 ≤ c.toNat ∧ c.toNat ≤ 57 := by
  unfold isD at h
  simpa using h
theorem dval_lt : ∀ (l : List UInt8) (a k : Nat), (∀ c ∈ l, isD c = true) → a < 10 ^ k → dval a l < 10 ^ (k + l.length)
  | [], a, k, _, h => by rw [dval_nil]; exact h
  | c :: l, a, k, hd, h => by
    have h1 := isD_n (hd c (by simp))
    have h2 : dstep a c < 10 ^ (k + 1) := by rw [dstep_eq, Nat.pow_succ]; omega
    have := dval_lt l _ (k + 1) (fun x hx => hd x (by simp [hx])) h2
    rw [dval_cons, List.length_cons, show k + (l.length + 1) = k + 1 + l.length by omega]
    exact this
theorem pstep10 {a : Nat} {c : UInt8} {l : List UInt8} (hd : isD c = true) (ha : a < 1000000000000000) : Lib.parseUint10 a (c :: l) = Lib.parseUint10 (dstep a c) l := by
  have h1 := isD_n hd
  have e : a * 10 + (c.toNat - 48) = dstep a c := by rw [dstep_eq]; omega
  rw [Lib.parseUint10, e, if_pos h1, if_neg (by omega), if_neg (by rw [dstep_eq]; omega)]
@[reducible] def noN : Lib.NumEnd Nat := Lib.parseMag []
theorem pstop10 {a : Nat} {c : UInt8} {l : List UInt8} (hd : isD c = false) : Lib.parseUint10 a (c :: l) = noN := by
  have h1 : ¬ (48 ≤ c.toNat ∧ c.toNat ≤ 57) := fun x => by
    have : isD c = true := by unfold isD; simpa using x
    rw [hd] at this; cases this
  rw [Lib.parseUint10, if_neg h1]; rfl
theorem parse10 {N : Nat} (hN : N ≤ 1000000000000000) (l : List UInt8) : ∀ a : Nat, (a + 1) * 10 ^ l.length ≤ N → Lib.parseUint10 a l = if (l.all isD) = true then .ok (dval a l) else noN := by
  induction l with
  | nil => intro a _; rfl
  | cons c l ih =>
    intro a ha
    have hpos : 0 < 10 ^ l.length := Nat.pow_pos (by decide)
    rw [List.length_cons, Nat.pow_succ] at ha
    cases hd : isD c with
    | true =>
      have h1 := isD_n hd
      have h3 : (a + 1) * (10 ^ l.length * 10) = (10 * a + 10) * 10 ^ l.length := by
        rw [Nat.mul_comm (10 ^ l.length) 10, ← Nat.mul_assoc]
        congr 1
        omega
      rw [h3] at ha
      have h4 : a + 1 ≤ (10 * a + 10) * 10 ^ l.length := by
        have := Nat.le_mul_of_pos_right (10 * a + 10) hpos
        omega
      have h2 : (dstep a c + 1) * 10 ^ l.length ≤ N := by
        refine Nat.le_trans (Nat.mul_le_mul_right _ ?_) ha
        rw [dstep_eq]
        omega
      rw [pstep10 hd (by omega), ih _ h2, List.all_cons, hd, dval_cons, Bool.true_and]
    | false => rw [pstop10 hd, List.all_cons, hd]; rfl
theorem parseMag_eq {l : List UInt8} (hl : l.length ≤ 15) : Lib.parseMag l = if l = [] then noN else if (l.all isD) = true then .ok (dval 0 l) else noN := by
  unfold Lib.parseMag
  rw [parse10 (N := 10 ^ 15) (by decide) l 0 (by rw [Nat.zero_add, Nat.one_mul]; exact Nat.pow_le_pow_right (by decide) hl)]
  by_cases h : l = []
  · subst h; rfl
  · rw [if_neg h, if_neg h]
theorem ofNat_dig {c : UInt8} (h : isD c = true) : UInt8.ofNat (48 + (c.toNat - 48)) = c := by
  have := isD_n h
  rw [show 48 + (c.toNat - 48) = c.toNat by omega]
  simp
theorem dig_isD {n : Nat} (h : n < 10) : isD (UInt8.ofNat (48 + n)) = true ∧ (UInt8.ofNat (48 + n) = 48 → n = 0) := by
  have tab : ∀ n : Fin 10, isD (UInt8.ofNat (48 + n.val)) = true ∧ (UInt8.ofNat (48 + n.val) = 48 → n.val = 0) := by decide
  exact tab ⟨n, h⟩
theorem decDigits_d : ∀ (n u : Nat), u ≤ n → (∀ c ∈ Lib.decDigits u, isD c = true) ∧ ¬ Lib.decDigits u = [] ∧ ((Lib.decDigits u).head? = some 48 → u = 0)
  | n, u, hu => by
    rw [Lib.decDigits]
    by_cases h : u < 10
    · rw [dif_pos h]
      refine ⟨fun c hc => ?_, List.cons_ne_nil _ _, fun he => ?_⟩
      · rw [List.mem_singleton.1 hc]; exact (dig_isD h).1
      · exact (dig_isD h).2 (Option.some.inj he)
    · rw [dif_neg h]
      match n, hu with
      | n + 1, hu =>
        obtain ⟨h1, h2, h3⟩ := decDigits_d n (u / 10) (by omega)
        refine ⟨fun c hc => ?_, by simp, fun he => ?_⟩
        · rcases List.mem_append.1 hc with hc | hc
          · exact h1 c hc
          · rw [List.mem_singleton.1 hc]; exact (dig_isD (by omega)).1
        · rw [head_app, if_neg h2] at he
          have := h3 he
          omega
      | 0, hu => omega
theorem dval_pos : ∀ (l : List UInt8) (a : Nat), 0 < a → 0 < dval a l
  | [], a, h => h
  | c :: l, a, h => dval_pos l _ (by rw [dstep_eq]; omega)
theorem decDigits_val : ∀ (n : Nat) (l : List UInt8), l.length = n → (∀ c ∈ l, isD c = true) → ¬ l = [] → (l.head? = some 48 → l.length = 1) → Lib.decDigits (dval 0 l) = l := by
  intro n
  induction n with
  | zero => intro l hn _ h; exact absurd (List.eq_nil_of_length_eq_zero hn) h
  | succ n ih =>
    intro l' hn hd hne hh
    obtain ⟨l, c, rfl⟩ : ∃ l c, l' = l ++ [c] := ⟨l'.dropLast, l'.getLast hne, (List.dropLast_concat_getLast hne).symm⟩
    have hln : l.length = n := by simpa using hn
    rw [dval_app, dstep_eq]
    have hc := hd c (by simp)
    have hn := isD_n hc
    by_cases hl : l = []
    · subst hl
      rw [dval_nil, Lib.decDigits, dif_pos (by omega)]
      rw [show 48 + (10 * 0 + (c.toNat - 48)) = 48 + (c.toNat - 48) by omega, ofNat_dig hc]
      rfl
    · have hh' : ¬ l.head? = some 48 := fun e => by
        have h2 := hh (by rw [head_app, if_neg hl]; exact e)
        have : 0 < l.length := List.length_pos_iff.2 hl
        simp at h2
        exact hl h2
      have ihl := ih l hln (fun x hx => hd x (by simp [hx])) hl (fun e => absurd e hh')
      have hp : 0 < dval 0 l := by
        cases l with
        | nil => exact absurd rfl hl
        | cons d r =>
          have h1 := isD_n (hd d (by simp))
          have h2 : ¬ d = 48 := fun e => hh' (by rw [e]; rfl)
          have h3 : ¬ d.toNat = 48 := fun e => h2 (by rw [show (48 : UInt8) = UInt8.ofNat 48 from rfl, ← e]; simp)
          rw [dval_cons]
          exact dval_pos r _ (by rw [dstep_eq]; omega)
      rw [Lib.decDigits, dif_neg (by omega)]
      have e1 : (10 * dval 0 l + (c.toNat - 48)) / 10 = dval 0 l := by omega
      have e2 : (10 * dval 0 l + (c.toNat - 48)) % 10 = c.toNat - 48 := by omega
      rw [e1, e2, ihl, ofNat_dig hc]
/-- A number as one, if it is a small whole one. -/
def mag (t : List UInt8) : List UInt8 := if t.head? = some 45 then t.drop 1 else t
def way (t : List UInt8) : Int := if t.head? = some 45 then -1 else 1
def canon (t : List UInt8) : Bool := !decide (mag t = []) && (mag t).all isD && decide ((mag t).length ≤ 15) && !(decide ((mag t).head? = some 48) && (decide (1 < (mag t).length) || decide (way t < 0)))
def intOf (v : J) : Int × Bool := if v.gKind = 3 ∧ canon v.gText = true then (way v.gText * (dval 0 (mag v.gText) : Int), true) else (0, false)
theorem mag_len (t : List UInt8) : (mag t).length ≤ t.length := by
  unfold mag
  split <;> simp
theorem json_Int_eq {v : J} (h : v.gText.length < 1000000000) : M.json_Int v = some (intOf v) := by
  unfold M.json_Int intOf
  rw [trimPrefix_eq, isPrefixOf_one]
  have em : (if decide (v.gText.head? = some 45) = true then v.gText.drop ([45] : List UInt8).length else v.gText) = mag v.gText := by
    unfold mag
    by_cases hh : v.gText.head? = some 45 <;> simp [hh]
  rw [em]
  simp only [Option.bind_eq_bind, Option.bind_some]
  generalize ht : v.gText = t at *
  have hml := mag_len t
  by_cases h3 : v.gKind = 3
  · simp only [h3, decide_true, Bool.not_true, Bool.false_eq_true, if_false, true_and]
    by_cases hl : (mag t).length ≤ 15
    · have hl' : ¬ (15 : Int) < ((mag t).length : Int) := by omega
      simp only [hl', decide_false, Bool.false_eq_true, if_false]
      unfold M.atoi
      rw [chk_ok (by simp; omega)]
      simp only [Option.bind_eq_bind, Option.bind_some]
      have hpow : (10 : Nat) ^ (0 + (mag t).length) ≤ 10 ^ 15 := Nat.pow_le_pow_right (by decide) (by omega)
      have hp15 : (10 : Nat) ^ 15 = 1000000000000000 := by decide
      have itoa_ok : ∀ n : Int, -1000000000000000 ≤ n → n ≤ 1000000000000000 → M.itoa n = some (Lib.itoa n) := fun n h1 h2 => by
        unfold M.itoa
        rw [chk_ok (by rw [Bool.and_eq_true]; simp only [decide_eq_true_eq]; omega)]
        rfl
      have pm := parseMag_eq hl
      cases t with
      | nil => simp [Lib.atoiAll, canon, mag]
      | cons c r =>
        unfold Lib.atoiAll
        have t43 : c.toNat = 43 ↔ c = 43 := by have := toNat_eq (b := c) (n := 43) (by omega); rw [show UInt8.ofNat 43 = 43 from rfl] at this; rw [← this]; omega
        have t45 : c.toNat = 45 ↔ c = 45 := by have := toNat_eq (b := c) (n := 45) (by omega); rw [show UInt8.ofNat 45 = 45 from rfl] at this; rw [← this]; omega
        simp only [t43, t45]
        by_cases c45 : c = 45
        · subst c45
          have hm : mag (45 :: r) = r := by simp [mag]
          have hw : way (45 :: r) = -1 := by simp [way]
          rw [hm] at pm hpow hl
          simp only [or_true, if_true]
          rw [pm]
          by_cases hr : r = []
          · simp [hr, canon, mag, noN, Lib.parseMag]
          · rw [if_neg hr]
            by_cases hd : (r.all isD) = true
            · rw [if_pos hd]
              have hd' : ∀ c ∈ r, isD c = true := by simpa using hd
              have hlt := dval_lt r 0 0 hd' (by decide)
              simp only [not_true_eq_false, false_and, if_false, true_and]
              rw [if_neg (by omega)]
              simp only [if_true, Option.bind_some, Bool.not_true, Bool.false_eq_true, if_false]
              rw [itoa_ok _ (by omega) (by omega)]
              simp only [Option.bind_some]
              have hc : canon (45 :: r) = !decide (r.head? = some 48) := by
                unfold canon
                rw [hm, hw, hd]
                simp [hr, hl]
              rw [hc, hm, hw]
              by_cases h48 : r.head? = some 48
              · have : ¬ Lib.itoa (-(dval 0 r : Int)) = 45 :: r := by
                  intro e
                  unfold Lib.itoa at e
                  split at e
                  · rename_i hneg
                    injection e with _ e
                    have h5 := (decDigits_d _ _ (Nat.le_refl ((-(dval 0 r : Int)).natAbs))).2.2
                    rw [e] at h5
                    have := h5 h48
                    omega
                  · have h5 := (decDigits_d _ _ (Nat.le_refl ((-(dval 0 r : Int)).toNat))).1 45 (by rw [e]; simp)
                    simp [isD] at h5
                simp [h48, this]
              · have hv : Lib.decDigits (dval 0 r) = r := decDigits_val _ r rfl hd' hr (fun e => absurd e h48)
                have hpos : 0 < dval 0 r := by
                  rcases Nat.eq_zero_or_pos (dval 0 r) with h0 | h0
                  · exfalso
                    rw [h0] at hv
                    rw [← hv] at h48
                    exact h48 (by rw [Lib.decDigits]; rfl)
                  · exact h0
                have : Lib.itoa (-(dval 0 r : Int)) = 45 :: r := by
                  unfold Lib.itoa
                  rw [if_pos (by omega)]
                  have : (-(dval 0 r : Int)).natAbs = dval 0 r := by omega
                  rw [this, hv]
                simp [h48, this]
            · have hc : canon (45 :: r) = false := by
                unfold canon
                rw [hm]
                simp [hd]
              rw [if_neg hd, hc]
              simp [noN, Lib.parseMag]
        · have hm : mag (c :: r) = c :: r := by simp [mag, c45]
          have hw : way (c :: r) = 1 := by simp [way, c45]
          rw [hm] at pm hpow hl
          by_cases c43 : c = 43
          · subst c43
            have hc : canon (43 :: r) = false := by
              unfold canon
              rw [hm]
              simp [isD]
            simp only [c45, or_false, if_true, hc, Bool.false_eq_true, if_false]
            have hrl : r.length ≤ 15 := by simp at hl; omega
            rw [parseMag_eq hrl]
            by_cases hr : r = []
            · simp [hr, noN, Lib.parseMag]
            · rw [if_neg hr]
              by_cases hd : (r.all isD) = true
              · rw [if_pos hd]
                have hd' : ∀ c ∈ r, isD c = true := by simpa using hd
                have hlt := dval_lt r 0 0 hd' (by decide)
                have hpow2 : (10 : Nat) ^ (0 + r.length) ≤ 10 ^ 15 := Nat.pow_le_pow_right (by decide) (by omega)
                simp only [not_false_eq_true, true_and, if_false, false_and]
                rw [if_neg (by omega)]
                simp only [Option.bind_some, Bool.not_true, Bool.false_eq_true, if_false]
                rw [itoa_ok _ (by omega) (by omega)]
                have : ¬ Lib.itoa (dval 0 r : Int) = 43 :: r := by
                  intro e
                  unfold Lib.itoa at e
                  rw [if_neg (by omega)] at e
                  have h5 := (decDigits_d _ _ (Nat.le_refl ((dval 0 r : Int).toNat))).1 43 (by rw [e]; simp)
                  simp [isD] at h5
                simp [this]
              · rw [if_neg hd]
                simp [noN, Lib.parseMag]
          · simp only [c45, c43, or_self, if_false]
            rw [pm, if_neg (by simp)]
            by_cases hd : ((c :: r).all isD) = true
            · rw [if_pos hd]
              have hd' : ∀ x ∈ (c :: r), isD x = true := by simpa using hd
              have hlt := dval_lt (c :: r) 0 0 hd' (by decide)
              simp only [not_false_eq_true, true_and, if_false, false_and]
              rw [if_neg (by omega)]
              simp only [Option.bind_some, Bool.not_true, Bool.false_eq_true, if_false]
              rw [itoa_ok _ (by omega) (by omega)]
              have hc : canon (c :: r) = !(decide (c = 48) && decide (1 < (c :: r).length)) := by
                unfold canon
                rw [hm, hw, hd]
                simp at hl
                simp [hl]
              have hi : Lib.itoa (dval 0 (c :: r) : Int) = Lib.decDigits (dval 0 (c :: r)) := by
                unfold Lib.itoa
                rw [if_neg (by omega)]
                rfl
              rw [hc, hm, hw, hi]
              simp only [Option.bind_some]
              by_cases h48 : c = 48 ∧ 1 < (c :: r).length
              · have : ¬ Lib.decDigits (dval 0 (c :: r)) = c :: r := by
                  intro e
                  have h5 := (decDigits_d _ _ (Nat.le_refl (dval 0 (c :: r)))).2.2
                  rw [e] at h5
                  have h6 := h5 (by rw [h48.1]; rfl)
                  rw [h6, Lib.decDigits] at e
                  rw [← e] at h48
                  simp at h48
                have hh : (decide (c = 48) && decide (1 < (c :: r).length)) = true := by rw [Bool.and_eq_true, decide_eq_true_iff, decide_eq_true_iff]; exact h48
                rw [hh]
                simp [this]
              · have hv : Lib.decDigits (dval 0 (c :: r)) = c :: r := decDigits_val _ _ rfl hd' (by simp) (fun e => by
                  simp at e
                  have : ¬ 1 < (c :: r).length := fun x => h48 ⟨e, x⟩
                  simp at this ⊢
                  exact this)
                have : (decide (c = 48) && decide (1 < (c :: r).length)) = false := by
                  rw [← Bool.not_eq_true, Bool.and_eq_true, decide_eq_true_iff, decide_eq_true_iff]
                  exact h48
                rw [this, hv]
                simp
            · have hc : canon (c :: r) = false := by
                unfold canon
                rw [hm]
                simp only [Bool.not_eq_true] at hd
                rw [hd]
                simp
              rw [if_neg hd, hc]
              simp [noN, Lib.parseMag]
    · have hl' : (15 : Int) < ((mag t).length : Int) := by omega
      have hc : canon t = false := by unfold canon; simp [hl]
      simp only [hl', decide_true, if_true, hc]
      unfold M.atoi
      rw [chk_ok (by simp; omega)]
      simp only [Option.bind_eq_bind, Option.bind_some]
      rcases Lib.atoiAll t with n | _ | _ <;> simp
  · have : ∃ p, M.atoi t = some p := by
      unfold M.atoi
      rw [chk_ok (by simp; omega)]
      simp only [Option.bind_eq_bind, Option.bind_some]
      rcases Lib.atoiAll t with n | _ | _ <;> exact ⟨_, rfl⟩
    obtain ⟨p, hp⟩ := this
    simp [hp, h3]
theorem r02_Int_k {s : List UInt8} {w : Int} (hw : w = 1 ∨ w = -1) (hs : s.length < 1000000000) : ∀ (n i a : Nat), s.length - i = n → i ≤ s.length → a < 10 ^ i → i ≤ 15 →
    M.r02_Int_k1 (s, w) (w * (a : Int)) (i : Int) = some (if ((s.drop i).all isD && decide (s.length ≤ 15)) = true then .go (w * (dval a (s.drop i) : Int)) else .done (0, false)) := by
  intro n
  induction n with
  | zero =>
    intro i a hn hi ha h15
    rw [M.r02_Int_k1.eq_1]
    have : ¬ ((i : Int) < (s.length : Int)) := by omega
    have h2 : s.length ≤ 15 := by omega
    rw [if_neg (by simp [this]), List.drop_eq_nil_of_le (by omega)]
    simp [dval_nil, h2]
  | succ n ih =>
    intro i a hn hi ha h15
    have hlt : i < s.length := by omega
    rw [M.r02_Int_k1.eq_1]
    have h1 : ((i : Int) < (s.length : Int)) := by omega
    simp only [h1, decide_true, if_true, ix_n, List.getElem?_eq_getElem hlt, Option.bind_eq_bind, Option.bind_some, r02_digit_eq]
    rw [List.drop_eq_getElem_cons hlt, List.all_cons, dval_cons]
    by_cases hd : isD s[i] = true
    · by_cases hi15 : 15 ≤ i
      · have : (15 : Int) ≤ (i : Int) := by omega
        have h2 : ¬ s.length ≤ 15 := by omega
        simp [hd, this, h2]
      · have h2 : ¬ (15 : Int) ≤ (i : Int) := by omega
        have hn := isD_n hd
        have hpow : 10 ^ i ≤ 10 ^ 14 := Nat.pow_le_pow_right (by decide) (by omega)
        have hp14 : (10 : Nat) ^ 14 = 100000000000000 := by decide
        simp only [hd, Bool.not_true, h2, decide_false, Bool.or_false, Bool.false_eq_true, if_false, Bool.true_and]
        have e1 : IntKind.wrap .u8 (((s[i]).toNat : Int) - 48) = (((s[i]).toNat - 48 : Nat) : Int) := by rw [wu8]; omega
        have e2 : IntKind.wrap .i64 ((((s[i]).toNat - 48 : Nat)) : Int) = (((s[i]).toNat - 48 : Nat) : Int) := w64 (by omega) (by omega)
        have e3 : IntKind.wrap .i64 (w * (((s[i]).toNat - 48 : Nat) : Int)) = w * (((s[i]).toNat - 48 : Nat) : Int) := by rcases hw with rfl | rfl <;> (rw [w64] <;> omega)
        have e4 : IntKind.wrap .i64 (10 * (w * (a : Int))) = 10 * (w * (a : Int)) := by rcases hw with rfl | rfl <;> (rw [w64] <;> omega)
        have e5 : IntKind.wrap .i64 (10 * (w * (a : Int)) + w * (((s[i]).toNat - 48 : Nat) : Int)) = w * ((dstep a s[i] : Nat) : Int) := by rw [dstep_eq]; rcases hw with rfl | rfl <;> (rw [w64] <;> omega)
        rw [e1, e2, e3, e4, e5, w1 (by omega)]
        exact ih (i + 1) _ (by omega) (by omega) (by rw [dstep_eq, Nat.pow_succ]; omega) (by omega)
    · simp [hd]
theorem r02_Int_eq {v : J} (h : v.gText.length < 1000000000) : M.r02_Int v = some (intOf v) := by
  unfold M.r02_Int intOf
  by_cases h3 : v.gKind = 3
  · simp only [h3, decide_true, Bool.not_true, Bool.false_eq_true, if_false, true_and]
    generalize v.gText = t at *
    have hj : (if (!decide (t = ([] : List UInt8))) = true then (ix t 0).bind fun c_17 => some (decide ((c_17.toNat : Int) = 45)) else some false) = some (decide (t.head? = some 45)) := by
      cases t with
      | nil => rfl
      | cons c r =>
        have t1 : ((c.toNat : Int) = 45) ↔ c = 45 := toNat_eq (n := 45) (by omega)
        simp [ix_0, t1]
    simp only [Option.bind_eq_bind]
    rw [hj]
    simp only [Option.bind_some]
    have hj2 : (if decide (t.head? = some 45) = true then (sub t 1 (t.length : Int)).bind fun s_18 => some (s_18, (-1 : Int)) else some (t, 1)) = some (mag t, way t) := by
      unfold mag way
      by_cases hh : t.head? = some 45
      · have : sub t 1 (t.length : Int) = some (t.drop 1) := sub_d (a := 1) (by cases t with | nil => cases hh | cons c r => simp)
        simp [hh, this]
      · simp [hh]
    rw [hj2]
    simp only [Option.bind_some]
    have hml := mag_len t
    have hw : way t = 1 ∨ way t = -1 := by unfold way; split <;> simp
    have hk := r02_Int_k (s := mag t) hw (by omega) _ 0 0 rfl (Nat.zero_le _) (by decide) (by omega)
    have hz : way t * ((0 : Nat) : Int) = 0 := by simp
    rw [hz] at hk
    have hk : M.r02_Int_k1 (mag t, way t) 0 0 = _ := hk
    rw [hk]
    simp only [List.drop_zero, Option.bind_some]
    unfold canon
    generalize mag t = m at *
    generalize way t = w at *
    by_cases ha : (m.all isD && decide (m.length ≤ 15)) = true
    · rw [if_pos ha]
      simp only
      rw [Bool.and_eq_true] at ha
      obtain ⟨a1, a2⟩ := ha
      rw [a1, a2]
      cases m with
      | nil => simp
      | cons c r =>
        have t1 : ((c.toNat : Int) = 48) ↔ c = 48 := toNat_eq (n := 48) (by omega)
        have e1 : ((c :: r) = ([] : List UInt8)) ↔ False := by simp
        have t2 : ((1 : Int) < (((c :: r).length : Nat) : Int)) ↔ 1 < (c :: r).length := by omega
        simp only [e1, decide_false, Bool.false_eq_true, if_false, ix_0, List.getElem?_cons_zero, Option.bind_some, t1, t2, Bool.not_false, Bool.true_and, List.head?_cons, Option.some.injEq]
        by_cases c48 : c = 48
        · cases r with
          | nil => by_cases hw0 : w < 0 <;> simp [c48, hw0]
          | cons d r => simp [c48]
        · simp [c48]
    · rw [if_neg ha]
      have : (!decide (m = []) && m.all isD && decide (m.length ≤ 15) && !(decide (m.head? = some 48) && (decide (1 < m.length) || decide (w < 0)))) = false := by
        rw [Bool.and_assoc (!decide (m = [])), Bool.not_eq_true] at *
        rw [ha]
        simp
      rw [this]
      simp
  · simp [h3]
theorem law_JsonFinds {v : J} {k : List UInt8} {f : Nat} (h : v.sz ≤ 1048576) (hf : 1048576 ≤ f) : M.l02_JsonFinds f v k = some true := by
  have h1 := T_api_Json.sz_eq v
  have h2 := szs_len v.gList
  have h3 := kys_len v.gKeys
  have h4 := memb_sz v k
  have h5 := textsOf_len v
  unfold M.l02_JsonFinds
  rw [json_Member_eq (by omega), r02_Member_eq (by omega), json_Int_eq (by omega), r02_Int_eq (by omega), json_Texts_eq (by omega), r02_Texts_eq (by omega), awake_eq (by omega)]
  simp [same_eq f (memb v k).1 (by omega) (by omega), sameTexts_eq (l := (textsOf v).1) (by omega)]
end Go.Sen
