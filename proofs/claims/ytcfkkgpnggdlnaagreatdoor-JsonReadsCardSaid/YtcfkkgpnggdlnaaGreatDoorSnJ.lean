/- JSON, plainly: what is told is read as what it was. -/
import Derived.Test.YtcfkkgpnggdlnaaGreatDoorSnH
set_option linter.all false
namespace Go.Sen
open Go.Lk Go.Pe
theorem qb_shape (c : UInt8) : (qb c = [c] ∧ ¬ c.toNat < 32 ∧ ¬ c = 34 ∧ ¬ c = 92) ∨ ∃ tl, qb c = 92 :: tl ∧ ∀ r, escd (92 :: (tl ++ r)) = some ([c], r) := by
  have two : ∀ x : UInt8, esc1 x = some c → ∀ r, escd (92 :: ([x] ++ r)) = some ([c], r) := fun x hx r => by
    simp [escd, hx]
  by_cases h34 : c = 34
  · subst h34; exact .inr ⟨[34], by decide, two 34 (by decide)⟩
  by_cases h92 : c = 92
  · subst h92; exact .inr ⟨[92], by decide, two 92 (by decide)⟩
  by_cases h8 : c = 8
  · subst h8; exact .inr ⟨[98], by decide, two 98 (by decide)⟩
  by_cases h9 : c = 9
  · subst h9; exact .inr ⟨[116], by decide, two 116 (by decide)⟩
  by_cases h10 : c = 10
  · subst h10; exact .inr ⟨[110], by decide, two 110 (by decide)⟩
  by_cases h12 : c = 12
  · subst h12; exact .inr ⟨[102], by decide, two 102 (by decide)⟩
  by_cases h13 : c = 13
  · subst h13; exact .inr ⟨[114], by decide, two 114 (by decide)⟩
  by_cases hl : c.toNat < 32
  · refine .inr ⟨[117, 48, 48, hexd (c.toNat / 16), hexd (c.toNat % 16)], ?_, fun r => ?_⟩
    · unfold qb
      simp [h34, h92, h8, h9, h10, h12, h13, hl]
    · have tab : ∀ n : Fin 32, hexv (hexd (n.val / 16)) = some (n.val / 16) ∧ hexv (hexd (n.val % 16)) = some (n.val % 16) ∧ encS (n.val : Int) = [UInt8.ofNat n.val] := by decide +kernel
      obtain ⟨t1, t2, t3⟩ := tab ⟨c.toNat, hl⟩
      simp only at t1 t2 t3
      have e117 : esc1 117 = none := by decide
      have h48 : hexv 48 = some 0 := by decide
      have un : unit (92 :: 117 :: 48 :: 48 :: hexd (c.toNat / 16) :: hexd (c.toNat % 16) :: r) = some (c.toNat, r) := by
        simp only [unit, h48, t1, t2, Option.bind_some, and_self, if_true]
        have e : 16 * (16 * (16 * 0 + 0) + c.toNat / 16) + c.toNat % 16 = c.toNat := by omega
        rw [e]
      have l1 : lowS c.toNat = false := by
        unfold lowS
        rw [← Bool.not_eq_true, Bool.and_eq_true]; simp only [decide_eq_true_eq]; omega
      have l2 : highS c.toNat = false := by
        unfold highS
        rw [← Bool.not_eq_true, Bool.and_eq_true]; simp only [decide_eq_true_eq]; omega
      have t3' : encS (c.toNat : Int) = [c] := by rw [t3]; simp
      simp only [List.cons_append, List.nil_append, escd, e117, un, l1, l2, t3', Bool.false_eq_true, if_false, if_true]
  · refine .inl ⟨?_, hl, h34, h92⟩
    unfold qb
    simp [h34, h92, h8, h9, h10, h12, h13, hl]
theorem txt_qbs (r : List UInt8) : ∀ (s acc : List UInt8) (f : Nat), s.length < f → txt f (qbs s ++ 34 :: r) acc = if Lib.validD (acc ++ s) = true then some (acc ++ s, r) else none := by
  intro s
  induction s with
  | nil =>
    intro acc f hf
    obtain ⟨f, rfl⟩ : ∃ g, f = g + 1 := ⟨f - 1, by simp at hf; omega⟩
    simp [qbs, txt]
  | cons c s ih =>
    intro acc f hf
    obtain ⟨f, rfl⟩ : ∃ g, f = g + 1 := ⟨f - 1, by simp at hf; omega⟩
    simp only [List.length_cons] at hf
    rw [qbs_cons]
    have e : acc ++ c :: s = (acc ++ [c]) ++ s := by simp
    rw [e]
    rcases qb_shape c with ⟨h1, h2, h3, h4⟩ | ⟨tl, h1, h2⟩
    · rw [h1]
      have hh := ih (acc ++ [c]) f (by omega)
      simp only [List.cons_append, List.nil_append, List.append_assoc, txt, h2, h3, h4, if_false] at hh ⊢
      exact hh
    · rw [h1]
      have h3 := h2 (qbs s ++ 34 :: r)
      have n1 : ¬ (92 : UInt8).toNat < 32 := by decide
      have n2 : ¬ (92 : UInt8) = 34 := by decide
      have hh := ih (acc ++ [c]) f (by omega)
      simp only [List.cons_append, List.nil_append, List.append_assoc, txt, n1, n2, if_false, if_true, h3] at hh ⊢
      exact hh
theorem qbs_ge : ∀ s : List UInt8, s.length ≤ (qbs s).length
  | [] => by simp
  | c :: s => by
    have := qbs_ge s
    rw [qbs_cons, List.length_append, List.length_cons]
    rcases qb_shape c with ⟨h1, _⟩ | ⟨tl, h1, _⟩ <;> rw [h1] <;> simp <;> omega
theorem text_qt (s r : List UInt8) : text (qt s ++ r) = if Lib.validD s = true then some (s, r) else none := by
  have e : qt s ++ r = 34 :: (qbs s ++ 34 :: r) := by simp [qt]
  rw [e]
  simp only [text, if_true]
  have := qbs_ge s
  rw [txt_qbs r s [] _ (by simp; omega)]
  simp
/-! What ends a number. -/
def nch (c : UInt8) : Bool := isD c || decide (c = 46) || decide (c = 101) || decide (c = 69) || decide (c = 43) || decide (c = 45)
def stop (r : List UInt8) : Prop := ∀ c, r.head? = some c → nch c = false
theorem stop_nil : stop [] := fun c h => by cases h
theorem stop_cons {c : UInt8} {r : List UInt8} (h : nch c = false) : stop (c :: r) := fun d hd => by cases hd; exact h
theorem nch_d {c : UInt8} (h : nch c = false) : isD c = false ∧ ¬ c = 46 ∧ ¬ c = 101 ∧ ¬ c = 69 ∧ ¬ c = 43 ∧ ¬ c = 45 := by
  unfold nch at h
  simpa [and_assoc] using h
theorem digs_stop {r : List UInt8} (h : stop r) : digs r = 0 := by
  cases r with
  | nil => rfl
  | cons c r => rw [digs_cons, (nch_d (h c rfl)).1]; rfl
theorem digs_app {r : List UInt8} (h : stop r) : ∀ s, digs (s ++ r) = digs s
  | [] => by rw [List.nil_append, digs_stop h]; rfl
  | c :: s => by rw [List.cons_append, digs_cons, digs_cons, digs_app h s]
theorem head_app (s r : List UInt8) : (s ++ r).head? = if s = [] then r.head? else s.head? := by cases s <;> simp
theorem sgn_app {r : List UInt8} (h : stop r) (s : List UInt8) : sgn (s ++ r) = sgn s := by
  unfold sgn
  rw [head_app]
  cases s with
  | nil =>
    cases r with
    | nil => rfl
    | cons c r => have := (nch_d (h c rfl)).2.2.2.2.2; simp [this]
  | cons c s => simp
theorem sgn2_app {r : List UInt8} (h : stop r) (s : List UInt8) : sgn2 (s ++ r) = sgn2 s := by
  unfold sgn2
  rw [head_app]
  cases s with
  | nil =>
    cases r with
    | nil => rfl
    | cons c r => have h1 := (nch_d (h c rfl)).2.2.2.2.2; have h2 := (nch_d (h c rfl)).2.2.2.2.1; simp [h1, h2]
  | cons c s => simp
theorem intp_app {r : List UInt8} (h : stop r) (s : List UInt8) : intp (s ++ r) = intp s := by
  unfold intp
  rw [head_app, digs_app h]
  cases s with
  | nil =>
    cases r with
    | nil => rfl
    | cons c r =>
      have : ¬ c = 48 := by
        rintro rfl
        have := (nch_d (h 48 rfl)).1
        simp [isD] at this
      simp [this]
  | cons c s => simp
theorem frac_cons (c : UInt8) (s : List UInt8) : frac (c :: s) = if c = 46 then (if 0 < digs s then 1 + digs s else 0) else 0 := by
  by_cases h : c = 46
  · subst h; simp [frac]
  · rw [if_neg h]
    unfold frac
    split
    · rename_i r hr; injection hr with e1 e2; exact absurd e1 h
    · rfl
theorem frac_nil : frac [] = 0 := rfl
theorem frac_app {r : List UInt8} (h : stop r) (s : List UInt8) : frac (s ++ r) = frac s := by
  cases s with
  | nil =>
    cases r with
    | nil => rfl
    | cons c r => rw [List.nil_append, frac_cons, if_neg (nch_d (h c rfl)).2.1]; rfl
  | cons c s => rw [List.cons_append, frac_cons, frac_cons, digs_app h]
theorem expo_app {r : List UInt8} (h : stop r) (s : List UInt8) : expo (s ++ r) = expo s := by
  cases s with
  | nil =>
    cases r with
    | nil => rfl
    | cons c r =>
      have h1 := (nch_d (h c rfl)).2.2.1
      have h2 := (nch_d (h c rfl)).2.2.2.1
      simp [expo, h1, h2]
  | cons c s =>
    rw [List.cons_append]
    unfold expo
    simp only
    rw [sgn2_app h, List.drop_append_of_le_length (sgn2_le s), digs_app h]
theorem num_app {r : List UInt8} (h : stop r) (s : List UInt8) : num (s ++ r) = num s := by
  have l1 := sgn_le s
  have l2 := intp_le (s.drop (sgn s))
  have l3 := frac_le (s.drop (sgn s + intp (s.drop (sgn s))))
  simp only [List.length_drop] at l2 l3
  unfold num
  simp only
  rw [sgn_app h, List.drop_append_of_le_length l1, intp_app h, List.drop_append_of_le_length (by omega), frac_app h, List.drop_append_of_le_length (by omega), expo_app h]
theorem num_head {s : List UInt8} (h : ¬ num s = 0) : ∃ c r, s = c :: r ∧ (c = 45 ∨ isD c = true) := by
  cases s with
  | nil => exact absurd (by decide) h
  | cons c r =>
    refine ⟨c, r, rfl, ?_⟩
    by_cases hc : c = 45
    · exact .inl hc
    · refine .inr ?_
      unfold num at h
      have hs : sgn (c :: r) = 0 := by simp [sgn, hc]
      simp only [hs, List.drop_zero] at h
      split at h
      · exact absurd rfl h
      · rename_i h1
        by_cases hd : isD c = true
        · exact hd
        · exfalso
          apply h1
          rw [← digs_zero_intp, digs_cons, if_neg hd]
/-! The first byte of a form. -/
theorem bl_tab : ∀ c : UInt8, bl c = (decide (c = 32) || decide (c = 9) || decide (c = 10) || decide (c = 13)) := fin256 (by decide +kernel)
theorem blanks_cons {c : UInt8} {r : List UInt8} (h : bl c = false) : blanks (c :: r) = c :: r := by
  unfold blanks
  rw [List.dropWhile_cons, h]
  rfl
theorem blanks_nil : blanks [] = [] := rfl
def opens (c : UInt8) : Bool := !bl c && !decide (c = 93) && !decide (c = 125) && !decide (c = 44)
theorem opens_d : ∀ c : UInt8, (c = 45 ∨ isD c = true) → opens c = true ∧ ¬ c = 34 ∧ ¬ c = 91 ∧ ¬ c = 123 ∧ ¬ c = 110 ∧ ¬ c = 102 ∧ ¬ c = 116 := by
  have : ∀ c : UInt8, (!(decide (c = 45) || isD c) || (opens c && !decide (c = 34) && !decide (c = 91) && !decide (c = 123) && !decide (c = 110) && !decide (c = 102) && !decide (c = 116))) = true := fin256 (by decide +kernel)
  intro c h
  have h2 := this c
  have h3 : (decide (c = 45) || isD c) = true := by simpa using h
  rw [h3] at h2
  simpa [and_assoc] using h2
theorem opens_bl {c : UInt8} (h : opens c = true) : bl c = false ∧ ¬ c = 93 ∧ ¬ c = 125 ∧ ¬ c = 44 := by
  unfold opens at h
  simpa [and_assoc] using h
theorem frm_num {t : List UInt8} {n : Nat} {ks : List (List UInt8)} (h : frm 3 t n ks = true) : ¬ t = [] ∧ num t = t.length ∧ n = 0 ∧ ks = [] := by
  unfold frm at h
  simp [and_assoc] at h
  exact h.2
theorem frm_text {t : List UInt8} {n : Nat} {ks : List (List UInt8)} (h : frm 4 t n ks = true) : Lib.validD t = true ∧ n = 0 ∧ ks = [] := by
  unfold frm at h
  simp [and_assoc] at h
  exact h.2
theorem frm_word {k : Int} {t : List UInt8} {n : Nat} {ks : List (List UInt8)} (hk : k = 0 ∨ k = 1 ∨ k = 2) (h : frm k t n ks = true) : t = [] ∧ n = 0 ∧ ks = [] := by
  unfold frm at h
  rw [if_pos hk] at h
  simp [and_assoc] at h
  exact h.2
theorem frm_list {t : List UInt8} {n : Nat} {ks : List (List UInt8)} (h : frm 5 t n ks = true) : t = [] ∧ ks = [] := by
  unfold frm at h
  simp at h
  exact h.2
theorem frm_obj {t : List UInt8} {n : Nat} {ks : List (List UInt8)} (h : frm 6 t n ks = true) : t = [] ∧ ks.length = n ∧ ks.Nodup ∧ ∀ k ∈ ks, Lib.validD k = true := by
  unfold frm at h
  simp [and_assoc] at h
  exact ⟨h.2.1, h.2.2.1, h.2.2.2, h.1⟩
theorem kind_cases {k : Int} (h0 : 0 ≤ k) (h7 : k < 7) : k = 0 ∨ k = 1 ∨ k = 2 ∨ k = 3 ∨ k = 4 ∨ k = 5 ∨ k = 6 := by omega
theorem prJ_head {v : J} {w : Nat} (h : chkJ v w = 0) : ∃ c r, prJ v = c :: r ∧ opens c = true := by
  obtain ⟨c1, c2, c3⟩ := chkJ_parts h
  obtain ⟨d1, d2, d3, d4⟩ := frm_keys c2
  rw [prJ_eq]
  rcases kind_cases d3 d4 with h | h | h | h | h | h | h
  · simp only [h, if_true]; exact ⟨_, _, rfl, by decide⟩
  · rw [h]; exact ⟨_, _, rfl, by decide⟩
  · rw [h]; exact ⟨_, _, rfl, by decide⟩
  · rw [h] at c2 ⊢
    obtain ⟨f1, f2, _⟩ := frm_num c2
    obtain ⟨c, r, e, h5⟩ := num_head (s := v.gText) (by rw [f2]; exact fun e => f1 (List.eq_nil_of_length_eq_zero e))
    exact ⟨c, r, e, (opens_d c h5).1⟩
  · rw [h]; exact ⟨_, _, rfl, by decide⟩
  · rw [h]; exact ⟨_, _, rfl, by decide⟩
  · rw [h]; exact ⟨_, _, rfl, by decide⟩
theorem take_cons_ne {c d : UInt8} {p r : List UInt8} (h : ¬ c = d) : take (c :: r) (d :: p) = none := by
  unfold take
  have : ¬ d = c := fun e => h e.symm
  simp [List.isPrefixOf, this]
theorem take_pre (p r : List UInt8) : take (p ++ r) p = some (blanks r) := by
  unfold take
  rw [if_pos (by rw [List.isPrefixOf_iff_prefix]; exact List.prefix_append _ _)]
  simp
theorem text_ne {c : UInt8} {r : List UInt8} (h : ¬ c = 34) : text (c :: r) = none := by simp [text, h]
theorem json_eta (v : J) : (⟨v.gKind, v.gText, v.gList, v.gKeys⟩ : J) = v := by cases v; rfl
/-- Elements, and what closes them, are read as they were told. -/
theorem items_pr {vf : List UInt8 → Rd} {o : Bool} {w w0 : Nat} {r : List UInt8} (hv : ∀ x, chkJ x w0 = 0 → ∀ r, stop r → vf (prJ x ++ r) = if chkJ x w = 0 then .ok (x, blanks r) else .pan 21) :
    ∀ (l : List J) (ks : List (List UInt8)) (la : List J) (ka : List (List UInt8)) (f : Nat) (x : J), (x :: l).length ≤ f → chkL (x :: l) w0 = 0 → (o = true → ks.length = (x :: l).length) → (o = false → ks = [] ∧ ka = []) → (ka ++ ks).Nodup → (∀ k ∈ ks, Lib.validD k = true) →
      ∀ s, s = (prL o (x :: l) ks true ++ (if o = true then 125 else 93) :: r) → items vf o (if o = true then 125 else 93) f s la ka =
      if chkL (x :: l) w = 0 then .ok (⟨if o = true then 6 else 5, [], la ++ x :: l, ka ++ ks⟩, blanks r) else .pan 21 := by
  intro l
  induction l with
  | nil =>
    intro ks la ka f x hf hc hk hk2 hnd hvk s hs
    subst hs
    obtain ⟨f, rfl⟩ : ∃ g, f = g + 1 := ⟨f - 1, by simp at hf; omega⟩
    have hcx := chkL_mem hc x (by simp)
    obtain ⟨hx, hr, he, ho⟩ := prJ_head hcx
    obtain ⟨b1, b2, b3, b4⟩ := opens_bl ho
    have hvx := hv x hcx ((if o = true then 125 else 93) :: r) (by cases o <;> exact stop_cons (by decide))
    have hbl : blanks ((if o = true then 125 else 93) :: r) = (if o = true then 125 else 93) :: r := by cases o <;> exact blanks_cons (by decide)
    rw [hbl] at hvx
    have hch : chkL [x] w = chkJ x w := by rw [chkL_cons]; by_cases e : chkJ x w = 0 <;> simp [e, chkL]
    rw [items, hch]
    cases o with
    | false =>
      obtain ⟨rfl, rfl⟩ := hk2 rfl
      simp only [Bool.false_eq_true, if_false, prL_cons, if_true, List.nil_append, prL, List.append_nil] at hvx ⊢
      rw [hvx]
      by_cases hq : chkJ x w = 0
      · simp [hq, take_one]
      · simp [hq]
    | true =>
      have hk := hk rfl
      simp only [List.length_cons, List.length_nil] at hk
      obtain ⟨k, rfl⟩ : ∃ k, ks = [k] := by
        match ks, hk with
        | [k], _ => exact ⟨k, rfl⟩
      have hnk : ¬ k ∈ ka := fun hm => by
        rw [List.nodup_append] at hnd
        exact hnd.2.2 k hm k (by simp) rfl
      simp only [if_true, prL_cons, List.nil_append, prL, List.append_nil, List.head?_cons, Option.getD_some, List.append_assoc] at hvx ⊢
      unfold key1
      rw [text_qt, if_pos (hvk k (by simp))]
      have h58 : bl 58 = false := by decide
      simp only [hnk, if_false, List.cons_append, List.nil_append, blanks_cons h58, take_one, if_true]
      rw [he, List.cons_append, blanks_cons b1, ← List.cons_append, ← he, hvx]
      by_cases hq : chkJ x w = 0
      · simp [hq]
      · simp [hq]
  | cons y l ih =>
    intro ks la ka f x hf hc hk hk2 hnd hvk s hs
    subst hs
    obtain ⟨f, rfl⟩ : ∃ g, f = g + 1 := ⟨f - 1, by simp at hf; omega⟩
    have hcx := chkL_mem hc x (by simp)
    have hcy := chkL_mem hc y (by simp)
    have hcl : chkL (y :: l) w0 = 0 := by rw [chkL_cons, if_pos hcx] at hc; exact hc
    obtain ⟨hx, hr, he, ho⟩ := prJ_head hcx
    obtain ⟨b1, b2, b3, b4⟩ := opens_bl ho
    obtain ⟨hy, hyr, hye, hyo⟩ := prJ_head hcy
    obtain ⟨y1, y2, y3, y4⟩ := opens_bl hyo
    have h44 : bl 44 = false := by decide
    rw [items, chkL_cons x]
    cases o with
    | false =>
      obtain ⟨rfl, rfl⟩ := hk2 rfl
      have e : ∀ z, prL false (y :: l) [] false ++ z = 44 :: (prL false (y :: l) [] true ++ z) := fun z => by simp [prL_cons]
      simp only [Bool.false_eq_true, if_false] at ih ⊢
      have hvx := hv x hcx (44 :: (prL false (y :: l) [] true ++ 93 :: r)) (stop_cons (by decide))
      rw [prL_cons]
      simp only [Bool.false_eq_true, if_false, if_true, List.nil_append, List.tail_nil, List.append_assoc, e]
      rw [hvx]
      by_cases hq : chkJ x w = 0
      · have hb : blanks (prL false (y :: l) [] true ++ 93 :: r) = prL false (y :: l) [] true ++ 93 :: r := by
          rw [prL_cons, hye]; simp [blanks_cons y1]
        have ne : ¬ (44 : UInt8) = 93 := by decide
        simp only [hq, if_true, blanks_cons h44, take_one, ne, if_false, hb]
        rw [ih [] (la ++ [x]) [] f y (by simp at hf ⊢; omega) hcl (fun h => by cases h) (fun _ => ⟨rfl, rfl⟩) (by simp) (fun k hk => by cases hk) _ rfl]
        simp
      · simp [hq]
    | true =>
      have hk := hk rfl
      obtain ⟨k, ks', rfl⟩ : ∃ k ks', ks = k :: ks' := by
        match ks, hk with
        | k :: ks', _ => exact ⟨k, ks', rfl⟩
      have hnk : ¬ k ∈ ka := fun hm => by
        rw [List.nodup_append] at hnd
        exact hnd.2.2 k hm k (by simp) rfl
      have e : ∀ z, prL true (y :: l) ks' false ++ z = 44 :: (prL true (y :: l) ks' true ++ z) := fun z => by simp [prL_cons]
      simp only [if_true] at ih ⊢
      have hvx := hv x hcx (44 :: (prL true (y :: l) ks' true ++ 125 :: r)) (stop_cons (by decide))
      rw [prL_cons]
      simp only [if_true, List.nil_append, List.append_assoc, e, List.head?_cons, Option.getD_some, List.tail_cons]
      unfold key1
      rw [text_qt, if_pos (hvk k (by simp))]
      have h58 : bl 58 = false := by decide
      simp only [hnk, if_false, List.cons_append, List.nil_append, blanks_cons h58, take_one, if_true]
      rw [he, List.cons_append, blanks_cons b1, ← List.cons_append, ← he, hvx]
      by_cases hq : chkJ x w = 0
      · have hb : blanks (prL true (y :: l) ks' true ++ 125 :: r) = prL true (y :: l) ks' true ++ 125 :: r := by
          rw [prL_cons]
          simp [qt, blanks_cons (show bl 34 = false by decide)]
        have ne : ¬ (44 : UInt8) = 125 := by decide
        simp only [hq, if_true, blanks_cons h44, ne, if_false, hb]
        rw [ih ks' (la ++ [x]) (ka ++ [k]) f y (by simp at hf ⊢; omega) hcl (fun _ => by simpa using hk) (fun h => by cases h) (by simpa using hnd) (fun k hk => hvk k (by simp [hk])) _ rfl]
        simp
      · simp [hq]
theorem prL_ge : ∀ (o : Bool) (l : List J) (ks : List (List UInt8)) (f : Bool) {w : Nat}, chkL l w = 0 → l.length ≤ (prL o l ks f).length
  | _, [], _, _, _, _ => by simp
  | o, x :: l, ks, f, w, h => by
    have h1 := prL_ge o l ks.tail false (w := w) (by
      rw [chkL_cons] at h
      by_cases e : chkJ x w = 0
      · rw [if_pos e] at h; exact h
      · rw [if_neg e] at h; exact absurd h e)
    obtain ⟨c, r, e, _⟩ := prJ_head (chkL_mem h x (by simp))
    rw [prL_cons, e]
    simp only [List.length_append, List.length_cons]
    omega
theorem nest_pr {vf : List UInt8 → Rd} {o : Bool} {w w0 : Nat} {r : List UInt8} (hv : ∀ x, chkJ x w0 = 0 → ∀ r, stop r → vf (prJ x ++ r) = if chkJ x (w + 1) = 0 then .ok (x, blanks r) else .pan 21)
    {l : List J} {ks : List (List UInt8)} (hc : chkL l w0 = 0) (hk : o = true → ks.length = l.length) (hk2 : o = false → ks = []) (hnd : ks.Nodup) (hvk : ∀ k ∈ ks, Lib.validD k = true) :
    nest vf o w (blanks (prL o l ks true ++ (if o = true then 125 else 93) :: r)) = if 16 ≤ w then .pan 21 else if chkL l (w + 1) = 0 then .ok (⟨if o = true then 6 else 5, [], l, ks⟩, blanks r) else .pan 21 := by
  unfold nest
  by_cases h16 : 16 ≤ w
  · simp [h16]
  simp only [h16, if_false]
  cases l with
  | nil =>
    have hks : ks = [] := by
      cases o with
      | false => exact hk2 rfl
      | true => exact List.eq_nil_of_length_eq_zero (by simpa using hk rfl)
    subst hks
    have hbl : blanks ((if o = true then 125 else 93) :: r) = (if o = true then 125 else 93) :: r := by cases o <;> exact blanks_cons (by decide)
    simp [prL, hbl, take_one, chkL]
  | cons x l =>
    have hcx := chkL_mem hc x (by simp)
    obtain ⟨c, rr, he, ho⟩ := prJ_head hcx
    obtain ⟨b1, b2, b3, b4⟩ := opens_bl ho
    have hfst : ∃ d z, prL o (x :: l) ks true ++ (if o = true then 125 else 93) :: r = d :: z ∧ bl d = false ∧ ¬ d = (if o = true then 125 else 93) := by
      rw [prL_cons]
      cases o with
      | false => rw [he]; exact ⟨c, _, by simp only [Bool.false_eq_true, if_false, if_true, List.nil_append, List.cons_append]; rfl, b1, b2⟩
      | true => exact ⟨34, _, by simp only [if_true, List.nil_append, qt, List.cons_append]; rfl, by decide, by decide⟩
    obtain ⟨d, z, e, g1, g2⟩ := hfst
    have hb : blanks (prL o (x :: l) ks true ++ (if o = true then 125 else 93) :: r) = prL o (x :: l) ks true ++ (if o = true then 125 else 93) :: r := by rw [e, blanks_cons g1]
    have ht : take (prL o (x :: l) ks true ++ (if o = true then 125 else 93) :: r) [if o = true then 125 else 93] = none := by rw [e, take_cons_ne g2]
    rw [hb, ht]
    have hge := prL_ge o (x :: l) ks true hc
    have := items_pr (o := o) (w := w + 1) (w0 := w0) (r := r) hv l ks [] [] ((prL o (x :: l) ks true ++ (if o = true then 125 else 93) :: r).length + 1) x (by simp only [List.length_append, List.length_cons] at hge ⊢; omega) hc hk (fun h => ⟨hk2 h, rfl⟩) (by simpa using hnd) hvk _ rfl
    rw [this]
    simp
theorem val_pr : ∀ (f : Nat) (v : J) (w w0 : Nat) (r : List UInt8), w ≤ 16 → 17 ≤ f + w → chkJ v w0 = 0 → stop r → val f (prJ v ++ r) w = if chkJ v w = 0 then .ok (v, blanks r) else .pan 21 := by
  intro f
  induction f with
  | zero => intro v w w0 r h1 h2; omega
  | succ f ih =>
    intro v w w0 r hw hf hc hr
    obtain ⟨c1, c2, c3⟩ := chkJ_parts hc
    obtain ⟨d1, d2, d3, d4⟩ := frm_keys c2
    have fit : chkJ v w = if (v.gKind = 5 ∨ v.gKind = 6) ∧ 16 ≤ w then 21 else chkL v.gList (w + 1) := by rw [chkJ_eq, c2]; simp
    have leaf : ¬ (v.gKind = 5 ∨ v.gKind = 6) → chkJ v w = 0 := fun h => by
      rw [fit, if_neg (fun x => h x.1), List.eq_nil_of_length_eq_zero (d2 h)]
      rfl
    have lw : ∀ k, v.gKind = k → (k = 0 ∨ k = 1 ∨ k = 2) → v = ⟨k, [], [], []⟩ := fun k hk h => by
      rw [hk] at c2
      obtain ⟨e1, e2, e3⟩ := frm_word h c2
      rw [← json_eta v, hk, e1, e3, List.eq_nil_of_length_eq_zero e2]
    rw [val]
    rcases kind_cases d3 d4 with h | h | h | h | h | h | h
    · rw [if_pos (leaf (by omega)), lw 0 h (by simp)]
      have : prJ ⟨0, [], [], []⟩ = [110, 117, 108, 108] := by simp [prJ]
      rw [this]
      have h1 := take_pre [110, 117, 108, 108] r
      simp only [List.cons_append, List.nil_append] at h1 ⊢
      rw [text_ne (by decide), take_cons_ne (by decide), take_cons_ne (by decide)]
      simp [word, h1]
    · rw [if_pos (leaf (by omega)), lw 1 h (by simp)]
      have : prJ ⟨1, [], [], []⟩ = [102, 97, 108, 115, 101] := by simp [prJ]
      rw [this]
      have h1 := take_pre [102, 97, 108, 115, 101] r
      simp only [List.cons_append, List.nil_append] at h1 ⊢
      rw [text_ne (by decide), take_cons_ne (by decide), take_cons_ne (by decide)]
      have h2 : take (102 :: 97 :: 108 :: 115 :: 101 :: r) [110, 117, 108, 108] = none := take_cons_ne (by decide)
      simp [word, h1, h2]
    · rw [if_pos (leaf (by omega)), lw 2 h (by simp)]
      have : prJ ⟨2, [], [], []⟩ = [116, 114, 117, 101] := by simp [prJ]
      rw [this]
      have h1 := take_pre [116, 114, 117, 101] r
      simp only [List.cons_append, List.nil_append] at h1 ⊢
      rw [text_ne (by decide), take_cons_ne (by decide), take_cons_ne (by decide)]
      have h2 : take (116 :: 114 :: 117 :: 101 :: r) [110, 117, 108, 108] = none := take_cons_ne (by decide)
      have h3 : take (116 :: 114 :: 117 :: 101 :: r) [102, 97, 108, 115, 101] = none := take_cons_ne (by decide)
      simp [word, h1, h2, h3]
    · rw [if_pos (leaf (by omega))]
      have c2' := c2
      rw [h] at c2'
      obtain ⟨f1, f2, f3, f4⟩ := frm_num c2'
      have hp : prJ v = v.gText := by rw [prJ_eq, h]; simp
      have hnz : ¬ num v.gText = 0 := by rw [f2]; exact fun e => f1 (List.eq_nil_of_length_eq_zero e)
      obtain ⟨c, rr, e, h5⟩ := num_head hnz
      obtain ⟨_, o1, o2, o3, o4, o5, o6⟩ := opens_d c h5
      have hn : num (v.gText ++ r) = v.gText.length := by rw [num_app hr, f2]
      have hlen : ¬ v.gText.length = 0 := fun e => f1 (List.eq_nil_of_length_eq_zero e)
      have hh : (v.gText ++ r).head? = some c := by rw [e]; rfl
      have hne : ¬ some c = some 34 := fun x => o1 (by injection x)
      have hv : (⟨3, v.gText, [], []⟩ : J) = v := by rw [← json_eta v, h, f4, List.eq_nil_of_length_eq_zero f3]
      have t0 : text (v.gText ++ r) = none := by rw [e]; exact text_ne o1
      have t1 : take (v.gText ++ r) [91] = none := by rw [e]; exact take_cons_ne o2
      have t2 : take (v.gText ++ r) [123] = none := by rw [e]; exact take_cons_ne o3
      have t3 : take (v.gText ++ r) [110, 117, 108, 108] = none := by rw [e]; exact take_cons_ne o4
      have t4 : take (v.gText ++ r) [102, 97, 108, 115, 101] = none := by rw [e]; exact take_cons_ne o5
      have t5 : take (v.gText ++ r) [116, 114, 117, 101] = none := by rw [e]; exact take_cons_ne o6
      rw [hp]
      simp only [t0, hh, hne, if_false, t1, t2, word, t3, t4, t5, hn, hlen]
      simp [hv]
    · rw [if_pos (leaf (by omega))]
      have c2' := c2
      rw [h] at c2'
      obtain ⟨f1, f2, f3⟩ := frm_text c2'
      have hp : prJ v = qt v.gText := by rw [prJ_eq, h]; simp
      have hv : (⟨4, v.gText, [], []⟩ : J) = v := by rw [← json_eta v, h, f3, List.eq_nil_of_length_eq_zero f2]
      rw [hp, text_qt, if_pos f1]
      simp [hv]
    · have c2' := c2
      rw [h] at c2'
      obtain ⟨f1, f2⟩ := frm_list c2'
      have hp : prJ v = 91 :: prL false v.gList v.gKeys true ++ [93] := by rw [prJ_eq, h]; simp
      have e1 : prJ v ++ r = 91 :: (prL false v.gList v.gKeys true ++ 93 :: r) := by rw [hp]; simp
      have hnest := nest_pr (vf := fun s => val f s (w + 1)) (o := false) (w := w) (w0 := w0 + 1) (r := r) (l := v.gList) (ks := v.gKeys)
      have hw16 : 16 ≤ w → nest (fun s => val f s (w + 1)) false w (blanks (prL false v.gList v.gKeys true ++ 93 :: r)) = .pan 21 := fun x => by unfold nest; rw [if_pos x]
      have hne34 : ¬ some (91 : UInt8) = some 34 := by decide
      have ht : take (91 :: (prL false v.gList v.gKeys true ++ 93 :: r)) [91] = some (blanks (prL false v.gList v.gKeys true ++ 93 :: r)) := by simp [take_one]
      rw [e1, text_ne (by decide), fit, ht]
      simp only [List.head?_cons, hne34, if_false]
      by_cases h16 : 16 ≤ w
      · simp [hw16 h16, h, h16]
      · have := hnest (fun x hx r hr => ih x (w + 1) (w0 + 1) r (by omega) (by omega) hx hr) c3 (fun h => by cases h) (fun _ => f2) (by rw [f2]; simp) (fun k hk => by rw [f2] at hk; cases hk)
        simp only [Bool.false_eq_true, if_false, h16] at this
        have hv : (⟨5, [], v.gList, v.gKeys⟩ : J) = v := by rw [← json_eta v, h, f1]
        rw [this]
        simp [h16, hv]
    · have c2' := c2
      rw [h] at c2'
      obtain ⟨f1, f2, f3, f4⟩ := frm_obj c2'
      have hp : prJ v = 123 :: prL true v.gList v.gKeys true ++ [125] := by rw [prJ_eq, h]; simp
      have e1 : prJ v ++ r = 123 :: (prL true v.gList v.gKeys true ++ 125 :: r) := by rw [hp]; simp
      have hnest := nest_pr (vf := fun s => val f s (w + 1)) (o := true) (w := w) (w0 := w0 + 1) (r := r) (l := v.gList) (ks := v.gKeys)
      have hw16 : 16 ≤ w → nest (fun s => val f s (w + 1)) true w (blanks (prL true v.gList v.gKeys true ++ 125 :: r)) = .pan 21 := fun x => by unfold nest; rw [if_pos x]
      have hne34 : ¬ some (123 : UInt8) = some 34 := by decide
      have ht0 : take (123 :: (prL true v.gList v.gKeys true ++ 125 :: r)) [91] = none := take_cons_ne (by decide)
      have ht : take (123 :: (prL true v.gList v.gKeys true ++ 125 :: r)) [123] = some (blanks (prL true v.gList v.gKeys true ++ 125 :: r)) := by simp [take_one]
      rw [e1, text_ne (by decide), fit, ht0, ht]
      simp only [List.head?_cons, hne34, if_false]
      by_cases h16 : 16 ≤ w
      · simp [hw16 h16, h, h16]
      · have := hnest (fun x hx r hr => ih x (w + 1) (w0 + 1) r (by omega) (by omega) hx hr) c3 (fun _ => f2) (fun h => by cases h) f3 f4
        simp only [if_true, if_false, h16] at this
        have hv : (⟨6, [], v.gList, v.gKeys⟩ : J) = v := by rw [← json_eta v, h, f1]
        rw [this]
        simp [h16, hv]
end Go.Sen
namespace Go.Sen
open Go.Lk Go.Pe
theorem takeWhile_take {α : Type} (p : α → Bool) : ∀ (l : List α) (m : Nat), ((l.take m).takeWhile p).length = min m (l.takeWhile p).length
  | [], m => by simp
  | a :: l, 0 => by simp
  | a :: l, m + 1 => by
    rw [List.take_succ_cons, List.takeWhile_cons, List.takeWhile_cons]
    cases p a with
    | false => simp
    | true => simp only [if_true, List.length_cons, takeWhile_take p l m]; omega
theorem digs_take (s : List UInt8) (m : Nat) : digs (s.take m) = min m (digs s) := takeWhile_take isD s m
theorem head_take {s : List UInt8} {m : Nat} (h : 0 < m) : (s.take m).head? = s.head? := by
  cases s with
  | nil => simp
  | cons c r =>
    obtain ⟨m, rfl⟩ : ∃ k, m = k + 1 := ⟨m - 1, by omega⟩
    simp
theorem intp_take {s : List UInt8} {m : Nat} (h : 0 < m) (h2 : intp s ≤ m) : intp (s.take m) = intp s := by
  unfold intp at *
  rw [head_take h, digs_take]
  split at h2
  · rename_i hc; rw [if_pos hc, if_pos hc]
  · rename_i hc; rw [if_neg hc, if_neg hc]; omega
theorem frac_take {s : List UInt8} {m : Nat} (h : frac s ≤ m) : frac (s.take m) = frac s := by
  cases s with
  | nil => simp
  | cons c r =>
    cases m with
    | zero =>
      simp only [List.take_zero, frac_nil]
      omega
    | succ m =>
      rw [List.take_succ_cons, frac_cons, frac_cons, digs_take]
      rw [frac_cons] at h
      by_cases hc : c = 46
      · simp only [hc, if_true] at h ⊢
        by_cases hd : 0 < digs r
        · rw [if_pos hd] at h ⊢
          have : min m (digs r) = digs r := by omega
          rw [this, if_pos hd]
        · rw [if_neg hd, if_neg (by omega)]
      · simp [hc]
theorem sgn2_take {s : List UInt8} {m : Nat} (h : 0 < m) : sgn2 (s.take m) = sgn2 s := by unfold sgn2; rw [head_take h]
theorem sgn_take {s : List UInt8} {m : Nat} (h : 0 < m) : sgn (s.take m) = sgn s := by unfold sgn; rw [head_take h]
theorem expo_take (s : List UInt8) : expo (s.take (expo s)) = expo s := by
  cases s with
  | nil => rfl
  | cons c r =>
    by_cases hc : c = 101 ∨ c = 69
    · by_cases hd : 0 < digs (r.drop (sgn2 r))
      · have e : expo (c :: r) = 1 + sgn2 r + digs (r.drop (sgn2 r)) := by simp [expo, hc, hd]
        rw [e]
        have e2 : (c :: r).take (1 + sgn2 r + digs (r.drop (sgn2 r))) = c :: r.take (sgn2 r + digs (r.drop (sgn2 r))) := by
          rw [show 1 + sgn2 r + digs (r.drop (sgn2 r)) = (sgn2 r + digs (r.drop (sgn2 r))) + 1 by omega, List.take_succ_cons]
        rw [e2]
        have e3 : sgn2 (r.take (sgn2 r + digs (r.drop (sgn2 r)))) = sgn2 r := sgn2_take (by omega)
        have e4 : digs ((r.take (sgn2 r + digs (r.drop (sgn2 r)))).drop (sgn2 r)) = digs (r.drop (sgn2 r)) := by
          rw [List.drop_take, digs_take]
          omega
        unfold expo
        simp only [hc, if_true, e3, e4, hd]
      · have e : expo (c :: r) = 0 := by simp [expo, hd]
        rw [e]
        rfl
    · have e : expo (c :: r) = 0 := by simp [expo, hc]
      rw [e]
      rfl
theorem num_take (s : List UInt8) : num (s.take (num s)) = num s := by
  by_cases hz : intp (s.drop (sgn s)) = 0
  · have : num s = 0 := by unfold num; simp [hz]
    rw [this]
    rfl
  have e : num s = sgn s + intp (s.drop (sgn s)) + frac (s.drop (sgn s + intp (s.drop (sgn s)))) + expo (s.drop (sgn s + intp (s.drop (sgn s)) + frac (s.drop (sgn s + intp (s.drop (sgn s)))))) := by
    conv => lhs; unfold num
    simp only [hz, if_false]
  generalize hn : num s = n at e ⊢
  have hs : sgn (s.take n) = sgn s := sgn_take (by omega)
  have h1 : intp ((s.take n).drop (sgn s)) = intp (s.drop (sgn s)) := by
    rw [List.drop_take, intp_take (by omega) (by omega)]
  have h2 : frac ((s.take n).drop (sgn s + intp (s.drop (sgn s)))) = frac (s.drop (sgn s + intp (s.drop (sgn s)))) := by
    rw [List.drop_take, frac_take (by omega)]
  have h3 : expo ((s.take n).drop (sgn s + intp (s.drop (sgn s)) + frac (s.drop (sgn s + intp (s.drop (sgn s)))))) = expo (s.drop (sgn s + intp (s.drop (sgn s)) + frac (s.drop (sgn s + intp (s.drop (sgn s)))))) := by
    rw [List.drop_take]
    have : n - (sgn s + intp (s.drop (sgn s)) + frac (s.drop (sgn s + intp (s.drop (sgn s))))) = expo (s.drop (sgn s + intp (s.drop (sgn s)) + frac (s.drop (sgn s + intp (s.drop (sgn s)))))) := by omega
    rw [this, expo_take]
  unfold num
  simp only [hs, h1, hz, if_false, h2, h3]
  exact e.symm
/-! What is read may be. -/
theorem txt_valid : ∀ (f : Nat) (s acc t r : List UInt8), txt f s acc = some (t, r) → Lib.validD t = true
  | 0, _, _, _, _, h => by simp [txt] at h
  | _ + 1, [], _, _, _, h => by simp [txt] at h
  | f + 1, c :: s, acc, t, r, h => by
    rw [txt] at h
    split at h
    · cases h
    · split at h
      · split at h
        · rename_i hv; cases h; exact hv
        · cases h
      · split at h
        · split at h
          · cases h
          · exact txt_valid f _ _ _ _ h
        · exact txt_valid f _ _ _ _ h
theorem text_valid {s t r : List UInt8} (h : text s = some (t, r)) : Lib.validD t = true := by
  unfold text at h
  split at h
  · split at h
    · exact txt_valid _ _ _ _ _ h
    · cases h
  · cases h
theorem key1_ok {s : List UInt8} {ks : List (List UInt8)} {r : List UInt8} {ks2 : List (List UInt8)} (h : key1 s ks = .ok (r, ks2)) : ∃ k, ks2 = ks ++ [k] ∧ ¬ k ∈ ks ∧ Lib.validD k = true := by
  unfold key1 at h
  split at h
  · cases h
  · rename_i k r1 ht
    split at h
    · cases h
    · rename_i hk
      split at h
      · cases h
      · cases h; exact ⟨k, rfl, hk, text_valid ht⟩
theorem chkL_iff : ∀ {l : List J} {w : Nat}, chkL l w = 0 ↔ ∀ x ∈ l, chkJ x w = 0
  | [], w => by simp [chkL]
  | x :: l, w => by
    rw [chkL_cons]
    by_cases hc : chkJ x w = 0
    · simp [hc, chkL_iff (l := l)]
    · simp [hc]
theorem frm_obj_mk {n : Nat} {ks : List (List UInt8)} (h1 : ks.length = n) (h2 : ks.Nodup) (h3 : ∀ k ∈ ks, Lib.validD k = true) : frm 6 [] n ks = true := by
  unfold frm
  simp [h1, h2]
  exact h3
theorem items_may {vf : List UInt8 → Rd} {o : Bool} {e : UInt8} {w : Nat} (hw : w < 16) (hv : ∀ s x r, vf s = .ok (x, r) → chkJ x (w + 1) = 0) : ∀ (f : Nat) (s : List UInt8) (l : List J) (ks : List (List UInt8)) (x : J) (r : List UInt8),
    chkL l (w + 1) = 0 → (o = true → ks.length = l.length) → (o = false → ks = []) → ks.Nodup → (∀ k ∈ ks, Lib.validD k = true) → items vf o e f s l ks = .ok (x, r) → chkJ x w = 0 := by
  intro f
  induction f with
  | zero => intro s l ks x r _ _ _ _ _ h; simp [items] at h
  | succ f ih =>
    intro s l ks x r hl hk hk2 hnd hvk h
    rw [items] at h
    split at h
    · cases h
    · rename_i s1 ks1 hks
      have h1 : (o = true → ks1.length = l.length + 1) ∧ (o = false → ks1 = []) ∧ ks1.Nodup ∧ ∀ k ∈ ks1, Lib.validD k = true := by
        split at hks
        · rename_i ho
          obtain ⟨k, rfl, k1, k2⟩ := key1_ok hks
          refine ⟨fun _ => by simp [hk ho], fun h => absurd (ho.symm.trans h) (by decide), ?_, ?_⟩
          · rw [List.nodup_append]
            exact ⟨hnd, by simp, fun a ha b hb => by simp at hb; subst hb; intro e; subst e; exact k1 ha⟩
          · intro z hz
            rcases List.mem_append.1 hz with hz | hz
            · exact hvk z hz
            · simp at hz; subst hz; exact k2
        · rename_i ho
          cases hks
          exact ⟨fun h => absurd h ho, hk2, hnd, hvk⟩
      obtain ⟨a1, a2, a3, a4⟩ := h1
      split at h
      · cases h
      · rename_i x2 s2 hx
        have hx2 := hv _ _ _ hx
        have hl2 : chkL (l ++ [x2]) (w + 1) = 0 := by
          rw [chkL_iff] at hl ⊢
          intro y hy
          rcases List.mem_append.1 hy with hy | hy
          · exact hl y hy
          · simp at hy; subst hy; exact hx2
        split at h
        · cases h
          rw [chkJ_eq]
          simp only
          have h16 : ¬ (16 ≤ w) := by omega
          cases o with
          | false =>
            have := a2 rfl
            subst this
            have hf : frm 5 [] (l ++ [x2]).length [] = true := by simp [frm]
            simp only [Bool.false_eq_true, if_false]
            rw [if_neg (fun h => h16 h.2), hf]
            simpa using hl2
          | true =>
            have hf : frm 6 [] (l ++ [x2]).length ks1 = true := frm_obj_mk (by simpa using a1 rfl) a3 a4
            simp only [if_true]
            rw [if_neg (fun h => h16 h.2), hf]
            simpa using hl2
        · split at h
          · cases h
          · exact ih _ _ _ _ _ hl2 (fun h => by simpa using a1 h) a2 a3 a4 h
theorem nest_may {vf : List UInt8 → Rd} {o : Bool} {w : Nat} (hv : w < 16 → ∀ s x r, vf s = .ok (x, r) → chkJ x (w + 1) = 0) {s r : List UInt8} {x : J} (h : nest vf o w s = .ok (x, r)) : chkJ x w = 0 := by
  unfold nest at h
  split at h
  · cases h
  · rename_i h16
    split at h
    · cases h
      rw [chkJ_eq]
      cases o with
      | false => simp [frm, h16, chkL]
      | true => simp [frm, h16, chkL]
    · exact items_may (by omega) (hv (by omega)) _ _ _ _ _ _ rfl (fun _ => rfl) (fun _ => rfl) (by simp) (fun k hk => by cases hk) h
theorem word_may {s r : List UInt8} {x : J} {w : Nat} (h : word s = .ok (x, r)) : chkJ x w = 0 := by
  unfold word at h
  split at h
  · cases h; rw [chkJ_eq]; simp [frm, chkL]
  · split at h
    · cases h; rw [chkJ_eq]; simp [frm, chkL]
    · split at h
      · cases h; rw [chkJ_eq]; simp [frm, chkL]
      · split at h
        · cases h
        · rename_i hn
          cases h
          have h1 := num_take s
          have h2 := num_le s
          have h3 : (s.take (num s)).length = num s := by rw [List.length_take]; omega
          have h4 : ¬ s.take (num s) = [] := fun e => by rw [e] at h3; simp at h3; omega
          have hf : frm 3 (s.take (num s)) 0 [] = true := by
            unfold frm
            rw [if_neg (by decide), if_pos rfl, h1, h3]
            simp [h4]
          rw [chkJ_eq]
          simp [hf, chkL]
theorem val_may : ∀ (f : Nat) (s : List UInt8) (w : Nat) (x : J) (r : List UInt8), val f s w = .ok (x, r) → chkJ x w = 0 := by
  intro f
  induction f with
  | zero => intro s w x r h; simp [val] at h
  | succ f ih =>
    intro s w x r h
    rw [val] at h
    split at h
    · rename_i t r2 ht
      have hv := text_valid ht
      cases h
      rw [chkJ_eq]
      simp [frm, chkL, hv]
    · split at h
      · cases h
      · split at h
        · exact nest_may (fun _ s x r => ih s (w + 1) x r) h
        · split at h
          · exact nest_may (fun _ s x r => ih s (w + 1) x r) h
          · exact word_may h
theorem key1_pan {s : List UInt8} {ks : List (List UInt8)} {c : Int} (h : key1 s ks = .pan c) : c = 20 := by
  unfold key1 at h
  split at h
  · injection h with h; exact h.symm
  · split at h
    · injection h with h; exact h.symm
    · split at h
      · injection h with h; exact h.symm
      · cases h
theorem items_pan {vf : List UInt8 → Rd} {o : Bool} {e : UInt8} (hv : ∀ s c, vf s = .pan c → c = 20 ∨ c = 21) : ∀ (f : Nat) (s : List UInt8) (l : List J) (ks : List (List UInt8)) (c : Int), items vf o e f s l ks = .pan c → c = 20 ∨ c = 21 := by
  intro f
  induction f with
  | zero => intro s l ks c h; simp only [items] at h; injection h with h; exact .inl h.symm
  | succ f ih =>
    intro s l ks c h
    rw [items] at h
    split at h
    · rename_i hk
      split at hk
      · injection h with h; subst h; exact .inl (key1_pan hk)
      · cases hk
    · split at h
      · rename_i hx; injection h with h; subst h; exact hv _ _ hx
      · split at h
        · cases h
        · split at h
          · injection h with h; exact .inl h.symm
          · exact ih _ _ _ _ h
theorem nest_pan {vf : List UInt8 → Rd} {o : Bool} {w : Nat} (hv : ∀ s c, vf s = .pan c → c = 20 ∨ c = 21) {s : List UInt8} {c : Int} (h : nest vf o w s = .pan c) : c = 20 ∨ c = 21 := by
  unfold nest at h
  split at h
  · injection h with h; exact .inr h.symm
  · split at h
    · cases h
    · exact items_pan hv _ _ _ _ _ h
theorem val_pan : ∀ (f : Nat) (s : List UInt8) (w : Nat) (c : Int), val f s w = .pan c → c = 20 ∨ c = 21 := by
  intro f
  induction f with
  | zero => intro s w c h; simp only [val] at h; injection h with h; exact .inl h.symm
  | succ f ih =>
    intro s w c h
    rw [val] at h
    split at h
    · cases h
    · split at h
      · injection h with h; exact .inl h.symm
      · split at h
        · exact nest_pan (fun s c => ih s (w + 1) c) h
        · split at h
          · exact nest_pan (fun s c => ih s (w + 1) c) h
          · unfold word at h
            split at h
            · cases h
            · split at h
              · cases h
              · split at h
                · cases h
                · split at h
                  · injection h with h; exact .inl h.symm
                  · cases h
theorem parse_cases (s : List UInt8) : (∃ x, parse s = (x, 0) ∧ chkJ x 0 = 0) ∨ ∃ c, parse s = (⟨0, [], [], []⟩, c) ∧ (c = 20 ∨ c = 21 ∨ c = 22) := by
  unfold parse
  split
  · exact .inr ⟨22, rfl, by simp⟩
  · split
    · rename_i c hc
      rcases val_pan _ _ _ _ hc with h | h
      · exact .inr ⟨c, rfl, .inl h⟩
      · exact .inr ⟨c, rfl, .inr (.inl h)⟩
    · rename_i y r hv
      split
      · exact .inl ⟨y, rfl, val_may _ _ _ _ _ hv⟩
      · exact .inr ⟨20, rfl, .inl rfl⟩
/-- A value's form is read as the value. -/
theorem parse_prJ {v : J} (h : chkJ v 0 = 0) (hl : (prJ v).length ≤ 16384) : parse (prJ v) = (v, 0) := by
  unfold parse
  obtain ⟨c, r, e, ho⟩ := prJ_head h
  have hb : blanks (prJ v) = prJ v := by rw [e, blanks_cons (opens_bl ho).1]
  have := val_pr 17 v 0 0 [] (by omega) (by omega) h stop_nil
  rw [List.append_nil] at this
  rw [if_neg (by omega), hb, this, if_pos h]
  simp [blanks]
end Go.Sen
