/- JSON, plainly: the laws JsonSafe, JsonBlanks. -/
import Derived.Test.YtcfkkgpnggdlnaaGreatDoorSnN
set_option linter.all false
namespace Go.Sen
open Go.Lk Go.Pe
/-! The bytes of a form. -/
theorem digs_chars (s : List UInt8) : ∀ c ∈ s.take (digs s), nch c = true := by
  induction s with
  | nil => intro c h; simp at h
  | cons a s ih =>
    intro c h
    rw [digs_cons] at h
    split at h
    · rename_i hd
      rw [List.take_succ_cons] at h
      rcases List.mem_cons.1 h with rfl | h
      · simp [nch, hd]
      · exact ih c h
    · simp at h
theorem take_add' {α : Type} (s : List α) (a b : Nat) : s.take (a + b) = s.take a ++ (s.drop a).take b := List.take_add
theorem sgn_chars (s : List UInt8) : ∀ c ∈ s.take (sgn s), nch c = true := by
  unfold sgn
  cases s with
  | nil => intro c h; simp at h
  | cons a s =>
    intro c h
    split at h
    · rename_i hs
      simp at hs h
      rw [h, hs]
      decide
    · simp at h
theorem sgn2_chars (s : List UInt8) : ∀ c ∈ s.take (sgn2 s), nch c = true := by
  unfold sgn2
  cases s with
  | nil => intro c h; simp at h
  | cons a s =>
    intro c h
    split at h
    · rename_i hs
      simp at hs h
      rw [h]
      rcases hs with rfl | rfl <;> decide
    · simp at h
theorem intp_chars (s : List UInt8) : ∀ c ∈ s.take (intp s), nch c = true := by
  unfold intp
  split
  · rename_i hs
    intro c h
    cases s with
    | nil => simp at h
    | cons a s => simp at hs h; rw [h, hs]; decide
  · exact digs_chars s
theorem frac_chars (s : List UInt8) : ∀ c ∈ s.take (frac s), nch c = true := by
  cases s with
  | nil => intro c h; simp at h
  | cons a s =>
    intro c h
    rw [frac_cons] at h
    split at h
    · rename_i ha
      split at h
      · rw [Nat.add_comm, List.take_succ_cons] at h
        rcases List.mem_cons.1 h with rfl | h
        · rw [ha]; decide
        · exact digs_chars s c h
      · simp at h
    · simp at h
theorem expo_chars (s : List UInt8) : ∀ c ∈ s.take (expo s), nch c = true := by
  cases s with
  | nil => intro c h; simp at h
  | cons a s =>
    intro c h
    unfold expo at h
    simp only at h
    split at h
    · rename_i ha
      split at h
      · rw [show 1 + sgn2 s + digs (s.drop (sgn2 s)) = (sgn2 s + digs (s.drop (sgn2 s))) + 1 by omega, List.take_succ_cons] at h
        rcases List.mem_cons.1 h with rfl | h
        · rcases ha with rfl | rfl <;> decide
        · rw [take_add'] at h
          rcases List.mem_append.1 h with h | h
          · exact sgn2_chars s c h
          · exact digs_chars _ c h
      · simp at h
    · simp at h
theorem num_chars (s : List UInt8) : ∀ c ∈ s.take (num s), nch c = true := by
  intro c h
  unfold num at h
  simp only at h
  split at h
  · simp at h
  · rw [take_add', take_add', take_add'] at h
    rcases List.mem_append.1 h with h | h
    · rcases List.mem_append.1 h with h | h
      · rcases List.mem_append.1 h with h | h
        · exact sgn_chars s c h
        · exact intp_chars _ c h
      · exact frac_chars _ c h
    · exact expo_chars _ c h
theorem nch_32 : ∀ c : UInt8, nch c = true → 32 ≤ c.toNat := by
  have : ∀ c : UInt8, (!nch c || decide (32 ≤ c.toNat)) = true := fin256 (by decide +kernel)
  intro c h
  have h2 := this c
  rw [h] at h2
  simpa using h2
theorem qb_32 : ∀ c : UInt8, ∀ x ∈ qb c, 32 ≤ x.toNat := by
  have : ∀ c : UInt8, (qb c).all (fun x => decide (32 ≤ x.toNat)) = true := fin256 (by decide +kernel)
  intro c x h
  have := List.all_eq_true.1 (this c) x h
  simpa using this
theorem qt_32 (s : List UInt8) : ∀ x ∈ qt s, 32 ≤ x.toNat := by
  intro x h
  simp only [qt, List.cons_append, List.mem_cons, List.mem_append, List.not_mem_nil, or_false] at h
  rcases h with rfl | h | rfl
  · decide
  · unfold qbs at h
    obtain ⟨c, _, h⟩ := List.mem_flatMap.1 h
    exact qb_32 c x h
  · decide
mutual
theorem prJ_32 : ∀ (v : J) (w : Nat), chkJ v w = 0 → ∀ c ∈ prJ v, 32 ≤ c.toNat
  | ⟨k, t, l, ks⟩, w, h, c, hc => by
    obtain ⟨c1, c2, c3⟩ := chkJ_parts h
    simp only at c1 c2 c3
    have hl := prL_32 (decide (k = 6)) l ks true (w + 1) c3
    simp only [prJ] at hc
    split at hc
    · revert c; decide
    · split at hc
      · revert c; decide
      · split at hc
        · revert c; decide
        · split at hc
          · rename_i h3
            subst h3
            obtain ⟨_, f2, _⟩ := frm_num c2
            have := num_chars t
            rw [f2, List.take_length] at this
            exact nch_32 c (this c hc)
          · split at hc
            · exact qt_32 t c hc
            · simp only [List.cons_append, List.mem_cons, List.mem_append, List.not_mem_nil, or_false] at hc
              rcases hc with hc | hc | hc
              · split at hc <;> subst hc <;> decide
              · exact hl c hc
              · split at hc <;> subst hc <;> decide
theorem prL_32 : ∀ (o : Bool) (l : List J) (ks : List (List UInt8)) (f : Bool) (w : Nat), chkL l w = 0 → ∀ c ∈ prL o l ks f, 32 ≤ c.toNat
  | _, [], _, _, _, _, c, hc => by simp [prL] at hc
  | o, x :: xs, ks, f, w, h, c, hc => by
    rw [chkL_iff] at h
    have h1 := prJ_32 x w (h x (by simp))
    have h2 := prL_32 o xs ks.tail false w (by rw [chkL_iff]; exact fun y hy => h y (by simp [hy]))
    simp only [prL, List.mem_append] at hc
    rcases hc with hc | hc | hc | hc
    · split at hc
      · simp at hc
      · simp at hc; subst hc; decide
    · split at hc
      · rcases List.mem_append.1 hc with hc | hc
        · exact qt_32 _ c hc
        · simp at hc; subst hc; decide
      · simp at hc
    · exact h1 c hc
    · exact h2 c hc
end
theorem safe_k1 {a : List UInt8 × Int} (hl : a.1.length < 1152921504606846976) (h : ∀ c ∈ a.1, 32 ≤ c.toNat) : ∀ (n i : Nat), a.1.length - i = n → i ≤ a.1.length → M.l02_JsonSafe_k1 a (i : Int) = some (.go ()) := by
  intro n
  induction n with
  | zero =>
    intro i hn hi
    rw [M.l02_JsonSafe_k1.eq_1]
    have : ¬ ((i : Int) < (a.1.length : Int)) := by omega
    rw [if_neg (by simpa using this)]
  | succ n ih =>
    intro i hn hi
    have hlt : i < a.1.length := by omega
    rw [M.l02_JsonSafe_k1.eq_1]
    have h1 : ((i : Int) < (a.1.length : Int)) := by omega
    have h2 := h _ (List.getElem_mem hlt)
    have h3 : ¬ ((((a.1)[i]).toNat : Int) < 32) := by omega
    simp only [h1, decide_true, if_true, ix_n, List.getElem?_eq_getElem hlt, Option.bind_eq_bind, Option.bind_some, h3, decide_false, Bool.false_eq_true, if_false]
    rw [w1 (by omega), ih (i + 1) (by omega) (by omega)]
theorem law_JsonSafe {v : J} {f : Nat} (h : v.sz ≤ 1048576) (hf : 1048576 ≤ f) : M.l02_JsonSafe f v = some true := by
  have hs : Small v := by unfold Small; omega
  have hsame := same_eq f v (by omega) (by omega)
  unfold M.l02_JsonSafe
  rw [json_Print_eq (by omega) hs, awake_eq (by omega)]
  simp only [Option.bind_eq_bind, Option.bind_some, Bool.not_true, Bool.false_eq_true, if_false]
  unfold print
  by_cases hc : chkJ v 0 = 0
  · rw [if_pos hc]
    by_cases hl : 16384 < (prJ v).length
    · have d22 : ¬ ((22 : Int) = 0) := by decide
      simp [hl]
    · have hk : M.l02_JsonSafe_k1 (prJ v, 0) 0 = some (.go ()) := safe_k1 (a := (prJ v, 0)) (by simp only; omega) (prJ_32 v 0 hc) _ 0 rfl (Nat.zero_le _)
      simp only [hl, if_false, decide_true, Bool.not_true, Bool.false_eq_true, hk, Option.bind_some]
      rw [cat_ok (by simp only [List.length_cons, List.length_nil]; omega)]
      simp only [Option.bind_some]
      rw [cat_ok (by simp only [List.length_append, List.length_cons, List.length_nil]; omega)]
      simp only [Option.bind_some]
      rw [cat_ok (by simp only [List.length_append, List.length_cons, List.length_nil]; omega)]
      simp only [Option.bind_some]
      rw [cat_ok (by simp only [List.length_append, List.length_cons, List.length_nil]; omega)]
      simp only [Option.bind_some]
      rw [json_Parse_eq _ (by omega)]
      simp only [Option.bind_some]
      have es : [91] ++ prJ v ++ [44] ++ prJ v ++ [93] = 91 :: (prL false [v, v] [] true ++ 93 :: []) := by simp [prL]
      rw [es]
      have hp : parse (91 :: (prL false [v, v] [] true ++ 93 :: [])) = (⟨5, [], [v, v], []⟩, 0) ∨ ∃ x c, parse (91 :: (prL false [v, v] [] true ++ 93 :: [])) = (x, c) ∧ ¬ c = 0 := by
        unfold parse
        split
        · exact .inr ⟨_, _, rfl, by decide⟩
        · have hn := nest_pr (vf := fun s => val 16 s (0 + 1)) (o := false) (w := 0) (w0 := 0) (r := []) (fun x hx r hr => val_pr 16 x (0 + 1) 0 r (by omega) (by omega) hx hr) (l := [v, v]) (ks := []) (by rw [chkL_iff]; intro x hx; simp at hx; subst hx; exact hc) (fun h => by cases h) (fun _ => rfl) (by simp) (fun k hk => by cases hk)
          simp only [Bool.false_eq_true, if_false] at hn
          rw [blanks_cons (by decide), val, text_ne (by decide), take_one]
          have hne : ¬ some (91 : UInt8) = some 34 := by decide
          simp only [List.head?_cons, hne, if_true, if_false]
          rw [hn]
          by_cases hq : chkL [v, v] (0 + 1) = 0
          · rw [if_neg (by omega), if_pos hq]
            exact .inl (by simp [blanks])
          · rw [if_neg (by omega), if_neg hq]
            exact .inr ⟨_, _, rfl, by decide⟩
      rcases hp with hp | ⟨x, c, hp, hc0⟩
      · rw [hp]
        have h2 : (((2 : Nat) : Int) = 2) := rfl
        simp [ix, hsame]
      · rw [hp]
        simp [hc0]
  · rw [if_neg hc]
    simp [hc]
/-! Blanks behind a text. -/
def allB (b : List UInt8) : Prop := ∀ c ∈ b, bl c = true
theorem blanks_app (s b : List UInt8) (hb : allB b) : blanks (s ++ b) = if blanks s = [] then [] else blanks s ++ b := by
  induction s with
  | nil =>
    have : blanks b = [] := by unfold blanks; rw [dropWhile_nil]; exact hb
    simp [blanks, this]
    rw [← blanks]; exact this
  | cons c s ih =>
    unfold blanks at *
    rw [List.cons_append, List.dropWhile_cons, List.dropWhile_cons]
    split
    · exact ih
    · simp
theorem blanks_blanks (s : List UInt8) : blanks (blanks s) = blanks s := by
  induction s with
  | nil => rfl
  | cons c s ih =>
    unfold blanks at *
    rw [List.dropWhile_cons]
    split
    · exact ih
    · rename_i h; rw [List.dropWhile_cons, if_neg h]
/-- s, with blanks behind it. -/
def ext (b s : List UInt8) : List UInt8 := if s = [] then [] else s ++ b
theorem blanks_ext {s b : List UInt8} (hb : allB b) : blanks (s ++ b) = ext b (blanks s) := blanks_app s b hb
theorem bl_d : ∀ c : UInt8, bl c = true → hexv c = none ∧ esc1 c = none ∧ nch c = false ∧ ¬ c = 34 ∧ ¬ c = 92 ∧ ¬ c = 117 ∧ ¬ c = 93 ∧ ¬ c = 125 ∧ ¬ c = 44 ∧ ¬ c = 58 ∧ ¬ c = 91 ∧ ¬ c = 123 := by
  have : ∀ c : UInt8, (!bl c || ((hexv c).isNone && (esc1 c).isNone && !nch c && !decide (c = 34) && !decide (c = 92) && !decide (c = 117) && !decide (c = 93) && !decide (c = 125) && !decide (c = 44) && !decide (c = 58) && !decide (c = 91) && !decide (c = 123))) = true := fin256 (by decide +kernel)
  intro c h
  have h2 := this c
  rw [h] at h2
  simpa [and_assoc] using h2
theorem allB_stop {b : List UInt8} (hb : allB b) : stop b := fun c hc => (bl_d c (hb c (by cases b with | nil => cases hc | cons d r => cases hc; simp))).2.2.1
theorem unit_app {b : List UInt8} (hb : allB b) (s : List UInt8) : unit (s ++ b) = (unit s).map fun x => (x.1, x.2 ++ b) := by
  have key : ∀ (s : List UInt8), s.length < 6 → unit s = none := by
    intro s hs
    unfold unit
    split
    · simp at hs; omega
    · rfl
  have key2 : ∀ (s : List UInt8), s.length < 6 → unit (s ++ b) = none := by
    intro s hs
    unfold unit
    split
    · rename_i x y a c d e r he
      by_cases h : x = 92 ∧ y = 117
      · simp only [h, and_self, if_true]
        have nb : ∀ z, z ∈ b → hexv z = none := fun z hz => (bl_d z (hb z hz)).1
        have nb2 : ∀ z, z ∈ b → ¬ z = 92 ∧ ¬ z = 117 := fun z hz => ⟨(bl_d z (hb z hz)).2.2.2.2.1, (bl_d z (hb z hz)).2.2.2.2.2.1⟩
        match s, hs with
        | [], _ =>
          rw [List.nil_append] at he
          exact absurd h.1 (nb2 x (by rw [he]; simp)).1
        | [s0], _ =>
          simp only [List.cons_append, List.nil_append] at he
          injection he with e1 e2
          exact absurd h.2 (nb2 y (by rw [e2]; simp)).2
        | [s0, s1], _ =>
          simp only [List.cons_append, List.nil_append] at he
          injection he with e1 e2; injection e2 with e3 e4
          rw [nb a (by rw [e4]; simp)]; rfl
        | [s0, s1, s2], _ =>
          simp only [List.cons_append, List.nil_append] at he
          injection he with e1 e2; injection e2 with e3 e4; injection e4 with e5 e6
          rw [nb c (by rw [e6]; simp)]; cases hexv a <;> rfl
        | [s0, s1, s2, s3], _ =>
          simp only [List.cons_append, List.nil_append] at he
          injection he with e1 e2; injection e2 with e3 e4; injection e4 with e5 e6; injection e6 with e7 e8
          rw [nb d (by rw [e8]; simp)]; cases hexv a <;> cases hexv c <;> rfl
        | [s0, s1, s2, s3, s4], _ =>
          simp only [List.cons_append, List.nil_append] at he
          injection he with e1 e2; injection e2 with e3 e4; injection e4 with e5 e6; injection e6 with e7 e8; injection e8 with e9 e10
          rw [nb e (by rw [e10]; simp)]; cases hexv a <;> cases hexv c <;> cases hexv d <;> rfl
        | _ :: _ :: _ :: _ :: _ :: _ :: _, hs => simp at hs; omega
      · simp [h]
    · rfl
  by_cases hs : s.length < 6
  · rw [key s hs, key2 s hs]; rfl
  · obtain ⟨x, y, a, c, d, e, r, rfl⟩ : ∃ x y a c d e r, s = x :: y :: a :: c :: d :: e :: r := by
      match s, hs with
      | [], h => exact absurd (by simp) h
      | [_], h => exact absurd (by simp) h
      | [_, _], h => exact absurd (by simp) h
      | [_, _, _], h => exact absurd (by simp) h
      | [_, _, _, _], h => exact absurd (by simp) h
      | [_, _, _, _, _], h => exact absurd (by simp) h
      | x :: y :: a :: c :: d :: e :: r, _ => exact ⟨x, y, a, c, d, e, r, rfl⟩
    simp only [List.cons_append, unit]
    by_cases h : x = 92 ∧ y = 117
    · simp only [h, and_self, if_true]
      cases hexv a with
      | none => rfl
      | some _ => cases hexv c with
        | none => rfl
        | some _ => cases hexv d with
          | none => rfl
          | some _ => cases hexv e with
            | none => rfl
            | some _ => rfl
    · simp [h]
theorem escd_app {b : List UInt8} (hb : allB b) {s : List UInt8} (hs : ¬ s = []) : escd (s ++ b) = (escd s).map fun x => (x.1, x.2 ++ b) := by
  match s, hs with
  | [a], _ =>
    have e0 : escd [a] = none := rfl
    rw [e0]
    cases b with
    | nil => rfl
    | cons c r =>
      have hc := bl_d c (hb c (by simp))
      have hu := unit_app hb [a]
      have hu0 : unit [a] = none := rfl
      rw [hu0] at hu
      simp only [List.cons_append, List.nil_append, Option.map_none] at hu ⊢
      simp only [escd, hc.2.1, hu]
  | a :: c :: r, _ =>
    have hu := unit_app hb (a :: c :: r)
    simp only [List.cons_append] at hu ⊢
    unfold escd
    simp only
    cases esc1 c with
    | some x => rfl
    | none =>
      simp only [hu]
      cases unit (a :: c :: r) with
      | none => rfl
      | some p =>
        obtain ⟨n, r1⟩ := p
        simp only [Option.map_some]
        cases lowS n with
        | true => rfl
        | false =>
          simp only [Bool.false_eq_true, if_false]
          cases highS n with
          | false => simp
          | true =>
            simp only [Bool.true_eq_false, if_false]
            rw [unit_app hb r1]
            cases unit r1 with
            | none => rfl
            | some p2 =>
              obtain ⟨m, r2⟩ := p2
              simp only [Option.map_some]
              cases lowS m <;> simp
theorem txt_blank : ∀ (f : Nat) (b acc : List UInt8), allB b → txt f b acc = none
  | 0, _, _, _ => rfl
  | _ + 1, [], _, _ => rfl
  | f + 1, c :: b, acc, h => by
    have hc := bl_d c (h c (by simp))
    rw [txt]
    simp only [hc.2.2.2.1, hc.2.2.2.2.1, if_false, txt_blank f b _ (fun x hx => h x (by simp [hx])), ite_self]
theorem txt_app {b : List UInt8} (hb : allB b) : ∀ (f f' : Nat) (s acc : List UInt8), s.length < f → s.length < f' → txt f' (s ++ b) acc = (txt f s acc).map fun x => (x.1, x.2 ++ b) := by
  intro f
  induction f with
  | zero => intro f' s acc h; omega
  | succ f ih =>
    intro f' s acc h h'
    obtain ⟨f', rfl⟩ : ∃ g, f' = g + 1 := ⟨f' - 1, by omega⟩
    cases s with
    | nil => rw [List.nil_append, txt_blank _ _ _ hb]; rfl
    | cons c r =>
      simp only [List.length_cons] at h h'
      have he := escd_app hb (s := c :: r) (by simp)
      rw [List.cons_append] at he ⊢
      rw [txt, txt]
      by_cases c1 : c.toNat < 32
      · simp [c1]
      · by_cases c2 : c = 34
        · subst c2
          by_cases c3 : Lib.validD acc = true <;> simp [c3, c1]
        · by_cases c4 : c = 92
          · subst c4
            simp only [c1, c2, if_false, if_true, he]
            cases hq : escd (92 :: r) with
            | none => rfl
            | some p =>
              obtain ⟨t, r2⟩ := p
              have := escd_len hq
              simp only [List.length_cons] at this
              simp only [Option.map_some]
              exact ih f' r2 _ (by omega) (by omega)
          · simp only [c1, c2, c4, if_false]
            exact ih f' r _ (by omega) (by omega)
theorem text_app {b : List UInt8} (hb : allB b) {s : List UInt8} : text (s ++ b) = (text s).map fun x => (x.1, x.2 ++ b) := by
  cases s with
  | nil =>
    cases b with
    | nil => rfl
    | cons c b =>
      have := bl_d c (hb c (by simp))
      simp [text, this.2.2.2.1]
  | cons c r =>
    simp only [List.cons_append, text]
    by_cases h : c = 34
    · simp only [h, if_true]
      exact txt_app hb _ _ r [] (by omega) (by simp; omega)
    · simp [h]
theorem ext_text {b : List UInt8} (hb : allB b) (s : List UInt8) : text (ext b s) = (text s).map fun x => (x.1, x.2 ++ b) := by
  unfold ext
  split
  · rename_i h; subst h; rfl
  · exact text_app hb
/-- No blank is in p. -/
def noB (p : List UInt8) : Prop := ∀ c ∈ p, bl c = false
theorem pre_app {b : List UInt8} (hb : allB b) : ∀ (p s : List UInt8), noB p → p.isPrefixOf (s ++ b) = p.isPrefixOf s
  | [], _, _ => by simp
  | c :: p, [], h => by
    cases b with
    | nil => rfl
    | cons d b =>
      have h1 := h c (by simp)
      have h2 := hb d (by simp)
      have : ¬ c = d := fun e => by rw [e, h2] at h1; cases h1
      simp [List.isPrefixOf, this]
  | c :: p, d :: s, h => by
    simp only [List.cons_append, List.isPrefixOf]
    rw [pre_app hb p s fun x hx => h x (by simp [hx])]
theorem take_ext {b p : List UInt8} (hb : allB b) (hp : noB p) (hp0 : ¬ p = []) (s : List UInt8) : take (ext b s) p = (take s p).map (ext b) := by
  unfold ext
  split
  · rename_i h; subst h
    cases p with
    | nil => exact absurd rfl hp0
    | cons c p => rfl
  · unfold take
    rw [pre_app hb p s hp]
    cases h : p.isPrefixOf s with
    | false => rfl
    | true =>
      simp only [if_true, Option.map_some]
      rw [List.drop_append_of_le_length (pre_len h), blanks_ext hb]
      rfl
theorem key1_ext {b : List UInt8} (hb : allB b) (s : List UInt8) (ks : List (List UInt8)) : key1 (ext b s) ks = mRs (fun x => (ext b x.1, x.2)) (key1 s ks) := by
  unfold key1
  rw [ext_text hb]
  cases text s with
  | none => rfl
  | some p =>
    obtain ⟨k, r⟩ := p
    simp only [Option.map_some]
    by_cases hk : k ∈ ks
    · simp [hk, mRs]
    · simp only [hk, if_false, blanks_ext hb]
      rw [take_ext hb (by intro c hc; simp at hc; subst hc; decide) (by simp)]
      cases take (blanks r) [58] with
      | none => rfl
      | some r2 => rfl
theorem items_ext {b : List UInt8} (hb : allB b) {o : Bool} {e : UInt8} (he : bl e = false) {vf vf' : List UInt8 → Rd} (hv : ∀ s, vf' (ext b s) = mRs (fun x => (x.1, ext b x.2)) (vf s)) (hl : ∀ s x r, vf s = .ok (x, r) → r.length + 1 ≤ s.length) :
    ∀ (f f' : Nat) (s : List UInt8) (l : List J) (ks : List (List UInt8)), s.length < f → s.length < f' → items vf' o e f' (ext b s) l ks = mRs (fun x => (x.1, ext b x.2)) (items vf o e f s l ks) := by
  intro f
  induction f with
  | zero => intro f' s l ks h; omega
  | succ f ih =>
    intro f' s l ks h h'
    obtain ⟨f', rfl⟩ : ∃ g, f' = g + 1 := ⟨f' - 1, by omega⟩
    rw [items, items]
    have hk : (if o = true then key1 (ext b s) ks else .ok (ext b s, ks)) = mRs (fun x => (ext b x.1, x.2)) (if o = true then key1 s ks else .ok (s, ks)) := by
      cases o with
      | true => simp only [if_true]; exact key1_ext hb s ks
      | false => rfl
    have hkl : ∀ s1 ks1, (if o = true then key1 s ks else .ok (s, ks)) = .ok (s1, ks1) → s1.length ≤ s.length := by
      intro s1 ks1 hq
      split at hq
      · have := key1_len hq; omega
      · simp only [Rs.ok.injEq, Prod.mk.injEq] at hq; rw [hq.1]; omega
    rw [hk]
    cases hq : (if o = true then key1 s ks else .ok (s, ks) : Rs (List UInt8 × List (List UInt8))) with
    | pan c => rfl
    | ok p =>
      obtain ⟨s1, ks1⟩ := p
      have l1 := hkl _ _ hq
      simp only [mRs]
      rw [hv]
      cases hx : vf s1 with
      | pan c => rfl
      | ok q =>
        obtain ⟨x, s2⟩ := q
        have l2 := hl _ _ _ hx
        simp only [mRs]
        rw [take_ext hb (by intro c hc; simp at hc; subst hc; exact he) (by simp), take_ext hb (by intro c hc; simp at hc; subst hc; decide) (by simp)]
        cases take s2 [e] with
        | some r => rfl
        | none =>
          simp only [Option.map_none]
          cases ht : take s2 [44] with
          | none => rfl
          | some r =>
            have l3 := take_len ht
            simp only [List.length_cons, List.length_nil] at l3
            simp only [Option.map_some]
            exact ih f' r _ _ (by omega) (by omega)
theorem ext_len {b s : List UInt8} : s.length ≤ (ext b s).length := by
  unfold ext
  split
  · rename_i h; simp [h]
  · simp
theorem nest_ext {b : List UInt8} (hb : allB b) {o : Bool} {w : Nat} {vf vf' : List UInt8 → Rd} (hv : ∀ s, vf' (ext b s) = mRs (fun x => (x.1, ext b x.2)) (vf s)) (hl : ∀ s x r, vf s = .ok (x, r) → r.length + 1 ≤ s.length) (s : List UInt8) :
    nest vf' o w (ext b s) = mRs (fun x => (x.1, ext b x.2)) (nest vf o w s) := by
  unfold nest
  by_cases h16 : 16 ≤ w
  · simp [h16, mRs]
  · simp only [h16, if_false]
    rw [take_ext hb (by intro c hc; simp at hc; subst hc; cases o <;> decide) (by simp)]
    cases take s [if o = true then 125 else 93] with
    | some r => rfl
    | none =>
      simp only [Option.map_none]
      have := ext_len (b := b) (s := s)
      exact items_ext hb (by cases o <;> decide) hv hl _ _ s [] [] (by omega) (by omega)
theorem word_ext {b : List UInt8} (hb : allB b) (s : List UInt8) : word (ext b s) = mRs (fun x => (x.1, ext b x.2)) (word s) := by
  unfold word
  rw [take_ext hb (by unfold noB; decide) (by simp), take_ext hb (by unfold noB; decide) (by simp), take_ext hb (by unfold noB; decide) (by simp)]
  cases take s [110, 117, 108, 108] with
  | some r => rfl
  | none =>
    simp only [Option.map_none]
    cases take s [102, 97, 108, 115, 101] with
    | some r => rfl
    | none =>
      simp only [Option.map_none]
      cases take s [116, 114, 117, 101] with
      | some r => rfl
      | none =>
        simp only [Option.map_none]
        have hn : num (ext b s) = num s := by
          unfold ext
          split
          · rename_i h; rw [h]
          · exact num_app (allB_stop hb) s
        rw [hn]
        by_cases hz : num s = 0
        · simp [hz, mRs]
        · have h1 := num_le s
          have hs : ¬ s = [] := fun h => hz (by rw [h]; rfl)
          have e : ext b s = s ++ b := by unfold ext; rw [if_neg hs]
          rw [if_neg hz, if_neg hz, e, List.take_append_of_le_length h1, List.drop_append_of_le_length h1, blanks_ext hb]
          rfl
theorem ext_head {b : List UInt8} (s : List UInt8) : (ext b s).head? = s.head? := by
  unfold ext
  split
  · rename_i h; rw [h]
  · cases s with
    | nil => rename_i h; exact absurd rfl h
    | cons c r => rfl
theorem val_ext {b : List UInt8} (hb : allB b) : ∀ (f : Nat) (w : Nat) (s : List UInt8), val f (ext b s) w = mRs (fun x => (x.1, ext b x.2)) (val f s w) := by
  intro f
  induction f with
  | zero => intro w s; rfl
  | succ f ih =>
    intro w s
    rw [val, val, ext_text hb, ext_head]
    cases text s with
    | some p =>
      obtain ⟨t, r⟩ := p
      simp only [Option.map_some, mRs, blanks_ext hb]
    | none =>
      simp only [Option.map_none]
      by_cases h : s.head? = some 34
      · simp [h, mRs]
      · simp only [h, if_false]
        rw [take_ext hb (by unfold noB; decide) (by simp), take_ext hb (by unfold noB; decide) (by simp)]
        cases take s [91] with
        | some r => exact nest_ext hb (fun s => ih (w + 1) s) (fun s x r => val_len f s (w + 1) x r) r
        | none =>
          simp only [Option.map_none]
          cases take s [123] with
          | some r => exact nest_ext hb (fun s => ih (w + 1) s) (fun s x r => val_len f s (w + 1) x r) r
          | none => exact word_ext hb s
theorem blanks_pre {a s : List UInt8} (ha : allB a) : blanks (a ++ s) = blanks s := by
  induction a with
  | nil => rfl
  | cons c a ih =>
    unfold blanks at *
    rw [List.cons_append, List.dropWhile_cons, if_pos (ha c (by simp))]
    exact ih fun x hx => ha x (by simp [hx])
theorem parse_blanks {a b s : List UInt8} (ha : allB a) (hb : allB b) (hl : (a ++ s ++ b).length ≤ 16384) : parse (a ++ s ++ b) = parse s := by
  have h2 : s.length ≤ 16384 := by simp at hl; omega
  unfold parse
  rw [if_neg (by omega), if_neg (by omega), List.append_assoc, blanks_pre ha, blanks_ext hb, val_ext hb]
  cases val 17 (blanks s) 0 with
  | pan c => rfl
  | ok p =>
    obtain ⟨x, r⟩ := p
    have : ext b r = [] ↔ r = [] := by
      unfold ext
      split
      · rename_i h; simp [h]
      · rename_i h; simp [h]
    simp only [mRs, this]
theorem bl_piece (i : Nat) (h : i < 1000) : ∃ c, sub ([32, 9, 10, 13] : List UInt8) (Int.tmod (i : Int) 4) (IntKind.wrap .i64 ((Int.tmod (i : Int) 4) + 1)) = some [c] ∧ bl c = true := by
  have e : Int.tmod (i : Int) 4 = ((i % 4 : Nat) : Int) := (Int.ofNat_tmod i 4).symm
  rw [e]
  have : i % 4 < 4 := by omega
  have hl : i % 4 < ([32, 9, 10, 13] : List UInt8).length := by simpa using this
  refine ⟨([32, 9, 10, 13] : List UInt8)[i % 4], sub_1 hl (by simp), ?_⟩
  have : ([32, 9, 10, 13] : List UInt8)[i % 4] ∈ ([32, 9, 10, 13] : List UInt8) := List.getElem_mem hl
  simp [bl]
theorem ahead_k1 {m : Nat} (hm : m ≤ 100) : ∀ (n i : Nat) (s : List UInt8), m - i = n → i ≤ m → s.length ≤ 100000 + i → ∃ a, M.l02_JsonBlanks_k1 (m : Int) s (i : Int) = some (a ++ s) ∧ allB a ∧ a.length = n := by
  intro n
  induction n with
  | zero =>
    intro i s hn hi hs
    rw [M.l02_JsonBlanks_k1.eq_1]
    have : ¬ ((i : Int) < (m : Int)) := by omega
    exact ⟨[], by rw [if_neg (by simpa using this)]; rfl, fun c h => (by cases h), rfl⟩
  | succ n ih =>
    intro i s hn hi hs
    rw [M.l02_JsonBlanks_k1.eq_1]
    have h1 : ((i : Int) < (m : Int)) := by omega
    obtain ⟨c, hc, hb⟩ := bl_piece i (by omega)
    simp only [h1, decide_true, if_true, hc, Option.bind_eq_bind, Option.bind_some]
    rw [cat_ok (by simp only [List.length_cons, List.length_nil]; omega), w1 (by omega)]
    simp only [Option.bind_some]
    obtain ⟨a, h2, h3, h4⟩ := ih (i + 1) ([c] ++ s) (by omega) (by omega) (by simp only [List.length_append, List.length_cons, List.length_nil]; omega)
    refine ⟨a ++ [c], by rw [h2]; simp, ?_, by simp [h4]⟩
    intro x hx
    rcases List.mem_append.1 hx with hx | hx
    · exact h3 x hx
    · simp at hx; subst hx; exact hb
theorem behind_k2 {m : Nat} (hm : m ≤ 100) : ∀ (n i : Nat) (s : List UInt8), m - i = n → i ≤ m → s.length ≤ 100200 + i → ∃ a, M.l02_JsonBlanks_k2 (m : Int) s (i : Int) = some (s ++ a) ∧ allB a ∧ a.length = n := by
  intro n
  induction n with
  | zero =>
    intro i s hn hi hs
    rw [M.l02_JsonBlanks_k2.eq_1]
    have : ¬ ((i : Int) < (m : Int)) := by omega
    exact ⟨[], by rw [if_neg (by simpa using this)]; simp, fun c h => (by cases h), rfl⟩
  | succ n ih =>
    intro i s hn hi hs
    rw [M.l02_JsonBlanks_k2.eq_1]
    have h1 : ((i : Int) < (m : Int)) := by omega
    obtain ⟨c, hc, hb⟩ := bl_piece i (by omega)
    simp only [h1, decide_true, if_true, hc, Option.bind_eq_bind, Option.bind_some]
    rw [cat_ok (by simp only [List.length_cons, List.length_nil]; omega), w1 (by omega)]
    simp only [Option.bind_some]
    obtain ⟨a, h2, h3, h4⟩ := ih (i + 1) (s ++ [c]) (by omega) (by omega) (by simp only [List.length_append, List.length_cons, List.length_nil]; omega)
    refine ⟨c :: a, by rw [h2]; simp, ?_, by simp [h4]⟩
    intro x hx
    rcases List.mem_cons.1 hx with rfl | hx
    · exact hb
    · exact h3 x hx
theorem law_JsonBlanks (s : List UInt8) (p q : Int) : M.l02_JsonBlanks 131072 s p q = some true := by
  unfold M.l02_JsonBlanks
  rw [awake_eq (by omega)]
  simp only [Option.bind_eq_bind, Option.bind_some, Bool.not_true, Bool.false_eq_true, if_false]
  by_cases hg : ((((decide (p < 0) || decide (q < 0)) || decide (100 < p)) || decide (100 < q)) || decide (16000 < (s.length : Int))) = true
  · rw [if_pos hg]
  · rw [if_neg hg]
    simp only [Bool.or_eq_true, decide_eq_true_eq, not_or] at hg
    obtain ⟨⟨⟨⟨g1, g2⟩, g3⟩, g4⟩, g5⟩ := hg
    obtain ⟨m, rfl⟩ : ∃ m : Nat, p = (m : Int) := ⟨p.toNat, by omega⟩
    obtain ⟨k, rfl⟩ : ∃ k : Nat, q = (k : Int) := ⟨q.toNat, by omega⟩
    obtain ⟨a, a1, a2, a3⟩ := ahead_k1 (m := m) (by omega) _ 0 s rfl (Nat.zero_le _) (by omega)
    have a1 : M.l02_JsonBlanks_k1 (m : Int) s 0 = _ := a1
    obtain ⟨b, b1, b2, b3⟩ := behind_k2 (m := k) (by omega) _ 0 (a ++ s) rfl (Nat.zero_le _) (by simp only [List.length_append]; omega)
    have b1 : M.l02_JsonBlanks_k2 (k : Int) (a ++ s) 0 = _ := b1
    rw [a1]
    simp only [Option.bind_some]
    rw [b1]
    simp only [Option.bind_some]
    rw [json_Parse_eq _ (by omega), json_Parse_eq _ (by omega)]
    simp only [Option.bind_some]
    rw [parse_blanks a2 b2 (by simp only [List.length_append]; omega)]
    have hz := parse_sz s
    simp [same_eq 131072 (parse s).1 (by omega) (by omega)]
end Go.Sen
