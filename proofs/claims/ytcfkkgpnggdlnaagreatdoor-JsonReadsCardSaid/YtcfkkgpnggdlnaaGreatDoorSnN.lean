/- JSON, plainly: awake; the laws JsonChecks, JsonPrints, JsonBack, JsonSafe. -/
import Derived.Test.YtcfkkgpnggdlnaaGreatDoorSnJ
set_option linter.all false
namespace Go.Sen
open Go.Lk Go.Pe Go.RowKit
def aw1 : List UInt8 := [32, 123, 32, 34, 97, 34, 32, 58, 32, 91, 32, 49, 32, 44, 32, 45, 48, 46, 53, 101, 43, 51, 32, 44, 32, 34, 92, 117, 48, 48, 101, 57, 92, 47, 34, 32, 93, 32, 44, 32, 34, 34, 32, 58, 32, 110, 117, 108, 108, 32, 125, 32]
def awl : J := ⟨5, [], [⟨3, [49], [], []⟩, ⟨3, [45, 48, 46, 53, 101, 43, 51], [], []⟩, ⟨4, [195, 169, 47], [], []⟩], []⟩
def awv : J := ⟨6, [], [awl, ⟨0, [], [], []⟩], [[97], []]⟩
theorem aw_1 : parse aw1 = (awv, 0) := by kernel_rfl
theorem aw_2 : parse [123, 34, 97, 34, 58, 49, 44, 34, 97, 34, 58, 50, 125] = (⟨0, [], [], []⟩, 20) := by kernel_rfl
theorem aw_3 : parse [91, 91, 91, 91, 91, 91, 91, 91, 91, 91, 91, 91, 91, 91, 91, 91, 91, 93, 93, 93, 93, 93, 93, 93, 93, 93, 93, 93, 93, 93, 93, 93, 93, 93] = (⟨0, [], [], []⟩, 21) := by kernel_rfl
theorem aw_4 : print awv = ([123, 34, 97, 34, 58, 91, 49, 44, 45, 48, 46, 53, 101, 43, 51, 44, 34, 195, 169, 47, 34, 93, 44, 34, 34, 58, 110, 117, 108, 108, 125], 0) := by kernel_rfl
theorem aw_5 : print ⟨7, [], [], []⟩ = ([], 23) := by kernel_rfl
theorem aw_6 : chkJ awv 0 = 0 := by kernel_rfl
theorem aw_7 : M.json_Member awv [97] = some (awl, true) := by
  unfold M.json_Member
  have : M.slices_Index_string_string awv.gKeys [97] = some 0 := by rw [index_eq (by decide)]; rfl
  rw [this]
  rfl
theorem aw_8 : M.json_Int ⟨3, [45, 55], [], []⟩ = some (-7, true) := by
  unfold M.json_Int
  rw [trimPrefix_eq]
  have h1 : M.atoi [45, 55] = some (-7, true) := by kernel_rfl
  have h2 : M.itoa (-7) = some [45, 55] := by
    unfold M.itoa
    rw [chk_ok (by decide)]
    have e : (-7 : Int).natAbs = 7 := by decide
    simp only [Option.bind_eq_bind, Option.bind_some, Lib.itoa, e, Lib.decDigits_one (show 7 < 10 by decide)]
    rfl
  simp only [Option.bind_eq_bind, Option.bind_some, h1, h2]
  rfl
theorem aw_9 : M.json_Texts ⟨5, [], [⟨4, [120], [], []⟩], []⟩ = some ([[120]], true) := by
  unfold M.json_Texts
  have : M.json_Texts_k1 ⟨5, [], [⟨4, [120], [], []⟩], []⟩ [] 0 = some (.go [[120]]) := by
    have e1 : IntKind.wrap .i64 (0 + 1) = 1 := by decide
    have k2 : M.json_Texts_k1 ⟨5, [], [⟨4, [120], [], []⟩], []⟩ [[120]] 1 = some (.go [[120]]) := by
      rw [M.json_Texts_k1.eq_1]
      rfl
    rw [M.json_Texts_k1.eq_1, e1]
    simp [ix, app, k2]
  rw [this]
  rfl
theorem Small_of {v : J} (h : v.sz < 1000000000) : Small v := h
theorem awake_eq {f : Nat} (hf : 34 ≤ f) : M.l02_awake f = some true := by
  unfold M.l02_awake
  have s1 : Small awv := by unfold Small; decide
  have s2 : Small ⟨7, [], [], []⟩ := by unfold Small; decide
  have e1 := json_Parse_eq aw1 hf
  unfold aw1 at e1
  have e1' := aw_1
  unfold aw1 at e1'
  rw [e1, json_Parse_eq _ hf, json_Parse_eq _ hf, aw_2, aw_3, e1', json_Print_eq (by omega) s2, aw_5, aw_8, aw_9]
  simp only [Option.bind_eq_bind, Option.bind_some]
  rw [json_Print_eq (by omega) s1, aw_4, aw_7, json_Check_eq (by omega) s1, aw_6]
  rfl
/-! Same. -/
theorem same_k1 (v : J) (hl : v.gKeys.length < 1152921504606846976) : ∀ (n i : Nat), v.gKeys.length - i = n → i ≤ v.gKeys.length → M.r02_Same_k1 v v (i : Int) = some (.go ()) := by
  intro n
  induction n with
  | zero =>
    intro i hn hi
    rw [M.r02_Same_k1.eq_1]
    have : ¬ ((i : Int) < (v.gKeys.length : Int)) := by omega
    rw [if_neg (by simpa using this)]
  | succ n ih =>
    intro i hn hi
    have hlt : i < v.gKeys.length := by omega
    rw [M.r02_Same_k1.eq_1]
    have h1 : ((i : Int) < (v.gKeys.length : Int)) := by omega
    simp only [h1, decide_true, if_true, ix_n, List.getElem?_eq_getElem hlt, Option.bind_eq_bind, Option.bind_some, Bool.not_true, Bool.false_eq_true, if_false]
    rw [w1 (by omega), ih (i + 1) (by omega) (by omega)]
theorem same_k2 (v : J) {self : J → J → Option Bool} (hs : ∀ x ∈ v.gList, self x x = some true) (hl : v.gList.length < 1152921504606846976) : ∀ (n i : Nat), v.gList.length - i = n → i ≤ v.gList.length → M.r02_Same_k2 v v self (i : Int) = some (.go ()) := by
  intro n
  induction n with
  | zero =>
    intro i hn hi
    rw [M.r02_Same_k2.eq_1]
    have : ¬ ((i : Int) < (v.gList.length : Int)) := by omega
    rw [if_neg (by simpa using this)]
  | succ n ih =>
    intro i hn hi
    have hlt : i < v.gList.length := by omega
    rw [M.r02_Same_k2.eq_1]
    have h1 : ((i : Int) < (v.gList.length : Int)) := by omega
    simp only [h1, decide_true, if_true, ix_n, List.getElem?_eq_getElem hlt, Option.bind_eq_bind, Option.bind_some, hs _ (List.getElem_mem hlt), Bool.not_true, Bool.false_eq_true, if_false]
    rw [w1 (by omega), ih (i + 1) (by omega) (by omega)]
theorem same_eq : ∀ (f : Nat) (v : J), v.sz ≤ f → v.sz < 1000000000 → M.r02_Same f v v = some true := by
  intro f
  induction f with
  | zero => intro v h; rw [T_api_Json.sz_eq] at h; omega
  | succ f ih =>
    intro v hf hs
    have h1 := T_api_Json.sz_eq v
    have h2 := szs_len v.gList
    have h3 := kys_len v.gKeys
    rw [M.r02_Same]
    have k1 : M.r02_Same_k1 v v 0 = some (.go ()) := same_k1 v (by omega) _ 0 rfl (Nat.zero_le _)
    have k2 : M.r02_Same_k2 v v (M.r02_Same f) 0 = some (.go ()) := same_k2 v (fun x hx => by have := szs_mem hx; exact ih x (by omega) (by omega)) (by omega) _ 0 rfl (Nat.zero_le _)
    simp [k1, k2]
theorem nul_sz : (⟨0, [], [], []⟩ : J).sz = 1 := by decide
/-! The laws. -/
theorem law_JsonChecks {v : J} (h : Small v) : M.l02_JsonChecks 34 v = some true := by
  unfold M.l02_JsonChecks
  rw [awake_eq (by omega)]
  simp [json_Check_eq (f := 34) (by omega) h, r02_Check_eq (f := 34) (by omega) h]
theorem law_JsonPrints {v : J} (h : Small v) : M.l02_JsonPrints 34 v = some true := by
  unfold M.l02_JsonPrints
  rw [json_Print_eq (by omega) h, r02_Print_eq (by omega) h, awake_eq (by omega)]
  simp
/-- How great a value is that is read. -/
theorem text_sz {s t r : List UInt8} (ht : text s = some (t, r)) : t.length + 4 * r.length + 4 ≤ 4 * s.length := by
  unfold text at ht
  split at ht
  · split at ht
    · have tl : ∀ (f : Nat) (s acc t r : List UInt8), txt f s acc = some (t, r) → t.length + 4 * r.length ≤ acc.length + 4 * s.length := by
        intro f
        induction f with
        | zero => intro s acc t r h; simp [txt] at h
        | succ f ih =>
          intro s acc t r h
          cases s with
          | nil => simp [txt] at h
          | cons c s =>
            rw [txt] at h
            split at h
            · cases h
            · split at h
              · split at h
                · cases h; simp; omega
                · cases h
              · split at h
                · split at h
                  · cases h
                  · rename_i t1 r1 he
                    have h1 := escd_len he
                    have h2 := ih _ _ _ _ h
                    simp only [List.length_append, List.length_cons] at *
                    omega
                · have h2 := ih _ _ _ _ h
                  simp only [List.length_append, List.length_cons, List.length_nil] at *
                  omega
      have := tl _ _ _ _ _ ht
      simp only [List.length_cons, List.length_nil] at *
      omega
    · cases ht
  · cases ht
theorem items_sz {vf : List UInt8 → Rd} {o : Bool} {e : UInt8} (hv : ∀ s x r, vf s = .ok (x, r) → x.sz + 8 * r.length ≤ 8 * s.length) : ∀ (f : Nat) (s : List UInt8) (l : List J) (ks : List (List UInt8)) (x : J) (r : List UInt8), items vf o e f s l ks = .ok (x, r) → x.sz + 8 * r.length ≤ 8 * s.length + szs l + kys ks := by
  intro f
  induction f with
  | zero => intro s l ks x r h; simp [items] at h
  | succ f ih =>
    intro s l ks x r h
    rw [items] at h
    have app1 : ∀ (l : List J) (x : J), szs (l ++ [x]) = szs l + x.sz + 1 := fun l x => by
      induction l with
      | nil => simp [szs]
      | cons y l ih => simp only [List.cons_append, szs, ih]; omega
    have app2 : ∀ (l : List (List UInt8)) (x : List UInt8), kys (l ++ [x]) = kys l + x.length + 1 := fun l x => by
      induction l with
      | nil => simp [kys]
      | cons y l ih => rw [List.cons_append, kys_cons, kys_cons, ih]; omega
    split at h
    · cases h
    · rename_i s1 ks1 hk
      have h1 : kys ks1 + 8 * s1.length ≤ 8 * s.length + kys ks := by
        split at hk
        · unfold key1 at hk
          split at hk
          · cases hk
          · rename_i k r1 ht
            have g1 := text_len ht
            have g2 := blanks_len r1
            have g5 := text_sz ht
            split at hk
            · cases hk
            · split at hk
              · cases hk
              · rename_i r2 ht2
                have g3 := take_len ht2
                simp only [List.length_cons, List.length_nil] at g3
                simp only [Rs.ok.injEq, Prod.mk.injEq] at hk
                obtain ⟨rfl, rfl⟩ := hk
                rw [app2]
                omega
        · simp only [Rs.ok.injEq, Prod.mk.injEq] at hk
          obtain ⟨rfl, rfl⟩ := hk
          omega
      split at h
      · cases h
      · rename_i x2 s2 hx
        have h2 := hv _ _ _ hx
        split at h
        · rename_i r2 ht
          have h3 := take_len ht
          simp only [List.length_cons, List.length_nil] at h3
          simp only [Rs.ok.injEq, Prod.mk.injEq] at h
          obtain ⟨rfl, rfl⟩ := h
          rw [T_api_Json.sz_eq]
          simp only [app1, List.length_nil]
          omega
        · split at h
          · cases h
          · rename_i r2 ht
            have h3 := take_len ht
            simp only [List.length_cons, List.length_nil] at h3
            have h4 := ih _ _ _ _ _ h
            rw [app1] at h4
            omega
theorem nest_sz {vf : List UInt8 → Rd} {o : Bool} {w : Nat} (hv : ∀ s x r, vf s = .ok (x, r) → x.sz + 8 * r.length ≤ 8 * s.length) {s r : List UInt8} {x : J} (h : nest vf o w s = .ok (x, r)) : x.sz + 8 * r.length ≤ 8 * s.length := by
  unfold nest at h
  split at h
  · cases h
  · split at h
    · rename_i r2 ht
      have := take_len ht
      simp only [Rs.ok.injEq, Prod.mk.injEq] at h
      obtain ⟨rfl, rfl⟩ := h
      simp only [List.length_cons, List.length_nil] at this
      simp only [T_api_Json.sz, szs, kys_nil, List.length_nil]
      omega
    · exact items_sz hv _ _ _ _ _ _ h
theorem word_sz {s r : List UInt8} {x : J} (h : word s = .ok (x, r)) : x.sz + 8 * r.length ≤ 8 * s.length := by
  have hl := word_len h
  unfold word at h
  split at h
  · simp only [Rs.ok.injEq, Prod.mk.injEq] at h
    obtain ⟨rfl, rfl⟩ := h
    simp only [T_api_Json.sz, szs, kys_nil, List.length_nil]
    omega
  · split at h
    · simp only [Rs.ok.injEq, Prod.mk.injEq] at h
      obtain ⟨rfl, rfl⟩ := h
      simp only [T_api_Json.sz, szs, kys_nil, List.length_nil]
      omega
    · split at h
      · simp only [Rs.ok.injEq, Prod.mk.injEq] at h
        obtain ⟨rfl, rfl⟩ := h
        simp only [T_api_Json.sz, szs, kys_nil, List.length_nil]
        omega
      · split at h
        · cases h
        · simp only [Rs.ok.injEq, Prod.mk.injEq] at h
          obtain ⟨rfl, rfl⟩ := h
          have h1 := blanks_len (s.drop (num s))
          have h2 := num_le s
          rw [List.length_drop] at h1
          simp only [T_api_Json.sz, szs, kys_nil, List.length_nil, List.length_take]
          omega
theorem val_sz : ∀ (f : Nat) (s : List UInt8) (w : Nat) (x : J) (r : List UInt8), val f s w = .ok (x, r) → x.sz + 8 * r.length ≤ 8 * s.length := by
  intro f
  induction f with
  | zero => intro s w x r h; simp [val] at h
  | succ f ih =>
    intro s w x r h
    rw [val] at h
    split at h
    · rename_i t r2 ht
      have h1 := text_len ht
      have h2 := blanks_len r2
      have h3 := text_sz ht
      simp only [Rs.ok.injEq, Prod.mk.injEq] at h
      obtain ⟨rfl, rfl⟩ := h
      simp only [T_api_Json.sz, szs, kys_nil]
      omega
    · split at h
      · cases h
      · split at h
        · rename_i r2 ht
          have h1 := take_len ht
          have h2 := nest_sz (fun s x r => ih s (w + 1) x r) h
          omega
        · split at h
          · rename_i r2 ht
            have h1 := take_len ht
            have h2 := nest_sz (fun s x r => ih s (w + 1) x r) h
            omega
          · exact word_sz h
mutual
theorem chkJ_codes : ∀ (v : J) (w : Nat), chkJ v w = 0 ∨ chkJ v w = 21 ∨ chkJ v w = 23
  | ⟨k, t, l, ks⟩, w => by
    have h := chkL_codes l (w + 1)
    simp only [chkJ]
    repeat' split
    all_goals simp [h]
theorem chkL_codes : ∀ (l : List J) (w : Nat), chkL l w = 0 ∨ chkL l w = 21 ∨ chkL l w = 23
  | [], w => by simp [chkL]
  | x :: xs, w => by
    have h1 := chkJ_codes x w
    have h2 := chkL_codes xs w
    simp only [chkL]
    split
    · exact h2
    · exact h1
end
theorem parse_sz (s : List UInt8) : (parse s).1.sz ≤ 131072 := by
  unfold parse
  have h0 : (⟨0, [], [], []⟩ : J).sz ≤ 131072 := by decide
  split
  · exact h0
  · rename_i hl
    split
    · exact h0
    · rename_i y r hv
      have h1 := val_sz _ _ _ _ _ hv
      have h2 := blanks_len s
      split
      · simp only; omega
      · exact h0
/-- What a value's form is, read: told the same. -/
theorem law_JsonBack {v : J} {s : List UInt8} {f : Nat} (h : v.sz ≤ 1048576) (hf : 1048576 ≤ f) : M.l02_JsonBack f v s = some true := by
  have hs : Small v := by unfold Small; omega
  have hsame := fun (x : J) (hx : x.sz ≤ 1048576) => same_eq f x (by omega) (by omega)
  unfold M.l02_JsonBack
  rw [json_Print_eq (by omega) hs, awake_eq (by omega), json_Check_eq (by omega) hs]
  simp only [Option.bind_eq_bind, Option.bind_some, Bool.not_true, Bool.false_eq_true, if_false]
  have part2 : (do
      let a_52 ← M.json_Parse f s
      if (!decide (a_52.2 = 0)) then
        let a_56 ← M.r02_Same f a_52.1 (T_api_Json.mk 0 ([] : List UInt8) [] [])
        some a_56
      else
        let a_58 ← M.json_Print f a_52.1
        if (decide (a_58.2 = 22)) then
          let a_62 ← M.json_Check f a_52.1
          some (decide (a_62 = 0))
        else
          let a_64 ← M.json_Parse f a_58.1
          let j_71 ← (do
              if ((decide (a_58.2 = 0)) && (decide (a_64.2 = 0))) then
                let a_72 ← M.r02_Same f a_52.1 a_64.1
                some a_72
              else
                some false : Option Bool)
          some j_71 : Option Bool) = some true := by
    rw [json_Parse_eq s (by omega)]
    simp only [Option.bind_eq_bind, Option.bind_some]
    have hz := parse_sz s
    rcases parse_cases s with ⟨x, h1, h2⟩ | ⟨c, h1, h2⟩
    · rw [h1] at hz ⊢
      simp only at hz
      have hx : Small x := by unfold Small; omega
      simp only [decide_true, Bool.not_true, Bool.false_eq_true, if_false]
      rw [json_Print_eq (by omega) hx, json_Check_eq (by omega) hx]
      simp only [Option.bind_some, h2]
      unfold print
      rw [if_pos h2]
      by_cases hl : 16384 < (prJ x).length
      · simp [hl]
      · simp only [hl, if_false]
        rw [json_Parse_eq _ (by omega), parse_prJ h2 (by omega)]
        simp [hsame x (by omega)]
    · have hc : ¬ c = 0 := by omega
      rw [h1]
      simp [hc, hsame ⟨0, [], [], []⟩ (by decide)]
  simp only [Option.bind_eq_bind] at part2
  unfold print
  by_cases hc : chkJ v 0 = 0
  · rw [if_pos hc]
    by_cases hl : 16384 < (prJ v).length
    · have d22 : ¬ ((22 : Int) = 0) := by decide
      simp only [hl, if_true, d22, decide_false, Bool.false_eq_true, if_false, hc, decide_true, Option.bind_some]
      exact part2
    · simp only [hl, if_false, decide_true, if_true, hc, Option.bind_some]
      rw [json_Parse_eq _ (by omega), parse_prJ hc (by omega)]
      simp only [Option.bind_some, decide_true, Bool.not_true, Bool.false_eq_true, if_false, hsame v h]
      exact part2
  · have h22 : ¬ chkJ v 0 = 22 := by
      intro e
      have := chkJ_codes v 0
      omega
    rw [if_neg hc]
    simp only [hc, h22, decide_false, Bool.false_eq_true, if_false, Option.bind_some]
    exact part2
end Go.Sen
