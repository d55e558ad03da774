/- Cbor, plainly: the program's reader and the document's read alike. -/
import Derived.Test.YtmbckfhcljgniaaDoorCb8
namespace Go.Proofs.YtmbckfhcljgniaaDoor
open Go.Lk
def resI : ER → Res (T_api_Cbor × T_cbor_reader)
  | .ok (x, r) => .ok (x, ⟨r⟩)
  | .error e => .pan (wrong e)
/-- What the reader of a list's or a map's elements comes to. -/
def resL (x184 x185 : Int) (x186 : List UInt8) : Except Int (List T_api_Cbor × List UInt8) → Res (T_api_Cbor × T_cbor_reader)
  | .ok (l, r) => .ok (⟨x184, x185, x186, l⟩, ⟨r⟩)
  | .error e => .pan (wrong e)
theorem snd_len {w : Nat} {it : List UInt8 → ER} (h : Snd w it) {s : List UInt8} {x : T_api_Cbor} {r : List UInt8} (e : it s = .ok (x, r)) : r.length < s.length ∧ x.ok ∧ x.sz ≤ 2 * s.length := by
  obtain ⟨h1, h2, h3⟩ := h _ _ _ e
  have h4 := told_pos h2
  have h5 := sz_le x w h2
  have h6 := congrArg List.length h1
  rw [List.length_append] at h6
  have : (told x).length = (laidB x).length := byt_length _
  exact ⟨by omega, h3, by omega⟩
theorem item_k1 (fuel : Nat) (hf : 1 ≤ fuel) (self : T_cbor_reader → Int → Option (Res (T_api_Cbor × T_cbor_reader))) (it : List UInt8 → ER) (p1 q : Int) (k n0 : Nat) (rd : T_cbor_reader) (x184 x185 : Int) (x186 : List UInt8) {w : Nat} (hq : IntKind.wrap .i64 (p1 + 1) = q)
    (hs : ∀ s : List UInt8, s.length ≤ 100000 → self ⟨s⟩ q = some (resI (it s))) (hit : Snd w it) :
    ∀ (f n : Nat) (last : List UInt8) (acc : List T_api_Cbor) (s : List UInt8), s.length < f → acc.length + 2 * s.length ≤ 200000 → s.length ≤ 100000 → n < 9223372036854775808 →
      M.cbor_reader_item_k1 fuel self p1 ((k : Int), (n0 : Int), rd) s x184 x185 x186 acc (n : Int) last = some (resL x184 x185 x186 (decL it (k == 5) f n last acc s))
  | f, 0, last, acc, s, _, _, _, _ => by
    rw [M.cbor_reader_item_k1.eq_1]
    rw [if_neg (by simp)]
    cases f <;> rfl
  | 0, n + 1, _, _, _, h, _, _, _ => by omega
  | f + 1, n + 1, last, acc, s, h1, h2, h3, h4 => by
    unfold M.cbor_reader_item_k1
    rw [if_pos (by simp)]
    simp only [Option.bind_eq_bind, hq, decide_eq_true_eq]
    have e0 : IntKind.wrap .u64 (((n + 1 : Nat) : Int) - 1) = (n : Int) := by rw [wu64 (by omega) (by omega)]; omega
    rw [hs s h3]
    simp only [Option.bind_some, decL, e0]
    by_cases k5 : k = 5
    · subst k5
      rw [if_pos (by omega)]
      cases hx : it s with
      | error e => rfl
      | ok p =>
        obtain ⟨x, s1⟩ := p
        obtain ⟨l1, o1, z1⟩ := snd_len hit hx
        simp only [resI]
        rw [key_eq fuel x last hf o1 (by omega)]
        simp only [Option.bind_some, show ((5 : Nat) == 5) = true from rfl]
        cases hk : (keyV x last).2 with
        | false =>
          rw [must_f]
          rfl
        | true =>
          rw [must_t]
          simp only [Option.bind_some]
          rw [app_ok (by simp; omega)]
          simp only [Option.bind_some]
          rw [hs s1 (by omega)]
          simp only [Option.bind_some]
          cases hy : it s1 with
          | error e => rfl
          | ok p =>
            obtain ⟨y, s2⟩ := p
            obtain ⟨l2, o2, z2⟩ := snd_len hit hy
            simp only [resI]
            rw [app_ok (by simp; omega)]
            simp only [Option.bind_some]
            exact item_k1 fuel hf self it p1 q 5 n0 rd x184 x185 x186 hq hs hit f n _ _ s2 (by omega) (by simp; omega) (by omega) (by omega)
    · rw [if_neg (by omega)]
      have kb : (k == 5) = false := by simpa using k5
      cases hx : it s with
      | error e => rfl
      | ok p =>
        obtain ⟨x, s1⟩ := p
        obtain ⟨l1, o1, z1⟩ := snd_len hit hx
        simp only [resI, kb]
        rw [app_ok (by simp; omega)]
        simp only [Option.bind_some]
        have := item_k1 fuel hf self it p1 q k n0 rd x184 x185 x186 hq hs hit f n last (acc ++ [x]) s1 (by omega) (by simp; omega) (by omega) (by omega)
        rw [kb] at this
        exact this
theorem item_eq : ∀ (m fuel : Nat) (s : List UInt8), m ≤ 16 → m < fuel → s.length ≤ 100000 → M.cbor_reader_item fuel ⟨s⟩ ((16 - m : Nat) : Int) = some (resI (decI m s)) := by
  intro m
  induction m with
  | zero =>
    intro fuel s _ hf hl
    obtain ⟨fuel, rfl⟩ : ∃ g, fuel = g + 1 := ⟨fuel - 1, by omega⟩
    rw [M.cbor_reader_item, decI_eq, reader_head_eq s (by omega)]
    unfold headR
    simp only [Option.bind_eq_bind, Option.bind_some]
    cases hh : rdHead s with
    | none => rfl
    | some p =>
      obtain ⟨k, n, r⟩ := p
      obtain ⟨h1, h2, h3⟩ := rdHead_sound hh
      have hr : r.length ≤ 100000 := by have := congrArg List.length h1; rw [List.length_append] at this; omega
      have e1 : IntKind.wrap .i64 (n : Int) = (n : Int) := by rw [w64] <;> omega
      simp only [itemR, decide_eq_true_eq, e1]
      by_cases k0 : k = 0
      · rw [if_pos (by omega), if_pos k0]; rfl
      rw [if_neg (by omega), if_neg k0]
      by_cases k1 : k = 1
      · rw [if_pos (by omega), if_pos k1, notI64 (by omega) (by omega)]; rfl
      rw [if_neg (by omega), if_neg k1]
      by_cases k2 : k = 2
      · rw [if_pos (by omega), if_pos k2, take_eq r n (by omega)]
        simp only [Option.bind_some]
        by_cases hl : n ≤ r.length
        · rw [if_pos hl, if_pos hl]; rfl
        · rw [if_neg hl, if_neg hl]; rfl
      rw [if_neg (by omega), if_neg k2]
      by_cases k3 : k = 3
      · rw [if_pos (by omega), if_pos k3, take_eq r n (by omega)]
        simp only [Option.bind_some]
        by_cases hl : n ≤ r.length
        · rw [if_pos hl, if_pos hl]
          simp only [M.validString, Option.bind_eq_bind]
          rw [chk_ok (by simp; omega)]
          simp only [Option.bind_some]
          cases hv : Lib.validD (r.take n) with
          | true => rw [must_t]; rfl
          | false => rw [must_f]; rfl
        · rw [if_neg hl, if_neg hl]; rfl
      rw [if_neg (by omega), if_neg k3]
      rw [decide_eq_false (by omega), must_f]
      rfl
  | succ m ih =>
    intro fuel s hm hf hl
    obtain ⟨fuel, rfl⟩ : ∃ g, fuel = g + 1 := ⟨fuel - 1, by omega⟩
    rw [M.cbor_reader_item, decI_eq, reader_head_eq s (by omega)]
    unfold headR
    simp only [Option.bind_eq_bind, Option.bind_some]
    cases hh : rdHead s with
    | none => rfl
    | some p =>
      obtain ⟨k, n, r⟩ := p
      obtain ⟨h1, h2, h3⟩ := rdHead_sound hh
      have hr : r.length ≤ 100000 := by have := congrArg List.length h1; rw [List.length_append] at this; omega
      have e1 : IntKind.wrap .i64 (n : Int) = (n : Int) := by rw [w64] <;> omega
      simp only [itemR, decide_eq_true_eq, e1]
      by_cases k0 : k = 0
      · rw [if_pos (by omega), if_pos k0]; rfl
      rw [if_neg (by omega), if_neg k0]
      by_cases k1 : k = 1
      · rw [if_pos (by omega), if_pos k1, notI64 (by omega) (by omega)]; rfl
      rw [if_neg (by omega), if_neg k1]
      by_cases k2 : k = 2
      · rw [if_pos (by omega), if_pos k2, take_eq r n (by omega)]
        simp only [Option.bind_some]
        by_cases hl : n ≤ r.length
        · rw [if_pos hl, if_pos hl]; rfl
        · rw [if_neg hl, if_neg hl]; rfl
      rw [if_neg (by omega), if_neg k2]
      by_cases k3 : k = 3
      · rw [if_pos (by omega), if_pos k3, take_eq r n (by omega)]
        simp only [Option.bind_some]
        by_cases hl : n ≤ r.length
        · rw [if_pos hl, if_pos hl]
          simp only [M.validString, Option.bind_eq_bind]
          rw [chk_ok (by simp; omega)]
          simp only [Option.bind_some]
          cases hv : Lib.validD (r.take n) with
          | true => rw [must_t]; rfl
          | false => rw [must_f]; rfl
        · rw [if_neg hl, if_neg hl]; rfl
      rw [if_neg (by omega), if_neg k3]
      rw [decide_eq_true (by omega), must_t]
      simp only [Option.bind_some]
      have e2 : IntKind.wrap .i64 (((16 - (m + 1) : Nat) : Int) + 1) = ((16 - m : Nat) : Int) := by rw [w64] <;> omega
      have e3 : IntKind.wrap .i64 (k : Int) = (k : Int) := by rw [w64] <;> omega
      have e4 : IntKind.wrap .i64 ((k : Int) - 1) = (k : Int) - 1 := by rw [w64] <;> omega
      rw [e3, e4, item_k1 (fuel + 1) (by omega) (M.cbor_reader_item fuel) (decI m) _ _ k n ⟨r⟩ _ _ _ e2 (fun s hs => ih fuel s (by omega) (by omega) hs) (decI_sound m (by omega)) (r.length + 1) n [] [] r (by omega) (by simp; omega) hr h3]
      show some (resL _ _ _ (nestI (m + 1) k n r)) = _
      cases nestI (m + 1) k n r with
      | error e => rfl
      | ok p => rfl
/-- What Decode answers. -/
def decode (s : List UInt8) : T_api_Cbor × Int × Int :=
  if 4096 < s.length then (zeroT, 0, 32) else match decI 16 s with
    | .ok (x, r) => (x, ((s.length - r.length : Nat) : Int), 0)
    | .error e => (zeroT, 0, e)
theorem decI_err (m : Nat) : ∀ (s : List UInt8) (e : Int), decI m s = .error e → e = 30 ∨ e = 31 := by
  induction m with
  | zero =>
    intro s e h
    rw [decI_eq] at h
    split at h
    · cases h; simp
    unfold itemR at h
    repeat' split at h
    all_goals first
      | (cases h; done)
      | (cases h; simp; done)
      | (rename_i h2; cases h; cases h2; simp)
  | succ m ih =>
    intro s e h
    have hL : ∀ (f n : Nat) (mp : Bool) (last : List UInt8) (acc : List T_api_Cbor) (s : List UInt8) (e : Int), decL (decI m) mp f n last acc s = .error e → e = 30 ∨ e = 31 := by
      intro f
      induction f with
      | zero =>
        intro n mp last acc s e h
        cases n with
        | zero => cases h
        | succ n => cases h; simp
      | succ f ihf =>
        intro n mp last acc s e h
        cases n with
        | zero => cases h
        | succ n =>
          simp only [decL] at h
          split at h
          · rename_i e' he
            cases h
            exact ih _ _ he
          · split at h
            · split at h
              · split at h
                · rename_i e' he
                  cases h
                  exact ih _ _ he
                · exact ihf _ _ _ _ _ _ h
              · cases h; simp
            · exact ihf _ _ _ _ _ _ h
    rw [decI_eq] at h
    split at h
    · cases h; simp
    unfold itemR at h
    repeat' split at h
    all_goals first
      | (cases h; done)
      | (cases h; simp; done)
      | (rename_i h2; cases h; exact hL _ _ _ _ _ _ _ h2)
theorem Decode_eq (fuel : Nat) (s : List UInt8) (hf : 16 < fuel) : M.cbor_Decode fuel s = some (decode s) := by
  unfold M.cbor_Decode decode
  simp only [decide_eq_true_eq]
  by_cases c : 4096 < s.length
  · rw [if_pos (by omega), if_pos c]; rfl
  rw [if_neg (by omega), if_neg c]
  have := item_eq 16 fuel s (by omega) hf (by omega)
  rw [show ((16 - 16 : Nat) : Int) = 0 from rfl] at this
  rw [this]
  simp only [Option.bind_eq_bind, Option.bind_some]
  cases h : decI 16 s with
  | error e =>
    simp only [resI]
    rw [asErr_wrong]
    rfl
  | ok p =>
    obtain ⟨x, r⟩ := p
    simp only [resI]
    have := (snd_len (decI_sound 16 (by omega)) h).1
    rw [w64 (by omega) (by omega), show (s.length : Int) - (r.length : Int) = ((s.length - r.length : Nat) : Int) by omega]
end Go.Proofs.YtmbckfhcljgniaaDoor
