/- Cbor, plainly: which items may be. -/
import Derived.Test.YtmbckfhcljgniaaDoorCb3
namespace Go.Proofs.YtmbckfhcljgniaaDoor
open Go.Lk
abbrev wrong (e : Int) : Value := Value.iface 58 (Value.agg (List.toArray [Value.int .i64 e]))
/-- What comes to e, or to nothing wrong. -/
def resE (e : Int) : Res Unit := if e = 0 then .ok () else .pan (wrong e)
theorem must_t (e : Int) : M.cbor_must true e = some (.ok ()) := rfl
theorem must_f (e : Int) : M.cbor_must false e = some (.pan (wrong e)) := rfl
def fieldsV (v : T_api_Cbor) : Bool :=
  decide ((0 ≤ v.gKind ∧ v.gKind < 5) ∧ (v.gKind = 0 ∨ v.gNum = 0) ∧ (v.gKind = 1 ∨ v.gKind = 2 ∨ v.gText = []) ∧ (v.gKind = 3 ∨ v.gKind = 4 ∨ v.gList = []) ∧ (v.gKind = 2 → Lib.validD v.gText = true))
theorem fields_eq (v : T_api_Cbor) (h : v.gText.length ≤ 10000000) : M.cbor_fields v = some (fieldsV v) := by
  unfold M.cbor_fields M.validString fieldsV
  have hl : (v.gList.length : Int) = 0 ↔ v.gList = [] := by rw [← List.length_eq_zero_iff]; omega
  rw [chk_ok (by simp; omega)]
  simp only [Option.bind_eq_bind, Option.bind_some, Bool.and_eq_true, Bool.or_eq_true, decide_eq_true_eq, hl]
  by_cases c : ((((0 ≤ v.gKind ∧ v.gKind < 5) ∧ (v.gKind = 0 ∨ v.gNum = 0)) ∧ ((v.gKind = 1 ∨ v.gKind = 2) ∨ v.gText = [])) ∧ ((v.gKind = 3 ∨ v.gKind = 4) ∨ v.gList = []))
  · rw [if_pos c]
    by_cases k : v.gKind = 2
    · simp only [k, decide_true, Bool.not_true, Bool.false_eq_true, if_false, Option.bind_some]
      simp only [k] at c
      simp
      grind
    · simp [k]
      grind
  · rw [if_neg c]
    simp
    grind
/-- A key's bytes, and whether it may stand behind 'last'. -/
def keyV (v : T_api_Cbor) (last : List UInt8) : List UInt8 × Bool :=
  if (v.gKind = 0 ∨ v.gKind = 2) ∧ fieldsV v = true then (told v, !(slt (told v) last || decide (told v = last))) else ([], false)
theorem fieldsV_leaf {v : T_api_Cbor} (h : fieldsV v = true) (k : v.gKind = 0 ∨ v.gKind = 2) : v.gList = [] := by
  have h := (of_decide_eq_true h).2.2.2.1
  rcases h with h | h | h
  · omega
  · omega
  · exact h
theorem key_eq (fuel : Nat) (v : T_api_Cbor) (last : List UInt8) (h1 : 1 ≤ fuel) (h2 : v.ok) (h3 : v.sz ≤ 10000000) : M.cbor_key fuel v last = some (keyV v last) := by
  unfold M.cbor_key keyV
  rw [fields_eq v (by have := v.sz_eq; omega)]
  simp only [Option.bind_eq_bind, Option.bind_some]
  by_cases k0 : v.gKind = 0 ∨ v.gKind = 2
  · have e : ((!decide (v.gKind = 0)) && (!decide (v.gKind = 2))) = false := by
      rcases k0 with k | k <;> simp [k]
    simp only [e, k0, true_and, Bool.false_eq_true, if_false, Option.bind_some]
    by_cases f : fieldsV v = true
    · have hd : v.dep ≤ fuel := by
        rw [v.dep_eq, fieldsV_leaf f k0]
        simp [deps]; omega
      simp only [f, Bool.not_true, Bool.false_eq_true, if_false, if_true]
      rw [cbor_told_eq fuel v hd h2 h3]
      rfl
    · have f : fieldsV v = false := by simpa using f
      simp [f]
  · have e : ((!decide (v.gKind = 0)) && (!decide (v.gKind = 2))) = true := by
      simp; omega
    simp [e, k0]
/-- The keys of a map's elements may be: each behind the one ahead. -/
def keysOk : List T_api_Cbor → List UInt8 → Bool
  | [], _ => true
  | [x], last => (keyV x last).2
  | x :: _ :: r, last => (keyV x last).2 && keysOk r (keyV x last).1
mutual
def checkV (w : Nat) : T_api_Cbor → Int
  | ⟨k, n, t, l⟩ => if (k = 3 ∨ k = 4) ∧ 16 ≤ w then 31 else if fieldsV ⟨k, n, t, l⟩ = false then 33 else if k = 4 ∧ (l.length % 2 = 1 ∨ keysOk l [] = false) then 33 else checkVs (w + 1) l
def checkVs (w : Nat) : List T_api_Cbor → Int
  | [] => 0
  | x :: xs => if checkV w x = 0 then checkVs w xs else checkV w x
end
theorem checkV_eq (w : Nat) (v : T_api_Cbor) : checkV w v = if (v.gKind = 3 ∨ v.gKind = 4) ∧ 16 ≤ w then 31 else if fieldsV v = false then 33 else if v.gKind = 4 ∧ (v.gList.length % 2 = 1 ∨ keysOk v.gList [] = false) then 33 else checkVs (w + 1) v.gList := by
  cases v; simp [checkV]
theorem drop_hd {α : Type} {l : List α} {i : Nat} {x : α} {r : List α} (h : l.drop i = x :: r) : i < l.length ∧ l[i]? = some x ∧ l.drop (i + 1) = r := by
  have hi : i < l.length := by
    rcases Nat.lt_or_ge i l.length with h' | h'
    · exact h'
    · rw [List.drop_eq_nil_of_le h'] at h; cases h
  refine ⟨hi, ?_, ?_⟩
  · have := congrArg (fun l => l[0]?) h
    simpa using this
  · have := congrArg (List.drop 1) h
    simpa [Nat.add_comm] using this
theorem checked_k2 (fuel : Nat) (self : T_api_Cbor → Int → Option (Res Unit)) (v : T_api_Cbor) (w : Nat) (hw : w ≤ 100) (hv : v.gList.length ≤ 10000000) : ∀ (l : List T_api_Cbor) (i : Nat), v.gList.drop i = l →
    (∀ x ∈ l, self x ((w + 1 : Nat) : Int) = some (resE (checkV (w + 1) x))) → M.cbor_checked_k2 fuel self (w : Int) v (i : Int) = some (resE (checkVs (w + 1) l))
  | [], i, hd, _ => by
    rw [M.cbor_checked_k2.eq_1]
    have : v.gList.length ≤ i := List.drop_eq_nil_iff.1 hd
    rw [if_neg (by simp; omega)]
    simp [checkVs, resE]
  | x :: l, i, hd, hs => by
    rw [M.cbor_checked_k2.eq_1]
    obtain ⟨hi, hx, hd'⟩ := drop_hd hd
    rw [if_pos (by simp; omega), ix_nat, hx]
    simp only [Option.bind_eq_bind, Option.bind_some]
    rw [w64 (by omega) (by omega), show ((w : Int) + 1) = ((w + 1 : Nat) : Int) by omega, hs x (by simp)]
    simp only [Option.bind_some, checkVs]
    by_cases c : checkV (w + 1) x = 0
    · rw [if_pos c, c]
      simp only [resE, if_true]
      rw [w64 (by omega) (by omega), show ((i : Int) + 1) = ((i + 1 : Nat) : Int) by omega]
      exact checked_k2 fuel self v w hw hv l (i + 1) hd' (fun y hy => hs y (by simp [hy]))
    · rw [if_neg c]
      simp [resE, c]
theorem checked_k3 (fuel : Nat) (self : T_api_Cbor → Int → Option (Res Unit)) (v : T_api_Cbor) (w : Int) (R : Res Unit) (hf : 1 ≤ fuel) (hv : v.gList.length ≤ 10000000) (hk1 : M.cbor_checked_k1 fuel self w v = some R) (ho : oks v.gList) (hz : szs v.gList ≤ 10000000) :
    ∀ (n : Nat) (l : List T_api_Cbor) (i : Nat) (last : List UInt8), l.length ≤ n → v.gList.drop i = l →
    M.cbor_checked_k3 fuel self w v last (i : Int) = some (if keysOk l last = true then R else .pan (wrong 33))
  | n, [], i, last, hn, hd => by
    rw [M.cbor_checked_k3.eq_1]
    have : v.gList.length ≤ i := List.drop_eq_nil_iff.1 hd
    rw [if_neg (by simp; omega), hk1]
    simp [keysOk]
  | n + 1, x :: l, i, last, hn, hd => by
    rw [M.cbor_checked_k3.eq_1]
    obtain ⟨hi, hx, hd'⟩ := drop_hd hd
    have hm : x ∈ v.gList := List.mem_of_getElem? hx
    rw [if_pos (by simp; omega), ix_nat, hx]
    simp only [Option.bind_eq_bind, Option.bind_some]
    rw [key_eq fuel x last hf (oks_mem ho x hm) (by have := szs_mem hm; omega)]
    simp only [Option.bind_some]
    by_cases c : (keyV x last).2 = true
    · rw [c, must_t]
      simp only [Option.bind_some]
      rw [w64 (by omega) (by omega), show ((i : Int) + 2) = ((i + 2 : Nat) : Int) by omega]
      have := checked_k3 fuel self v w R hf hv hk1 ho hz n (l.drop 1) (i + 2) (keyV x last).1 (by simp only [List.length_cons, List.length_drop] at *; omega) (by rw [← hd', List.drop_drop])
      rw [this]
      cases l with
      | nil => simp [keysOk, c]
      | cons y r => simp [keysOk, c]
    · have c : (keyV x last).2 = false := by simpa using c
      rw [c, must_f]
      simp only [Option.bind_some]
      cases l with
      | nil => simp [keysOk, c]
      | cons y r => simp [keysOk, c]
theorem checked_eq : ∀ (fuel : Nat) (v : T_api_Cbor) (w : Nat), v.dep ≤ fuel → v.ok → v.sz ≤ 10000000 → w ≤ 17 → M.cbor_checked fuel v (w : Int) = some (resE (checkV w v))
  | 0, v, _, h, _, _, _ => by rw [v.dep_eq] at h; omega
  | fuel + 1, v, w, hd, ho, hz, hw => by
    rw [M.cbor_checked, checkV_eq]
    rw [v.dep_eq] at hd
    rw [v.ok_eq] at ho
    obtain ⟨hk, hn, hos⟩ := ho
    rw [v.sz_eq] at hz
    have hlen := szs_len v.gList
    simp only [Option.bind_eq_bind]
    by_cases c : (v.gKind = 3 ∨ v.gKind = 4) ∧ 16 ≤ w
    · have e : (((!decide (v.gKind = 3)) && (!decide (v.gKind = 4))) || (decide ((w : Int) < 16))) = false := by
        have : ¬ (w : Int) < 16 := by omega
        rcases c.1 with k | k <;> simp [k, this]
      rw [e, must_f, if_pos c]
      simp [resE]
    have e : (((!decide (v.gKind = 3)) && (!decide (v.gKind = 4))) || (decide ((w : Int) < 16))) = true := by
      simp; omega
    rw [e, must_t, if_neg c]
    simp only [Option.bind_some]
    rw [fields_eq v (by omega)]
    simp only [Option.bind_some]
    by_cases f : fieldsV v = false
    · rw [f, must_f, if_pos rfl]
      simp [resE]
    rw [if_neg f]
    have f : fieldsV v = true := by simpa using f
    rw [f, must_t]
    simp only [Option.bind_some]
    have w16 : w ≤ 16 ∨ v.gList = [] := by
      rcases (of_decide_eq_true f).2.2.2.1 with h | h | h
      · exact .inl (by omega)
      · exact .inl (by omega)
      · exact .inr h
    have tail : M.cbor_checked_k1 (fuel + 1) (M.cbor_checked fuel) (w : Int) v = some (resE (checkVs (w + 1) v.gList)) := by
      unfold M.cbor_checked_k1
      have := checked_k2 (fuel + 1) (M.cbor_checked fuel) v w (by omega) (by omega) v.gList 0 (by simp) (fun x hx => checked_eq fuel x (w + 1) (by have := deps_mem hx; omega) (oks_mem hos x hx) (by have := szs_mem hx; omega) (by
        rcases w16 with h | h
        · omega
        · rw [h] at hx; cases hx))
      simpa using this
    simp only [decide_eq_true_eq]
    by_cases k4 : v.gKind = 4
    · rw [if_pos k4]
      have ev : Int.tmod (v.gList.length : Int) 2 = ((v.gList.length % 2 : Nat) : Int) := by
        rw [Int.tmod_eq_emod_of_nonneg (by omega)]; omega
      rw [ev]
      by_cases odd : v.gList.length % 2 = 1
      · rw [decide_eq_false (by omega), must_f, if_pos ⟨k4, .inl odd⟩]
        simp [resE]
      rw [decide_eq_true (by omega), must_t]
      simp only [Option.bind_some]
      have := checked_k3 (fuel + 1) (M.cbor_checked fuel) v (w : Int) _ (by omega) (by omega) tail hos (by omega) v.gList.length v.gList 0 [] (by omega) (by simp)
      rw [show (0 : Int) = ((0 : Nat) : Int) from rfl, this]
      by_cases ko : keysOk v.gList [] = true
      · rw [if_pos ko, if_neg (by simp [odd, ko])]
      · rw [if_neg ko, if_pos ⟨k4, .inr (by simpa using ko)⟩]
        simp [resE]
    · rw [if_neg k4, if_neg (fun h => k4 h.1), tail]
theorem asErr_wrong (e : Int) : asErr 58 .i64 (wrong e) = some e := asErr_mk 58 .i64 e
theorem Check_eq (fuel : Nat) (v : T_api_Cbor) (h1 : v.dep ≤ fuel) (h2 : v.ok) (h3 : v.sz ≤ 10000000) : M.cbor_Check fuel v = some (checkV 0 v) := by
  unfold M.cbor_Check
  have := checked_eq fuel v 0 h1 h2 h3 (by omega)
  rw [show ((0 : Nat) : Int) = 0 from rfl] at this
  rw [this]
  simp only [Option.bind_eq_bind, Option.bind_some]
  by_cases c : checkV 0 v = 0
  · simp [resE, c]
  · simp only [resE, c, if_false]
    rw [asErr_wrong]
    rfl
def encode (v : T_api_Cbor) : List UInt8 × Int := if checkV 0 v = 0 then (if 4096 < (told v).length then ([], 32) else (told v, 0)) else ([], checkV 0 v)
theorem Encode_eq (fuel : Nat) (v : T_api_Cbor) (h1 : v.dep ≤ fuel) (h2 : v.ok) (h3 : v.sz ≤ 10000000) : M.cbor_Encode fuel v = some (encode v) := by
  unfold M.cbor_Encode encode
  rw [Check_eq fuel v h1 h2 h3]
  simp only [Option.bind_eq_bind, Option.bind_some]
  by_cases c : checkV 0 v = 0
  · simp only [c, decide_true, Bool.not_true, Bool.false_eq_true, if_false, if_true]
    rw [cbor_told_eq fuel v h1 h2 h3]
    simp only [Option.bind_some, decide_eq_true_eq]
    by_cases l : 4096 < (told v).length
    · rw [if_pos l, if_pos (by omega)]
    · rw [if_neg l, if_neg (by omega)]
  · simp [c]
mutual
theorem checkV_vals (w : Nat) : ∀ v : T_api_Cbor, checkV w v = 0 ∨ checkV w v = 31 ∨ checkV w v = 33
  | ⟨k, n, t, l⟩ => by
    have := checkVs_vals (w + 1) l
    simp only [checkV]
    repeat' split
    all_goals simp [this]
theorem checkVs_vals (w : Nat) : ∀ l : List T_api_Cbor, checkVs w l = 0 ∨ checkVs w l = 31 ∨ checkVs w l = 33
  | [] => by simp [checkVs]
  | x :: xs => by
    have h1 := checkV_vals w x
    have h2 := checkVs_vals w xs
    simp only [checkVs]
    split
    · exact h2
    · exact h1
end
end Go.Proofs.YtmbckfhcljgniaaDoor
