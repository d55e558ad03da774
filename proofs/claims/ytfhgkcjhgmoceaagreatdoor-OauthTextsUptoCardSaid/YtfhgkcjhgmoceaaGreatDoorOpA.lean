import Derived.Test.YtfhgkcjhgmoceaaGreatDoorOfM
import Derived.Lib.SplitLaws
import Derived.Lib.TrimUEq
import Derived.Lib.TrimAscii
set_option linter.all false
namespace Go.Sen
open Go.Lk Go.Pe
theorem w64 {x : Int} (h1 : -9223372036854775808 ≤ x) (h2 : x < 9223372036854775808) : IntKind.wrap .i64 x = x := by
  have h : IntKind.wrap .i64 x = if x % 18446744073709551616 ≥ 9223372036854775808 then x % 18446744073709551616 - 18446744073709551616 else x % 18446744073709551616 := by
    simp [IntKind.wrap, IntKind.bits, IntKind.signed]
  rw [h]
  split <;> omega
theorem w1 {n : Nat} (h : n < 4611686018427387904) : IntKind.wrap .i64 ((n : Int) + 1) = ((n + 1 : Nat) : Int) := by rw [w64] <;> omega
theorem wadd {n m : Nat} (h : n + m < 4611686018427387904) : IntKind.wrap .i64 ((n : Int) + (m : Int)) = ((n + m : Nat) : Int) := by rw [w64] <;> omega
theorem app_ok {α : Type} {k : Nat} {l l2 : List α} (h : (l.length + l2.length) * k ≤ 140737488355328) : app k l l2 = some (l ++ l2) := by
  unfold app
  rw [if_pos h]
theorem cat_ok {a b : List UInt8} (h : a.length + b.length ≤ 9223372036854775807) : cat a b = some (a ++ b) := by
  unfold cat
  rw [if_pos h]
theorem chk_ok {b : Bool} (h : b = true) : chk b = some () := by subst h; rfl
theorem ix_n {α : Type} (l : List α) (n : Nat) : ix l (n : Int) = l[n]? := by simp [ix]
theorem ix_0 {α : Type} (l : List α) : ix l 0 = l[0]? := by simp [ix]
theorem sub_n {α : Type} {l : List α} {a b : Nat} (h1 : a ≤ b) (h2 : b ≤ l.length) : sub l (a : Int) (b : Int) = some ((l.take b).drop a) := by
  unfold sub
  rw [if_pos (by omega)]
  simp
theorem sub_d {α : Type} {l : List α} {a : Nat} (h : a ≤ l.length) : sub l (a : Int) (l.length : Int) = some (l.drop a) := by
  rw [sub_n h (Nat.le_refl _)]
  simp
theorem sub_0 {α : Type} {l : List α} {a : Nat} (h : a ≤ l.length) : sub l 0 (a : Int) = some (l.take a) := by
  have := sub_n (l := l) (Nat.zero_le a) h
  simpa using this
theorem drop_get {α : Type} {l : List α} {i : Nat} (h : i < l.length) : l.drop i = l[i] :: l.drop (i + 1) := by simp
theorem toNat_eq {b : UInt8} {n : Nat} (hn : n < 256) : ((b.toNat : Int) = (n : Int)) ↔ b = UInt8.ofNat n := by
  constructor
  · intro h
    have : b.toNat = n := by omega
    rw [← this]
    simp
  · rintro rfl
    simp [UInt8.toNat_ofNat']
    omega
theorem nat_lt {b : UInt8} : b.toNat < 256 := UInt8.toNat_lt b
theorem fin256 {P : UInt8 → Prop} (h : ∀ n : Fin 256, P (UInt8.ofNat n.val)) (b : UInt8) : P b := by
  have := h ⟨b.toNat, nat_lt⟩
  simpa using this
instance : Std.Antisymm (α := List UInt8) (· ≤ ·) := ⟨fun _ _ h1 h2 => List.le_antisymm h1 h2⟩
theorem sorted_ms (l : List (List UInt8)) : (l.mergeSort fun x y => decide (x ≤ y)).Pairwise (· ≤ ·) := by
  have := List.pairwise_mergeSort (le := fun x y : List UInt8 => decide (x ≤ y)) (by intro a b c h1 h2; simp only [decide_eq_true_eq] at *; exact List.le_trans h1 h2) (by intro a b; simp only [Bool.or_eq_true, decide_eq_true_eq]; exact List.le_total a b) l
  exact this.imp fun h => by simpa using h
theorem dropWhile_nil {α : Type} (p : α → Bool) : ∀ l : List α, l.dropWhile p = [] ↔ ∀ b ∈ l, p b = true
  | [] => by simp
  | a :: l => by
    rw [List.dropWhile_cons]
    cases h : p a with
    | false => simp [h]
    | true => simp [h, dropWhile_nil p l]
theorem trimS_nil (l cs : List UInt8) : Lib.trimS l cs = [] ↔ ∀ b ∈ l, cs.contains b = true := by
  unfold Lib.trimS Lib.trimLeftS Lib.trimRightS
  rw [dropWhile_nil]
  constructor
  · intro h
    have h2 : l.reverse.dropWhile (cs.contains ·) = [] := by
      cases hd : l.reverse.dropWhile (cs.contains ·) with
      | nil => rfl
      | cons a r =>
        have h3 : ¬ cs.contains a = true := by
          have := List.head?_dropWhile_not (cs.contains ·) l.reverse
          rw [hd] at this
          simpa using this
        exact absurd (h a (by rw [hd]; simp)) h3
    rw [dropWhile_nil] at h2
    exact fun b hb => h2 b (by simpa using hb)
  · intro h b hb
    rw [List.mem_reverse] at hb
    exact h b (by simpa using (List.dropWhile_sublist _).subset hb)
theorem index_cons_one (c x : UInt8) (r : List UInt8) : Lib.index (x :: r) [c] = if x = c then 0 else if Lib.index r [c] = -1 then -1 else Lib.index r [c] + 1 := by
  rw [Lib.index]
  by_cases h : x = c
  · subst h; simp [List.isPrefixOf]
  · have : ([c] : List UInt8).isPrefixOf (x :: r) = false := by simp [List.isPrefixOf, Ne.symm h]
    rw [this]
    simp [h]
/-- A text, split at a byte. -/
def splitb (c : UInt8) : List UInt8 → List (List UInt8)
  | [] => [[]]
  | x :: r => if x = c then [] :: splitb c r else match splitb c r with
    | [] => [[x]]
    | h :: t => (x :: h) :: t
theorem splitb_ne (c : UInt8) : ∀ s : List UInt8, ∃ h t, splitb c s = h :: t
  | [] => ⟨_, _, rfl⟩
  | x :: r => by
    unfold splitb
    split
    · exact ⟨_, _, rfl⟩
    · split <;> exact ⟨_, _, rfl⟩
/-- Split at a separator, by its first instance. -/
def splitI (sep : List UInt8) : Nat → List UInt8 → List (List UInt8)
  | 0, s => [s]
  | k + 1, s => if Lib.index s sep = -1 then [s] else s.take (Lib.index s sep).toNat :: splitI sep k (s.drop ((Lib.index s sep).toNat + sep.length))
theorem indexB_list (s sub : List UInt8) : Lib.indexB ⟨s.toArray⟩ ⟨sub.toArray⟩ = Lib.index s sub := by
  unfold Lib.indexB
  simp
theorem extract_list (s : List UInt8) (a b : Nat) : (⟨s.toArray⟩ : ByteArray).extract a b = ⟨((s.take b).drop a).toArray⟩ := by
  apply ByteArray.ext
  rw [ByteArray.data_extract]
  simp [List.drop_take]
theorem splitB_list (sep : List UInt8) : ∀ (k : Nat) (s : List UInt8), (Lib.splitB ⟨sep.toArray⟩ 0 k ⟨s.toArray⟩).map (·.data.toList) = splitI sep k s
  | 0, s => by simp [Lib.splitB, splitI]
  | k + 1, s => by
    have hsz : ∀ l : List UInt8, (⟨l.toArray⟩ : ByteArray).size = l.length := fun l => by simp [ByteArray.size]
    unfold Lib.splitB splitI
    rw [indexB_list]
    by_cases h : Lib.index s sep = -1
    · rw [if_pos (by simpa using h), if_pos h]; simp
    · rw [if_neg (by simpa using h), if_neg h, extract_list, extract_list, List.map_cons, splitB_list sep k]
      simp [hsz]
theorem splitI_stop {sep : List UInt8} (h1 : 1 ≤ sep.length) : ∀ (n : Nat) (s : List UInt8), s.length ≤ n → ∀ k, s.length ≤ k → splitI sep (Lib.countB ⟨s.toArray⟩ ⟨sep.toArray⟩) s = splitI sep k s := by
  intro n
  have hsz : ∀ l : List UInt8, (⟨l.toArray⟩ : ByteArray).size = l.length := fun l => by simp [ByteArray.size]
  induction n with
  | zero =>
    intro s hn k hk
    have : s = [] := List.eq_nil_of_length_eq_zero (by omega)
    subst this
    have hi : Lib.index [] sep = -1 := by rw [Lib.index, if_neg]; cases sep <;> simp_all
    rw [Lib.countB_miss _ _ (by rw [indexB_list]; exact hi)]
    cases k with
    | zero => rfl
    | succ k => unfold splitI; rw [if_pos hi]
  | succ n ih =>
    intro s hn k hk
    have hge := Lib.index_ge s sep
    by_cases hi : Lib.index s sep = -1
    · rw [Lib.countB_miss _ _ (by rw [indexB_list]; exact hi)]
      cases k with
      | zero => rfl
      | succ k =>
        conv => rhs; unfold splitI; rw [if_pos hi]
        rfl
    · obtain ⟨i, hi2⟩ : ∃ i : Nat, Lib.index s sep = i := ⟨(Lib.index s sep).toNat, by omega⟩
      have hroom := Lib.index_room s sep (by omega)
      have hh := Lib.countB_hit ⟨s.toArray⟩ ⟨sep.toArray⟩ i (by rw [hsz]; exact h1) (by rw [indexB_list]; exact hi2)
      rw [extract_list, hsz, hsz, List.take_length] at hh
      have hd : (s.drop (i + sep.length)).length ≤ n := by rw [List.length_drop]; omega
      obtain ⟨k, rfl⟩ : ∃ j, k = j + 1 := ⟨k - 1, by omega⟩
      rw [hh, Nat.add_comm 1]
      unfold splitI
      rw [if_neg hi, if_neg hi, hi2]
      have e : ((i : Int)).toNat = i := by omega
      rw [e, ih _ hd k (by rw [List.length_drop]; omega)]
theorem splitT_I {sep : List UInt8} (h1 : 1 ≤ sep.length) (s : List UInt8) : splitT s sep = splitI sep s.length s := by
  unfold splitT
  rw [splitB_list]
  exact splitI_stop h1 _ s (Nat.le_refl _) _ (Nat.le_refl _)
theorem splitI_b (c : UInt8) : ∀ (s : List UInt8) (k : Nat), s.length ≤ k → splitI [c] k s = splitb c s
  | [], k, _ => by
    cases k with
    | zero => rfl
    | succ k => unfold splitI; rw [if_pos (by simp [Lib.index])]; rfl
  | x :: r, k, hk => by
    obtain ⟨k, rfl⟩ : ∃ j, k = j + 1 := ⟨k - 1, by simp at hk; omega⟩
    simp only [List.length_cons] at hk
    have ih := splitI_b c r k (by omega)
    have hge := Lib.index_ge r [c]
    unfold splitb
    by_cases hx : x = c
    · rw [if_pos hx]
      unfold splitI
      rw [index_cons_one, if_pos hx, if_neg (by decide)]
      simp [ih]
    · rw [if_neg hx, ← splitI_b c r (k + 1) (by omega)]
      unfold splitI
      rw [index_cons_one, if_neg hx]
      by_cases hm : Lib.index r [c] = -1
      · simp [hm]
      · obtain ⟨i, hi⟩ : ∃ i : Nat, Lib.index r [c] = i := ⟨(Lib.index r [c]).toNat, by omega⟩
        rw [if_neg hm, hi, if_neg (by omega), if_neg (by omega)]
        have e1 : ((i : Int) + 1).toNat = i + 1 := by omega
        have e2 : ((i : Int)).toNat = i := by omega
        simp [e1, e2, Nat.add_assoc]
theorem M_split {s : List UInt8} (c : UInt8) (h : s.length < 4294967281) : M.split s [c] = some (splitb c s) := by
  unfold M.split
  rw [chk_ok (by simpa using h), splitT_I (by simp), splitI_b c s _ (Nat.le_refl _)]
  rfl
theorem seek {α R X : Type} {l : List α} {p : α → Bool} {F : Int → Option (Jn R X)} (d : Nat → R) (x0 : X) (hl : l.length < 1152921504606846976)
    (hF : ∀ (i : Nat) (h : i < l.length), F (i : Int) = if p l[i] = true then some (.done (d i)) else F (IntKind.wrap .i64 ((i : Int) + 1))) (hE : F (l.length : Int) = some (.go x0)) :
    F 0 = some (match l.findIdx? p with | some i => .done (d i) | none => .go x0) := by
  have key : ∀ (n i : Nat), l.length - i = n → i ≤ l.length → F (i : Int) = some (match (l.drop i).findIdx? p with | some k => .done (d (i + k)) | none => .go x0) := by
    intro n
    induction n with
    | zero =>
      intro i h1 h2
      have : i = l.length := by omega
      subst this
      simp [hE]
    | succ n ih =>
      intro i h1 h2
      have hi : i < l.length := by omega
      rw [hF i hi, drop_get hi, List.findIdx?_cons]
      cases hp : p l[i] with
      | true => simp
      | false =>
        rw [w1 (by omega), ih (i + 1) (by omega) (by omega)]
        simp only [Bool.false_eq_true, if_false]
        cases (l.drop (i + 1)).findIdx? p with
        | none => rfl
        | some k => simp [Nat.add_assoc, Nat.add_comm 1 k]
  have := key _ 0 rfl (Nat.zero_le _)
  simpa using this
theorem find_all {α : Type} (l : List α) (p : α → Bool) : (l.findIdx? (fun x => !p x) = none ∧ l.all p = true) ∨ ∃ i, l.findIdx? (fun x => !p x) = some i ∧ l.all p = false := by
  have e : l.all p = !(l.any fun x => !p x) := by rw [List.all_eq_not_any_not]
  have := List.findIdx?_isSome (xs := l) (p := fun x => !p x)
  cases h : l.findIdx? (fun x => !p x) with
  | none => rw [h] at this; exact .inl ⟨rfl, by rw [e, ← this]; rfl⟩
  | some i => rw [h] at this; exact .inr ⟨i, rfl, by rw [e, ← this]; rfl⟩
theorem trimS_all {l cs : List UInt8} : decide (Lib.trimS l cs = []) = l.all cs.contains := by
  rw [Bool.eq_iff_iff, decide_eq_true_iff, trimS_nil, List.all_eq_true]
theorem M_trim {l cs : List UInt8} (hl : l.length ≤ 9223372036854775807) (hc : (decide (cs.length < 4294967281) && cs.all fun b => decide (b.toNat < 128)) = true) : M.trim l cs = some (Lib.trimS l cs) := by
  unfold M.trim
  rw [chk_ok]
  · rfl
  · simp only [Bool.and_eq_true] at hc ⊢
    exact ⟨by simpa using hl, hc⟩
theorem decode_high (b : UInt8) (r : List UInt8) (h : ¬ b.toNat < 128) : 128 ≤ (Lib.decodeL (b :: r)).1 := by
  have e : (⟨(b :: r).toArray⟩ : ByteArray).get! 0 = b := by simp [ByteArray.get!]
  unfold Lib.decodeL Utf8.decode
  simp only [Nat.add_zero, e, Nat.zero_add]
  rw [if_neg (by omega)]
  split
  · split
    · rename_i h1; simpa using h1
    · simp [Utf8.runeError]
  · split
    · split
      · rename_i h1
        simp only [Bool.and_eq_true, decide_eq_true_eq] at h1
        simp only
        omega
      · simp [Utf8.runeError]
    · split
      · split
        · rename_i h1
          simp only [Bool.and_eq_true, decide_eq_true_eq] at h1
          simp only
          omega
        · simp [Utf8.runeError]
      · simp [Utf8.runeError]
def badW (b : UInt8) : Bool := decide (b.toNat < 33) || decide (126 < b.toNat)
theorem badW_tab : ∀ b : UInt8, wordP b.toNat = badW b := fun _ => rfl
theorem wordP_high {n : Nat} (h : 128 ≤ n) : wordP n = true := by
  unfold wordP
  have : 126 < n := by omega
  simp [this]
theorem idx_any {s : List UInt8} : ∀ (f pos : Nat), s.length ≤ pos + f → decide (0 ≤ Lib.idxFuncFrom wordP true ⟨s.toArray⟩ f pos) = (s.drop pos).any badW := by
  have hsz : (⟨s.toArray⟩ : ByteArray).size = s.length := by simp [ByteArray.size]
  intro f
  induction f with
  | zero =>
    intro pos h
    rw [List.drop_eq_nil_of_le (by omega)]
    simp [Lib.idxFuncFrom]
  | succ f ih =>
    intro pos h
    unfold Lib.idxFuncFrom
    rw [hsz]
    by_cases hp : pos < s.length
    · rw [if_pos hp, List.drop_eq_getElem_cons hp, List.any_cons]
      have e : Utf8.decode ⟨s.toArray⟩ pos = Lib.decodeL (s[pos] :: s.drop (pos + 1)) := by
        rw [← Lib.decodeL_drop, ← List.drop_eq_getElem_cons hp]
      rw [e]
      by_cases hl : (s[pos]).toNat < 128
      · rw [Lib.decodeL_ascii _ _ hl]
        simp only [badW_tab]
        cases hb : badW s[pos] with
        | true => simp
        | false =>
          rw [if_neg (by simp), ih (pos + 1) (by omega), Bool.false_or]
      · have h1 := decode_high s[pos] (s.drop (pos + 1)) hl
        rw [if_pos (wordP_high h1)]
        have : badW s[pos] = true := by
          unfold badW
          have : 126 < (s[pos]).toNat := by omega
          simp [this]
        rw [this]
        simp
    · rw [if_neg hp, List.drop_eq_nil_of_le (by omega)]
      simp
theorem hasBad_eq (s : List UInt8) : M.containsFunc s = some (s.any badW) := by
  unfold M.containsFunc Lib.idxFunc
  rw [idx_any _ 0 (by simp [ByteArray.size]), List.drop_zero]
/-! Letters, scopes. -/
def letB (b : UInt8) : Bool := (((decide (97 ≤ b.toNat) && decide (b.toNat ≤ 122)) || (decide (48 ≤ b.toNat) && decide (b.toNat ≤ 57))) || decide (b.toNat = 46) || decide (b.toNat = 95)) || decide (b.toNat = 45)
def ltrN : List UInt8 := [97, 98, 99, 100, 101, 102, 103, 104, 105, 106, 107, 108, 109, 110, 111, 112, 113, 114, 115, 116, 117, 118, 119, 120, 121, 122, 48, 49, 50, 51, 52, 53, 54, 55, 56, 57, 46, 95, 45]
theorem ltrN_tab : ∀ b : UInt8, ltrN.contains b = letB b := fin256 (by decide +kernel)
theorem ltrS_tab : ∀ b : UInt8, (ltrN ++ [58]).contains b = (letB b || decide (b.toNat = 58)) := fin256 (by decide +kernel)
def nameB (s : List UInt8) : Bool := !decide (s = []) && decide (s.length ≤ 24) && s.all letB
def scopeB (s : List UInt8) : Bool := !decide (s = []) && decide (s.length ≤ 32) && s.all fun b => letB b || decide (b.toNat = 58)
theorem of_eq {s cs : List UInt8} {k : Nat} (hs : s.length < 1152921504606846976) (hc : (decide (cs.length < 4294967281) && cs.all fun b => decide (b.toNat < 128)) = true) : M.people_of s (k : Int) cs = some (!decide (s = []) && decide (s.length ≤ k) && s.all cs.contains) := by
  unfold M.people_of
  have e : decide ((s.length : Int) ≤ (k : Int)) = decide (s.length ≤ k) := by rw [Bool.eq_iff_iff]; simp
  rw [e]
  cases h : (!decide (s = []) && decide (s.length ≤ k)) with
  | false => simp
  | true =>
    simp only [if_true]
    rw [M_trim (by omega) hc]
    simp only [Option.bind_eq_bind, Option.bind_some, Option.some.injEq, Bool.true_and]
    rw [← trimS_all]
theorem scope_eq {s : List UInt8} (hs : s.length < 1152921504606846976) : M.people_Scope s = some (scopeB s) := by
  unfold M.people_Scope
  have := of_eq (cs := ltrN ++ [58]) (k := 32) hs (by decide)
  rw [show (ltrN ++ [58]) = ([97, 98, 99, 100, 101, 102, 103, 104, 105, 106, 107, 108, 109, 110, 111, 112, 113, 114, 115, 116, 117, 118, 119, 120, 121, 122, 48, 49, 50, 51, 52, 53, 54, 55, 56, 57, 46, 95, 45, 58] : List UInt8) from rfl] at this
  have e : ((32 : Nat) : Int) = 32 := rfl
  rw [e] at this
  rw [this]
  simp only [Option.bind_eq_bind, Option.bind_some, Option.some.injEq]
  unfold scopeB
  congr 1
  congr 1
  funext b
  rw [← ltrS_tab]
  rfl
theorem name_eq {s : List UInt8} (hs : s.length < 1152921504606846976) : M.people_Name s = some (nameB s) := by
  unfold M.people_Name
  have := of_eq (cs := ltrN) (k := 24) hs (by decide)
  have e : ((24 : Nat) : Int) = 24 := rfl
  rw [e] at this
  unfold ltrN at this
  rw [this]
  simp only [Option.bind_eq_bind, Option.bind_some, Option.some.injEq]
  unfold nameB
  congr 1
  congr 1
  funext b
  rw [← ltrN_tab]
  rfl
/-! The program's reader. -/
/-- No two neighbours alike. -/
def noAdj : List (List UInt8) → Bool
  | [] => true
  | [_] => true
  | x :: y :: r => !decide (y = x) && noAdj (y :: r)
def okL (r : List (List UInt8)) : Bool := r.all scopeB && noAdj r
def srt (s : List UInt8) : List (List UInt8) := (splitb 32 s).mergeSort sleL
def scps (s : List UInt8) : List (List UInt8) × Bool := if s = [] then ([], true) else if okL (srt s) && decide ((srt s).length ≤ 16) then (srt s, true) else ([], false)
theorem k1_eq {r : List (List UInt8)} (hl : r.length < 1152921504606846976) (hr : ∀ x ∈ r, x.length < 1152921504606846976) : ∀ (n i : Nat), r.length - i = n → i ≤ r.length → M.oauth_Scopes_k1 r (i : Int) = some (if (r.drop i).all scopeB && noAdj (r.drop (i - 1)) then .go () else .done ([], false)) := by
  intro n
  induction n with
  | zero =>
    intro i h1 h2
    have : i = r.length := by omega
    subst this
    rw [M.oauth_Scopes_k1]
    simp only [Int.lt_irrefl, decide_false, Bool.false_eq_true, if_false, List.drop_length, List.all_nil, Bool.true_and]
    have : noAdj (r.drop (r.length - 1)) = true := by
      rcases Nat.eq_zero_or_pos r.length with h | h
      · have : r = [] := List.eq_nil_of_length_eq_zero h
        subst this; rfl
      · rw [List.drop_eq_getElem_cons (by omega), show r.length - 1 + 1 = r.length from by omega, List.drop_length]
        rfl
    rw [this]
    rfl
  | succ n ih =>
    intro i h1 h2
    have hi : i < r.length := by omega
    rw [M.oauth_Scopes_k1]
    have e1 : decide ((i : Int) < (r.length : Int)) = true := decide_eq_true (by omega)
    simp only [e1, if_true]
    rw [ix_n, List.getElem?_eq_getElem hi]
    simp only [Option.bind_eq_bind, Option.bind_some]
    rw [scope_eq (hr _ (List.getElem_mem hi))]
    simp only [Option.bind_some]
    rw [drop_get hi, List.all_cons]
    cases hs : scopeB r[i] with
    | false => simp
    | true =>
      simp only [Bool.not_true, Bool.false_eq_true, if_false, Bool.true_and]
      rcases Nat.eq_zero_or_pos i with h0 | h0
      · subst h0
        have e2 : decide ((0 : Int) < ((0 : Nat) : Int)) = false := rfl
        simp only [e2, Bool.false_eq_true, if_false, Option.bind_some]
        have := ih 1 (by omega) (by omega)
        rw [w1 (by omega)]
        rw [this]
      · have e2 : decide ((0 : Int) < (i : Int)) = true := decide_eq_true (by omega)
        simp only [e2, if_true]
        have e3 : IntKind.wrap .i64 ((i : Int) - 1) = ((i - 1 : Nat) : Int) := by rw [w64] <;> omega
        rw [e3, ix_n, List.getElem?_eq_getElem (by omega)]
        simp only [Option.bind_some]
        have e4 : r.drop (i - 1) = r[i - 1] :: r[i] :: r.drop (i + 1) := by
          rw [List.drop_eq_getElem_cons (show i - 1 < r.length by omega), show i - 1 + 1 = i from by omega, List.drop_eq_getElem_cons hi]
        rw [e4]
        simp only [noAdj]
        by_cases he : r[i] = r[i - 1]
        · simp [he]
        · simp only [he, decide_false, Bool.false_eq_true, if_false, Bool.not_false, Bool.true_and]
          rw [w1 (by omega), ih (i + 1) (by omega) (by omega), show i + 1 - 1 = i from by omega, drop_get hi]
theorem splitb_len (c : UInt8) : ∀ s : List UInt8, (splitb c s).length ≤ s.length + 1
  | [] => by simp [splitb]
  | x :: r => by
    have ih := splitb_len c r
    unfold splitb
    split
    · simp; omega
    · split
      · simp
      · rename_i h t e; rw [e] at ih; simp at ih ⊢; omega
theorem splitb_mem (c : UInt8) : ∀ (s : List UInt8), ∀ x ∈ splitb c s, x.length ≤ s.length
  | [], x, hx => by simp [splitb] at hx; subst hx; simp
  | a :: r, x, hx => by
    have ih := splitb_mem c r
    unfold splitb at hx
    split at hx
    · rcases List.mem_cons.1 hx with rfl | hx
      · simp
      · have := ih x hx; simp; omega
    · split at hx
      · simp at hx; subst hx; simp
      · rename_i h t e
        rw [e] at ih
        rcases List.mem_cons.1 hx with rfl | hx
        · have := ih h List.mem_cons_self; simp; omega
        · have := ih x (List.mem_cons_of_mem _ hx); simp; omega
theorem srt_perm (s : List UInt8) : (srt s).Perm (splitb 32 s) := List.mergeSort_perm _ _
theorem Scopes_eq {s : List UInt8} (hs : s.length < 4294967281) : M.oauth_Scopes s = some (scps s) := by
  unfold M.oauth_Scopes scps
  by_cases h0 : s = []
  · subst h0; rfl
  · rw [if_neg (by simpa using h0), if_neg h0, M_split 32 hs]
    simp only [Option.bind_eq_bind, Option.bind_some]
    have hl := splitb_len 32 s
    unfold M.sortS
    rw [chk_ok (decide_eq_true (by omega))]
    simp only [Option.bind_eq_bind, Option.bind_some]
    show (M.oauth_Scopes_k1 (srt s) 0).bind _ = _
    have hrl : (srt s).length = (splitb 32 s).length := (srt_perm s).length_eq
    have hk := k1_eq (r := srt s) (by omega) (fun x hx => by have := splitb_mem 32 s x ((srt_perm s).mem_iff.1 hx); omega) _ 0 rfl (Nat.zero_le _)
    have e0 : ((0 : Nat) : Int) = 0 := rfl
    rw [e0] at hk
    rw [hk]
    simp only [Option.bind_some, List.drop_zero, Nat.zero_sub]
    show _ = some (if (okL (srt s) && decide ((srt s).length ≤ 16)) = true then (srt s, true) else ([], false))
    unfold okL
    cases h1 : ((srt s).all scopeB && noAdj (srt s)) with
    | false => simp
    | true =>
      simp only [if_true, Bool.true_and]
      by_cases h2 : (srt s).length ≤ 16
      · rw [if_neg (by simp; omega), if_pos (by simpa using h2)]
        unfold M.slices_Clip_string_string
        rw [chk_ok (by simp)]
        simp only [Option.bind_eq_bind, Option.bind_some]
        have := sub_0 (l := srt s) (Nat.le_refl _)
        rw [show (splitb 32 s).mergeSort sleL = srt s from rfl, this]
        simp
      · rw [if_pos (by simp; omega), if_neg (by simpa using h2)]
theorem bless_eq : ∀ (x y : List UInt8), Op.bytesLess x y = decide (x < y)
  | [], [] => by simp [Op.bytesLess]
  | _ :: _, [] => by simp [Op.bytesLess]
  | [], _ :: _ => by simp [Op.bytesLess]
  | a :: x, b :: y => by
    rw [Op.bytesLess, bless_eq x y]
    simp only [List.cons_lt_cons_iff]
    by_cases h1 : a < b <;> by_cases h2 : a = b <;> by_cases h3 : x < y <;> simp [h1, h2, h3]
theorem slt_iff {a b : List UInt8} : slt a b = true ↔ a < b := by
  unfold slt
  rw [bless_eq]
  simp
/-! Texts joined. -/
def cc (l : List (List UInt8)) : List UInt8 := l.flatMap fun x => 32 :: x
def joinS : List (List UInt8) → List UInt8
  | [] => []
  | x :: r => x ++ cc r
def slen (l : List (List UInt8)) : Nat := (l.map List.length).sum
theorem cc_len (l : List (List UInt8)) : (cc l).length = slen l + l.length := by
  induction l with
  | nil => rfl
  | cons x l ih =>
    unfold cc slen at *
    simp only [List.flatMap_cons, List.cons_append, List.length_cons, List.length_append, List.map_cons, List.sum_cons, ih]
    omega
theorem joinS_len {l : List (List UInt8)} : (joinS l).length = slen l + (l.length - 1) := by
  cases l with
  | nil => rfl
  | cons x r =>
    simp only [joinS, List.length_append, cc_len, slen, List.map_cons, List.sum_cons, List.length_cons]
    omega
theorem slen_perm {a b : List (List UInt8)} (h : a.Perm b) : slen a = slen b := (h.map List.length).sum_nat
theorem splitb_app {x : List UInt8} (hx : ∀ b ∈ x, b ≠ 32) (s : List UInt8) : splitb 32 (x ++ 32 :: s) = x :: splitb 32 s := by
  induction x with
  | nil => rw [List.nil_append, splitb, if_pos rfl]
  | cons a x ih =>
    rw [List.cons_append, splitb, if_neg (hx a List.mem_cons_self), ih fun b hb => hx b (List.mem_cons_of_mem _ hb)]
theorem splitb_one {x : List UInt8} (hx : ∀ b ∈ x, b ≠ 32) : splitb 32 x = [x] := by
  induction x with
  | nil => rfl
  | cons a x ih => rw [splitb, if_neg (hx a List.mem_cons_self), ih fun b hb => hx b (List.mem_cons_of_mem _ hb)]
theorem split_join : ∀ {l : List (List UInt8)}, l ≠ [] → (∀ x ∈ l, ∀ b ∈ x, b ≠ 32) → splitb 32 (joinS l) = l
  | [], h, _ => (h rfl).elim
  | [x], _, hx => by
    show splitb 32 (x ++ []) = [x]
    rw [List.append_nil, splitb_one (hx x List.mem_cons_self)]
  | x :: y :: r, _, hx => by
    show splitb 32 (x ++ (32 :: y ++ cc r)) = _
    rw [List.cons_append, splitb_app (hx x List.mem_cons_self)]
    rw [show y ++ cc r = joinS (y :: r) from rfl, split_join (by simp) fun z hz => hx z (List.mem_cons_of_mem _ hz)]
theorem join_split : ∀ (s : List UInt8), joinS (splitb 32 s) = s
  | [] => rfl
  | x :: s => by
    have ih := join_split s
    unfold splitb
    split
    · rename_i h
      subst h
      obtain ⟨a, t, e⟩ := splitb_ne 32 s
      rw [e] at ih ⊢
      show [] ++ cc (a :: t) = _
      rw [List.nil_append]
      show (32 :: a) ++ cc t = _
      rw [List.cons_append]
      exact congrArg _ ih
    · split
      · rename_i e; rw [e] at ih; rw [← ih]; rfl
      · rename_i a t e; rw [e] at ih; rw [← ih]; rfl
/-! What rises. -/
theorem noAdj_get : ∀ {r : List (List UInt8)}, noAdj r = true → ∀ i (h : i + 1 < r.length), r[i + 1] ≠ r[i]
  | [], _, i, h => by simp at h
  | [_], _, i, h => by simp at h
  | x :: y :: r, hn, i, h => by
    simp only [noAdj, Bool.and_eq_true, Bool.not_eq_true', decide_eq_false_iff_not] at hn
    cases i with
    | zero => simpa using hn.1
    | succ i =>
      have := noAdj_get hn.2 i (by simpa using h)
      simpa using this
theorem srt_sorted (s : List UInt8) : (srt s).Pairwise (· ≤ ·) := sorted_ms _
theorem rise {r : List (List UInt8)} (hs : r.Pairwise (· ≤ ·)) (hn : noAdj r = true) (i : Nat) (h : i + 1 < r.length) : r[i] < r[i + 1] := by
  have h1 : r[i] ≤ r[i + 1] := List.pairwise_iff_getElem.1 hs i (i + 1) (by omega) h (by omega)
  have h2 := noAdj_get hn i h
  rcases Classical.em (r[i] < r[i + 1]) with h3 | h3
  · exact h3
  · exact (h2 (List.le_antisymm (List.not_lt.1 h3) h1)).elim
/-- The law's loop. -/
theorem lists_k1 {l : List (List UInt8)} {b : Bool} (hl : l.length < 1152921504606846976) (hr : ∀ i (h : i + 1 < l.length), l[i] < l[i + 1]) : ∀ (n i : Nat), l.length - i = n → i ≤ l.length → ∀ (t : List UInt8) (k : Nat), t.length + (slen (l.drop i) + (l.length - i)) < 1152921504606846976 → k + slen (l.drop i) < 1152921504606846976 →
    M.l17_OauthLists_k1 (l, b) t (k : Int) (i : Int) = some (.go (t ++ (if i = 0 then joinS l else cc (l.drop i)), ((k + slen (l.drop i) : Nat) : Int))) := by
  intro n
  induction n with
  | zero =>
    intro i h1 h2 t k _ _
    have : i = l.length := by omega
    subst this
    rw [M.l17_OauthLists_k1]
    simp only [Int.lt_irrefl, decide_false, Bool.false_eq_true, if_false, List.drop_length]
    split
    · rename_i h0
      have : l = [] := List.eq_nil_of_length_eq_zero h0
      subst this
      simp [joinS, slen]
    · simp [cc, slen]
  | succ n ih =>
    intro i h1 h2 t k ht hk
    have hi : i < l.length := by omega
    have hd := drop_get hi
    have hsl : slen (l.drop i) = l[i].length + slen (l.drop (i + 1)) := by rw [hd]; unfold slen; rw [List.map_cons, List.sum_cons]
    rw [M.l17_OauthLists_k1]
    have e1 : decide ((i : Int) < (l.length : Int)) = true := decide_eq_true (by omega)
    simp only [e1, if_true]
    have step : ∀ (t2 : List UInt8), t2.length ≤ t.length + 1 → ((ix l (i : Int)).bind fun x105 => (cat t2 x105).bind fun s106 => (ix l (i : Int)).bind fun x107 => M.l17_OauthLists_k1 (l, b) s106 (IntKind.wrap .i64 ((k : Int) + (x107.length : Int))) (IntKind.wrap .i64 ((i : Int) + 1))) = some (.go (t2 ++ l[i] ++ cc (l.drop (i + 1)), ((k + slen (l.drop i) : Nat) : Int))) := fun t2 h3 => by
      rw [ix_n, List.getElem?_eq_getElem hi]
      simp only [Option.bind_some]
      rw [cat_ok (by omega)]
      simp only [Option.bind_some]
      rw [wadd (by omega), w1 (by omega), ih (i + 1) (by omega) (by omega) (t2 ++ l[i]) (k + l[i].length) (by rw [List.length_append]; omega) (by omega)]
      rw [if_neg (by omega), hsl, Nat.add_assoc]
    rcases Nat.eq_zero_or_pos i with h0 | h0
    · subst h0
      have e2 : decide ((0 : Int) < ((0 : Nat) : Int)) = false := rfl
      simp only [e2, Bool.false_eq_true, if_false, Option.bind_eq_bind, Option.bind_some, if_true]
      rw [step t (by omega)]
      have : joinS l = l[0] ++ cc (l.drop 1) := by
        have hd : l = l[0] :: l.drop 1 := by simpa using hd
        conv => lhs; rw [hd]
        rfl
      rw [this, List.append_assoc]
    · have e2 : decide ((0 : Int) < (i : Int)) = true := decide_eq_true (by omega)
      have e3 : IntKind.wrap .i64 ((i : Int) - 1) = ((i - 1 : Nat) : Int) := by rw [w64] <;> omega
      have hlt : l[i - 1] < l[i] := by
        have := hr (i - 1) (by omega)
        simpa [show i - 1 + 1 = i from by omega] using this
      have e4 : (slt l[i] l[i - 1] || decide (l[i] = l[i - 1])) = false := by
        rw [Bool.or_eq_false_iff]
        constructor
        · cases h : slt l[i] l[i - 1] with
          | false => rfl
          | true => exact (List.lt_irrefl _ (List.lt_trans hlt (slt_iff.1 h))).elim
        · exact decide_eq_false fun e => by rw [e] at hlt; exact List.lt_irrefl _ hlt
      simp only [e2, if_true, Option.bind_eq_bind]
      rw [ix_n, List.getElem?_eq_getElem hi]
      simp only [Option.bind_some]
      rw [e3, ix_n, List.getElem?_eq_getElem (show i - 1 < l.length by omega)]
      simp only [Option.bind_some, e4, Bool.false_eq_true, if_false]
      rw [cat_ok (by simp; omega)]
      simp only [Option.bind_some]
      have := step (t ++ [32]) (by simp)
      rw [ix_n, List.getElem?_eq_getElem hi] at this
      simp only [Option.bind_some] at this ⊢
      rw [this, if_neg (by omega)]
      rw [show cc (l.drop i) = (32 :: l[i]) ++ cc (l.drop (i + 1)) from by rw [hd]; rfl]
      simp
theorem same_refl {l : List (List UInt8)} (hl : l.length < 1152921504606846976) : M.r12_Same l l = some true := by
  unfold M.r12_Same
  have key : ∀ (n i : Nat), l.length - i = n → i ≤ l.length → M.r12_Same_k1 l l (i : Int) = some (.go ()) := by
    intro n
    induction n with
    | zero =>
      intro i h1 h2
      have : i = l.length := by omega
      subst this
      rw [M.r12_Same_k1]
      simp
    | succ n ih =>
      intro i h1 h2
      have hi : i < l.length := by omega
      rw [M.r12_Same_k1]
      have e1 : decide ((i : Int) < (l.length : Int)) = true := decide_eq_true (by omega)
      simp only [e1, if_true, Option.bind_eq_bind]
      rw [ix_n, List.getElem?_eq_getElem hi]
      simp only [Option.bind_some, decide_true, Bool.not_true, Bool.false_eq_true, if_false]
      rw [w1 (by omega), ih (i + 1) (by omega) (by omega)]
  have := key _ 0 rfl (Nat.zero_le _)
  have e0 : ((0 : Nat) : Int) = 0 := rfl
  rw [e0] at this
  rw [this]
  simp
theorem scopeB_sp {x : List UInt8} (h : scopeB x = true) : x ≠ [] ∧ ∀ b ∈ x, b ≠ 32 := by
  unfold scopeB at h
  simp only [Bool.and_eq_true, Bool.not_eq_true', decide_eq_false_iff_not, List.all_eq_true] at h
  refine ⟨h.1.1, fun b hb e => ?_⟩
  have := h.2 b hb
  subst e
  revert this
  decide
theorem lists_eq {s : List UInt8} (hs : s.length ≤ 1048576) : M.l17_OauthLists s = some true := by
  unfold M.l17_OauthLists
  rw [Scopes_eq (by omega)]
  simp only [Option.bind_eq_bind, Option.bind_some]
  by_cases h0 : s = []
  · subst h0
    have e : scps [] = ([], true) := rfl
    rw [e]
    have k := lists_k1 (l := []) (b := true) (by simp) (fun i h => by simp at h) _ 0 rfl (Nat.le_refl _) [] 0 (by simp [slen]) (by simp [slen])
    have e0 : ((0 : Nat) : Int) = 0 := rfl
    rw [e0] at k
    simp only [Bool.not_true, Bool.false_eq_true, if_false]
    rw [k]
    simp only [Option.bind_some, if_true, List.nil_append, joinS]
    rw [Scopes_eq (by simp), e]
    simp only [Option.bind_some, if_true]
    rw [same_refl (by simp)]
    rfl
  · cases h1 : (okL (srt s) && decide ((srt s).length ≤ 16)) with
    | false =>
      have e : scps s = ([], false) := by unfold scps; rw [if_neg h0, h1]; rfl
      rw [e]
      rfl
    | true =>
      have e : scps s = (srt s, true) := by unfold scps; rw [if_neg h0, h1]; rfl
      rw [e]
      simp only [Bool.and_eq_true, decide_eq_true_eq] at h1
      obtain ⟨h1, h2⟩ := h1
      have hok := h1
      unfold okL at h1
      simp only [Bool.and_eq_true, List.all_eq_true] at h1
      obtain ⟨h3, h4⟩ := h1
      have hne : srt s ≠ [] := fun e => by
        have := (srt_perm s).length_eq
        rw [e] at this
        obtain ⟨a, t, e2⟩ := splitb_ne 32 s
        rw [e2] at this
        simp at this
      have hlen : slen (srt s) + ((srt s).length - 1) = s.length := by
        have a1 := slen_perm (srt_perm s)
        have a2 := (srt_perm s).length_eq
        have a3 := joinS_len (l := splitb 32 s)
        rw [join_split] at a3
        omega
      have hpos : 0 < (srt s).length := by
        rcases Nat.eq_zero_or_pos (srt s).length with h | h
        · exact (hne (List.eq_nil_of_length_eq_zero h)).elim
        · exact h
      have k := lists_k1 (l := srt s) (b := true) (by omega) (rise (srt_sorted s) h4) _ 0 rfl (Nat.zero_le _) [] 0 (by simp; omega) (by simp; omega)
      have e0 : ((0 : Nat) : Int) = 0 := rfl
      rw [e0] at k
      simp only [Bool.not_true, Bool.false_eq_true, if_false]
      rw [k]
      simp only [Option.bind_some, if_true, List.nil_append, List.drop_zero, Nat.zero_add]
      have hj : (joinS (srt s)).length = s.length := by rw [joinS_len]; exact hlen
      have hsp : splitb 32 (joinS (srt s)) = srt s := split_join hne fun x hx => (scopeB_sp (h3 x hx)).2
      have hss : srt (joinS (srt s)) = srt s := by
        show (splitb 32 (joinS (srt s))).mergeSort sleL = srt s
        rw [hsp]
        refine List.mergeSort_of_pairwise ((srt_sorted s).imp fun h => ?_)
        exact decide_eq_true h
      have hjn : joinS (srt s) ≠ [] := fun e => by
        rw [e] at hj
        exact h0 (List.eq_nil_of_length_eq_zero hj.symm)
      have e2 : scps (joinS (srt s)) = (srt s, true) := by
        unfold scps
        rw [if_neg hjn, hss, hok]
        simp [h2]
      rw [Scopes_eq (by omega), e2]
      simp only [Option.bind_some, if_true]
      rw [same_refl (by omega)]
      simp only [Option.bind_some]
      rw [hj]
      have e5 : (IntKind.wrap .i64 (((slen (srt s) : Nat) : Int) + maxI 0 (IntKind.wrap .i64 (((srt s).length : Int) - 1)))) = (s.length : Int) := by
        have : IntKind.wrap .i64 (((srt s).length : Int) - 1) = (((srt s).length - 1 : Nat) : Int) := by rw [w64] <;> omega
        rw [this]
        have : maxI 0 (((srt s).length - 1 : Nat) : Int) = (((srt s).length - 1 : Nat) : Int) := by unfold maxI; split <;> omega
        rw [this, wadd (by omega), hlen]
      rw [e5]
      have e6 : decide (((srt s).length : Int) ≤ 16) = true := decide_eq_true (by omega)
      rw [e6]
      simp [M.fixed]
theorem letter_eq (b : UInt8) : M.r12_letter (b.toNat : Int) = some (letB b) := by
  unfold M.r12_letter letB
  congr 1
  have e1 : decide (97 ≤ (b.toNat : Int)) = decide (97 ≤ b.toNat) := by rw [Bool.eq_iff_iff]; simp; omega
  have e2 : decide ((b.toNat : Int) ≤ 122) = decide (b.toNat ≤ 122) := by rw [Bool.eq_iff_iff]; simp; omega
  have e3 : decide (48 ≤ (b.toNat : Int)) = decide (48 ≤ b.toNat) := by rw [Bool.eq_iff_iff]; simp; omega
  have e4 : decide ((b.toNat : Int) ≤ 57) = decide (b.toNat ≤ 57) := by rw [Bool.eq_iff_iff]; simp; omega
  have e5 : decide ((b.toNat : Int) = 46) = decide (b.toNat = 46) := by rw [Bool.eq_iff_iff]; simp; omega
  have e6 : decide ((b.toNat : Int) = 95) = decide (b.toNat = 95) := by rw [Bool.eq_iff_iff]; simp; omega
  have e7 : decide ((b.toNat : Int) = 45) = decide (b.toNat = 45) := by rw [Bool.eq_iff_iff]; simp; omega
  rw [e1, e2, e3, e4, e5, e6, e7]
/-- A loop that looks for one that is not so. -/
theorem seekAll {α : Type} {l : List α} {p : α → Bool} {F : Int → Option (Jn Bool Unit)} (hl : l.length < 1152921504606846976)
    (hF : ∀ (i : Nat) (h : i < l.length), F (i : Int) = if (!p l[i]) = true then some (.done false) else F (IntKind.wrap .i64 ((i : Int) + 1))) (hE : F (l.length : Int) = some (.go ())) :
    F 0 = some (if l.all p then .go () else .done false) := by
  have := seek (p := fun x => !p x) (fun _ => false) () hl hF hE
  rw [this]
  rcases find_all l p with ⟨h1, h2⟩ | ⟨i, h1, h2⟩
  · rw [h1, h2]; rfl
  · rw [h1, h2]; rfl
theorem dec_ge {n k : Nat} : decide ((k : Int) ≤ (n : Int)) = decide (k ≤ n) := by rw [Bool.eq_iff_iff]; simp
theorem ne_len (s : List UInt8) : decide (1 ≤ (s.length : Int)) = !decide (s = []) := by
  cases s with
  | nil => rfl
  | cons a s => simp; omega
theorem rScope_eq {s : List UInt8} (hs : s.length < 1152921504606846976) : M.r12_Scope s = some (scopeB s) := by
  unfold M.r12_Scope
  have := seekAll (l := s) (p := fun b => letB b || decide (b.toNat = 58)) (F := M.r12_Scope_k1 s) hs (fun i h => by
    rw [M.r12_Scope_k1]
    have e1 : decide ((i : Int) < (s.length : Int)) = true := decide_eq_true (by omega)
    simp only [e1, if_true, Option.bind_eq_bind]
    rw [ix_n, List.getElem?_eq_getElem h]
    simp only [Option.bind_some]
    rw [letter_eq]
    simp only [Option.bind_some]
    have e7 : decide (((s[i]).toNat : Int) = 58) = decide ((s[i]).toNat = 58) := by rw [Bool.eq_iff_iff]; simp; omega
    cases hb : letB s[i] with
    | true => simp
    | false => simp [e7]) (by
    rw [M.r12_Scope_k1]
    simp)
  rw [this]
  simp only [Option.bind_eq_bind, Option.bind_some]
  have e2 : decide ((s.length : Int) ≤ 32) = decide (s.length ≤ 32) := dec_ge (n := 32) (k := s.length)
  unfold scopeB
  cases h : s.all fun b => letB b || decide (b.toNat = 58) with
  | true => simp only [if_true]; rw [ne_len, e2]; simp
  | false => simp
theorem rHas_eq {l : List (List UInt8)} {x : List UInt8} (hl : l.length < 1152921504606846976) : M.r12_Has l x = some (decide (x ∈ l)) := by
  unfold M.r12_Has
  have := seek (l := l) (p := fun y => decide (y = x)) (F := M.r12_Has_k1 l x) (fun _ => true) () hl (fun i h => by
    rw [M.r12_Has_k1]
    have e1 : decide ((i : Int) < (l.length : Int)) = true := decide_eq_true (by omega)
    simp only [e1, if_true, Option.bind_eq_bind]
    rw [ix_n, List.getElem?_eq_getElem h]
    rfl) (by
    rw [M.r12_Has_k1]
    simp)
  rw [this]
  have hs := List.findIdx?_isSome (xs := l) (p := fun y => decide (y = x))
  simp only [Option.bind_eq_bind, Option.bind_some]
  cases hf : l.findIdx? (fun y => decide (y = x)) with
  | none =>
    rw [hf] at hs
    have : ¬ x ∈ l := fun hm => by
      have : l.any (fun y => decide (y = x)) = true := List.any_eq_true.2 ⟨x, hm, by simp⟩
      rw [this] at hs
      cases hs
    simp [this]
  | some i =>
    rw [hf] at hs
    obtain ⟨y, hy, he⟩ := List.any_eq_true.1 hs.symm
    have : x ∈ l := by rw [← of_decide_eq_true he]; exact hy
    simp [this]
/-- A thing more, in its place. -/
def ins (x : List UInt8) : List (List UInt8) → List (List UInt8)
  | [] => [x]
  | y :: r => if y < x then y :: ins x r else x :: y :: r
theorem ins_perm (x : List UInt8) : ∀ l, (ins x l).Perm (x :: l)
  | [] => .refl _
  | y :: r => by
    unfold ins
    split
    · exact ((ins_perm x r).cons y).trans (List.Perm.swap x y r)
    · exact .refl _
theorem ins_split (x : List UInt8) : ∀ l, ins x l = l.takeWhile (fun y => decide (y < x)) ++ x :: l.dropWhile (fun y => decide (y < x))
  | [] => rfl
  | y :: r => by
    unfold ins
    rw [List.takeWhile_cons, List.dropWhile_cons]
    by_cases h : y < x
    · simp [h, ins_split x r]
    · simp [h]
theorem ins_sorted {x : List UInt8} : ∀ {l : List (List UInt8)}, l.Pairwise (· < ·) → x ∉ l → (ins x l).Pairwise (· < ·)
  | [], _, _ => List.pairwise_singleton _ _
  | y :: r, h, hx => by
    obtain ⟨h1, h2⟩ := List.pairwise_cons.1 h
    unfold ins
    by_cases hy : y < x
    · rw [if_pos hy]
      refine List.pairwise_cons.2 ⟨fun z hz => ?_, ins_sorted h2 fun hm => hx (List.mem_cons_of_mem _ hm)⟩
      rcases List.mem_cons.1 ((ins_perm x r).mem_iff.1 hz) with rfl | hz
      · exact hy
      · exact h1 z hz
    · rw [if_neg hy]
      have hxy : x < y := by
        rcases Classical.em (x < y) with h3 | h3
        · exact h3
        · exact (hx (by rw [List.le_antisymm (List.not_lt.1 hy) (List.not_lt.1 h3)]; exact List.mem_cons_self)).elim
      refine List.pairwise_cons.2 ⟨fun z hz => ?_, h⟩
      rcases List.mem_cons.1 hz with rfl | hz
      · exact hxy
      · exact List.lt_trans hxy (h1 z hz)
theorem with_k1 {l : List (List UInt8)} {x : List UInt8} (hl : l.length < 1152921504606846976) : ∀ (n i : Nat), l.length - i = n → i ≤ l.length → M.r12_With_k1 l x (i : Int) = some ((i + ((l.drop i).takeWhile fun y => decide (y < x)).length : Nat) : Int) := by
  intro n
  induction n with
  | zero =>
    intro i h1 h2
    have : i = l.length := by omega
    subst this
    rw [M.r12_With_k1]
    simp
  | succ n ih =>
    intro i h1 h2
    have hi : i < l.length := by omega
    rw [M.r12_With_k1]
    have e1 : decide ((i : Int) < (l.length : Int)) = true := decide_eq_true (by omega)
    simp only [e1, if_true, Option.bind_eq_bind]
    rw [ix_n, List.getElem?_eq_getElem hi]
    simp only [Option.bind_some]
    rw [drop_get hi, List.takeWhile_cons]
    have es : slt l[i] x = decide (l[i] < x) := by rw [Bool.eq_iff_iff, slt_iff]; simp
    rw [es]
    cases hd : decide (l[i] < x) with
    | true =>
      simp only [if_true, List.length_cons]
      rw [w1 (by omega), ih (i + 1) (by omega) (by omega)]
      congr 2
      omega
    | false => simp
theorem With_eq {l : List (List UInt8)} {x : List UInt8} (hl : l.length < 1048580) (hx : x ∉ l) : M.r12_With l x = some (ins x l) := by
  unfold M.r12_With
  rw [rHas_eq (by omega)]
  simp only [Option.bind_eq_bind, Option.bind_some, hx, decide_false, Bool.false_eq_true, if_false]
  have := with_k1 (l := l) (x := x) (by omega) _ 0 rfl (Nat.zero_le _)
  have e0 : ((0 : Nat) : Int) = 0 := rfl
  rw [e0] at this
  rw [this]
  simp only [Option.bind_some, List.drop_zero, Nat.zero_add]
  have hk : (l.takeWhile fun y => decide (y < x)).length ≤ l.length := (List.takeWhile_prefix _).length_le
  have ht : l.take (l.takeWhile fun y => decide (y < x)).length = l.takeWhile fun y => decide (y < x) := (List.prefix_iff_eq_take.1 (List.takeWhile_prefix _)).symm
  have hd : l.drop (l.takeWhile fun y => decide (y < x)).length = l.dropWhile fun y => decide (y < x) := by
    have e := List.takeWhile_append_dropWhile (p := fun y => decide (y < x)) (l := l)
    calc l.drop (l.takeWhile fun y => decide (y < x)).length = ((l.takeWhile fun y => decide (y < x)) ++ l.dropWhile fun y => decide (y < x)).drop (l.takeWhile fun y => decide (y < x)).length := by rw [e]
      _ = _ := List.drop_left
  rw [sub_0 hk, sub_d hk]
  simp only [Option.bind_some]
  rw [app_ok (by simp [ht]; omega)]
  simp only [Option.bind_some, List.nil_append]
  rw [app_ok (by simp [ht]; omega)]
  simp only [Option.bind_some]
  rw [app_ok (by simp; omega)]
  simp only [Option.bind_some]
  rw [ht, hd, ins_split]
  simp
/-! The document's reader. -/
def fldS : List (List UInt8) → List (List UInt8) → Option (List (List UInt8))
  | l, [] => some l
  | l, w :: ws => if scopeB w && !decide (w ∈ l) then fldS (ins w l) ws else none
def jnS : Option (List (List UInt8)) → Jn (List (List UInt8) × Bool) (List (List UInt8))
  | some l => .go l
  | none => .done ([], false)
theorem r17_step {s : List UInt8} (hs : s.length ≤ 1048576) {l : List (List UInt8)} {from_ i : Nat} (h1 : from_ ≤ i) (h2 : i ≤ s.length) (hl : l.length ≤ from_) (hq : i < s.length → s[i]? = some 32) :
    M.r17_Scopes_k1 s l (from_ : Int) (i : Int) = if scopeB ((s.take i).drop from_) && !decide ((s.take i).drop from_ ∈ l) then M.r17_Scopes_k1 s (ins ((s.take i).drop from_) l) ((i + 1 : Nat) : Int) ((i + 1 : Nat) : Int) else some (.done ([], false)) := by
  rw [M.r17_Scopes_k1]
  have e1 : decide ((i : Int) ≤ (s.length : Int)) = true := decide_eq_true (by omega)
  simp only [e1, if_true, Option.bind_eq_bind]
  have e2 : (if decide ((i : Int) < (s.length : Int)) = true then (ix s (i : Int)).bind fun c151 => some (!decide ((c151.toNat : Int) = 32)) else some false) = some false := by
    by_cases hi : i < s.length
    · rw [if_pos (decide_eq_true (by omega)), ix_n, hq hi]
      rfl
    · rw [if_neg (by simp; omega)]
  rw [e2]
  simp only [Option.bind_some, Bool.false_eq_true, if_false]
  rw [sub_n h1 h2]
  simp only [Option.bind_some]
  have hw : ((s.take i).drop from_).length ≤ s.length := by simp; omega
  rw [rScope_eq (by omega)]
  simp only [Option.bind_some]
  cases hb : scopeB ((s.take i).drop from_) with
  | false => simp
  | true =>
    simp only [Bool.not_true, Bool.false_eq_true, if_false, Bool.true_and]
    rw [rHas_eq (by omega)]
    simp only [Option.bind_some]
    by_cases hm : (s.take i).drop from_ ∈ l
    · simp [hm]
    · simp only [hm, decide_false, Bool.false_eq_true, if_false, Bool.not_false, if_true]
      rw [With_eq (by omega) hm, w1 (by omega)]
      rfl
theorem r17_k1 {s : List UInt8} (hs : s.length ≤ 1048576) : ∀ (n i from_ : Nat) (l : List (List UInt8)), s.length - i = n → from_ ≤ i → i ≤ s.length → l.length ≤ from_ → (∀ b ∈ (s.take i).drop from_, b ≠ 32) →
    M.r17_Scopes_k1 s l (from_ : Int) (i : Int) = some (jnS (fldS l (splitb 32 (s.drop from_)))) := by
  intro n
  induction n with
  | zero =>
    intro i from_ l h1 h2 h3 hl hsp
    have : i = s.length := by omega
    subst this
    rw [r17_step hs h2 h3 hl (fun h => absurd h (Nat.lt_irrefl _))]
    rw [List.take_length] at hsp ⊢
    rw [splitb_one hsp]
    unfold fldS fldS
    split
    · rw [M.r17_Scopes_k1]
      have : decide (((s.length + 1 : Nat) : Int) ≤ (s.length : Int)) = false := decide_eq_false (by omega)
      rw [this]
      rfl
    · rfl
  | succ n ih =>
    intro i from_ l h1 h2 h3 hl hsp
    have hi : i < s.length := by omega
    have htk : (s.take (i + 1)).drop from_ = (s.take i).drop from_ ++ [s[i]] := by
      rw [List.take_succ_eq_append_getElem hi, List.drop_append_of_le_length (by simp; omega)]
    by_cases hc : s[i] = 32
    · rw [r17_step hs h2 h3 hl (fun _ => by rw [List.getElem?_eq_getElem hi, hc])]
      have hd : s.drop from_ = (s.take i).drop from_ ++ 32 :: s.drop (i + 1) := by
        have e := List.take_append_drop i s
        conv => lhs; rw [← e]
        rw [List.drop_append_of_le_length (by simp; omega), drop_get hi, hc]
      rw [hd, splitb_app hsp]
      conv => rhs; unfold fldS
      split
      · exact ih (i + 1) (i + 1) _ (by omega) (Nat.le_refl _) (by omega) (by rw [(ins_perm _ _).length_eq]; simp; omega) (fun b hb => by simp at hb)
      · rfl
    · rw [M.r17_Scopes_k1]
      have e1 : decide ((i : Int) ≤ (s.length : Int)) = true := decide_eq_true (by omega)
      have e2 : decide ((i : Int) < (s.length : Int)) = true := decide_eq_true (by omega)
      simp only [e1, e2, if_true, Option.bind_eq_bind]
      rw [ix_n, List.getElem?_eq_getElem hi]
      have e3 : decide (((s[i]).toNat : Int) = 32) = false := decide_eq_false fun h => hc ((toNat_eq (n := 32) (by omega)).1 h)
      simp only [Option.bind_some, e3, Bool.not_false, if_true]
      rw [w1 (by omega)]
      exact ih (i + 1) from_ l (by omega) (by omega) (by omega) hl fun b hb => by
        rw [htk] at hb
        rcases List.mem_append.1 hb with hb | hb
        · exact hsp b hb
        · rw [List.mem_singleton.1 hb]; exact hc
theorem fld_some : ∀ {ws l r : List (List UInt8)}, l.Pairwise (· < ·) → fldS l ws = some r → (ws.all scopeB = true) ∧ r.Pairwise (· < ·) ∧ r.Perm (ws ++ l)
  | [], l, r, hl, h => by cases h; exact ⟨rfl, hl, .refl _⟩
  | w :: ws, l, r, hl, h => by
    unfold fldS at h
    split at h
    · rename_i hc
      simp only [Bool.and_eq_true, Bool.not_eq_true', decide_eq_false_iff_not] at hc
      obtain ⟨h1, h2, h3⟩ := fld_some (ins_sorted hl hc.2) h
      refine ⟨by rw [List.all_cons, hc.1, h1]; rfl, h2, h3.trans ?_⟩
      exact ((ins_perm w l).append_left ws).trans List.perm_middle
    · cases h
theorem fld_none : ∀ {ws l : List (List UInt8)}, fldS l ws = none → ¬ (ws.all scopeB = true ∧ (ws ++ l).Nodup)
  | [], l, h => by cases h
  | w :: ws, l, h => fun ⟨h1, h2⟩ => by
    rw [List.all_cons, Bool.and_eq_true] at h1
    rw [List.cons_append, List.nodup_cons] at h2
    unfold fldS at h
    have hm : w ∉ l := fun hm => h2.1 (List.mem_append_right _ hm)
    rw [if_pos (by simp [h1.1, hm])] at h
    refine fld_none h ⟨h1.2, ?_⟩
    have hp : (ws ++ ins w l).Perm (w :: (ws ++ l)) := ((ins_perm w l).append_left ws).trans List.perm_middle
    rw [hp.nodup_iff, List.nodup_cons]
    exact h2
theorem noAdj_of : ∀ {r : List (List UInt8)}, r.Pairwise (· < ·) → noAdj r = true
  | [], _ => rfl
  | [_], _ => rfl
  | x :: y :: r, h => by
    obtain ⟨h1, h2⟩ := List.pairwise_cons.1 h
    have hxy := h1 y List.mem_cons_self
    have : ¬ y = x := fun e => by rw [e] at hxy; exact List.lt_irrefl _ hxy
    simp only [noAdj, this, decide_false, Bool.not_false, Bool.true_and]
    exact noAdj_of h2
theorem nodup_of {r : List (List UInt8)} (hs : r.Pairwise (· ≤ ·)) (hn : noAdj r = true) : r.Nodup := by
  have key : ∀ (d i : Nat) (h : i + d + 1 < r.length), r[i] < r[i + d + 1] := by
    intro d
    induction d with
    | zero => exact fun i h => rise hs hn i h
    | succ d ih => exact fun i h => List.lt_trans (ih i (by omega)) (rise hs hn (i + d + 1) h)
  rw [List.nodup_iff_pairwise_ne, List.pairwise_iff_getElem]
  intro i j hi hj hij he
  have := key (j - i - 1) i (by omega)
  have e : i + (j - i - 1) + 1 = j := by omega
  simp only [e] at this
  rw [he] at this
  exact List.lt_irrefl _ this
theorem rScopes_eq {s : List UInt8} (hs : s.length ≤ 1048576) : M.r17_Scopes s = some (scps s) := by
  unfold M.r17_Scopes scps
  by_cases h0 : s = []
  · subst h0; rfl
  · rw [if_neg (by simpa using h0), if_neg h0]
    have := r17_k1 hs _ 0 0 [] rfl (Nat.le_refl _) (Nat.zero_le _) (Nat.le_refl _) (fun b hb => by simp at hb)
    have e0 : ((0 : Nat) : Int) = 0 := rfl
    rw [e0, List.drop_zero] at this
    rw [this]
    simp only [Option.bind_eq_bind, Option.bind_some]
    cases hf : fldS [] (splitb 32 s) with
    | some r =>
      obtain ⟨h1, h2, h3⟩ := fld_some List.Pairwise.nil hf
      rw [List.append_nil] at h3
      have hr : srt s = r := by
        refine List.Perm.eq_of_pairwise (le := (· ≤ ·)) (fun a b _ _ x y => List.le_antisymm x y) (srt_sorted s) (h2.imp fun h => ?_) ((srt_perm s).trans h3.symm)
        exact List.not_lt.1 fun k => List.lt_irrefl _ (List.lt_trans h k)
      have hok : okL (srt s) = true := by
        unfold okL
        rw [hr, noAdj_of h2, Bool.and_true, List.all_eq_true]
        intro x hx
        rw [List.all_eq_true] at h1
        exact h1 x (h3.mem_iff.1 hx)
      rw [hok, hr]
      simp only [jnS, Bool.true_and]
      by_cases h16 : r.length ≤ 16
      · rw [if_neg (by simp; omega), if_pos (by simpa using h16)]
      · rw [if_pos (by simp; omega), if_neg (by simpa using h16)]
    | none =>
      have hn := fld_none hf
      have hok : okL (srt s) = false := by
        cases h : okL (srt s) with
        | false => rfl
        | true =>
          unfold okL at h
          simp only [Bool.and_eq_true, List.all_eq_true] at h
          refine (hn ⟨?_, ?_⟩).elim
          · rw [List.all_eq_true]
            exact fun x hx => h.1 x ((srt_perm s).mem_iff.2 hx)
          · rw [List.append_nil, ← (srt_perm s).nodup_iff]
            exact nodup_of (srt_sorted s) h.2
      rw [hok]
      rfl
/-! Texts, names. -/
def textB (s : List UInt8) : Bool := !decide (s = []) && decide (s.length ≤ 128) && !s.any badW
theorem text_eq (s : List UInt8) : M.people_Text s = some (textB s) := by
  unfold M.people_Text textB
  have e : decide ((s.length : Int) ≤ 128) = decide (s.length ≤ 128) := dec_ge (n := 128) (k := s.length)
  rw [e]
  cases h : (!decide (s = []) && decide (s.length ≤ 128)) with
  | false => simp
  | true => simp [hasBad_eq]
theorem rText_eq {s : List UInt8} (hs : s.length < 1152921504606846976) : M.r12_Text s = some (textB s) := by
  unfold M.r12_Text
  have := seekAll (l := s) (p := fun b => !badW b) (F := M.r12_Text_k1 s) hs (fun i h => by
    rw [M.r12_Text_k1]
    have e1 : decide ((i : Int) < (s.length : Int)) = true := decide_eq_true (by omega)
    simp only [e1, if_true, Option.bind_eq_bind]
    rw [ix_n, List.getElem?_eq_getElem h]
    simp only [Option.bind_some]
    have e2 : decide (((s[i]).toNat : Int) < 33) = decide ((s[i]).toNat < 33) := by rw [Bool.eq_iff_iff]; simp; omega
    have e3 : decide (126 < ((s[i]).toNat : Int)) = decide (126 < (s[i]).toNat) := by rw [Bool.eq_iff_iff]; simp; omega
    unfold badW
    rw [e2, e3]
    cases decide ((s[i]).toNat < 33) <;> simp) (by
    rw [M.r12_Text_k1]
    simp)
  rw [this]
  simp only [Option.bind_eq_bind, Option.bind_some]
  have e2 : decide ((s.length : Int) ≤ 128) = decide (s.length ≤ 128) := dec_ge (n := 128) (k := s.length)
  have e3 : (!s.any badW) = s.all fun b => !badW b := by rw [List.not_any_eq_all_not]
  unfold textB
  rw [e3]
  cases h : s.all fun b => !badW b with
  | true => simp only [if_true]; rw [ne_len, e2]; simp
  | false => simp
theorem rName_eq {s : List UInt8} (hs : s.length < 1152921504606846976) : M.r12_Name s = some (nameB s) := by
  unfold M.r12_Name
  have := seekAll (l := s) (p := letB) (F := M.r12_Name_k1 s) hs (fun i h => by
    rw [M.r12_Name_k1]
    have e1 : decide ((i : Int) < (s.length : Int)) = true := decide_eq_true (by omega)
    simp only [e1, if_true, Option.bind_eq_bind]
    rw [ix_n, List.getElem?_eq_getElem h]
    simp only [Option.bind_some]
    rw [letter_eq]
    rfl) (by
    rw [M.r12_Name_k1]
    simp)
  rw [this]
  simp only [Option.bind_eq_bind, Option.bind_some]
  have e2 : decide ((s.length : Int) ≤ 24) = decide (s.length ≤ 24) := dec_ge (n := 24) (k := s.length)
  unfold nameB
  cases h : s.all letB with
  | true => simp only [if_true]; rw [ne_len, e2]; simp
  | false => simp
/-! Configs. -/
def ttlB (n : Int) : Bool := decide (1 ≤ n) && decide (n ≤ 1073741824)
theorem in_eq (n : Int) : M.oauth_in n 1 1073741824 = some (ttlB n) := rfl
theorem rttl_eq (n : Int) : M.r17_ttl n = some (ttlB n) := rfl
def inB (n : Nat) : Bool := decide (1 ≤ n) && decide (n ≤ 64)
theorem in64_eq (n : Nat) : M.oauth_in (n : Int) 1 64 = some (inB n) := by
  unfold M.oauth_in inB
  have e1 : decide (1 ≤ (n : Int)) = decide (1 ≤ n) := by rw [Bool.eq_iff_iff]; simp; omega
  have e2 : decide ((n : Int) ≤ 64) = decide (n ≤ 64) := dec_ge (n := 64) (k := n)
  rw [e1, e2]
def ttls (c : T_api_Config) : Bool := ttlB c.gSessionTtl && (ttlB c.gCodeTtl && (ttlB c.gAccessTtl && (ttlB c.gRefreshTtl && ttlB c.gTicketTtl)))
def chkC (c : T_api_Config) : Int := if ttls c && textB c.gIssuer && nameB c.gRoot && inB c.gRootSecret.length && inB c.gSeed.length then 0 else 211
theorem check_k1 (c : T_api_Config) : M.oauth_Check_k1 c 0 = some (if ttls c then .go () else .done 211) := by
  have st : ∀ (i : Nat) (x : Int), [c.gSessionTtl, c.gCodeTtl, c.gAccessTtl, c.gRefreshTtl, c.gTicketTtl][i]? = some x → i < 5 → M.oauth_Check_k1 c (i : Int) = if ttlB x then M.oauth_Check_k1 c ((i + 1 : Nat) : Int) else some (.done 211) := fun i x hx hi => by
    rw [M.oauth_Check_k1]
    have e1 : decide ((i : Int) < (([c.gSessionTtl, c.gCodeTtl, c.gAccessTtl, c.gRefreshTtl, c.gTicketTtl] : List Int).length : Int)) = true := decide_eq_true (by simp; omega)
    simp only [e1, if_true, Option.bind_eq_bind]
    rw [ix_n, hx]
    simp only [Option.bind_some]
    rw [in_eq]
    simp only [Option.bind_some]
    rw [w1 (by omega)]
    cases ttlB x <;> rfl
  have e0 : ((0 : Nat) : Int) = 0 := rfl
  have hE : M.oauth_Check_k1 c ((5 : Nat) : Int) = some (.go ()) := by
    rw [M.oauth_Check_k1]
    rfl
  rw [← e0, st 0 _ rfl (by omega), st 1 _ rfl (by omega), st 2 _ rfl (by omega), st 3 _ rfl (by omega), st 4 _ rfl (by omega), hE]
  unfold ttls
  cases ttlB c.gSessionTtl <;> cases ttlB c.gCodeTtl <;> cases ttlB c.gAccessTtl <;> cases ttlB c.gRefreshTtl <;> cases ttlB c.gTicketTtl <;> rfl
theorem Check_eq {c : T_api_Config} (hr : c.gRoot.length < 1152921504606846976) : M.oauth_Check c = some (chkC c) := by
  unfold M.oauth_Check
  rw [check_k1]
  simp only [Option.bind_eq_bind, Option.bind_some]
  unfold chkC
  cases h1 : ttls c with
  | false => simp
  | true =>
    simp only [if_true]
    rw [text_eq]
    simp only [Option.bind_some]
    cases h2 : textB c.gIssuer with
    | false => simp
    | true =>
      simp only [Bool.not_true, Bool.false_eq_true, if_false]
      rw [name_eq hr]
      simp only [Option.bind_some]
      cases h3 : nameB c.gRoot with
      | false => simp
      | true =>
        simp only [Bool.not_true, Bool.false_eq_true, if_false]
        rw [in64_eq]
        simp only [Option.bind_some]
        cases h4 : inB c.gRootSecret.length with
        | false => simp
        | true =>
          simp only [Bool.not_true, Bool.false_eq_true, if_false]
          rw [in64_eq]
          simp only [Option.bind_some]
          cases h5 : inB c.gSeed.length <;> rfl
theorem nin64 (n : Nat) : (decide ((n : Int) < 1) || decide (64 < (n : Int))) = !inB n := by
  unfold inB
  rw [Bool.eq_iff_iff]
  simp only [Bool.or_eq_true, decide_eq_true_eq, Bool.not_eq_true', Bool.and_eq_false_iff, decide_eq_false_iff_not]
  omega
theorem rCheck_eq {c : T_api_Config} (hi : c.gIssuer.length < 1152921504606846976) (hr : c.gRoot.length < 1152921504606846976) : M.r17_Check c = some (chkC c) := by
  unfold M.r17_Check
  simp only [rttl_eq, rText_eq hi, rName_eq hr, Option.bind_eq_bind, Option.bind_some]
  unfold chkC ttls
  have e1 := nin64 c.gRootSecret.length
  have e2 := nin64 c.gSeed.length
  cases ttlB c.gSessionTtl <;> cases ttlB c.gCodeTtl <;> cases ttlB c.gAccessTtl <;> cases ttlB c.gRefreshTtl <;> cases ttlB c.gTicketTtl <;> cases textB c.gIssuer <;> cases nameB c.gRoot <;> simp [Bool.or_assoc, e1, e2] <;> cases inB c.gRootSecret.length <;> cases inB c.gSeed.length <;> rfl
/-! Statuses. -/
theorem status_all : ∀ e : Fin 260, (M.oauth_Status (e.val : Int)).isSome = true ∧ M.oauth_Status (e.val : Int) = M.r17_Status (e.val : Int) := by decide +kernel
theorem status_k1 : ∀ (n i : Nat), 260 - i = n → i ≤ 260 → M.l17_OauthTexts_k1 (i : Int) = some (.go ()) := by
  intro n
  induction n with
  | zero =>
    intro i h1 h2
    have : i = 260 := by omega
    subst this
    rw [M.l17_OauthTexts_k1]
    rfl
  | succ n ih =>
    intro i h1 h2
    rw [M.l17_OauthTexts_k1]
    have e1 : decide ((i : Int) < 260) = true := decide_eq_true (by omega)
    simp only [e1, if_true, Option.bind_eq_bind]
    obtain ⟨h3, h4⟩ := status_all ⟨i, by omega⟩
    obtain ⟨x, hx⟩ := Option.isSome_iff_exists.1 h3
    simp only at hx h4
    rw [hx] at h4
    rw [hx, ← h4]
    simp only [Option.bind_some, decide_true, Bool.not_true, Bool.false_eq_true, if_false]
    rw [w1 (by omega), ih (i + 1) (by omega) (by omega)]
/-! Tapes. -/
theorem raw_eq (l : List (List UInt8)) : ∃ a e r, M.oauth_Tape_Raw ⟨l⟩ = some (a, e, ⟨r⟩) ∧ M.r17_Tape_Raw ⟨l⟩ = some (a, e, ⟨r⟩) := by
  unfold M.oauth_Tape_Raw M.r17_Tape_Raw
  cases l with
  | nil => exact ⟨[], 3, [], rfl, rfl⟩
  | cons x r =>
    have e1 : decide (((x :: r).length : Int) = 0) = false := decide_eq_false (by simp; omega)
    have e2 : sub (x :: r) 1 ((x :: r).length : Int) = some r := by
      have := sub_d (l := x :: r) (a := 1) (by simp)
      simpa using this
    simp only [e1, Bool.false_eq_true, if_false, Option.bind_eq_bind, ix_0, List.getElem?_cons_zero, Option.bind_some, e2]
    cases h : (!decide ((x.length : Int) = 16)) with
    | true => exact ⟨[], 3, r, rfl, rfl⟩
    | false => exact ⟨x, 0, r, rfl, rfl⟩
theorem tapes_k2 {p : List (List UInt8)} (hp : p.length < 1152921504606846976) : ∀ (n i : Nat) (l : List (List UInt8)), p.length + 1 - i = n → i ≤ p.length + 1 → M.l17_OauthTexts_k2 p (i : Int) l l = some (.go ()) := by
  intro n
  induction n with
  | zero =>
    intro i l h1 h2
    have : i = p.length + 1 := by omega
    subst this
    rw [M.l17_OauthTexts_k2, w1 (by omega)]
    simp
  | succ n ih =>
    intro i l h1 h2
    rw [M.l17_OauthTexts_k2, w1 (by omega)]
    have e1 : decide ((i : Int) < ((p.length + 1 : Nat) : Int)) = true := decide_eq_true (by omega)
    simp only [e1, if_true, Option.bind_eq_bind]
    obtain ⟨a, e, r, h3, h4⟩ := raw_eq l
    rw [h3, h4]
    simp only [Option.bind_some, decide_true, Bool.not_true, Bool.or_self, Bool.false_eq_true, if_false]
    rw [w1 (by omega)]
    exact ih (i + 1) r (by omega) (by omega)
theorem tape_eq {p : List (List UInt8)} (hp : p.length < 1152921504606846976) : M.oauth_NewTape p = some ⟨p.take 8⟩ ∧ M.r17_NewTape p = some ⟨p.take 8⟩ := by
  constructor
  · unfold M.oauth_NewTape
    have e : minI (p.length : Int) 8 = ((min p.length 8 : Nat) : Int) := by unfold minI; split <;> omega
    rw [e]
    simp only [Option.bind_eq_bind]
    rw [sub_0 (by omega)]
    simp only [Option.bind_some]
    unfold M.cloneS
    rw [chk_ok (decide_eq_true (by simp; omega))]
    simp only [Option.bind_eq_bind, Option.bind_some]
    congr 2
    rcases Nat.le_total p.length 8 with h | h
    · rw [Nat.min_eq_left h, List.take_length, List.take_of_length_le h]
    · rw [Nat.min_eq_right h]
  · unfold M.r17_NewTape
    by_cases h : 8 < p.length
    · rw [if_pos (by simp; omega)]
      have := sub_0 (l := p) (a := 8) (by omega)
      have e8 : ((8 : Nat) : Int) = 8 := rfl
      rw [e8] at this
      rw [this]
      rfl
    · rw [if_neg (by simp; omega), List.take_of_length_le (by omega)]
theorem texts_eq {s : List UInt8} {c : T_api_Config} {d : List (List UInt8)} (hs : s.length ≤ 1048576) (hi : c.gIssuer.length ≤ 1048576) (hr : c.gRoot.length ≤ 1048576) (hd : d.length ≤ 1048576) : M.l17_OauthTexts s c d = some true := by
  unfold M.l17_OauthTexts
  rw [Scopes_eq (by omega), rScopes_eq hs]
  simp only [Option.bind_eq_bind, Option.bind_some, BEq.rfl, Bool.not_true, Bool.false_eq_true, if_false]
  have hl : (scps s).1.length < 1152921504606846976 := by
    unfold scps
    split
    · simp
    · split
      · have := (srt_perm s).length_eq
        have := splitb_len 32 s
        simp only
        omega
      · simp
  rw [same_refl hl]
  simp only [Option.bind_some, Bool.not_true, Bool.false_eq_true, if_false]
  rw [Check_eq (by omega), rCheck_eq (by omega) (by omega)]
  simp only [Option.bind_some, decide_true, Bool.not_true, Bool.false_eq_true, if_false]
  have k1 := status_k1 _ 0 rfl (by omega)
  have e0 : ((0 : Nat) : Int) = 0 := rfl
  rw [e0] at k1
  rw [k1]
  simp only [Option.bind_some]
  obtain ⟨t1, t2⟩ := tape_eq (p := d) (by omega)
  rw [t1, t2]
  simp only [Option.bind_some, M.forestNew]
  have k2 := tapes_k2 (p := d) (by omega) _ 0 (d.take 8) rfl (by omega)
  rw [e0] at k2
  rw [k2]
  rfl
end Go.Sen
