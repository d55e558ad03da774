/- Cbor, plainly: how an item is laid, and which may be. -/
import Derived.Test.YtmbckfhcljgniaaDoorCb2
namespace Go.Proofs.YtmbckfhcljgniaaDoor
open Go.Lk
mutual
def T_api_Cbor.dep : T_api_Cbor → Nat
  | ⟨_, _, _, l⟩ => deps l + 1
def deps : List T_api_Cbor → Nat
  | [] => 0
  | x :: xs => max x.dep (deps xs)
end
mutual
def T_api_Cbor.sz : T_api_Cbor → Nat
  | ⟨_, _, t, l⟩ => szs l + t.length + 1
def szs : List T_api_Cbor → Nat
  | [] => 0
  | x :: xs => x.sz + szs xs + 1
end
mutual
def T_api_Cbor.ok : T_api_Cbor → Prop
  | ⟨k, n, _, l⟩ => (-9223372036854775808 ≤ k ∧ k < 9223372036854775808) ∧ (-9223372036854775808 ≤ n ∧ n < 9223372036854775808) ∧ oks l
def oks : List T_api_Cbor → Prop
  | [] => True
  | x :: xs => x.ok ∧ oks xs
end
theorem oks_mem : ∀ {l : List T_api_Cbor}, oks l → ∀ x ∈ l, x.ok
  | y :: l, h, x, hx => by
    simp only [oks] at h
    rcases List.mem_cons.1 hx with rfl | hx
    · exact h.1
    · exact oks_mem h.2 x hx
theorem deps_mem : ∀ {l : List T_api_Cbor} {x : T_api_Cbor}, x ∈ l → x.dep ≤ deps l
  | y :: l, x, hx => by
    simp only [deps]
    rcases List.mem_cons.1 hx with rfl | hx
    · omega
    · have := deps_mem hx; omega
theorem szs_mem : ∀ {l : List T_api_Cbor} {x : T_api_Cbor}, x ∈ l → x.sz ≤ szs l
  | y :: l, x, hx => by
    simp only [szs]
    rcases List.mem_cons.1 hx with rfl | hx
    · omega
    · have := szs_mem hx; omega
theorem szs_len : ∀ l : List T_api_Cbor, l.length ≤ szs l
  | [] => by simp
  | y :: l => by have := szs_len l; simp only [szs, List.length_cons]; omega
theorem T_api_Cbor.dep_eq (v : T_api_Cbor) : v.dep = deps v.gList + 1 := by cases v; simp [T_api_Cbor.dep]
theorem T_api_Cbor.sz_eq (v : T_api_Cbor) : v.sz = szs v.gList + v.gText.length + 1 := by cases v; simp [T_api_Cbor.sz]
theorem T_api_Cbor.ok_eq (v : T_api_Cbor) : v.ok ↔ (-9223372036854775808 ≤ v.gKind ∧ v.gKind < 9223372036854775808) ∧ (-9223372036854775808 ≤ v.gNum ∧ v.gNum < 9223372036854775808) ∧ oks v.gList := by cases v; simp [T_api_Cbor.ok]

/-- An item's own bytes, its elements' left aside. -/
def hdB (k n : Int) (t : List UInt8) (len : Nat) : List Int :=
  if k = 0 then (if n < 0 then headB 1 (-1 - n).toNat else headB 0 n.toNat)
  else if k = 1 ∨ k = 2 then headB (k.toNat + 1) t.length ++ unb t
  else if k = 3 then headB 4 len
  else if k = 4 then headB 5 (len / 2)
  else []
mutual
def laidB : T_api_Cbor → List Int
  | ⟨k, n, t, l⟩ => hdB k n t l.length ++ laidBs l
def laidBs : List T_api_Cbor → List Int
  | [] => []
  | x :: xs => laidB x ++ laidBs xs
end
theorem laidB_eq (v : T_api_Cbor) : laidB v = hdB v.gKind v.gNum v.gText v.gList.length ++ laidBs v.gList := by cases v; simp [laidB]
def told (v : T_api_Cbor) : List UInt8 := byt (laidB v)
theorem headB_length (k n : Nat) : 1 ≤ (headB k n).length ∧ (headB k n).length ≤ 9 := by
  unfold headB
  repeat' split
  all_goals simp [be_length]
theorem hdB_length (k n : Int) (t : List UInt8) (len : Nat) : (hdB k n t len).length ≤ 9 + t.length := by
  unfold hdB
  have h := fun a b => headB_length a b
  repeat' split
  all_goals first
    | (have := h 1 (-1 - n).toNat; omega)
    | (have := h 0 n.toNat; omega)
    | (simp only [List.length_append, unb, List.length_map]; have := h (k.toNat + 1) t.length; omega)
    | (have := h 4 len; omega)
    | (have := h 5 (len / 2); omega)
    | simp
mutual
theorem laidB_length : ∀ v : T_api_Cbor, (laidB v).length ≤ 9 * v.sz
  | ⟨k, n, t, l⟩ => by
    have h1 := hdB_length k n t l.length
    have h2 := laidBs_length l
    simp only [laidB, T_api_Cbor.sz, List.length_append]
    omega
theorem laidBs_length : ∀ l : List T_api_Cbor, (laidBs l).length ≤ 9 * szs l
  | [] => by simp [laidBs]
  | x :: xs => by
    have h1 := laidB_length x
    have h2 := laidBs_length xs
    simp only [laidBs, szs, List.length_append]
    omega
end
theorem write_eq (a b : List Int) (h : a.length + b.length ≤ 1000000000) : M.strings_Builder_Write a b = some ((b.length : Int), a ++ b) := by
  unfold M.strings_Builder_Write M.copyCheck
  simp only [Option.bind_eq_bind, Option.bind_some]
  rw [app_ok (by omega)]
  rfl
theorem unb_length (t : List UInt8) : (unb t).length = t.length := by simp [unb]
theorem writeS_eq (a : List Int) (b : List UInt8) (h : a.length + b.length ≤ 1000000000) : M.strings_Builder_WriteString a b = some ((b.length : Int), a ++ unb b) := by
  unfold M.strings_Builder_WriteString M.copyCheck
  simp only [Option.bind_eq_bind, Option.bind_some]
  rw [app_ok (by rw [unb_length]; omega)]
  rfl
theorem ix_nat {α : Type} (l : List α) (i : Nat) : ix l (i : Int) = l[i]? := by simp [ix]
theorem notI64 {x : Int} (h1 : -9223372036854775808 ≤ x) (h2 : x < 9223372036854775808) : notI .i64 x = -1 - x := by
  unfold notI
  have e : (BitVec.ofInt (IntKind.bits .i64) (if IntKind.signed .i64 then -1 else IntKind.max .i64) ^^^ BitVec.ofInt (IntKind.bits .i64) x).toNat = 18446744073709551615 - (BitVec.ofInt 64 x).toNat := by
    show (BitVec.ofInt 64 (-1) ^^^ BitVec.ofInt 64 x).toNat = _
    have : BitVec.ofInt 64 (-1) = BitVec.allOnes 64 := by decide
    rw [this, BitVec.allOnes_xor, BitVec.toNat_not]
  have e2 : (BitVec.ofInt 64 x).toNat = (x % 18446744073709551616).toNat := by simp
  rw [e, e2]
  have e3 : ∀ y : Int, IntKind.wrap .i64 y = if y % 18446744073709551616 ≥ 9223372036854775808 then y % 18446744073709551616 - 18446744073709551616 else y % 18446744073709551616 := by
    intro y
    simp [IntKind.wrap, IntKind.bits, IntKind.signed]
  rw [e3]
  split <;> omega
theorem chead0 (n : Nat) : M.cbor_head 0 (n : Int) = some (headB 0 n) := cbor_head_eq 0 n (by omega)
theorem chead1 (n : Nat) : M.cbor_head 1 (n : Int) = some (headB 1 n) := cbor_head_eq 1 n (by omega)
theorem chead4 (n : Nat) : M.cbor_head 4 (n : Int) = some (headB 4 n) := cbor_head_eq 4 n (by omega)
theorem chead5 (n : Nat) : M.cbor_head 5 (n : Int) = some (headB 5 n) := cbor_head_eq 5 n (by omega)
/-- What is laid behind others. -/
theorem laid_k2 (fuel : Nat) (self : List Int → T_api_Cbor → Option (List Int)) (v : T_api_Cbor) : ∀ (l : List T_api_Cbor) (i : Nat) (a : List Int), v.gList.drop i = l →
    (∀ x ∈ l, ∀ a : List Int, a.length + (laidB x).length ≤ 100000000 → self a x = some (a ++ laidB x)) → a.length + (laidBs l).length ≤ 100000000 → v.gList.length < 9000000000000000000 → M.cbor_laid_k2 fuel self v a (i : Int) = some (a ++ laidBs l)
  | [], i, a, hd, _, _, _ => by
    rw [M.cbor_laid_k2.eq_1]
    have : v.gList.length ≤ i := List.drop_eq_nil_iff.1 hd
    rw [if_neg (by simp; omega)]
    simp [laidBs]
  | x :: l, i, a, hd, hs, hl, hv => by
    rw [M.cbor_laid_k2.eq_1]
    have hi : i < v.gList.length := by
      rcases Nat.lt_or_ge i v.gList.length with h | h
      · exact h
      · rw [List.drop_eq_nil_of_le h] at hd; cases hd
    have hx : v.gList[i]? = some x := by
      have := congrArg (fun l => l[0]?) hd
      simpa using this
    have hd' : v.gList.drop (i + 1) = l := by
      have := congrArg (List.drop 1) hd
      simpa [Nat.add_comm] using this
    simp only [laidBs, List.length_append] at hl
    rw [if_pos (by simp; omega), ix_nat, hx]
    simp only [Option.bind_eq_bind, Option.bind_some]
    rw [hs x (by simp) a (by omega)]
    simp only [Option.bind_some]
    rw [w64 (by omega) (by omega), show ((i : Int) + 1) = ((i + 1 : Nat) : Int) by omega]
    rw [laid_k2 fuel self v l (i + 1) _ hd' (fun y hy => hs y (by simp [hy])) (by simp only [List.length_append]; omega) hv]
    simp [laidBs]
theorem cbor_laid_eq : ∀ (fuel : Nat) (v : T_api_Cbor) (a : List Int), v.dep ≤ fuel → v.ok → v.sz ≤ 10000000 → a.length + (laidB v).length ≤ 100000000 → M.cbor_laid fuel a v = some (a ++ laidB v)
  | 0, v, _, h, _, _, _ => by rw [v.dep_eq] at h; omega
  | fuel + 1, v, a, hd, ho, hz, hl => by
    rw [M.cbor_laid]
    rw [v.dep_eq] at hd
    rw [v.ok_eq] at ho
    obtain ⟨hk, hn, hos⟩ := ho
    rw [v.sz_eq] at hz
    have hlen := szs_len v.gList
    rw [laidB_eq, List.length_append] at hl
    have tail : ∀ b : List Int, b.length + (laidBs v.gList).length ≤ 100000000 → M.cbor_laid_k1 (fuel + 1) (M.cbor_laid fuel) v b = some (b ++ laidBs v.gList) := fun b hb => by
      unfold M.cbor_laid_k1
      have := laid_k2 (fuel + 1) (M.cbor_laid fuel) v v.gList 0 b (by simp) (fun x hx c hc => cbor_laid_eq fuel x c (by have := deps_mem hx; omega) (oks_mem hos x hx) (by have := szs_mem hx; omega) hc) hb (by omega)
      simpa using this
    rw [laidB_eq, ← List.append_assoc]
    generalize hh : hdB v.gKind v.gNum v.gText v.gList.length = h at hl ⊢
    unfold hdB at hh
    simp only [decide_eq_true_eq]
    have W : ∀ x : List Int, x = h → M.strings_Builder_Write a x = some ((x.length : Int), a ++ h) := fun x e => by subst e; exact write_eq a x (by omega)
    by_cases k0 : v.gKind = 0
    · rw [if_pos k0] at hh ⊢
      by_cases n0 : v.gNum < 0
      · rw [if_pos n0] at hh ⊢
        have e1 : IntKind.wrap .u64 (notI .i64 v.gNum) = (((-1 - v.gNum).toNat : Nat) : Int) := by
          rw [notI64 hn.1 hn.2, wu64 (by omega) (by omega)]
          omega
        rw [e1, chead1]
        simp only [Option.bind_eq_bind, Option.bind_some]
        rw [W _ hh]
        simp only [Option.bind_some]
        exact tail _ (by simp only [List.length_append]; omega)
      · rw [if_neg n0] at hh ⊢
        have e1 : IntKind.wrap .u64 v.gNum = ((v.gNum.toNat : Nat) : Int) := by
          rw [wu64 (by omega) (by omega)]
          omega
        rw [e1, chead0]
        simp only [Option.bind_eq_bind, Option.bind_some]
        rw [W _ hh]
        simp only [Option.bind_some]
        exact tail _ (by simp only [List.length_append]; omega)
    rw [if_neg k0] at hh ⊢
    have k3 : ∀ b : Bool, b = decide (v.gKind = 1 ∨ v.gKind = 2) → M.cbor_laid_k3 (fuel + 1) (M.cbor_laid fuel) v a b = some (a ++ h ++ laidBs v.gList) := fun b hb => by
      unfold M.cbor_laid_k3
      simp only [decide_eq_true_eq]
      by_cases k12 : v.gKind = 1 ∨ v.gKind = 2
      · rw [if_pos k12] at hh
        rw [hb, if_pos (by simpa using k12)]
        have e1 : IntKind.wrap .u8 (IntKind.wrap .u8 v.gKind + 1) = ((v.gKind.toNat + 1 : Nat) : Int) := by
          rw [wu8, wu8]; omega
        have e2 : IntKind.wrap .u64 (v.gText.length : Int) = ((v.gText.length : Nat) : Int) := by
          rw [wu64] <;> omega
        rw [e1, e2, cbor_head_eq _ _ (by omega)]
        simp only [Option.bind_eq_bind, Option.bind_some]
        have hl2 : h.length = (headB (v.gKind.toNat + 1) v.gText.length).length + v.gText.length := by rw [← hh]; simp [unb]
        rw [write_eq _ _ (by omega)]
        simp only [Option.bind_some]
        rw [writeS_eq _ _ (by simp only [List.length_append]; omega)]
        simp only [Option.bind_some]
        rw [show a ++ headB (v.gKind.toNat + 1) v.gText.length ++ unb v.gText = a ++ h by rw [← hh]; simp]
        exact tail _ (by simp only [List.length_append]; omega)
      · rw [if_neg k12] at hh
        rw [hb, if_neg (by simpa using k12)]
        by_cases k3 : v.gKind = 3
        · rw [if_pos k3] at hh ⊢
          have e2 : IntKind.wrap .u64 (v.gList.length : Int) = ((v.gList.length : Nat) : Int) := by
            rw [wu64] <;> omega
          rw [e2, chead4]
          simp only [Option.bind_eq_bind, Option.bind_some]
          rw [W _ hh]
          simp only [Option.bind_some]
          exact tail _ (by simp only [List.length_append]; omega)
        rw [if_neg k3] at hh ⊢
        by_cases k4 : v.gKind = 4
        · rw [if_pos k4] at hh ⊢
          have e2 : IntKind.wrap .u64 (IntKind.wrap .i64 (Int.tdiv (v.gList.length : Int) 2)) = ((v.gList.length / 2 : Nat) : Int) := by
            have : Int.tdiv (v.gList.length : Int) 2 = ((v.gList.length / 2 : Nat) : Int) := by
              rw [Int.tdiv_eq_ediv_of_nonneg (by omega)]; omega
            rw [this, w64 (by omega) (by omega), wu64 (by omega) (by omega)]
          rw [e2, chead5]
          simp only [Option.bind_eq_bind, Option.bind_some]
          rw [W _ hh]
          simp only [Option.bind_some]
          exact tail _ (by simp only [List.length_append]; omega)
        · rw [if_neg k4] at hh ⊢
          subst hh
          simp only [List.append_nil]
          exact tail _ (by simp only [List.length_nil] at hl; omega)
    by_cases k1 : v.gKind = 1
    · rw [if_pos k1]
      exact k3 _ (by simp [k1])
    · rw [if_neg k1]
      exact k3 _ (by simp [k1])
theorem cbor_told_eq (fuel : Nat) (v : T_api_Cbor) (h1 : v.dep ≤ fuel) (h2 : v.ok) (h3 : v.sz ≤ 10000000) : M.cbor_told fuel v = some (told v) := by
  unfold M.cbor_told M.strings_Builder_String
  rw [cbor_laid_eq fuel v [] h1 h2 h3 (by have := laidB_length v; simp; omega)]
  rfl
end Go.Proofs.YtmbckfhcljgniaaDoor
