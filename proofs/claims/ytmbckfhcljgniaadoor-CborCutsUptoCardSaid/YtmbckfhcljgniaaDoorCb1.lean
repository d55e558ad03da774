/- Cbor, plainly: numbers, heads. -/
import Derived.Test.YtmbckfhcljgniaaDoorLkM
namespace Go.Proofs.YtmbckfhcljgniaaDoor
open Go.Lk
theorem w64 {x : Int} (h1 : -9223372036854775808 ≤ x) (h2 : x < 9223372036854775808) : IntKind.wrap .i64 x = x := by
  have h : IntKind.wrap .i64 x = if x % 18446744073709551616 ≥ 9223372036854775808 then x % 18446744073709551616 - 18446744073709551616 else x % 18446744073709551616 := by
    simp [IntKind.wrap, IntKind.bits, IntKind.signed]
  rw [h]
  split <;> omega
theorem wu64 {x : Int} (h1 : 0 ≤ x) (h2 : x < 18446744073709551616) : IntKind.wrap .u64 x = x := by
  unfold IntKind.wrap
  simp only [IntKind.bits, IntKind.signed]
  simp
  omega
theorem wu8 (x : Int) : IntKind.wrap .u8 x = x % 256 := by
  unfold IntKind.wrap
  simp [IntKind.bits, IntKind.signed]
/-- A number's low bytes, the highest first. -/
def be : Nat → Nat → List Int
  | 0, _ => []
  | m + 1, n => ((n / 256 ^ m % 256 : Nat) : Int) :: be m n
theorem be_length (m n : Nat) : (be m n).length = m := by
  induction m with
  | zero => rfl
  | succ m ih => simp [be, ih]
theorem two_pow_8 (i : Nat) : (2 : Int) ^ (8 * i) = ((256 ^ i : Nat) : Int) := by
  rw [Int.pow_mul]
  simp
theorem shr_u64 (n i : Nat) (hi : i < 8) : shrI .u64 (n : Int) ((8 * i : Nat) : Int) = ((n / 256 ^ i : Nat) : Int) := by
  unfold shrI
  have h : min (((8 * i : Nat) : Int).toNat) IntKind.u64.bits = 8 * i := by
    simp [IntKind.bits]
    omega
  rw [h, two_pow_8]
  exact (Int.ofNat_fdiv n (256 ^ i)).symm
theorem app_ok {α : Type} {k : Nat} {l l2 : List α} (h : (l.length + l2.length) * k ≤ 140737488355328) : app k l l2 = some (l ++ l2) := by
  unfold app
  rw [if_pos h]
theorem chk_ok {b : Bool} (h : b = true) : chk b = some () := by subst h; rfl
theorem big_k1 (n : Nat) : ∀ (i : Nat) (l : List Int), i ≤ 8 → l.length + i ≤ 1000000 → M.cbor_big_k1 (n : Int) l ((i : Int) - 1) = some (l ++ be i n) := by
  intro i
  induction i with
  | zero =>
    intro l _ hl
    rw [M.cbor_big_k1.eq_1]
    simp [be]
  | succ i ih =>
    intro l h8 hl
    rw [M.cbor_big_k1.eq_1]
    have e1 : (((i + 1 : Nat) : Int) - 1) = (i : Int) := by omega
    have e2 : IntKind.wrap .i64 (8 * (i : Int)) = ((8 * i : Nat) : Int) := by rw [w64] <;> omega
    have e3 : IntKind.wrap .i64 ((i : Int) - 1) = (i : Int) - 1 := by rw [w64] <;> omega
    rw [e1, e2, e3, shr_u64 n i (by omega), wu8]
    rw [if_pos (by simp), chk_ok (by simp; omega)]
    simp only [Option.bind_eq_bind, Option.bind_some]
    rw [app_ok (by simp; omega)]
    simp only [Option.bind_some]
    rw [ih _ (by omega) (by simp; omega)]
    have : ((n / 256 ^ i : Nat) : Int) % 256 = ((n / 256 ^ i % 256 : Nat) : Int) := by omega
    simp [be]
theorem or5 : ∀ k : Nat, k < 8 → ∀ x : Nat, x < 32 → orI .u8 (shlI .u8 (k : Int) 5) (x : Int) = ((32 * k + x : Nat) : Int) := by decide
/-- A head's bytes. -/
def headB (k n : Nat) : List Int :=
  if n < 24 then [((32 * k + n : Nat) : Int)] else if n < 256 then ((32 * k + 24 : Nat) : Int) :: be 1 n else if n < 65536 then ((32 * k + 25 : Nat) : Int) :: be 2 n
  else if n < 4294967296 then ((32 * k + 26 : Nat) : Int) :: be 4 n else ((32 * k + 27 : Nat) : Int) :: be 8 n
theorem cbor_big_eq (n : Nat) (l : List Int) (m : Nat) (hm : m ≤ 8) (hl : l.length + m ≤ 1000000) : M.cbor_big l (n : Int) (m : Int) = some (l ++ be m n) := by
  unfold M.cbor_big
  rw [w64 (by omega) (by omega)]
  exact big_k1 n m l hm hl
theorem cbor_head_eq (k n : Nat) (hk : k < 8) : M.cbor_head (k : Int) (n : Int) = some (headB k n) := by
  unfold M.cbor_head headB
  have h24 : orI .u8 (shlI .u8 (k : Int) 5) 24 = ((32 * k + 24 : Nat) : Int) := or5 k hk 24 (by omega)
  have h25 : orI .u8 (shlI .u8 (k : Int) 5) 25 = ((32 * k + 25 : Nat) : Int) := or5 k hk 25 (by omega)
  have h26 : orI .u8 (shlI .u8 (k : Int) 5) 26 = ((32 * k + 26 : Nat) : Int) := or5 k hk 26 (by omega)
  have h27 : orI .u8 (shlI .u8 (k : Int) 5) 27 = ((32 * k + 27 : Nat) : Int) := or5 k hk 27 (by omega)
  have b2 : M.cbor_big [((32 * k + 25 : Nat) : Int)] (n : Int) 2 = _ := cbor_big_eq n [((32 * k + 25 : Nat) : Int)] 2 (by omega) (by simp)
  have b4 : M.cbor_big [((32 * k + 26 : Nat) : Int)] (n : Int) 4 = _ := cbor_big_eq n [((32 * k + 26 : Nat) : Int)] 4 (by omega) (by simp)
  have b8 : M.cbor_big [((32 * k + 27 : Nat) : Int)] (n : Int) 8 = _ := cbor_big_eq n [((32 * k + 27 : Nat) : Int)] 8 (by omega) (by simp)
  simp only [decide_eq_true_eq]
  by_cases c1 : n < 24
  · rw [if_pos (by omega), if_pos c1]
    have : IntKind.wrap .u8 (n : Int) = ((n : Nat) : Int) := by rw [wu8]; omega
    rw [this, or5 k hk n (by omega)]
  rw [if_neg (by omega), if_neg c1]
  by_cases c2 : n < 256
  · rw [if_pos (by omega), if_pos c2, h24, wu8]
    have : (n : Int) % 256 = ((n / 256 ^ 0 % 256 : Nat) : Int) := by simp
    rw [this]
    rfl
  rw [if_neg (by omega), if_neg c2]
  by_cases c3 : n < 65536
  · rw [if_pos (by omega), if_pos c3, h25, b2]
    rfl
  rw [if_neg (by omega), if_neg c3]
  by_cases c4 : n < 4294967296
  · rw [if_pos (by omega), if_pos c4, h26, b4]
    rfl
  · rw [if_neg (by omega), if_neg c4, h27, b8]
    rfl
end Go.Proofs.YtmbckfhcljgniaaDoor
