/- Cbor, plainly: the document's heads. -/
import Derived.Test.YtmbckfhcljgniaaDoorCb1
namespace Go.Proofs.YtmbckfhcljgniaaDoor
open Go.Lk
theorem and255 (n : Nat) (h : n < 9223372036854775808) : andI .i64 (n : Int) 255 = ((n % 256 : Nat) : Int) := by
  unfold andI
  have e : (BitVec.ofInt (IntKind.bits .i64) (n : Int) &&& BitVec.ofInt (IntKind.bits .i64) 255).toNat = n % 256 := by
    show (BitVec.ofInt 64 (n : Int) &&& BitVec.ofInt 64 255).toNat = n % 256
    rw [BitVec.toNat_and]
    have h1 : (BitVec.ofInt 64 (n : Int)).toNat = n := by simp; omega
    have h2 : (BitVec.ofInt 64 255).toNat = 2 ^ 8 - 1 := by decide
    rw [h1, h2, Nat.and_two_pow_sub_one_eq_mod]
  rw [e, w64 (by omega) (by omega)]
theorem shr_i64 (n i : Nat) (hi : i < 8) : shrI .i64 (n : Int) ((8 * i : Nat) : Int) = ((n / 256 ^ i : Nat) : Int) := by
  unfold shrI
  have h : min (((8 * i : Nat) : Int).toNat) IntKind.i64.bits = 8 * i := by
    simp [IntKind.bits]
    omega
  rw [h, two_pow_8]
  exact (Int.ofNat_fdiv n (256 ^ i)).symm
theorem r03_k2 (n : Nat) (hn : n < 9223372036854775808) : ∀ (i : Nat) (l : List Int), i ≤ 8 → l.length + i ≤ 1000000 → M.r03_head_k2 (n : Int) l ((i : Int) - 1) = some (l ++ be i n) := by
  intro i
  induction i with
  | zero =>
    intro l _ hl
    rw [M.r03_head_k2.eq_1]
    simp [be]
  | succ i ih =>
    intro l h8 hl
    rw [M.r03_head_k2.eq_1]
    have e1 : (((i + 1 : Nat) : Int) - 1) = (i : Int) := by omega
    have e2 : IntKind.wrap .i64 (8 * (i : Int)) = ((8 * i : Nat) : Int) := by rw [w64] <;> omega
    have e3 : IntKind.wrap .i64 ((i : Int) - 1) = (i : Int) - 1 := by rw [w64] <;> omega
    have h5 : n / 256 ^ i < 9223372036854775808 := Nat.lt_of_le_of_lt (Nat.div_le_self _ _) hn
    rw [e1, e2, e3, shr_i64 n i (by omega), and255 _ h5, wu8]
    rw [if_pos (by simp), chk_ok (by simp; omega)]
    simp only [Option.bind_eq_bind, Option.bind_some]
    rw [app_ok (by simp; omega)]
    simp only [Option.bind_some]
    rw [ih _ (by omega) (by simp; omega)]
    have : ((n / 256 ^ i % 256 : Nat) : Int) % 256 = ((n / 256 ^ i % 256 : Nat) : Int) := by omega
    rw [this]
    simp [be]
theorem r03_k1 (k n m x : Nat) (hk : k < 8) (hx : x < 32) (hm : m ≤ 8) (hn : n < 9223372036854775808) : M.r03_head_k1 (k : Int) (n : Int) (m : Int) (x : Int) = some (((32 * k + x : Nat) : Int) :: be m n) := by
  unfold M.r03_head_k1
  have e1 : IntKind.wrap .i64 (32 * (k : Int)) = 32 * (k : Int) := by rw [w64] <;> omega
  have e2 : IntKind.wrap .i64 (32 * (k : Int) + (x : Int)) = ((32 * k + x : Nat) : Int) := by rw [w64] <;> omega
  have e3 : IntKind.wrap .u8 ((32 * k + x : Nat) : Int) = ((32 * k + x : Nat) : Int) := by rw [wu8]; omega
  have e4 : IntKind.wrap .i64 ((m : Int) - 1) = (m : Int) - 1 := by rw [w64] <;> omega
  rw [e1, e2, e3, e4, r03_k2 n hn m _ hm (by simp; omega)]
  rfl
theorem r03_head_eq (k n : Nat) (hk : k < 8) (hn : n < 9223372036854775808) : M.r03_head (k : Int) (n : Int) = some (headB k n) := by
  unfold M.r03_head headB
  simp only [decide_eq_true_eq]
  have k0 : M.r03_head_k1 (k : Int) (n : Int) 1 24 = _ := r03_k1 k n 1 24 hk (by omega) (by omega) hn
  have k2 : M.r03_head_k1 (k : Int) (n : Int) 2 25 = _ := r03_k1 k n 2 25 hk (by omega) (by omega) hn
  have k4 : M.r03_head_k1 (k : Int) (n : Int) 4 26 = _ := r03_k1 k n 4 26 hk (by omega) (by omega) hn
  have k8 : M.r03_head_k1 (k : Int) (n : Int) 8 27 = _ := r03_k1 k n 8 27 hk (by omega) (by omega) hn
  by_cases c1 : n < 24
  · have k1 : M.r03_head_k1 (k : Int) (n : Int) 0 (n : Int) = _ := r03_k1 k n 0 n hk (by omega) (by omega) hn
    rw [if_pos (by omega), if_pos c1, k1]
    rfl
  rw [if_neg (by omega), if_neg c1]
  by_cases c2 : n < 256
  · rw [if_pos (by omega), if_pos c2, k0]
  rw [if_neg (by omega), if_neg c2]
  by_cases c3 : n < 65536
  · rw [if_pos (by omega), if_pos c3, k2]
  rw [if_neg (by omega), if_neg c3]
  by_cases c4 : n < 4294967296
  · rw [if_pos (by omega), if_pos c4, k4]
  · rw [if_neg (by omega), if_neg c4, k8]
end Go.Proofs.YtmbckfhcljgniaaDoor
