/- Cbor, plainly: a head is read. -/
import Derived.Test.YtmbckfhcljgniaaDoorCb4
namespace Go.Proofs.YtmbckfhcljgniaaDoor
open Go.Lk
/-- A number's bytes, the highest first, behind x. -/
def beval : Nat → List UInt8 → Nat
  | x, [] => x
  | x, c :: r => beval (256 * x + c.toNat) r
def rdHead : List UInt8 → Option (Nat × Nat × List UInt8)
  | [] => none
  | b :: r =>
    if 5 < b.toNat / 32 ∨ 27 < b.toNat % 32 then none
    else if b.toNat % 32 < 24 then some (b.toNat / 32, b.toNat % 32, r)
    else if r.length < 2 ^ (b.toNat % 32 - 24) then none
    else if beval 0 (r.take (2 ^ (b.toNat % 32 - 24))) < 9223372036854775808 ∧ (headB (b.toNat / 32) (beval 0 (r.take (2 ^ (b.toNat % 32 - 24))))).length = 1 + 2 ^ (b.toNat % 32 - 24)
      then some (b.toNat / 32, beval 0 (r.take (2 ^ (b.toNat % 32 - 24))), r.drop (2 ^ (b.toNat % 32 - 24)))
    else none
set_option maxRecDepth 10000 in
theorem shr5 : ∀ n : Nat, n < 256 → shrI .u8 (n : Int) 5 = ((n / 32 : Nat) : Int) := by decide
set_option maxRecDepth 10000 in
theorem and31 : ∀ n : Nat, n < 256 → andI .u8 (n : Int) 31 = ((n % 32 : Nat) : Int) := by decide
theorem shl1 : ∀ m : Nat, m < 28 → 24 ≤ m → shlI .u64 1 (((m - 24 : Nat) : Int)) = ((2 ^ (m - 24) : Nat) : Int) := by decide
theorem shl1i : ∀ m : Nat, m < 28 → 24 ≤ m → shlI .i64 1 (((m - 24 : Nat) : Int)) = ((2 ^ (m - 24) : Nat) : Int) := by decide
theorem pow_small {m : Nat} (h : m < 28) : 2 ^ (m - 24) = 1 ∨ 2 ^ (m - 24) = 2 ∨ 2 ^ (m - 24) = 4 ∨ 2 ^ (m - 24) = 8 := by
  have : m - 24 = 0 ∨ m - 24 = 1 ∨ m - 24 = 2 ∨ m - 24 = 3 := by omega
  rcases this with h | h | h | h <;> simp [h]
theorem u8lt (b : UInt8) : b.toNat < 256 := UInt8.toNat_lt b
theorem or8 (x c : Nat) (hx : x < 72057594037927936) (hc : c < 256) : orI .u64 (shlI .u64 (x : Int) 8) (IntKind.wrap .u64 (c : Int)) = ((256 * x + c : Nat) : Int) := by
  have e1 : shlI .u64 (x : Int) 8 = ((256 * x : Nat) : Int) := by
    unfold shlI
    have : min (Int.toNat 8) IntKind.u64.bits = 8 := by decide
    rw [this, wu64 (by omega) (by omega)]
    omega
  rw [e1, wu64 (by omega) (by omega)]
  unfold orI
  have e2 : (BitVec.ofInt (IntKind.bits .u64) ((256 * x : Nat) : Int) ||| BitVec.ofInt (IntKind.bits .u64) (c : Int)).toNat = 256 * x + c := by
    show (BitVec.ofInt 64 ((256 * x : Nat) : Int) ||| BitVec.ofInt 64 (c : Int)).toNat = _
    rw [BitVec.toNat_or]
    have h1 : (BitVec.ofInt 64 ((256 * x : Nat) : Int)).toNat = 2 ^ 8 * x := by simp; omega
    have h2 : (BitVec.ofInt 64 (c : Int)).toNat = c := by simp; omega
    rw [h1, h2, ← Nat.two_pow_add_eq_or_of_lt (by simpa using hc)]
  rw [e2, wu64 (by omega) (by omega)]
theorem unb_ix (l : List UInt8) (i : Nat) : ix (unb l) (i : Int) = (l[i]?).map fun c => (c.toNat : Int) := by simp [ix, unb]
theorem take_eq (s : List UInt8) (n : Nat) (hs : s.length ≤ 10000000) : M.cbor_reader_take ⟨s⟩ (n : Int) = some (if n ≤ s.length then .ok (s.take n, ⟨s.drop n⟩) else .pan (wrong 30)) := by
  unfold M.cbor_reader_take
  simp only [Option.bind_eq_bind]
  rw [wu64 (by omega) (by omega)]
  by_cases h : n ≤ s.length
  · rw [decide_eq_true (by omega), must_t, if_pos h]
    simp only [Option.bind_some]
    unfold sub
    rw [if_pos (by omega), if_pos (by omega)]
    simp
  · rw [decide_eq_false (by omega), must_f, if_neg h]
    rfl
/-- What is done behind a head's bytes. -/
def hdEnd (b : UInt8) (w n : Nat) (r : List UInt8) : Res (Int × Int × T_cbor_reader) :=
  if n < 9223372036854775808 ∧ (headB (b.toNat / 32) n).length = 1 + w then .ok (((b.toNat / 32 : Nat) : Int), (n : Int), ⟨r⟩) else .pan (wrong 30)
theorem head_k1 (b : UInt8) (s r : List UInt8) (hs : s.length ≤ 8) : ∀ (l : List UInt8) (i x : Nat), s.drop i = l → x < 256 ^ i →
    M.cbor_reader_head_k1 b (s, ⟨r⟩) (x : Int) (i : Int) = some (hdEnd b s.length (beval x l) r)
  | [], i, x, hd, hx => by
    rw [M.cbor_reader_head_k1.eq_1]
    have : s.length ≤ i := List.drop_eq_nil_iff.1 hd
    rw [if_neg (by simp [unb]; omega), show beval x [] = x from rfl]
    unfold hdEnd
    simp only [Option.bind_eq_bind, decide_eq_true_eq]
    rw [shr5 _ (u8lt b)]
    by_cases c : x < 9223372036854775808
    · rw [if_pos (by omega)]
      rw [cbor_head_eq _ _ (by have := u8lt b; omega)]
      simp only [Option.bind_some]
      rw [w64 (by omega) (by omega)]
      by_cases e : (headB (b.toNat / 32) x).length = 1 + s.length
      · rw [decide_eq_true (by omega), must_t, if_pos ⟨c, e⟩]
        rfl
      · rw [decide_eq_false (by omega), must_f, if_neg (fun h => e h.2)]
        rfl
    · rw [if_neg (by omega), if_neg (fun h => c h.1)]
      simp only [Option.bind_some]
      rw [must_f]
      rfl
  | c :: l, i, x, hd, hx => by
    rw [M.cbor_reader_head_k1.eq_1]
    obtain ⟨hi, hc, hd'⟩ := drop_hd hd
    have h7 : 256 ^ i ≤ 256 ^ 7 := Nat.pow_le_pow_right (by omega) (by omega)
    rw [if_pos (by simp [unb]; omega), unb_ix, hc]
    simp only [Option.bind_eq_bind, Option.map_some, Option.bind_some]
    rw [or8 x c.toNat (by omega) (u8lt c), w64 (by omega) (by omega), show ((i : Int) + 1) = ((i + 1 : Nat) : Int) by omega]
    rw [head_k1 b s r hs l (i + 1) (256 * x + c.toNat) hd' (by have := u8lt c; rw [Nat.pow_succ]; omega)]
    rfl
def headR (s : List UInt8) : Res (Int × Int × T_cbor_reader) := match rdHead s with
  | some (k, n, r) => .ok ((k : Int), (n : Int), ⟨r⟩)
  | none => .pan (wrong 30)
theorem reader_head_eq (s : List UInt8) (hs : s.length ≤ 10000000) : M.cbor_reader_head ⟨s⟩ = some (headR s) := by
  unfold M.cbor_reader_head headR
  have t1 := take_eq s 1 hs
  rw [show ((1 : Nat) : Int) = 1 from rfl] at t1
  rw [t1]
  simp only [Option.bind_eq_bind, Option.bind_some]
  cases s with
  | nil => simp [rdHead]
  | cons b r =>
    rw [if_pos (by simp)]
    simp only [List.take_succ_cons, List.take_zero, List.drop_succ_cons, List.drop_zero]
    rw [show ix [b] 0 = some b from rfl]
    simp only [Option.bind_some, rdHead]
    have hb := u8lt b
    rw [shr5 _ hb, and31 _ hb, wu64 (by omega) (by omega)]
    by_cases c : 5 < b.toNat / 32 ∨ 27 < b.toNat % 32
    · rw [if_pos c]
      have : ((decide (((b.toNat / 32 : Nat) : Int) ≤ 5)) && (decide (((b.toNat % 32 : Nat) : Int) < 28))) = false := by
        rcases c with c | c
        · rw [decide_eq_false (by omega)]; rfl
        · rw [decide_eq_false (p := ((b.toNat % 32 : Nat) : Int) < 28) (by omega)]; simp
      rw [this, must_f]
      rfl
    rw [if_neg c]
    have : ((decide (((b.toNat / 32 : Nat) : Int) ≤ 5)) && (decide (((b.toNat % 32 : Nat) : Int) < 28))) = true := by
      rw [decide_eq_true (by omega), decide_eq_true (by omega)]; rfl
    rw [this, must_t]
    simp only [Option.bind_some, decide_eq_true_eq]
    by_cases c2 : b.toNat % 32 < 24
    · rw [if_pos (by omega), if_pos c2]
    rw [if_neg (by omega), if_neg c2]
    have e1 : IntKind.wrap .u64 (((b.toNat % 32 : Nat) : Int) - 24) = ((b.toNat % 32 - 24 : Nat) : Int) := by
      rw [wu64 (by omega) (by omega)]; omega
    rw [e1, chk_ok (by simp), shl1 _ (by omega) (by omega)]
    simp only [Option.bind_some]
    have hr : r.length ≤ 10000000 := by simp only [List.length_cons] at hs; omega
    rw [take_eq r _ hr]
    simp only [Option.bind_some]
    have hp := pow_small (m := b.toNat % 32) (by omega)
    generalize 2 ^ (b.toNat % 32 - 24) = w at hp ⊢
    by_cases c3 : r.length < w
    · rw [if_neg (by omega), if_pos c3]
    rw [if_pos (by omega), if_neg c3]
    simp only
    have hw : (r.take w).length = w := by rw [List.length_take]; omega
    rw [chk_ok (by rw [hw]; simp; omega)]
    simp only [Option.bind_some]
    have := head_k1 b (r.take w) (r.drop w) (by omega) (r.take w) 0 0 (by simp) (by simp)
    rw [show (0 : Int) = ((0 : Nat) : Int) from rfl, this, hdEnd, hw]
    by_cases c4 : beval 0 (r.take w) < 9223372036854775808 ∧ (headB (b.toNat / 32) (beval 0 (r.take w))).length = 1 + w
    · rw [if_pos c4, if_pos c4]
    · rw [if_neg c4, if_neg c4]
theorem beval_lt : ∀ (l : List UInt8) (x : Nat), beval x l < (x + 1) * 256 ^ l.length
  | [], x => by simp [beval]
  | c :: l, x => by
    have h1 := beval_lt l (256 * x + c.toNat)
    have h2 := u8lt c
    have h3 : (256 * x + c.toNat + 1) * 256 ^ l.length ≤ ((x + 1) * 256) * 256 ^ l.length := Nat.mul_le_mul_right _ (by omega)
    have h4 : (x + 1) * 256 ^ (l.length + 1) = ((x + 1) * 256) * 256 ^ l.length := by rw [Nat.pow_succ, Nat.mul_comm (256 ^ l.length) 256, Nat.mul_assoc]
    simp only [beval, List.length_cons]
    omega
theorem beval_ge : ∀ (l : List UInt8) (x : Nat), x * 256 ^ l.length ≤ beval x l
  | [], x => by simp [beval]
  | c :: l, x => by
    have h1 := beval_ge l (256 * x + c.toNat)
    have h3 : (x * 256) * 256 ^ l.length ≤ (256 * x + c.toNat) * 256 ^ l.length := Nat.mul_le_mul_right _ (by omega)
    have h4 : x * 256 ^ (l.length + 1) = (x * 256) * 256 ^ l.length := by rw [Nat.pow_succ, Nat.mul_comm (256 ^ l.length) 256, Nat.mul_assoc]
    simp only [beval, List.length_cons]
    omega
/-- A loop over so many bytes of s from i on. -/
theorem r03_head_k2 (b : UInt8) (s : List UInt8) (w : Nat) (hk : b.toNat / 32 ≤ 5) (hm : b.toNat % 32 < 28) (hm2 : 24 ≤ b.toNat % 32) (hw : 2 ^ (b.toNat % 32 - 24) = w) (hs : s.length ≤ 10000000) : ∀ (l : List UInt8) (i x j : Nat), (s.drop i).take (w - j) = l → l.length = w - j → j ≤ w → beval x l < 9223372036854775808 →
    M.r03_reader_head_k2 b b s (i : Int) (x : Int) (j : Int) = some (((b.toNat / 32 : Nat) : Int), ((beval x l : Nat) : Int), decide ((headB (b.toNat / 32) (beval x l)).length = 1 + w), ⟨s, ((i + (w - j) : Nat) : Int)⟩) := by
  have hb := u8lt b
  have hp := pow_small hm
  rw [hw] at hp
  have e1 : IntKind.wrap .i64 (((b.toNat % 32 : Nat) : Int)) = ((b.toNat % 32 : Nat) : Int) := by rw [w64] <;> omega
  have e2 : IntKind.wrap .i64 (((b.toNat % 32 : Nat) : Int) - 24) = ((b.toNat % 32 - 24 : Nat) : Int) := by rw [w64] <;> omega
  have e3 : IntKind.wrap .i64 (((b.toNat / 32 : Nat) : Int)) = ((b.toNat / 32 : Nat) : Int) := by rw [w64] <;> omega
  have e4 : IntKind.wrap .i64 (1 + (w : Int)) = 1 + (w : Int) := by rw [w64] <;> omega
  intro l
  induction l with
  | nil =>
    intro i x j hd hl hj hx
    unfold M.r03_reader_head_k2
    simp only [and31 _ hb, shr5 _ hb, e1, e2, e3, shl1i _ hm hm2, hw]
    have : j = w := by simp at hl; omega
    subst this
    rw [if_neg (by simp)]
    simp only [Option.bind_eq_bind, beval] at hx ⊢
    rw [r03_head_eq _ _ (by omega) hx, e4]
    simp only [Option.bind_some]
    have : decide ((((headB (b.toNat / 32) x).length : Nat) : Int) = 1 + (j : Int)) = decide ((headB (b.toNat / 32) x).length = 1 + j) := by
      apply decide_eq_decide.2
      omega
    rw [this, Nat.sub_self, Nat.add_zero]
    rfl
  | cons c l ih =>
    intro i x j hd hl hj hx
    unfold M.r03_reader_head_k2
    simp only [and31 _ hb, shr5 _ hb, e1, e2, e3, shl1i _ hm hm2, hw]
    have hjw : j < w := by simp only [List.length_cons] at hl; omega
    rw [if_pos (by simp; omega)]
    have hc : s[i]? = some c := by
      have := congrArg (fun l => l[0]?) hd
      simpa [List.getElem?_take, show 0 < w - j by omega] using this
    have hi : i < s.length := by
      rcases Nat.lt_or_ge i s.length with h | h
      · exact h
      · rw [List.getElem?_eq_none h] at hc; cases hc
    have hd' : (s.drop (i + 1)).take (w - (j + 1)) = l := by
      have := congrArg (List.drop 1) hd
      rw [List.drop_take, List.drop_drop] at this
      simpa [Nat.add_comm, Nat.sub_sub] using this
    have hcl := u8lt c
    simp only [beval] at hx
    have hge := beval_ge l (256 * x + c.toNat)
    have hpos : 1 ≤ 256 ^ l.length := Nat.pow_pos (by omega)
    have hle : (256 * x + c.toNat) * 1 ≤ (256 * x + c.toNat) * 256 ^ l.length := Nat.mul_le_mul_left _ hpos
    rw [ix_nat, hc]
    simp only [Option.bind_eq_bind, Option.bind_some]
    have f1 : IntKind.wrap .i64 (256 * (x : Int)) = 256 * (x : Int) := by rw [w64] <;> omega
    have f2 : IntKind.wrap .i64 (c.toNat : Int) = (c.toNat : Int) := by rw [w64] <;> omega
    have f3 : IntKind.wrap .i64 (256 * (x : Int) + (c.toNat : Int)) = ((256 * x + c.toNat : Nat) : Int) := by rw [w64] <;> omega
    have f4 : IntKind.wrap .i64 ((i : Int) + 1) = ((i + 1 : Nat) : Int) := by rw [w64] <;> omega
    have f5 : IntKind.wrap .i64 ((j : Int) + 1) = ((j + 1 : Nat) : Int) := by rw [w64] <;> omega
    rw [f1, f2, f3, f4, f5, ih (i + 1) (256 * x + c.toNat) (j + 1) hd' (by simp only [List.length_cons] at hl; omega) (by omega) hx]
    rw [show i + 1 + (w - (j + 1)) = i + (w - j) by omega]
    rfl
theorem r03_reader_head_eq (s : List UInt8) (i : Nat) (hs : s.length ≤ 10000000) (hi : i ≤ s.length) : ∃ k n ok j, M.r03_reader_head ⟨s, (i : Int)⟩ = some (k, n, ok, ⟨s, j⟩) ∧
    match rdHead (s.drop i) with
    | some (k', n', r) => k = (k' : Int) ∧ n = (n' : Int) ∧ ok = true ∧ ∃ j' : Nat, j = (j' : Int) ∧ i < j' ∧ j' ≤ s.length ∧ s.drop j' = r
    | none => ok = false := by
  unfold M.r03_reader_head
  simp only [Option.bind_eq_bind, decide_eq_true_eq]
  by_cases c0 : s.length ≤ i
  · rw [if_pos (by omega), List.drop_eq_nil_of_le c0]
    exact ⟨_, _, _, _, rfl, rfl⟩
  rw [if_neg (by omega)]
  have hi' : i < s.length := by omega
  obtain ⟨b, r, hd⟩ : ∃ b r, s.drop i = b :: r := ⟨_, _, List.drop_eq_getElem_cons hi'⟩
  obtain ⟨_, hx, hd'⟩ := drop_hd hd
  rw [hd, ix_nat, hx]
  simp only [Option.bind_some]
  have hb := u8lt b
  have e1 : IntKind.wrap .i64 (((b.toNat % 32 : Nat) : Int)) = ((b.toNat % 32 : Nat) : Int) := by rw [w64] <;> omega
  have e3 : IntKind.wrap .i64 (((b.toNat / 32 : Nat) : Int)) = ((b.toNat / 32 : Nat) : Int) := by rw [w64] <;> omega
  have e5 : IntKind.wrap .i64 ((i : Int) + 1) = ((i + 1 : Nat) : Int) := by rw [w64] <;> omega
  rw [shr5 _ hb, and31 _ hb, e1, e3, e5]
  simp only [rdHead]
  by_cases c : 5 < b.toNat / 32 ∨ 27 < b.toNat % 32
  · rw [if_pos c]
    have : ((decide (5 < ((b.toNat / 32 : Nat) : Int))) || (decide (27 < ((b.toNat % 32 : Nat) : Int)))) = true := by
      simp; omega
    rw [if_pos this]
    exact ⟨_, _, _, _, rfl, rfl⟩
  rw [if_neg c]
  have : ((decide (5 < ((b.toNat / 32 : Nat) : Int))) || (decide (27 < ((b.toNat % 32 : Nat) : Int)))) = false := by
    simp; omega
  rw [this]
  simp only [Bool.false_eq_true, if_false]
  have hlr : r.length + (i + 1) = s.length := by
    have := congrArg List.length hd
    simp at this
    omega
  by_cases c2 : b.toNat % 32 < 24
  · rw [if_pos (by omega), if_pos c2]
    exact ⟨_, _, _, _, rfl, rfl, rfl, rfl, i + 1, rfl, by omega, by omega, hd'⟩
  rw [if_neg (by omega), if_neg c2]
  have e2 : IntKind.wrap .i64 (((b.toNat % 32 : Nat) : Int) - 24) = ((b.toNat % 32 - 24 : Nat) : Int) := by rw [w64] <;> omega
  rw [e2, chk_ok (by simp), shl1i _ (by omega) (by omega)]
  simp only [Option.bind_some]
  have hp := pow_small (m := b.toNat % 32) (by omega)
  have hw : ∃ w, 2 ^ (b.toNat % 32 - 24) = w := ⟨_, rfl⟩
  obtain ⟨w, hw⟩ := hw
  rw [hw] at hp ⊢
  have e6 : IntKind.wrap .i64 ((s.length : Int) - ((i + 1 : Nat) : Int)) = (r.length : Int) := by rw [w64] <;> omega
  rw [e6]
  have k1t : M.r03_reader_head_k1 b b ⟨s, (i : Int)⟩ true = some (0, 0, false, ⟨s, ((i + 1 : Nat) : Int)⟩) := by
    unfold M.r03_reader_head_k1
    rw [if_pos rfl, e5]
  by_cases c3 : r.length < w
  · rw [if_pos (by omega), if_pos c3, k1t]
    exact ⟨_, _, _, _, rfl, rfl⟩
  rw [if_neg (by omega), if_neg c3]
  have hlt : (r.take w).length = w := by rw [List.length_take]; omega
  have k1f (hv : beval 0 (r.take w) < 9223372036854775808) : M.r03_reader_head_k1 b b ⟨s, (i : Int)⟩ false = some (((b.toNat / 32 : Nat) : Int), ((beval 0 (r.take w) : Nat) : Int), decide ((headB (b.toNat / 32) (beval 0 (r.take w))).length = 1 + w), ⟨s, ((i + 1 + w : Nat) : Int)⟩) := by
    unfold M.r03_reader_head_k1
    rw [if_neg (by simp), e5]
    have := r03_head_k2 b s w (by omega) (by omega) (by omega) hw hs (r.take w) (i + 1) 0 0 (by rw [hd']; rfl) (by omega) (by omega) hv
    simpa using this
  have fin (hv : beval 0 (r.take w) < 9223372036854775808) : ∃ k n ok j, M.r03_reader_head_k1 b b ⟨s, (i : Int)⟩ false = some (k, n, ok, ⟨s, j⟩) ∧
      match (if beval 0 (r.take w) < 9223372036854775808 ∧ (headB (b.toNat / 32) (beval 0 (r.take w))).length = 1 + w then some (b.toNat / 32, beval 0 (r.take w), r.drop w) else none) with
      | some (k', n', r) => k = (k' : Int) ∧ n = (n' : Int) ∧ ok = true ∧ ∃ j' : Nat, j = (j' : Int) ∧ i < j' ∧ j' ≤ s.length ∧ s.drop j' = r
      | none => ok = false := by
    refine ⟨_, _, _, _, k1f hv, ?_⟩
    by_cases c4 : (headB (b.toNat / 32) (beval 0 (r.take w))).length = 1 + w
    · rw [if_pos ⟨hv, c4⟩]
      exact ⟨rfl, rfl, decide_eq_true c4, i + 1 + w, rfl, by omega, by omega, by rw [← hd', List.drop_drop]⟩
    · rw [if_neg (fun h => c4 h.2)]
      exact decide_eq_false c4
  have small : beval 0 (r.take w) < 256 ^ w := by
    have := beval_lt (r.take w) 0
    rw [hlt] at this
    omega
  by_cases c8 : w = 8
  · subst c8
    rw [if_pos (by omega)]
    obtain ⟨c, r', hr⟩ : ∃ c r', r = c :: r' := by
      cases r with
      | nil => simp at c3
      | cons c r' => exact ⟨c, r', rfl⟩
    have hx1 : s[i + 1]? = some c := by rw [hr] at hd'; exact (drop_hd hd').2.1
    rw [ix_nat, hx1]
    simp only [Option.bind_some]
    have hl7 : (r'.take 7).length = 7 := by rw [List.length_take]; rw [hr] at c3; simp only [List.length_cons] at c3; omega
    have hbe : beval 0 (r.take 8) = beval c.toNat (r'.take 7) := by rw [hr]; simp [beval]
    have g1 := beval_ge (r'.take 7) c.toNat
    have g2 := beval_lt (r'.take 7) c.toNat
    rw [hl7] at g1 g2
    by_cases c9 : 127 < c.toNat
    · rw [decide_eq_true (by omega), k1t, if_neg (fun h => by omega)]
      exact ⟨_, _, _, _, rfl, rfl⟩
    · rw [decide_eq_false (by omega)]
      exact fin (by omega)
  · rw [if_neg (by omega)]
    refine fin ?_
    rcases hp with h | h | h | h <;> subst h <;> omega
end Go.Proofs.YtmbckfhcljgniaaDoor
