/- Cbor, plainly: the four laws. -/
import Derived.Test.YtmbckfhcljgniaaDoorCb10
namespace Go.Proofs.YtmbckfhcljgniaaDoor
open Go.Lk
mutual
def T_api_Cbor.fit : T_api_Cbor → Prop
  | ⟨_, _, _, l⟩ => l.length ≤ 4000000000000000000 ∧ fits l
def fits : List T_api_Cbor → Prop
  | [] => True
  | x :: xs => x.fit ∧ fits xs
end
theorem T_api_Cbor.fit_eq (v : T_api_Cbor) : v.fit ↔ v.gList.length ≤ 4000000000000000000 ∧ fits v.gList := by cases v; simp [T_api_Cbor.fit]
theorem fits_mem : ∀ {l : List T_api_Cbor}, fits l → ∀ x ∈ l, x.fit
  | y :: l, h, x, hx => by
    simp only [fits] at h
    rcases List.mem_cons.1 hx with rfl | hx
    · exact h.1
    · exact fits_mem h.2 x hx
mutual
theorem fit_sz : ∀ v : T_api_Cbor, v.sz ≤ 10000000 → v.fit
  | ⟨_, _, _, l⟩, h => by
    simp only [T_api_Cbor.sz] at h
    have := szs_len l
    exact ⟨by omega, fits_sz l (by omega)⟩
theorem fits_sz : ∀ l : List T_api_Cbor, szs l ≤ 10000000 → fits l
  | [], _ => trivial
  | x :: l, h => by
    simp only [szs] at h
    exact ⟨fit_sz x (by omega), fits_sz l (by omega)⟩
end
theorem same_k1 (fuel : Nat) (self : T_api_Cbor → T_api_Cbor → Option Bool) (v : T_api_Cbor) (hv : v.gList.length ≤ 4000000000000000000) : ∀ (l : List T_api_Cbor) (i : Nat), v.gList.drop i = l → (∀ x ∈ l, self x x = some true) → M.r03_Same_k1 fuel self v v (i : Int) = some true
  | [], i, hd, _ => by
    unfold M.r03_Same_k1
    have : v.gList.length ≤ i := List.drop_eq_nil_iff.1 hd
    rw [if_neg (by simp; omega)]
  | x :: l, i, hd, hs => by
    unfold M.r03_Same_k1
    obtain ⟨hi, hx, hd'⟩ := drop_hd hd
    rw [if_pos (by simp; omega), ix_nat, hx]
    simp only [Option.bind_eq_bind, Option.bind_some, hs x (by simp), Bool.not_true, Bool.false_eq_true, if_false]
    rw [w64 (by omega) (by omega), show ((i : Int) + 1) = ((i + 1 : Nat) : Int) by omega]
    exact same_k1 fuel self v hv l (i + 1) hd' (fun y hy => hs y (by simp [hy]))
theorem Same_fit : ∀ (fuel : Nat) (v : T_api_Cbor), v.dep ≤ fuel → v.fit → M.r03_Same fuel v v = some true
  | 0, v, h, _ => by rw [v.dep_eq] at h; omega
  | fuel + 1, v, h, hz => by
    rw [M.r03_Same]
    rw [v.dep_eq] at h
    rw [v.fit_eq] at hz
    simp only [decide_true, Bool.not_true, Bool.or_self, Bool.false_eq_true, if_false]
    exact same_k1 (fuel + 1) _ v hz.1 v.gList 0 (by simp) (fun x hx => Same_fit fuel x (by have := deps_mem hx; omega) (fits_mem hz.2 x hx))
theorem Same_refl (fuel : Nat) (v : T_api_Cbor) (h : v.dep ≤ fuel) (hz : v.sz ≤ 10000000) : M.r03_Same fuel v v = some true := Same_fit fuel v h (fit_sz v hz)
def byS (pr : T_api_Cbor → Bool) : List T_api_Cbor → T_api_Cbor × Bool
  | k :: x :: r => if pr k = true then (x, true) else byS pr r
  | _ => (zeroT, false)
theorem by_k1 (pr : T_api_Cbor → Bool) (v : T_api_Cbor) (hk : v.gKind = 4) (hv : v.gList.length ≤ 4000000000000000000) (a b : Int) (c : List UInt8) (d : List T_api_Cbor) : ∀ (n : Nat) (l : List T_api_Cbor) (i : Nat), l.length ≤ n → v.gList.drop i = l →
    M.cbor_by_k1 (fun x => some (pr x)) v a b c d ((i + 1 : Nat) : Int) = some (byS pr l)
  | n, [], i, _, hd => by
    unfold M.cbor_by_k1
    have : v.gList.length ≤ i := List.drop_eq_nil_iff.1 hd
    rw [if_neg (by simp; omega)]
    rfl
  | n, [x], i, _, hd => by
    unfold M.cbor_by_k1
    have := congrArg List.length hd
    simp only [List.length_drop, List.length_singleton] at this
    rw [if_neg (by simp; omega)]
    rfl
  | n + 2, k :: x :: l, i, hn, hd => by
    unfold M.cbor_by_k1
    obtain ⟨hi, hx, hd'⟩ := drop_hd hd
    obtain ⟨hi2, hx2, hd2⟩ := drop_hd hd'
    have e : IntKind.wrap .i64 (((i + 1 : Nat) : Int) - 1) = (i : Int) := by rw [w64] <;> omega
    rw [if_pos (by simp; omega), e, ix_nat, hx]
    simp only [Option.bind_eq_bind, Option.bind_some]
    cases hp : pr k with
    | true =>
      rw [if_pos rfl, ix_nat, hx2]
      simp [byS, hp]
    | false =>
      have e2 : IntKind.wrap .i64 (((i + 1 : Nat) : Int) + 2) = ((i + 1 + 1 + 1 : Nat) : Int) := by rw [w64] <;> omega
      rw [if_neg (by simp), e2, by_k1 pr v hk hv a b c d n l (i + 1 + 1) (by simp at hn; omega) hd2]
      simp [byS, hp]
  | 0, _ :: _ :: _, _, h, _ => by simp at h
  | 1, _ :: _ :: _, _, h, _ => by simp at h
def byP (pr : T_api_Cbor → Bool) (v : T_api_Cbor) : T_api_Cbor × Bool := if v.gKind = 4 then byS pr v.gList else (zeroT, false)
theorem by_eq (pr : T_api_Cbor → Bool) (v : T_api_Cbor) (hv : v.gList.length ≤ 4000000000000000000) : M.cbor_by v (fun x => some (pr x)) = some (byP pr v) := by
  unfold M.cbor_by byP
  by_cases hk : v.gKind = 4
  · rw [if_pos hk]
    exact by_k1 pr v hk hv 0 0 [] [] v.gList.length v.gList 0 (by omega) (by simp)
  · rw [if_neg hk]
    unfold M.cbor_by_k1
    rw [if_neg (by simp [hk])]
    rfl
theorem rby_k1 (pr : T_api_Cbor → Bool) (v key : T_api_Cbor) (hv : v.gList.length ≤ 4000000000000000000) (a b : Int) (c : List UInt8) (d : List T_api_Cbor)
    (hp : ∀ x : T_api_Cbor, ((decide (x.gKind = key.gKind)) && (((decide (x.gKind = 0)) && (decide (x.gNum = key.gNum))) || ((decide (x.gKind = 2)) && (decide (x.gText = key.gText))))) = pr x) : ∀ (n : Nat) (l : List T_api_Cbor) (i : Nat), l.length ≤ n → i ≤ v.gList.length → v.gList.drop i = l →
    M.r03_by_k1 v key a b c d (i : Int) = some (byS pr l)
  | n, [], i, _, hb, hd => by
    unfold M.r03_by_k1
    have : v.gList.length ≤ i := List.drop_eq_nil_iff.1 hd
    rw [w64 (by omega) (by omega), if_neg (by simp; omega)]
    rfl
  | n, [x], i, _, hb, hd => by
    unfold M.r03_by_k1
    have := congrArg List.length hd
    simp only [List.length_drop, List.length_singleton] at this
    rw [w64 (by omega) (by omega), if_neg (by simp; omega)]
    rfl
  | n + 2, k :: x :: l, i, hn, hb, hd => by
    unfold M.r03_by_k1
    obtain ⟨hi, hx, hd'⟩ := drop_hd hd
    obtain ⟨hi2, hx2, hd2⟩ := drop_hd hd'
    have e : IntKind.wrap .i64 ((i : Int) + 1) = ((i + 1 : Nat) : Int) := by rw [w64] <;> omega
    rw [e, if_pos (by simp; omega), ix_nat, hx]
    simp only [Option.bind_eq_bind, Option.bind_some, hp]
    cases hp' : pr k with
    | true =>
      rw [if_pos rfl, ix_nat, hx2]
      simp [byS, hp']
    | false =>
      have e2 : IntKind.wrap .i64 ((i : Int) + 2) = ((i + 1 + 1 : Nat) : Int) := by rw [w64] <;> omega
      rw [if_neg (by simp), e2, rby_k1 pr v key hv a b c d hp n l (i + 1 + 1) (by simp at hn; omega) (by omega) hd2]
      simp [byS, hp']
  | 0, _ :: _ :: _, _, h, _, _ => by simp at h
  | 1, _ :: _ :: _, _, h, _, _ => by simp at h
end Go.Proofs.YtmbckfhcljgniaaDoor
