/- Cbor, plainly: the four laws hold. -/
import Derived.Test.YtmbckfhcljgniaaDoorCb11
namespace Go.Proofs.YtmbckfhcljgniaaDoor
open Go.Lk
theorem rby_eq (pr : T_api_Cbor → Bool) (v key : T_api_Cbor) (hv : v.gList.length ≤ 4000000000000000000)
    (hp : ∀ x : T_api_Cbor, ((decide (x.gKind = key.gKind)) && (((decide (x.gKind = 0)) && (decide (x.gNum = key.gNum))) || ((decide (x.gKind = 2)) && (decide (x.gText = key.gText))))) = pr x) : M.r03_by v key = some (byP pr v) := by
  unfold M.r03_by byP
  by_cases hk : v.gKind = 4
  · rw [if_pos (by simpa using hk), if_pos hk]
    exact rby_k1 pr v key hv 0 0 [] [] hp v.gList.length v.gList 0 (by omega) (by omega) (by simp)
  · rw [if_neg (by simpa using hk), if_neg hk]
    rfl
def isInt (n : Int) (x : T_api_Cbor) : Bool := (decide (x.gKind = 0)) && (decide (x.gNum = n))
def isText (s : List UInt8) (x : T_api_Cbor) : Bool := (decide (x.gKind = 2)) && (decide (x.gText = s))
theorem ByInt_eq (v : T_api_Cbor) (n : Int) (hv : v.gList.length ≤ 4000000000000000000) : M.cbor_ByInt v n = some (byP (isInt n) v) := by
  unfold M.cbor_ByInt
  have : (fun x0 => M.cbor_ByInt_1 x0 n) = fun x => some (isInt n x) := rfl
  rw [this, by_eq _ v hv]
  rfl
theorem ByText_eq (v : T_api_Cbor) (s : List UInt8) (hv : v.gList.length ≤ 4000000000000000000) : M.cbor_ByText v s = some (byP (isText s) v) := by
  unfold M.cbor_ByText
  have : (fun x0 => M.cbor_ByText_1 x0 s) = fun x => some (isText s x) := rfl
  rw [this, by_eq _ v hv]
  rfl
theorem rByInt_eq (v : T_api_Cbor) (n : Int) (hv : v.gList.length ≤ 4000000000000000000) : M.r03_ByInt v n = some (byP (isInt n) v) := by
  unfold M.r03_ByInt
  rw [rby_eq (isInt n) v _ hv (fun x => by
    unfold isInt
    by_cases h : x.gKind = 0
    · simp [h]
    · simp [h])]
  rfl
theorem rByText_eq (v : T_api_Cbor) (s : List UInt8) (hv : v.gList.length ≤ 4000000000000000000) : M.r03_ByText v s = some (byP (isText s) v) := by
  unfold M.r03_ByText
  rw [rby_eq (isText s) v _ hv (fun x => by
    unfold isText
    by_cases h : x.gKind = 2
    · simp [h]
    · simp [h])]
  rfl
def awakeV : T_api_Cbor := ⟨4, 0, [], [⟨0, 1, [], []⟩, ⟨0, 2, [], []⟩, ⟨0, -1, [], []⟩, ⟨2, 0, [97], []⟩]⟩
theorem awakeV_ok : awakeV.ok := by simp [awakeV, T_api_Cbor.ok, oks]
theorem aw1 : encode awakeV = ([162, 1, 2, 32, 97, 97], 0) := by decide +kernel
theorem aw2 : decode [162, 1, 2, 32, 97, 97, 255] = (awakeV, 6, 0) := by rfl
theorem aw3 : (decode [24, 23]).2.2 = 30 := by rfl
theorem aw4 : (decode [129, 129, 129, 129, 129, 129, 129, 129, 129, 129, 129, 129, 129, 129, 129, 129, 129, 0]).2.2 = 31 := by rfl
theorem aw5 : (encode ⟨5, 0, [], []⟩).2 = 33 := by decide +kernel
theorem aw6 : byP (isInt (-1)) awakeV = (⟨2, 0, [97], []⟩, true) := by rfl
theorem aw7 : byP (isText [97]) awakeV = (zeroT, false) := by rfl
theorem aw8 : checkV 0 awakeV = 0 := by decide +kernel
theorem awake_eq (fuel : Nat) (hf : 16 < fuel) : M.l03_awake fuel = some true := by
  unfold M.l03_awake M.l03_number M.l03_text
  have hd : awakeV.dep ≤ fuel := by have : awakeV.dep = 2 := (by decide); omega
  have hz : awakeV.sz ≤ 10000000 := by decide
  have d1 : (T_api_Cbor.mk 5 0 [] []).dep ≤ fuel := by have : (T_api_Cbor.mk 5 0 [] []).dep = 1 := (by decide); omega
  have d2 : (T_api_Cbor.mk 2 0 [97] []).dep ≤ fuel := by have : (T_api_Cbor.mk 2 0 [97] []).dep = 1 := (by decide); omega
  simp only [Option.bind_eq_bind, Option.bind_some]
  change ((M.cbor_Encode fuel awakeV).bind _) = _
  rw [Encode_eq fuel awakeV hd awakeV_ok hz]
  simp only [Option.bind_some]
  rw [Decode_eq fuel _ hf, Decode_eq fuel _ hf, Decode_eq fuel _ hf]
  simp only [Option.bind_some]
  rw [Encode_eq fuel _ d1 (by simp [T_api_Cbor.ok, oks]) (by decide)]
  simp only [Option.bind_some]
  change ((M.cbor_ByInt awakeV (-1)).bind _) = _
  rw [ByInt_eq awakeV (-1) (by decide)]
  simp only [Option.bind_some]
  change ((M.cbor_ByText awakeV [97]).bind _) = _
  rw [ByText_eq awakeV [97] (by decide)]
  simp only [Option.bind_some, aw1, aw2, aw3, aw4, aw5, aw6, aw7]
  change ((chk (decide _)).bind fun _ => (chk (decide _)).bind fun _ => (M.r03_Same fuel awakeV awakeV).bind _) = _
  rw [Same_refl fuel awakeV hd hz]
  rw [Same_refl fuel _ d2 (by decide)]
  change ((chk (decide _)).bind fun _ => (chk (decide _)).bind fun _ => (some true).bind fun y => (chk y).bind fun _ => (chk (decide _)).bind fun _ => (chk (decide _)).bind fun _ => (chk (decide _)).bind fun _ => (chk (decide _)).bind fun _ => (chk (decide _)).bind fun _ => (some true).bind fun y => (chk y).bind fun _ => (chk true).bind fun _ => (chk (!false)).bind fun _ => (M.cbor_Check fuel awakeV).bind _) = _
  rw [Check_eq fuel awakeV hd awakeV_ok hz, aw8]
  rfl
/-- What is read has few levels and is small. -/
theorem decode_fst (s : List UInt8) : (decode s).1.dep ≤ 17 ∧ (decode s).1.sz ≤ 10000 ∧ (decode s).1.ok := by
  unfold decode
  have z : zeroT.dep ≤ 17 ∧ zeroT.sz ≤ 10000 ∧ zeroT.ok := ⟨by decide, by decide, by simp [zeroT, T_api_Cbor.ok, oks]⟩
  split
  · exact z
  · rename_i hl
    split
    · rename_i x r h
      obtain ⟨h1, h2, h3⟩ := decI_sound 16 (by omega) _ _ _ h
      obtain ⟨h4, h5, h6⟩ := snd_len (decI_sound 16 (by omega)) h
      have := dep_le x 0 (by omega) h2
      exact ⟨by simp only; omega, by simp only; omega, h3⟩
    · exact z
theorem reads_k4 (fuel : Nat) (p0 : List UInt8) (a b c : Int) (t : List UInt8) : ∀ (n : Nat) (l : List T_api_Cbor) (i : Nat), l.length ≤ n + i → l.length ≤ 10000000 → i ≤ l.length → M.l03_CborReads_k4 fuel p0 a b c t l (i : Int) = some (.go ()) := by
  intro n
  induction n with
  | zero =>
    intro l i h1 h2 h3
    unfold M.l03_CborReads_k4
    rw [if_neg (by simp; omega)]
  | succ n ih =>
    intro l i h1 h2 h3
    unfold M.l03_CborReads_k4
    by_cases hi : i < l.length
    · rw [if_pos (by simp; omega), ix_nat, List.getElem?_eq_getElem hi]
      simp only [Option.bind_eq_bind, Option.bind_some]
      unfold setx
      rw [if_pos (by omega)]
      simp only [Option.bind_some]
      rw [w64 (by omega) (by omega), show ((i : Int) + 1) = ((i + 1 : Nat) : Int) by omega]
      exact ih _ (i + 1) (by simp; omega) (by simpa using h2) (by simp; omega)
    · rw [if_neg (by simp; omega)]
theorem law_Reads (s : List UInt8) : M.l03_CborReads 17 s = some true := by
  unfold M.l03_CborReads
  have hd := decode_fst s
  have hl : (decode s).1.gList.length ≤ 10000 := by have := (decode s).1.sz_eq; have := szs_len (decode s).1.gList; omega
  have turn : ∀ t : Int, 0 ≤ t → t < 2 → M.l03_CborReads_k1 17 s t = M.l03_CborReads_k1 17 s (t + 1) := fun t h0 h2 => by
    rw [M.l03_CborReads_k1.eq_1]
    rw [if_pos (by simpa using h2), Decode_eq 17 s (by omega), r03_Decode_eq 17 s (by omega)]
    simp only [Option.bind_eq_bind, Option.bind_some, decide_true, Bool.not_true, Bool.or_self, Bool.false_eq_true, if_false]
    rw [Same_refl 17 _ hd.1 (by omega)]
    simp only [Option.bind_some, Bool.not_true, Bool.false_eq_true, if_false]
    have := reads_k4 17 s t (decode s).1.gKind (decode s).1.gNum (decode s).1.gText 10000 (decode s).1.gList 0 (by omega) (by omega) (by omega)
    rw [show ((0 : Nat) : Int) = 0 from rfl] at this
    rw [this]
    simp only [Option.bind_some]
    rw [w64 (by omega) (by omega)]
  rw [turn 0 (by omega) (by omega), turn (0 + 1) (by omega) (by omega), M.l03_CborReads_k1.eq_1, if_neg (by simp), awake_eq 17 (by omega)]
  rfl
theorem byS_mem (pr : T_api_Cbor → Bool) : ∀ (n : Nat) (l : List T_api_Cbor), l.length ≤ n → (byS pr l).1 = zeroT ∨ (byS pr l).1 ∈ l
  | _, [], _ => .inl rfl
  | _, [_], _ => .inl rfl
  | n + 2, k :: x :: r, h => by
    simp only [byS]
    split
    · exact .inr (by simp)
    · rcases byS_mem pr n r (by simp at h; omega) with h | h
      · exact .inl h
      · exact .inr (by simp [h])
  | 0, _ :: _ :: _, h => by simp at h
  | 1, _ :: _ :: _, h => by simp at h
theorem byP_dep (pr : T_api_Cbor → Bool) (v : T_api_Cbor) : (byP pr v).1.dep ≤ v.dep ∧ (byP pr v).1.sz ≤ v.sz := by
  have z : zeroT.dep = 1 ∧ zeroT.sz = 1 := by decide
  have h1 := v.dep_eq
  have h2 := v.sz_eq
  unfold byP
  split
  · rcases byS_mem pr v.gList.length v.gList (by omega) with h | h
    · rw [h]; omega
    · have := deps_mem h
      have := szs_mem h
      omega
  · simp only; omega
theorem byP_fit (pr : T_api_Cbor → Bool) (v : T_api_Cbor) (h : v.fit) : (byP pr v).1.fit := by
  have z : zeroT.fit := by simp [zeroT, T_api_Cbor.fit, fits]
  unfold byP
  split
  · rcases byS_mem pr v.gList.length v.gList (by omega) with e | e
    · rw [e]; exact z
    · exact fits_mem ((v.fit_eq).1 h).2 _ e
  · exact z
theorem law_Finds (v : T_api_Cbor) (n : Int) (s : List UInt8) (hz : v.fit) : M.l03_CborFinds (v.dep + 17) v n s = some true := by
  unfold M.l03_CborFinds
  have hv := ((v.fit_eq).1 hz).1
  have h1 := byP_dep (isInt n) v
  have h2 := byP_dep (isText s) v
  rw [ByInt_eq v n hv, rByInt_eq v n hv, ByText_eq v s hv, rByText_eq v s hv, awake_eq _ (by omega)]
  simp only [Option.bind_eq_bind, Option.bind_some, beq_self_eq_true, Bool.and_self, if_true]
  rw [Same_fit _ _ (by omega) (byP_fit _ _ hz), Same_fit _ _ (by omega) (byP_fit _ _ hz)]
  rfl
theorem encode_ok {v : T_api_Cbor} (h : (encode v).2 = 0) : checkV 0 v = 0 ∧ (encode v).1 = told v ∧ (told v).length ≤ 4096 := by
  unfold encode at h ⊢
  split at h
  · rename_i hc
    split at h
    · cases h
    · rename_i hl
      rw [if_pos hc, if_neg hl]
      exact ⟨hc, rfl, by omega⟩
  · rename_i hc
    exact absurd h hc
theorem decode_ok {s : List UInt8} (h : (decode s).2.2 = 0) : ∃ x r, decI 16 s = .ok (x, r) ∧ s.length ≤ 4096 ∧ decode s = (x, ((s.length - r.length : Nat) : Int), 0) := by
  unfold decode at h ⊢
  split at h
  · cases h
  · rename_i hl
    rw [if_neg hl]
    split at h
    · rename_i x r hx
      exact ⟨x, r, hx, by omega, rfl⟩
    · rename_i e he
      rcases decI_err 16 s e he with rfl | rfl <;> cases h
theorem decode_bad {s : List UInt8} (h : (decode s).2.2 ≠ 0) : (decode s).1 = zeroT ∧ (decode s).2.1 = 0 := by
  unfold decode at h ⊢
  split at h
  · rename_i hl
    rw [if_pos hl]
    exact ⟨rfl, rfl⟩
  · rename_i hl
    rw [if_neg hl]
    split at h
    · exact absurd rfl h
    · exact ⟨rfl, rfl⟩
theorem encode_form (v : T_api_Cbor) : ((decide ((encode v).2 = 0)) || (decide ((encode v).2 = 32))) = decide (checkV 0 v = 0) := by
  unfold encode
  rcases checkV_vals 0 v with h | h | h
  · rw [if_pos h, h]
    split <;> rfl
  · rw [h]; rfl
  · rw [h]; rfl
theorem back_k2 (fuel : Nat) (s : List UInt8) (hf : 17 ≤ fuel) : M.l03_CborBack_k2 fuel s = some true := by
  unfold M.l03_CborBack_k2
  rw [Decode_eq fuel s (by omega)]
  simp only [Option.bind_eq_bind, Option.bind_some]
  by_cases h : (decode s).2.2 = 0
  · obtain ⟨x, r, h1, h2, h3⟩ := decode_ok h
    obtain ⟨g1, g2, g3⟩ := decI_sound 16 (by omega) _ _ _ h1
    obtain ⟨g4, g5, g6⟩ := snd_len (decI_sound 16 (by omega)) h1
    have g7 := dep_le x 0 (by omega) g2
    rw [h3]
    simp only [decide_true, Bool.not_true, Bool.false_eq_true, if_false]
    have hl := congrArg List.length g1
    rw [List.length_append] at hl
    have he : encode x = (told x, 0) := by
      unfold encode
      rw [if_pos g2, if_neg (by omega)]
    rw [Encode_eq fuel x (by omega) g3 (by omega), he]
    simp only [Option.bind_some, decide_true, Bool.true_and]
    rw [decide_eq_true (by omega), decide_eq_true (by omega)]
    simp only [Bool.and_self, if_true]
    rw [show (0 : Int) = ((0 : Nat) : Int) from rfl, sub_nat s 0 _ (by omega) (by omega)]
    simp only [Option.bind_some, List.drop_zero]
    have : s.take (s.length - r.length) = told x := by
      rw [show s.length - r.length = (told x).length by omega]
      conv => lhs; rw [g1]
      simp
    rw [this]
    simp
  · obtain ⟨h1, h2⟩ := decode_bad h
    simp only [h, decide_false, Bool.not_false, if_true, h2, decide_true, h1]
    have := Same_refl fuel zeroT (by have : zeroT.dep = 1 := (by decide); omega) (by decide)
    change ((M.r03_Same fuel zeroT zeroT).bind _).bind _ = _
    rw [this]
    rfl
theorem law_Back (v : T_api_Cbor) (s : List UInt8) (ho : v.ok) (hz : v.sz ≤ 2000000) (hs : s.length ≤ 10000000) : M.l03_CborBack (v.dep + 17) v s = some true := by
  unfold M.l03_CborBack
  rw [Encode_eq _ v (by omega) ho (by omega), awake_eq _ (by omega), Check_eq _ v (by omega) ho (by omega)]
  simp only [Option.bind_eq_bind, Option.bind_some, Bool.not_true, Bool.false_eq_true, if_false, encode_form, beq_self_eq_true]
  by_cases h : (encode v).2 = 0
  · obtain ⟨h1, h2, h3⟩ := encode_ok h
    rw [h2]
    simp only [h, decide_true, Bool.true_and, decide_eq_true_eq]
    rw [w64 (by omega) (by omega)]
    by_cases hl : ((told v).length : Int) + (s.length : Int) ≤ 4096
    · rw [if_pos hl]
      unfold cat
      rw [if_pos (by omega)]
      simp only [Option.bind_some]
      rw [Decode_eq _ _ (by omega)]
      simp only [Option.bind_some]
      have hc := (decI_cpl 16 v (by omega) h1 ho (by omega)).1 s
      have hd : decode (told v ++ s) = (v, ((told v).length : Int), 0) := by
        unfold decode
        rw [if_neg (by simp; omega), hc]
        simp only [List.length_append, Nat.add_sub_cancel]
      rw [hd]
      simp only [decide_true, Bool.not_true, Bool.or_self, Bool.false_eq_true, if_false]
      rw [Same_refl _ v (by omega) (by omega)]
      simp only [Option.bind_some, Bool.not_true, Bool.false_eq_true, if_false]
      exact back_k2 _ s (by omega)
    · rw [if_neg hl]
      exact back_k2 _ s (by omega)
  · simp only [h, decide_false, Bool.false_and, Bool.false_eq_true, if_false]
    exact back_k2 _ s (by omega)
theorem law_Cuts (v : T_api_Cbor) (cut : Int) (ho : v.ok) (hz : v.sz ≤ 2000000) : M.l03_CborCuts (v.dep + 17) v cut = some true := by
  unfold M.l03_CborCuts
  rw [Encode_eq _ v (by omega) ho (by omega), awake_eq _ (by omega)]
  simp only [Option.bind_eq_bind, Option.bind_some, Bool.not_true, Bool.false_eq_true, if_false]
  by_cases h : (encode v).2 = 0
  · obtain ⟨h1, h2, h3⟩ := encode_ok h
    rw [h2]
    by_cases c : cut < 0 ∨ ((told v).length : Int) ≤ cut
    · rw [if_pos (by simp; omega)]
    · rw [if_neg (by simp; omega)]
      obtain ⟨n, rfl⟩ : ∃ n : Nat, cut = (n : Int) := ⟨cut.toNat, by omega⟩
      rw [show (0 : Int) = ((0 : Nat) : Int) from rfl, sub_nat _ 0 n (by omega) (by omega)]
      simp only [Option.bind_some, List.drop_zero]
      rw [Decode_eq _ _ (by omega)]
      have hc := (decI_cpl 16 v (by omega) h1 ho (by omega)).2 ((told v).take n) ((told v).drop n) (List.take_append_drop n _).symm (by
        intro e
        have := congrArg List.length e
        simp only [List.length_drop, List.length_nil] at this
        omega)
      have hd : decode ((told v).take n) = (zeroT, 0, 30) := by
        unfold decode
        rw [if_neg (by simp; omega), hc]
      rw [hd]
      simp only [Option.bind_some, decide_true, Bool.and_self, if_true]
      have := Same_refl (v.dep + 17) zeroT (by have : zeroT.dep = 1 := (by decide); omega) (by decide)
      change ((M.r03_Same (v.dep + 17) zeroT zeroT).bind _).bind _ = _
      rw [this]
      rfl
  · rw [if_pos (by simp [h])]
end Go.Proofs.YtmbckfhcljgniaaDoor
