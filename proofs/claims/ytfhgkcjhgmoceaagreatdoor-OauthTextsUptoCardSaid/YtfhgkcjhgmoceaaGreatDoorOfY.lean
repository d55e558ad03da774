import Derived.Test.YtfhgkcjhgmoceaaGreatDoorOfX
import Derived.Test.YtfhgkcjhgmoceaaGreatDoorOfV
import Derived.Test.YtfhgkcjhgmoceaaGreatDoorOfCI
set_option linter.all false
namespace Go.Proofs.YtfhgkcjhgmoceaaGreatDoor
open Go.Ci Go.Lk Go.Proofs Go.RowKit
set_option maxRecDepth 1000000
noncomputable section
/-! json.single: are these texts all different? -/
def strsQ : List CV → Option (List (List UInt8))
  | [] => some []
  | .str s :: r => match strsQ r with
    | some l => some (s :: l)
    | none => none
  | _ => none
def inQ (s : List UInt8) : List (List UInt8) → Bool
  | [] => false
  | x :: r => strEq s x || inQ s r
def dupQ : List (List UInt8) → Bool
  | [] => false
  | x :: r => inQ x r || dupQ r
def sng1 (H : Hp) : Option (List CV) → Option (Hp × Out)
  | some cs => match strsQ cs with
    | some l => some (H, .ret [.bool (!dupQ l)])
    | none => none
  | none => none
def sng (a : List CV) (H : Hp) : Option (Hp × Out) := match a with
  | [.sl b off m len _] => match Nat.beq m 1 && Nat.ble (Nat.mul len 16) 140737488355328 with
    | true => sng1 H (cellsAt H b off len)
    | false => none
  | [.snil] => some (H, .ret [.bool true])
  | _ => none
/-! codec.index in a text of bytes below 128. -/
def ascQ (s : List UInt8) : Bool := s.all fun b => Nat.blt b.toNat 128
def idxA (a : List CV) (H : Hp) : Option (Hp × Out) := match a with
  | [.str s, .int .u8 (.ofNat c)] => match ascQ s && Nat.blt c 128 with
    | true => some (H, .ret [.int .i64 (ixB c s 0)])
    | false => none
  | _ => none
/-! bits.RotateLeft32. -/
def rotS (k : Int) : Nat := Nat.land (modC .u64 (wrapC .u64 k)) (modC .u64 (.ofNat 31))
def rotR (x k : Int) : Int := sgnC .u32 (Nat.lor (modC .u32 (wrapC .u32 (Int.mul x (.ofNat (pow2 .u32 (rotS k)))))) (modC .u32 (shrC .u32 x (modC .u64 (Int.sub (.ofNat 32) (.ofNat (rotS k)))))))
def rot (a : List CV) (H : Hp) : Option (Hp × Out) := match a with
  | [.int .u32 x, .int .i64 k] => some (H, .ret [.int .u32 (rotR x k)])
  | _ => none
end
theorem strsQ_ok {Φ : Ph} : ∀ {cs : List CV} {zs : List (List UInt8)}, strsQ cs = some zs → encs Φ cs = zs.map encStr
  | [], zs, h => by cases h; rfl
  | c :: r, zs, h => by
    unfold strsQ at h
    split at h
    · rename_i e; cases e
    · rename_i s r' e
      cases e
      split at h
      · rename_i l hl
        cases h
        simp only [encs, strsQ_ok hl]
        rfl
      · cases h
    · cases h
theorem inQ_eq (s : List UInt8) : ∀ l, inQ s l = decide (s ∈ l)
  | [] => rfl
  | x :: r => by
    unfold inQ
    rw [inQ_eq s r, strEq_eq]
    simp [List.mem_cons]
theorem dupQ_eq : ∀ l, (!dupQ l) = decide l.Nodup
  | [] => rfl
  | x :: r => by
    unfold dupQ
    rw [inQ_eq, Bool.not_or, dupQ_eq r]
    simp [List.nodup_cons]
instance : Std.Antisymm (α := List UInt8) (· ≤ ·) := ⟨fun _ _ h1 h2 => List.le_antisymm h1 h2⟩
theorem sorted_ms (l : List (List UInt8)) : (l.mergeSort fun x y => decide (x ≤ y)).Pairwise (· ≤ ·) := by
  have := List.pairwise_mergeSort (le := fun x y : List UInt8 => decide (x ≤ y)) (by intro a b c h1 h2; simp only [decide_eq_true_eq] at *; exact List.le_trans h1 h2) (by intro a b; simp only [Bool.or_eq_true, decide_eq_true_eq]; exact List.le_total a b) l
  exact this.imp fun h => by simpa using h
theorem sorted_nodup {m : List (List UInt8)} (hs : m.Pairwise (· ≤ ·)) : (∀ j, j < m.length → Lib.keeps m.toArray j = true) ↔ m.Nodup := by
  have get : ∀ i (h : i < m.length), m.toArray[i]! = m[i] := fun i h => by simp [h]
  rw [List.pairwise_iff_getElem] at hs
  constructor
  · intro hk
    rw [List.nodup_iff_pairwise_ne, List.pairwise_iff_getElem]
    intro i j hi hj hij he
    have h1 := hk j hj
    unfold Lib.keeps at h1
    simp only [decide_eq_true_eq] at h1
    rcases h1 with h1 | h1
    · omega
    · rw [get j hj, get (j - 1) (by omega)] at h1
      apply h1
      have h3 : m[j - 1] ≤ m[j] := hs (j - 1) j (by omega) hj (by omega)
      rcases Nat.lt_or_ge i (j - 1) with h | h
      · have h2 : m[i] ≤ m[j - 1] := hs i (j - 1) hi (by omega) h
        rw [he] at h2
        exact List.le_antisymm h2 h3
      · have : i = j - 1 := by omega
        subst this
        exact he.symm
  · intro hn j hj
    unfold Lib.keeps
    simp only [decide_eq_true_eq]
    rcases Nat.eq_zero_or_pos j with h | h
    · exact .inl h
    · refine .inr ?_
      rw [get j hj, get (j - 1) (by omega)]
      rw [List.nodup_iff_pairwise_ne, List.pairwise_iff_getElem] at hn
      exact fun e => hn (j - 1) j (by omega) hj (by omega) e.symm
theorem compact_len (m : List (List UInt8)) : (Lib.compact m).length = m.length ↔ ∀ j, j < m.length → Lib.keeps m.toArray j = true := by
  unfold Lib.compact Lib.compactUpTo
  rw [List.length_map]
  conv => lhs; rhs; rw [← List.length_range (n := m.length)]
  rw [List.length_filter_eq_length_iff]
  simp
theorem single_eq (l : List (List UInt8)) : decide (((Lib.compact (l.mergeSort fun x y => decide (x ≤ y))).length : Int) = l.length) = !dupQ l := by
  rw [dupQ_eq]
  apply decide_eq_decide.2
  rw [← List.Perm.nodup_iff (List.mergeSort_perm l fun x y => decide (x ≤ y)), ← sorted_nodup (sorted_ms l), ← compact_len, List.length_mergeSort]
  omega
theorem sng_ok : XOk Tryz.prog 346 sng := by
  intro args H H' o h z N Φ w hr ha
  unfold sng at h
  split at h
  · rename_i b off m len cap
    split at h
    · rename_i hq
      rw [Bool.and_eq_true] at hq
      obtain rfl := Nat.eq_of_beq_eq_true hq.1
      have hq2 : len * 16 ≤ 140737488355328 := ble_ok hq.2
      unfold sng1 at h
      split at h
      · rename_i cs hc
        split at h
        · rename_i l hl
          cases h
          obtain ⟨c1, _, _, c4⟩ := hr.cells hc
          have e := strsQ_ok (Φ := Φ) hl
          have e2 : l.length = len := by
            have := congrArg List.length e
            rw [encs_len, List.length_map, c1] at this
            exact this.symm
          obtain ⟨cp, hcp⟩ : ∃ cp, enc Φ (.sl b off 1 len cap) = .slice (some ⟨Φ.blk b, off, none⟩) len cp := ⟨_, rfl⟩
          have hb : Φ.blk b < w.heap.size := by
            unfold cellsAt at hc
            split at hc
            · rename_i l2 hl2
              obtain ⟨ob, g1, _⟩ := hr.rdRow hl2
              exact (hr.obj b _ g1).2.2.1
            · cases hc
          have hT : Texts w (.slice (some ⟨Φ.blk b, off, none⟩) len cp) l := .inr ⟨Φ.blk b, off, cp, by rw [e2], hb, fun j hj => by
            refine c4 j _ ?_
            rw [e, List.getElem?_map, List.getElem?_eq_getElem hj]
            simp [hj]⟩
          have hlow := single_low w (some ⟨Φ.blk b, off, none⟩) len cp l (by rw [e2]; exact hq2) e2.symm hT
          simp only [encs, hcp]
          refine x_calls (ents.run Tryz.func346 rfl) hr ⟨trivial, trivial⟩ (hlow.mono fun en w' hh => ?_)
          obtain ⟨rfl, hbel⟩ := hh
          refine ⟨?_, .of_below hbel⟩
          simp only [retC, enc]
          rw [single_eq]
        · cases h
      · cases h
    · cases h
  · cases h
    have hlow := single_low w none 0 0 [] (by simp) rfl (.inl ⟨none, rfl, rfl⟩)
    simp only [encs, enc]
    refine x_calls (ents.run Tryz.func346 rfl) hr ⟨trivial, trivial⟩ (hlow.mono fun en w' hh => ?_)
    obtain ⟨rfl, hbel⟩ := hh
    refine ⟨?_, .of_below hbel⟩
    simp only [retC, enc]
    rw [single_eq]
    rfl
  · cases h
theorem idx_asc {s : List UInt8} (ha : ascQ s = true) {c : Nat} (hc : c < 128) : ∀ (f pos : Nat), s.length ≤ pos + f → Lib.idxFuncFrom (fun r => decide ((r : Int) % 256 = (c : Int))) true ⟨s.toArray⟩ f pos = ixB c (s.drop pos) pos := by
  have hsz : (⟨s.toArray⟩ : ByteArray).size = s.length := by simp [ByteArray.size]
  have hs : ∀ (x : UInt8) (l : List UInt8) (i : Nat), ixB c (x :: l) i = Bool.rec (motive := fun _ => Int) (ixB c l (i + 1)) (.ofNat i) (Nat.beq x.toNat c) := fun _ _ _ => rfl
  intro f
  induction f with
  | zero =>
    intro pos h
    rw [List.drop_eq_nil_of_le (by omega)]
    rfl
  | succ f ih =>
    intro pos h
    unfold Lib.idxFuncFrom
    rw [hsz]
    by_cases hp : pos < s.length
    · have hb : (s[pos]).toNat < 128 := by
        unfold ascQ at ha
        rw [List.all_eq_true] at ha
        exact blt_ok (ha _ (List.getElem_mem hp))
      rw [if_pos hp, List.drop_eq_getElem_cons hp, hs, decode_ascii ⟨s.toArray⟩ pos (by rw [hsz]; exact hp) hb]
      have e : ((⟨s.toArray⟩ : ByteArray)[pos]'(by rw [hsz]; exact hp)).toNat = (s[pos]).toNat := rfl
      simp only [e]
      by_cases hx : (s[pos]).toNat = c
      · rw [hx, Nat.beq_refl]
        have : decide (((c : Nat) : Int) % 256 = (c : Int)) = true := decide_eq_true (by omega)
        rw [this]
        simp
      · have h1 : Nat.beq (s[pos]).toNat c = false := by rw [beqN, decide_eq_false hx]
        have : decide ((((s[pos]).toNat : Nat) : Int) % 256 = (c : Int)) = false := decide_eq_false (by omega)
        rw [h1, this, if_neg Bool.false_ne_true]
        exact ih (pos + 1) (by omega)
    · rw [if_neg hp, List.drop_eq_nil_of_le (by omega)]
      rfl
theorem idxA_ok : XOk Tryz.prog 165 idxA := by
  intro args H H' o h z N Φ w hr ha
  unfold idxA at h
  split at h
  · rename_i s c
    split at h
    · rename_i hq
      rw [Bool.and_eq_true] at hq
      have hc := blt_ok hq.2
      cases h
      simp only [encs, enc]
      refine x_calls (ents.run Tryz.func165 rfl) hr ⟨trivial, trivial⟩ ((codecIndex_low ⟨s.toArray⟩ (c : Int) w).mono fun en w' hh => ?_)
      obtain ⟨rfl, hbel⟩ := hh
      refine ⟨?_, .of_below hbel⟩
      simp only [retC, enc]
      unfold Lib.idxFunc
      rw [idx_asc hq.1 hc _ _ (by simp [ByteArray.size])]
      rfl
    · cases h
  · cases h
theorem rot_sym (x k : Int) (H : Hp) : callR Tryz.prog (fun _ => none) (fun f => Nat.beq f 198) 2 198 [.int .u32 x, .int .i64 k] H = some (H, .ret [.int .u32 (rotR x k)]) := by
  kernel_rfl
theorem rot_ok : XOk Tryz.prog 198 rot := by
  have hc : CallOk Tryz.prog (callR Tryz.prog (fun _ => none) (fun f => Nat.beq f 198) 2) := call_ok (fun f hf => by rw [Nat.eq_of_beq_eq_true hf]; kernel_rfl) mixed ents (fun f g e => by cases e) 2
  intro args H H' o h z N Φ w hr ha
  unfold rot at h
  split at h
  · cases h
    exact hc _ _ _ _ _ (rot_sym _ _ _) z N Φ w hr ha
  · cases h
noncomputable def xt198 : Xt := fun f => (xTr [(198, rot)]).get f
theorem ror_sym (x k : Int) (H : Hp) : callR Tryz.prog xt198 (fun f => Nat.beq f 197) 3 197 [.int .u32 x, .int .i64 k] H = some (H, .ret [.int .u32 (rotR x (wrapC .i64 (Int.neg k)))]) := by
  kernel_rfl
noncomputable def ror (a : List CV) (H : Hp) : Option (Hp × Out) := match a with
  | [.int .u32 x, .int .i64 k] => some (H, .ret [.int .u32 (rotR x (wrapC .i64 (Int.neg k)))])
  | _ => none
theorem ror_ok : XOk Tryz.prog 197 ror := by
  have hc : CallOk Tryz.prog (callR Tryz.prog xt198 (fun f => Nat.beq f 197) 3) := call_ok (fun f hf => by rw [Nat.eq_of_beq_eq_true hf]; kernel_rfl) mixed ents (xl_ok fun p hp => by
    rw [List.mem_singleton] at hp
    subst hp
    exact rot_ok) 3
  intro args H H' o h z N Φ w hr ha
  unfold ror at h
  split at h
  · cases h
    exact hc _ _ _ _ _ (ror_sym _ _ _) z N Φ w hr ha
  · cases h
end Go.Proofs.YtfhgkcjhgmoceaaGreatDoor
