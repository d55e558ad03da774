import Derived.Test.YtfhgkcjhgmoceaaGreatDoorCiJ
import Derived.Lib.Bytealg
import Derived.Lib.MakeNoZero
set_option linter.all false
namespace Go.Ci
open Go.RowKit Go.Lk Go.Lib
noncomputable section
def m64 : Nat := 18446744073709551616
def a64 (a : List CV) (H : Hp) : Option (Hp × Out) := match a with
  | [.int .u64 (.ofNat x), .int .u64 (.ofNat y), .int .u64 (.ofNat c)] => match Nat.ble c 1 with
    | true => some (H, .ret [.int .u64 (.ofNat (Nat.mod (Nat.add (Nat.add x y) c) m64)), .int .u64 (.ofNat (Nat.div (Nat.add (Nat.add x y) c) m64))])
    | false => none
  | _ => none
def s64 (a : List CV) (H : Hp) : Option (Hp × Out) := match a with
  | [.int .u64 (.ofNat x), .int .u64 (.ofNat y), .int .u64 (.ofNat c)] => match Nat.ble c 1 with
    | true => some (H, .ret [.int .u64 (.ofNat (Nat.mod (Nat.sub (Nat.sub (Nat.add x m64) y) c) m64)), .int .u64 (.ofNat (Bool.rec 0 1 (Nat.blt x (Nat.add y c))))])
    | false => none
  | _ => none
/-- Where a byte first stands. -/
def ixB (c : Nat) (l : List UInt8) : Nat → Int := List.rec (motive := fun _ => Nat → Int) (fun _ => .negSucc 0) (fun x _ ih i => Bool.rec (ih (Nat.succ i)) (.ofNat i) (Nat.beq x.toNat c)) l
def iBS (a : List CV) (H : Hp) : Option (Hp × Out) := match a with
  | [.str s, .int .u8 (.ofNat c)] => match Nat.blt c 256 with
    | true => some (H, .ret [.int .i64 (ixB c s 0)])
    | false => none
  | _ => none
def cnt (c : Nat) (l : List UInt8) : Nat := List.rec (motive := fun _ => Nat) 0 (fun x _ ih => Bool.rec ih (Nat.succ ih) (Nat.beq x.toNat c)) l
def cnS (a : List CV) (H : Hp) : Option (Hp × Out) := match a with
  | [.str s, .int .u8 (.ofNat c)] => match Nat.blt c 256 with
    | true => some (H, .ret [.int .i64 (.ofNat (cnt c s))])
    | false => none
  | _ => none
def mcl (a : List CV) (H : Hp) : Option (Hp × Out) := match a with
  | [.iface t (.mp b)] => match mapAt (H.get b) with
    | some (es, clk) => some (H.new (.map es clk), .ret [.iface t (.mp H.nx)])
    | none => none
  | _ => none
/-- bytealg.MakeNoZero: a row of whatever bytes (of the element type T). -/
def mnz (T : Nat) (a : List CV) (H : Hp) : Option (Hp × Out) := match a with
  | [.int .i64 (.ofNat n)] => match Nat.ble n 281474976710656 with
    | true => some (H.new (.row T []), .ret [.sl H.nx 0 1 n none])
    | false => none
  | _ => none
def nes (a : List CV) (H : Hp) : Option (Hp × Out) := match a with
  | [v] => some (H, .ret [v])
  | _ => none
end
def XOk (P : Program) (f : Nat) (g : List CV → Hp → Option (Hp × Out)) : Prop := ∀ args H H' o, g args H = some (H', o) → ∀ z N Φ w, HR z N Φ H w → Oks N Φ args → CallR P f (encs Φ args).toArray w (OutAt z N Φ H' o)
/-- A function without a body, which the model tells. -/
structure XFn (P : Program) (f : Nat) (e : Array Value → Sem Value) : Prop where
  h : ∃ fn, P.funcs[f]? = some fn ∧ (fn.name == "runtime.NumGoroutine") = false ∧ fn.body.isNone = true ∧ Extern.findNext fn = none ∧ Extern.find fn = some e
section
variable {P : Program} {f : Nat} {e : Array Value → Sem Value}
theorem XFn.run (X : XFn P f e) {args : Array Value} {w w' : World} {v : Value} (h : (e args).run P w = .ok v w') : (callFunc f args).run P w = .ok (.value v) w' := by
  obtain ⟨fn, h1, h2, h3, h4, h5⟩ := X.h
  rw [run_callFunc_extern h1 h2 h3 h4 h5, h]
  rfl
theorem XFn.val (X : XFn P f e) {args : Array Value} {w : World} {vs : List CV} {z : Bs} {N : Nat} {Φ : Ph} {H : Hp} (hr : HR z N Φ H w) (hv : Oks N Φ vs) (h : (e args).run P w = .ok (enc Φ (retC vs)) w) : CallR P f args w (OutAt z N Φ H (.ret vs)) :=
  .inr ⟨_, w, X.run h, N, Φ, ⟨hr, Ag.refl _ _, Nat.le_refl _⟩, rfl, hv⟩
theorem a64_ok (X : XFn P f add64Entry) : XOk P f a64 := by
  intro args H H' o h z N Φ w hr ha
  unfold a64 at h
  split at h
  · rename_i x y c
    split at h
    · rename_i hc
      have hc := Nat.le_of_ble_eq_true hc
      cases h
      refine X.val hr (by simp [Oks, Ok]) ?_
      have := run_add64 (P := P) (Int.ofNat x) (Int.ofNat y) (Int.ofNat c) (by simp) (by simp) (by simp) (by simp; omega) w
      refine this.trans ?_
      simp only [enc, encs, retC]
      rfl
    · cases h
  · cases h
def sub64E : Array Value → Sem Value := fun args => do
  let (x, y, b) ← Extern.MathBitsCarry.three "Sub64" args
  pure (Extern.MathBitsCarry.pair ((x + Extern.MathBitsCarry.m64 - y - b) % Extern.MathBitsCarry.m64) (if x < y + b then 1 else 0))
theorem s64_ok (X : XFn P f sub64E) : XOk P f s64 := by
  intro args H H' o h z N Φ w hr ha
  unfold s64 at h
  split at h
  · rename_i x y c
    split at h
    · rename_i hc
      have hc := Nat.le_of_ble_eq_true hc
      cases h
      refine X.val hr (by simp [Oks, Ok]) ?_
      have hb2 : (Bool.rec 0 1 (Nat.blt x (Nat.add y c)) : Nat) = if x < y + c then 1 else 0 := by
        by_cases h : x < y + c
        · rw [if_pos h, show Nat.blt x (Nat.add y c) = true from by rw [blt_eq]; exact decide_eq_true h]
        · rw [if_neg h, show Nat.blt x (Nat.add y c) = false from by rw [blt_eq]; exact decide_eq_false h]
      rw [hb2]
      have hc : c = 0 ∨ c = 1 := by omega
      rcases hc with rfl | rfl <;> rfl
    · cases h
  · cases h
theorem beq_u8 {x : UInt8} {c : Nat} (hc : c < 256) : Nat.beq x.toNat c = (x == c.toUInt8) := by
  rw [beqN, Bool.eq_iff_iff]
  simp only [decide_eq_true_eq, beq_iff_eq]
  constructor
  · intro h; apply UInt8.toNat_inj.1; rw [h]; simp [Nat.toUInt8]; omega
  · intro h; rw [h]; simp [Nat.toUInt8]; omega
theorem ixB_eq {c : Nat} (hc : c < 256) : ∀ (l : List UInt8) (i : Nat), ixB c l i = if indexByte l c.toUInt8 = -1 then -1 else (i : Int) + indexByte l c.toUInt8
  | [], i => by simp [indexByte]; rfl
  | x :: l, i => by
    show Bool.rec (motive := fun _ => Int) (ixB c l (i + 1)) (.ofNat i) (Nat.beq x.toNat c) = _
    rw [beq_u8 hc, ixB_eq hc l (i + 1)]
    have hge := indexByte_ge l c.toUInt8
    have e0 : indexByte (x :: l) c.toUInt8 = if x == c.toUInt8 then 0 else if indexByte l c.toUInt8 == -1 then -1 else indexByte l c.toUInt8 + 1 := rfl
    rcases Bool.eq_false_or_eq_true (x == c.toUInt8) with hx | hx
    · rw [hx, if_pos rfl] at e0
      rw [e0, hx]
      simp
    · rw [hx, if_neg Bool.false_ne_true] at e0
      rw [hx]
      show (if indexByte l c.toUInt8 = -1 then -1 else ((i + 1 : Nat) : Int) + indexByte l c.toUInt8) = _
      by_cases h : indexByte l c.toUInt8 = -1
      · rw [if_pos h]
        rw [h] at e0
        have e0 : indexByte (x :: l) c.toUInt8 = -1 := e0
        rw [if_pos e0]
      · rw [if_neg h]
        rw [if_neg (by simpa using h)] at e0
        rw [if_neg (by omega), e0]
        omega
theorem iBS_ok (X : XFn P f Extern.BytealgIndexByte.indexByte) : XOk P f iBS := by
  intro args H H' o h z N Φ w hr ha
  unfold iBS at h
  split at h
  · rename_i s c
    split at h
    · rename_i hc
      have hc := blt_ok hc
      cases h
      refine X.val hr (by simp [Oks, Ok]) ?_
      have := run_indexByteString (P := P) ⟨s.toArray⟩ (Int.ofNat c) w
      refine this.trans ?_
      simp only [enc, retC]
      rw [ixB_eq hc]
      have hge := indexByte_ge s c.toUInt8
      congr 2
      show indexByte s c.toUInt8 = _
      split <;> omega
    · cases h
  · cases h
theorem cnt_eq {c : Nat} (hc : c < 256) : ∀ (l : List UInt8), cnt c l = countByte l c.toUInt8
  | [] => rfl
  | x :: l => by
    show Bool.rec (motive := fun _ => Nat) (cnt c l) (Nat.succ (cnt c l)) (Nat.beq x.toNat c) = _
    rw [beq_u8 hc, cnt_eq hc l]
    unfold countByte
    rw [List.count_cons]
    cases x == c.toUInt8 <;> simp
theorem cnS_ok (X : XFn P f Extern.BytealgCount.count) : XOk P f cnS := by
  intro args H H' o h z N Φ w hr ha
  unfold cnS at h
  split at h
  · rename_i s c
    split at h
    · rename_i hc
      have hc := blt_ok hc
      cases h
      refine X.val hr (by simp [Oks, Ok]) ?_
      have := run_countString (P := P) ⟨s.toArray⟩ (Int.ofNat c) w
      refine this.trans ?_
      simp only [enc, retC]
      rw [cnt_eq hc]
      rfl
    · cases h
  · cases h
theorem mcl_ok (X : XFn P f Extern.MapsClone.clone) : XOk P f mcl := by
  intro args H H' o h z N Φ w hr ha
  unfold mcl at h
  split at h
  · rename_i t b
    split at h
    · rename_i es clk hm
      cases h
      obtain ⟨_, _, _, hb, he⟩ := hr.obj b _ (mapAt_some hm)
      have nx := hr.newO (x := .map es clk) (ob := .map (es.map (encE Φ)).toArray clk) (by
        have ag := Ph.new_ag Φ N w.heap.size 0
        refine ⟨?_, fun e h => ⟨(Ok.ag ag (by omega) (he e h).1).1, (Ok.ag ag (by omega) (he e h).2).1⟩⟩
        congr 3
        refine (List.map_congr_left fun e h => ?_)
        simp only [encE, (Ok.ag ag (by omega : N ≤ N + 1) (he e h).1).2, (Ok.ag ag (by omega : N ≤ N + 1) (he e h).2).2])
      refine .inr ⟨.iface t (.map (some w.heap.size)), _, X.run (w' := w.alloc (.map (es.map (encE Φ)).toArray clk)) ?_, _, _, nx, ?_, ?_⟩
      · show (Extern.MapsClone.clone #[.iface t (.map (some (Φ.blk b)))]).run P w = _
        show Sem.run P (do
          let .map entries clock ← getObj (Φ.blk b) | stuck "maps.clone: a map expected"
          pure (Value.iface t (.map (some (← newObj (.map entries clock)))))) w = _
        simp [MapKept.run_getObj_map hb, newObj, Sem.run_bind]
        rfl
      · simp only [enc, retC, hr.nx, Ph.new_blk]
      · simp only [Oks, Ok, hr.nx]
        exact ⟨by omega, trivial⟩
    · cases h
  · cases h
theorem mnz_ok {ps : Array TypeId} {t e : TypeId} (ht : P.underlying t = some (.slice e)) (X : XFn P f (Extern.BytealgMakeNoZero.makeNoZero ps #[t])) : XOk P f (mnz e) := by
  intro args H H' o h z N Φ w hr ha
  unfold mnz at h
  split at h
  · rename_i k
    split at h
    · rename_i hk
      have hk := ble_ok hk
      cases h
      obtain ⟨cs, h1, h2, h3⟩ := run_makeNoZero (P := P) w ps t e ht k hk
      have h3 := h3 (by unfold maxLen; omega)
      have nx := hr.newRow (w' := w.drew.drew.alloc (.cells cs e)) (cs := []) (ex := cs.toList) (T := e) (l := cs.size) (fr := (0, 0)) (((Ext.drew _ w).trans (Ext.drew _ _)).trans (Ext.alloc _ _ _)) (by
        have := alloc_at w.drew.drew (.cells cs e)
        rw [show w.drew.drew.heap.size = w.heap.size from rfl] at this
        rw [this]
        simp [encs]) trivial rfl (Nat.zero_le _) (by simp) (fun j hj k => by omega)
      refine .inr ⟨_, _, X.run h1, _, _, nx, ?_, ?_⟩
      · simp only [enc, retC, hr.nx, Ph.new_blk, Ph.new_lim, Nat.sub_zero, Nat.div_one]
      · simp only [Oks, Ok, hr.nx, Ph.new_lim]
        exact ⟨⟨by omega, by omega, cs.size, by omega, h2, h3⟩, trivial⟩
    · cases h
  · cases h
theorem nes_ok (X : XFn P f Extern.AbiNoEscape.same) : XOk P f nes := by
  intro args H H' o h z N Φ w hr ha
  unfold nes at h
  split at h
  · rename_i v
    cases h
    exact X.val hr ha rfl
  · cases h
/-- From a contract of the kit's: data, and nothing of before turned. -/
theorem x_calls (ent : ∀ args w, (callFunc f args).run P w = .ok (.enter f args) w) {args : Array Value} {w : World} {vs : List CV} {z : Bs} {N : Nat} {Φ : Ph} {H : Hp} (hr : HR z N Φ H w) (hv : Oks N Φ vs) (h : Calls P f args w (fun e w' => e = .returned (enc Φ (retC vs)) ∧ Ext Nowhere w w')) : CallR P f args w (OutAt z N Φ H (.ret vs)) :=
  .inl ⟨ent, h.mono fun e w' hq => by
    obtain ⟨rfl, x⟩ := hq
    exact ⟨N, Φ, ⟨hr.same x, Ag.refl _ _, Nat.le_refl _⟩, rfl, hv⟩⟩
end
/-! A table of them. -/
abbrev XL := List (Nat × (List CV → Hp → Option (Hp × Out)))
noncomputable def xTr (l : XL) : T (List CV → Hp → Option (Hp × Out)) := List.rec (motive := fun _ => T (List CV → Hp → Option (Hp × Out))) .e (fun p _ t => t.put (some p.2) p.1) l
theorem xTr_mem : ∀ {l : XL} {f : Nat} {g : List CV → Hp → Option (Hp × Out)}, (xTr l).get f = some g → (f, g) ∈ l
  | [], f, g, h => by
    have h0 : (T.e : T (List CV → Hp → Option (Hp × Out))).get f = some g := h
    rw [T.get_e] at h0
    cases h0
  | p :: l, f, g, h => by
    have h2 : ((xTr l).put (some p.2) p.1).get f = some g := h
    rw [T.get_put] at h2
    split at h2
    · rename_i e
      cases h2
      rw [e]
      exact List.mem_cons_self
    · exact List.mem_cons_of_mem _ (xTr_mem h2)
theorem xl_ok {P : Program} {l : XL} (h : ∀ p ∈ l, XOk P p.1 p.2) : ExtOk P (fun f => (xTr l).get f) := fun f g hf => h (f, g) (xTr_mem hf)
end Go.Ci
