/- The lockstep walk: the models' words, and the typed forms of the laws on data. It speaks of no program. -/
import Derived.Test.YtcfkkgpnggdlnaaGreatDoorLkE
set_option linter.all false
namespace Go.Lk
open Go.RowKit

/-- What a function that may panic comes to. -/
inductive Res (α : Type) where
  | ok (a : α)
  | pan (v : Value)

theorem bnd {α β : Type} {x : Option α} {f : α → Option β} {r : β} (h : (x >>= f) = some r) : ∃ a, x = some a ∧ f a = some r := by
  cases x with
  | none => cases h
  | some a => exact ⟨a, rfl, h⟩
/-- How a loop within a loop ends: with the function's answer, or behind the loop. -/
inductive Jn (R α : Type) where
  | done (r : R)
  | go (a : α)
theorem bndF {α β : Type} {x : Option α} {f : α → Option β} {r : β} (h : (x >>= f) = some r) : ∃ (F : α → Option β) (a : α), F = f ∧ x = some a ∧ F a = some r := by
  obtain ⟨a, h1, h2⟩ := bnd h
  exact ⟨f, a, rfl, h1, h2⟩
theorem ite_t {α : Type} {b : Bool} {x y z : α} (hb : b = true) (h : (if b = true then x else y) = z) : x = z := by rw [if_pos hb] at h; exact h
theorem ite_f {α : Type} {b : Bool} {x y z : α} (hb : b = false) (h : (if b = true then x else y) = z) : y = z := by rw [if_neg (by rw [hb]; exact Bool.false_ne_true)] at h; exact h

def chk (b : Bool) : Option Unit := if b then some () else none
theorem chk_some {b : Bool} {u : Unit} (h : chk b = some u) : b = true := by
  cases b with
  | true => rfl
  | false => cases h
def ix {α : Type} (l : List α) (i : Int) : Option α := if 0 ≤ i then l[i.toNat]? else none
theorem ix_some {α : Type} {l : List α} {i : Int} {x : α} (h : ix l i = some x) : ∃ j : Nat, i = (j : Nat) ∧ l[j]? = some x := by
  unfold ix at h
  split at h
  · exact ⟨i.toNat, by omega, h⟩
  · cases h
def sub {α : Type} (l : List α) (a b : Int) : Option (List α) := if 0 ≤ a ∧ a ≤ b ∧ b ≤ (l.length : Int) then some ((l.take b.toNat).drop a.toNat) else none
theorem sub_some {α : Type} {l : List α} {a b : Int} {x : List α} (h : sub l a b = some x) : ∃ p q : Nat, a = (p : Nat) ∧ b = (q : Nat) ∧ p ≤ q ∧ q ≤ l.length ∧ x = (l.take q).drop p := by
  unfold sub at h
  split at h
  · rename_i hc
    cases h
    exact ⟨a.toNat, b.toNat, by omega, by omega, by omega, by omega, rfl⟩
  · cases h
def cat (a b : List UInt8) : Option (List UInt8) := if a.length + b.length ≤ 9223372036854775807 then some (a ++ b) else none
theorem cat_some {a b x : List UInt8} (h : cat a b = some x) : x = a ++ b ∧ a.length + b.length ≤ 9223372036854775807 := by
  unfold cat at h
  split at h
  · rename_i hc
    cases h
    exact ⟨rfl, hc⟩
  · cases h
/-- l and l2 behind it, elements of so many bytes. -/
def app {α : Type} (by_ : Nat) (l l2 : List α) : Option (List α) := if (l.length + l2.length) * by_ ≤ 140737488355328 then some (l ++ l2) else none
theorem app_some {α : Type} {by_ : Nat} {l l2 x : List α} (h : app by_ l l2 = some x) : x = l ++ l2 ∧ (l.length + l2.length) * by_ ≤ 140737488355328 := by
  unfold app at h
  split at h
  · rename_i hc
    cases h
    exact ⟨rfl, hc⟩
  · cases h

/-- The data of plain elements. -/
def eI (k : IntKind) (n : Int) : List D := [.int k n]
def eB (b : Bool) : List D := [.bool b]
def eS (s : List UInt8) : List D := [.str s]

section
variable {α : Type} {f : α → List D} {l : List α} {w : World} {O : Nat → Prop} {T n : Nat} {v : Value}
theorem RD.elem' {i : Nat} {x : α} (h : RD w O (.sl T n (l.map f)) v) (hi : l[i]? = some x) :
    ∃ b q cap, v = .slice (some ⟨b, q, none⟩) l.length cap ∧ i < l.length ∧ ElemAt w O b (q + i * n) n (f x) := by
  have := RD.elem h (i := i) (x := f x) (by simp [hi])
  simpa using this
theorem RD.len' (h : RD w O (.sl T n (l.map f)) v) : ∃ p c, v = .slice p l.length c := by simpa using RD.len h
theorem Own.len' (h : Own w O T n v (l.map f)) : ∃ p c, v = .slice p l.length c := by simpa using Own.len h
theorem RD.sub' {P : Program} {t : Nat} {a b : Nat} {lo hi : Option Value} {g : Bool} (ht : P.underlying t = some (.slice T)) (hT : shp P T = some (g, n)) (h : RD w O (.sl T n (l.map f)) v)
    (hlo : LoV lo a 0) (hhi : LoV hi b l.length) (hab : a ≤ b) (hb : b ≤ l.length) :
    ∃ v', (Instr.sliceAt t v lo hi none).run P w = .ok v' w ∧ RD w O (.sl T n (((l.take b).drop a).map f)) v' := by
  have := RD.sub ht hT h hlo (by simpa using hhi) hab (by simpa using hb)
  simpa using this
end

section
variable {C : Cx} {n : Nat} {ds : List Deferred} {k : Act → World → Prop} {L : Env} {w : World} {ops : Array Oper} {o : Oper} {rest : List Oper} {d : Nat} {v : Value}
theorem OW.appendL' {α : Type} {f : α → List D} {l l2 : List α} {O : Nat → Prop} {t T m by_ : Nat} {x y : Operand} {z vx vy : Value} (hg : o.guard = none) (hd : o.dst = some d) (hn : Nat.blt d n = true) (ho : o.op = .call { callee := .builtin .append, args := #[x, y], argTypes := #[t, t] })
    (ht : C.P.underlying t = some (.slice T)) (hi : inf C.P T = some (z, m, by_)) (hz : z.cells.size = m) (hm : Nat.blt 0 m = true) (hby : Nat.blt 0 by_ = true) (hx : ev L x = some vx) (hy : ev L y = some vy)
    (hown : Own w O T m vx (l.map f)) (hB : Bd O w) (hdat : RD w O (.sl T m (l2.map f)) vy) (hb : (l.length + l2.length) * by_ ≤ 140737488355328)
    (h : ∀ v' w' O', Grew w O T m vx w' O' v' ((l ++ l2).map f) → OW C n ds ops rest k ((d, v') :: L) w') : OW C n ds ops (o :: rest) k L w :=
  OW.appendL hg hd hn ho ht hi hz hm hby hx hy hown hB hdat (by simpa using hb) (by simpa using h)
/-- A part of a slice of data. -/
theorem OW.sliceL' {α : Type} {f : α → List D} {l : List α} {O : Nat → Prop} {T m : Nat} {t : TypeId} {gg : Bool} {x : Operand} {lo hi : Option Operand} {u : Value} {a b : Nat} (hg : o.guard = none) (hd : o.dst = some d) (hn : Nat.blt d n = true) (ho : o.op = .slice t x lo hi none)
    (ht : C.P.underlying t = some (.slice T)) (hT : shp C.P T = some (gg, m)) (hx : ev L x = some u) (hr : RD w O (.sl T m (l.map f)) u)
    (hlo : Lo L lo a 0) (hhi : Lo L hi b l.length) (hab : a ≤ b) (hb : b ≤ l.length)
    (h : ∀ v', RD w O (.sl T m (((l.take b).drop a).map f)) v' → OW C n ds ops rest k ((d, v') :: L) w) : OW C n ds ops (o :: rest) k L w := fun ac ha => by
  obtain ⟨v', h5, h6⟩ := RD.sub' (P := C.P) (w := w) ht hT hr (hlo.val ha) (hhi.val ha) hab hb
  refine OW.val (L := L) (v := v') (w' := w) hg hd hn (fun a2 ha2 => ?_) (h v' h6) ac ha
  have e1 : lo.map a2.eval = lo.map ac.eval := by
    cases lo with
    | none => rfl
    | some y => obtain ⟨kd, i, h1, _⟩ := hlo; simp [ha.ev h1, ha2.ev h1]
  have e2 : hi.map a2.eval = hi.map ac.eval := by
    cases hi with
    | none => rfl
    | some y => obtain ⟨kd, i, h1, _⟩ := hhi; simp [ha.ev h1, ha2.ev h1]
  simp only [execOp, ho, ha2.ev hx, e1, e2, Option.map_none, Sem.run_bind, h5, Result.andThen_ok]
  rfl
theorem OW.indexAddrV {t T m : TypeId} {gg : Bool} {x y : Operand} {b q len cap : Nat} {kd : IntKind} {i : Int} {j : Nat} {u : Value} (hg : o.guard = none) (hd : o.dst = some d) (hn : Nat.blt d n = true) (ho : o.op = .indexAddr t x y)
    (ht : C.P.underlying t = some (.slice T)) (hT : shp C.P T = some (gg, m)) (hx : ev L x = some u) (hu : u = .slice (some ⟨b, q, none⟩) len cap) (hy : ev L y = some (.int kd i)) (hi : i = (j : Nat)) (hj : j < len)
    (h : OW C n ds ops rest k ((d, .pointer (some ⟨b, q + j * m, none⟩)) :: L) w) : OW C n ds ops (o :: rest) k L w :=
  OW.indexAddr hg hd hn ho ht hT (by rw [hx, hu]) hy hi hj h
theorem EX.indexAddrV {t T m : TypeId} {gg : Bool} {x y : Operand} {b q len cap : Nat} {kd : IntKind} {i : Int} {j : Nat} {u : Value} (ho : o.op = .indexAddr t x y)
    (ht : C.P.underlying t = some (.slice T)) (hT : shp C.P T = some (gg, m)) (hx : ev L x = some u) (hu : u = .slice (some ⟨b, q, none⟩) len cap) (hy : ev L y = some (.int kd i)) (hi : i = (j : Nat)) (hj : j < len) :
    EX C n L w o (.pointer (some ⟨b, q + j * m, none⟩)) := EX.indexAddr ho ht hT (by rw [hx, hu]) hy hi hj
theorem EX.lenV {t e : TypeId} {x : Operand} {u : Value} {l : Nat} (ho : o.op = .call { callee := .builtin .len, args := #[x], argTypes := #[t] })
    (ht : C.P.underlying t = some (.slice e)) (hx : ev L x = some u) (hu : ∃ p c, u = .slice p l c) : EX C n L w o (.int .i64 (l : Nat)) := by
  obtain ⟨p, c, rfl⟩ := hu
  exact EX.lenL ho ht hx
theorem OW.panicI {x : Operand} {T : TypeId} {u : Value} (hg : o.guard = none) (ho : o.op = .panic x) (hx : ev L x = some (.iface T u)) (h : C.R (.panicked [{ v := .iface T u, recovered := false }]) w) : OW C n [] ops (o :: rest) k L w :=
  OW.pan (v := .iface T u) (w' := w) hg (fun a ha => by simp [execOp, ho, ha.ev hx, Instr.panic]) h
theorem CallK.ret {v : Value} {d : Nat} (h : OW C n ds ops rest k ((d, v) :: L) w) : CallK C n ds ops rest k L (some d) (.returned v) w := h
theorem CallK.ret0 {v : Value} (h : OW C n ds ops rest k L w) : CallK C n ds ops rest k L none (.returned v) w := h
theorem CallK.pan {ch : List PanicEntry} {dd : Option Nat} (h : C.R (.panicked ch) w) : CallK C n [] ops rest k L dd (.panicked ch) w := fun _ _ hd => PN.nil hd h
theorem CallK.panD {ch : List PanicEntry} {dd : Option Nat} (hl : C.lv = true) (hN : C.dfr = false) (h : LV C n ds L w (.panicking ch)) : CallK C n ds ops rest k L dd (.panicked ch) w := fun a ha hd => by
  unfold PN
  rw [hl, hN]
  exact hd ▸ h a ha hd
theorem OW.sub {L' : Env} (hs : ∀ t v, Env.get L' t = some v → Env.get L t = some v) (h : OW C n ds ops rest k L' w) : OW C n ds ops rest k L w := fun a ha hd => h a (ha.sub hs) hd
/-- The ways through the first m operations meet again. -/
theorem OW.blk {r1 : List Oper} {L0 : Env} {w0 : World} (m : Nat) (Φ : (Env → World → Prop) → Prop) (h1 : Φ (fun L w => OW C n ds ops (r1.drop m) k L w)) (h2 : Φ (fun L w => OW C n ds ops (r1.drop m) k L w) → OW C n ds ops r1 k L0 w0) : OW C n ds ops r1 k L0 w0 := h2 h1
theorem TW.blk {it : Item} {k' : List Item} {L0 : Env} {w0 : World} (Φ : (Env → World → Prop) → Prop) (h1 : Φ (fun L w => TW C n ds k' L w)) (h2 : Φ (fun L w => TW C n ds k' L w) → TW C n ds (it :: k') L0 w0) : TW C n ds (it :: k') L0 w0 := h2 h1
theorem TW.blk2 {it it2 : Item} {k' : List Item} {L0 : Env} {w0 : World} (Φ : (Env → World → Prop) → Prop) (h1 : Φ (fun L w => TW C n ds k' L w)) (h2 : Φ (fun L w => TW C n ds k' L w) → TW C n ds (it :: it2 :: k') L0 w0) : TW C n ds (it :: it2 :: k') L0 w0 := h2 h1
theorem TW.lp {k : List Item} {c : Code} {L0 : Env} {w0 : World} (Φ : (Env → World → Prop) → Prop)
    (h1 : ∀ K : Env → World → Prop, (∀ L w, TW C n ds (.code c :: .inLoop c :: k) L w → K L w) → (∀ L w, K L w → TW C n ds (.inLoop c :: k) L w) → Φ K)
    (h2 : Φ (fun L w => TW C n ds (.code c :: .inLoop c :: k) L w) → TW C n ds (.code c :: .inLoop c :: k) L0 w0) : TW C n ds (.code (.loop c) :: k) L0 w0 :=
  TW.loop (h2 (h1 _ (fun _ _ h => h) (fun _ _ h => TW.inLoop h)))
/-- A guard over an operation that was itself passed over. -/
theorem OW.notU {j s : Nat} {b : Bool} (hg : o.guard = some (j, b)) (hj : (ops[j]?).bind (·.dst) = some s) (hs : Env.get L s = some undef)
    (hd : o.dst = some d) (hn : Nat.blt d n = true) (h : OW C n ds ops rest k ((d, undef) :: L) w) : OW C n ds ops (o :: rest) k L w := fun a ha hds =>
  wpList_step fun K hK => by
    have hw : Region.wanted o (yielded ops a.tmps) = false := by
      simp [Region.wanted, hg, yielded, hj, ha.get s _ hs, undef]
    rw [if_neg (by simp [hw]), hd]
    exact hK _ _ (h _ (ha.put (by simpa [Nat.blt_eq] using hn)) (by simpa [Act.put] using hds))
end
def setx {α : Type} (l : List α) (i : Int) (a : α) : Option (List α) := if 0 ≤ i ∧ i < l.length then some (l.set i.toNat a) else none
theorem setx_some {α : Type} {l l' : List α} {i : Int} {a : α} {j : Nat} (h : setx l i a = some l') (hj : i = (j : Nat)) : l' = l.set j a := by
  unfold setx at h
  split at h
  · cases h; subst hj; rfl
  · cases h
/-- A string's bytes as numbers, and back. -/
def unb (s : List UInt8) : List Int := s.map fun b => (b.toNat : Int)
def byt (l : List Int) : List UInt8 := l.map fun n => UInt8.ofNat n.toNat
theorem RD.nil {α : Type} {f : α → List D} {w : World} {O : Nat → Prop} {T m : Nat} : RD w O (.sl T m (([] : List α).map f)) (.slice none 0 0) := .inl ⟨⟨_, rfl⟩, rfl⟩
theorem Own.nil' {α : Type} {f : α → List D} (w : World) (O : Nat → Prop) (T m : Nat) : Own w O T m (.slice none 0 0) (([] : List α).map f) := Own.nil w O T m
theorem one_int {w : World} {O : Nat → Prop} {k : IntKind} {x : Int} {cs : List Value} (h : RDs w O (eI k x) cs) : cs = [.int k x] := by
  obtain ⟨v, r, rfl, h1, rfl⟩ := h
  simp only [RD] at h1
  subst h1
  rfl
theorem one_bool {w : World} {O : Nat → Prop} {x : Bool} {cs : List Value} (h : RDs w O (eB x) cs) : cs = [.bool x] := by
  obtain ⟨v, r, rfl, h1, rfl⟩ := h
  simp only [RD] at h1
  subst h1
  rfl
theorem one_str {w : World} {O : Nat → Prop} {x : List UInt8} {cs : List Value} (h : RDs w O (eS x) cs) : cs = [.string ⟨List.toArray x⟩] := by
  obtain ⟨v, r, rfl, h1, rfl⟩ := h
  simp only [RD] at h1
  subst h1
  rfl
theorem one_sl {w : World} {O : Nat → Prop} {d : D} {cs : List Value} (h : RDs w O [d] cs) : ∃ v, cs = [v] ∧ RD w O d v := by
  obtain ⟨v, r, rfl, h1, rfl⟩ := h
  exact ⟨v, rfl, h1⟩
theorem Tr.of_own {F O : Nat → Prop} {w w' : World} {v : Value} (h : Ext F w w') (hf : ∀ x, x < w.heap.size → F x → O x) (hv : ∀ b, v.ownBlock = some b → O b ∨ w.heap.size ≤ b) : Tr O w (fun x => O x ∨ v.ownBlock = some x) w' :=
  ⟨h.size, fun c hc ho => h.block c hc fun hx => ho (hf c hc hx), fun c hc ho h' => by
    rcases h' with h' | h'
    · exact ho h'
    · rcases hv c h' with h'' | h''
      · exact ho h''
      · omega⟩
theorem Bd.own {O : Nat → Prop} {w : World} {v : Value} (h : Bd O w) (hv : ∀ b, v.ownBlock = some b → b < w.heap.size) : Bd (fun x => O x ∨ v.ownBlock = some x) w := fun x hx => hx.elim (h x) (hv x)
theorem Own.mem {w : World} {O : Nat → Prop} {T m : Nat} {v : Value} {l : List (List D)} (h : Own w O T m v l) : ∀ b, v.ownBlock = some b → O b := by
  obtain ⟨_, _, _, _, h⟩ := h
  exact h
theorem Own.down {w : World} {O O' : Nat → Prop} {T m : Nat} {v : Value} {l : List (List D)} (h : Own w O T m v l) (ho : ∀ x, O' x → O x) (hv : ∀ b, v.ownBlock = some b → O' b) : Own w O' T m v l := by
  obtain ⟨xs, h1, h2, h3, _⟩ := h
  exact ⟨xs, h1, h2.tr (Tr.drop w ho), h3, hv⟩
section
variable {C : Cx} {n : Nat} {ds : List Deferred} {k : Act → World → Prop} {L : Env} {w : World} {ops : Array Oper} {o : Oper} {rest : List Oper} {d : Nat} {v : Value}
theorem OW.appendS' {O : Nat → Prop} {t u T : Nat} {x y : Operand} {vx : Value} {l : List Int} {s : List UInt8} (hg : o.guard = none) (hd : o.dst = some d) (hn : Nat.blt d n = true) (ho : o.op = .call { callee := .builtin .append, args := #[x, y], argTypes := #[t, u] })
    (ht : C.P.underlying t = some (.slice T)) (hu : C.P.underlying u = some .string) (hi : inf C.P T = some (.int .u8 0, 1, 1)) (hx : ev L x = some vx) (hy : ev L y = some (.string ⟨s.toArray⟩))
    (hown : Own w O T 1 vx (l.map (eI .u8))) (hB : Bd O w) (hb : (l.length + (unb s).length) * 1 ≤ 140737488355328)
    (h : ∀ v' w' O', Grew w O T 1 vx w' O' v' ((l ++ unb s).map (eI .u8)) → OW C n ds ops rest k ((d, v') :: L) w') : OW C n ds ops (o :: rest) k L w :=
  OW.appendS hg hd hn ho ht hu hi hx hy hown hB (by simpa [unb] using hb) (by
    have e : s.map byteD = (unb s).map (eI .u8) := by simp [unb, byteD, eI]
    simpa [e] using h)
/-- '[]byte(s)': new memory. -/
theorem OW.toBytes {O : Nat → Prop} {t u T : TypeId} {x : Operand} {s : List UInt8} (hg : o.guard = none) (hd : o.dst = some d) (hn : Nat.blt d n = true) (ho : o.op = .convert t u x)
    (ht : C.P.underlying t = some .string) (hu : C.P.underlying u = some (.slice T)) (hT : C.P.underlying T = some (.int .u8)) (hx : ev L x = some (.string ⟨s.toArray⟩)) (hB : Bd O w) (h0 : s.length ≤ 9223372036854775807)
    (h : ∀ v' w', Ext Nowhere w w' → RD w' O (.sl T 1 ((unb s).map (eI .u8))) v' → OW C n ds ops rest k ((d, v') :: L) w') : OW C n ds ops (o :: rest) k L w := by
  have hsz : (⟨s.toArray⟩ : ByteArray).size = s.length := by simp [ByteArray.size]
  refine OW.val (v := .slice (some ⟨w.heap.size, 0, none⟩) s.length (grownCap w s.length 0 T)) (w' := Lib.bytesWorld w T ⟨s.toArray⟩) hg hd hn (fun a ha => ?_) (h _ _ ?_ ?_)
  · have := Lib.run_convert_string_bytes (P := C.P) w t u T ⟨s.toArray⟩ ht hu hT
    rw [hsz] at this
    simp only [execOp, ho, ha.ev hx, Sem.run_bind, this, Result.andThen_ok]
    rfl
  · refine ⟨?_, ?_, ?_, ?_, fun b hb _ => Lib.bytesWorld_at_old w T _ b hb⟩
    · simp only [Lib.bytesWorld, World.freeze]; split <;> rfl
    · simp only [Lib.bytesWorld, World.freeze]; split <;> rfl
    · simp only [Lib.bytesWorld, World.freeze]; split <;> rfl
    · rw [Lib.bytesWorld_size]; omega
  · refine .inr ⟨w.heap.size, 0, grownCap w s.length 0 T, _, (_, _), by simp [unb], by simpa [unb] using grownCap_ge w s.length 0 T, grownCap_le_maxLen w _ 0 T (by unfold maxLen; omega), fun ho => Nat.lt_irrefl _ (hB _ ho), Lib.bytesWorld_at_new w T _, ?_, ?_⟩
    · have := grownCap_ge w s.length 0 T
      simp [Lib.bytesCells, hsz]
      omega
    · have e : (unb s).map (eI .u8) = s.map byteD := by simp [unb, byteD, eI]
      rw [e]
      refine RDl.of_take ?_
      have e2 : (List.drop 0 (Lib.bytesCells w T ⟨s.toArray⟩).toList).take ((s.map byteD).length * 1) = s.map fun b => Value.int .u8 (b.toNat : Nat) := by
        simp [Lib.bytesCells, List.take_append_of_le_length]
      rw [e2]
      exact RDl_strCells s
theorem RDl.u8 {O : Nat → Prop} : ∀ {l : List Int} {cs : List Value}, RDl w O 1 (l.map (eI .u8)) cs → l.length ≤ cs.length → cs.take l.length = l.map (Value.int .u8)
  | [], _, _, _ => by simp
  | x :: l, [], _, hl => by simp at hl
  | x :: l, c :: cs, h, hl => by
    have h1 := one_int h.1
    have h2 := RDl.u8 (l := l) (cs := cs) (by simpa using h.2) (by simpa using hl)
    simp only [List.take_succ_cons, List.take_zero, List.cons.injEq, and_true] at h1
    simp [h1, h2]
theorem push_byt : ∀ (l : List Int) (a : List UInt8), l.foldl (fun r n => ByteArray.push r (UInt8.ofNat n.toNat)) ⟨a.toArray⟩ = ⟨(a ++ byt l).toArray⟩
  | [], a => by simp [byt]
  | x :: l, a => by
    have e : ByteArray.push ⟨a.toArray⟩ (UInt8.ofNat x.toNat) = ⟨(a ++ [UInt8.ofNat x.toNat]).toArray⟩ := by simp [ByteArray.push]
    rw [List.foldl_cons, e, push_byt l]
    simp [byt]
/-- 'string(b)'. -/
theorem EX.toStr {O : Nat → Prop} {t u T : TypeId} {x : Operand} {l : List Int} {vx : Value} (ho : o.op = .convert t u x)
    (ht : C.P.underlying t = some (.slice T)) (hT : C.P.underlying T = some (.int .u8)) (hu : C.P.underlying u = some .string) (hx : ev L x = some vx) (hr : RD w O (.sl T 1 (l.map (eI .u8))) vx) : EX C n L w o (.string ⟨List.toArray (byt l)⟩) :=
  fun a ha => by
    rcases hr with ⟨⟨p, rfl⟩, h2⟩ | ⟨b, q, cap, cs, fr, rfl, h2, h3, h4, h5, h6, h7⟩
    · have : l = [] := by simpa using h2
      subst this
      simp only [execOp, ho, ha.ev hx, Sem.run_bind, run_convert_bytes_string w t u T p 0 0 ht hT hu]
      cases p with
      | none =>
        simp only [Conv.bytesToString, Sem.run_pure, Result.andThen_ok]
        rfl
      | some ad =>
        have h9 := run_loadCells_list (P := C.P) (w := w) ad [] (fun j v e => by simp at e)
        have h10 := run_bytesToString (P := C.P) w ad 0 0 [] (by simpa using h9)
        simp only [h10, Result.andThen_ok]
        rfl
    · rw [List.length_map] at h2
      have h8 : (cs.toList.drop q).take l.length = l.map (Value.int .u8) := RDl.u8 h7 (by simp; omega)
      have h9 := run_loadCells_list (P := C.P) (w := w) ⟨b, q, none⟩ (l.map (Value.int .u8)) (fun j v e => by
        rw [Addr.add_lit, cell_of_row w b _ cs fr.1 fr.2 h5]
        rw [← h8, List.getElem?_take] at e
        split at e
        · simpa using e
        · cases e)
      rw [List.length_map] at h9
      have h10 := run_bytesToString (P := C.P) w ⟨b, q, none⟩ l.length cap l h9
      have e := push_byt l []
      simp only [List.nil_append] at e
      rw [show ByteArray.empty = (⟨List.toArray []⟩ : ByteArray) from rfl, e] at h10
      simp only [List.length_map] at *
      simp only [execOp, ho, ha.ev hx, Sem.run_bind, run_convert_bytes_string w t u T _ l.length cap ht hT hu, h10, Result.andThen_ok]
      rfl
theorem OW.toStr {O : Nat → Prop} {t u T : TypeId} {x : Operand} {l : List Int} {vx : Value} (hg : o.guard = none) (hd : o.dst = some d) (hn : Nat.blt d n = true) (ho : o.op = .convert t u x)
    (ht : C.P.underlying t = some (.slice T)) (hT : C.P.underlying T = some (.int .u8)) (hu : C.P.underlying u = some .string) (hx : ev L x = some vx) (hr : RD w O (.sl T 1 (l.map (eI .u8))) vx) (h : OW C n ds ops rest k ((d, .string ⟨List.toArray (byt l)⟩) :: L) w) : OW C n ds ops (o :: rest) k L w :=
  OW.val hg hd hn (EX.toStr ho ht hT hu hx hr) h
end
/-- L' says no more than L. -/
def Sub (L' L : Env) : Prop := ∀ t v, Env.get L' t = some v → Env.get L t = some v
theorem Sub.nil {L : Env} : Sub [] L := fun _ _ h => by cases h
theorem Sub.cons {L' L : Env} {s : Nat} {v : Value} (h : Env.get L s = some v) (k : Sub L' L) : Sub ((s, v) :: L') L := fun t u e => by
  unfold Env.get at e
  split at e
  · rename_i hb
    have := Nat.eq_of_beq_eq_true hb
    subst this
    cases e
    exact h
  · exact k t u e
def envOf : Nat → List Value → Env
  | _, [] => []
  | i, v :: vs => (i, v) :: envOf (i + 1) vs
theorem envOf_get : ∀ (vs : List Value) (i t : Nat) (v : Value), Env.get (envOf i vs) t = some v → i ≤ t ∧ vs[t - i]? = some v
  | [], _, _, _, h => by cases h
  | u :: vs, i, t, v, h => by
    unfold envOf Env.get at h
    split at h
    · rename_i hb
      have := Nat.eq_of_beq_eq_true hb
      subst this
      cases h
      exact ⟨Nat.le_refl _, by simp⟩
    · rename_i hb
      have hne := Nat.ne_of_beq_eq_false hb
      obtain ⟨h1, h2⟩ := envOf_get vs (i + 1) t v h
      refine ⟨by omega, ?_⟩
      have : t - i = (t - (i + 1)) + 1 := by omega
      rw [this]
      simpa using h2
theorem calls_of {P : Program} {f : FuncId} {fn : Func} {c : Code} {args : List Value} {w : World} {R : Ending → World → Prop} (hf : P.funcs[f]? = some fn) (hb : fn.body = some c)
    (n : Nat) (hn : fn.ntmps = n) (hl : Nat.ble args.length n = true) (h : TW { P := P, f := f, fn := fn, R := R, hf := hf } n [] [.code c] (envOf 0 args) w) : Calls P f args.toArray w R :=
  calls_of_tw hf hb _ n hn hl (fun t v e => by simpa using (envOf_get args 0 t v e).2) h
theorem calls_ofD {P : Program} {f : FuncId} {fn : Func} {c : Code} {args : List Value} {w : World} {R : Ending → World → Prop} (hf : P.funcs[f]? = some fn) (hb : fn.body = some c)
    (n : Nat) (hn : fn.ntmps = n) (hl : Nat.ble args.length n = true) (h : TW { P := P, f := f, fn := fn, R := R, hf := hf, lv := true } n [] [.code c] (envOf 0 args) w) : Calls P f args.toArray w R :=
  calls_of_twD true hf hb _ n hn hl (fun t v e => by simpa using (envOf_get args 0 t v e).2) h
theorem Own.lt {w : World} {O : Nat → Prop} {T m : Nat} {v : Value} {l : List (List D)} (h : Own w O T m v l) : ∀ b, v.ownBlock = some b → b < w.heap.size := by
  obtain ⟨xs, h1, _⟩ := h
  exact fun b hb => (h1.lt b hb).2
/-- How a call ends. -/
def PR {α : Type} (F : Nat → Prop) (w : World) (ok : α → Ending → World → Prop) (r : Res α) (e : Ending) (w' : World) : Prop :=
  match r with
  | .ok a => ok a e w'
  | .pan v => e = .panicked [{ v := v, recovered := false }] ∧ Ext F w w'
end Go.Lk
