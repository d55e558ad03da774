/- Functions with one deferred call, which catches a panic's error. It speaks of no program. -/
import Derived.Test.YtcfkkgpnggdlnaaGreatDoorPeS6
import Derived.Test.YtcfkkgpnggdlnaaGreatDoorLkI
set_option linter.all false
namespace Go.Pe
open Go.RowKit Go.Lk

/-- The box b is called 999 from now on. -/
def renK (b : Nat) : PV → PV
  | .ptr x off => match Nat.beq x b with
    | true => .ptr 999 off
    | false => .ptr x off
  | .selfp x => match Nat.beq x b with
    | true => .selfp 999
    | false => .selfp x
  | .agg cs => .agg (go cs)
  | .tup cs => .tup (go cs)
  | .iface T v => .iface T (renK b v)
  | .fn f a c => .fn f (go a) (go c)
  | v => v
where
  go : List PV → List PV
    | [] => []
    | v :: vs => renK b v :: go vs
def St.free999 (σ : St) : Bool := (lk σ.B 999).isNone && σ.L.all (fun p => noK (some 999) none p.2) && σ.B.all (fun p => noKs (some 999) none p.2.cs)
def St.renB (σ : St) (b : Nat) : Option St := match lk σ.B b, σ.free999 with
  | some e, true => some { σ with L := σ.L.map fun p => (p.1, renK b p.2), B := (999, ⟨e.T, renK.go b e.cs⟩) :: (delk b σ.B).map fun p => (p.1, ⟨p.2.T, renK.go b p.2.cs⟩) }
  | _, _ => none
def dfr1 : Code → Option (Operand × Operand)
  | .region _ ops false => match ops.toList with
    | [o] => match o.op, o.guard, o.dst with
      | .defer c, none, none => match c.callee, c.args.toList with
        | .value x, [y] => some (x, y)
        | _, _ => none
      | _, _, _ => none
    | _ => none
  | _ => none
/-- Up to the deferral, and on behind it. -/
def exD (tb : Tb) (cty : List (Nat × List (Option (Nat × Nat)))) (ann : Ann) (con : Nat → CIn → COut → Prop) (k : Flow → St → Prop) (kD : Nat → Flow → St → Prop) : Code → St → Prop
  | .seq a b, σ => match dfr1 a with
    | some (x, y) => match σ.ev x, σ.ev y with
      | some (.fn f [] []), some (.ptr bx 0) => wt (σ.renB bx) fun s => ex tb cty ann con b s (kD f)
      | _, _ => False
    | none => ex tb cty ann con a σ (kSeq (fun s => exD tb cty ann con k kD b s) k)
  | _, _ => False
section
variable {z : W0} {V : Env} {w : World} {O : Nat → Prop} {φ : Nat → Nat} {α : Nat → Value} {σ : St} {C : Cx} {n : Nat} {G : GI} {con : Nat → CIn → COut → Prop} {tb : Tb} {cty : List (Nat × List (Option (Nat × Nat)))} {ann : Ann}
mutual
theorem renK_ok {b : Nat} : ∀ (v : PV) (u : Value), keyP (fun x => x ≠ 999) (fun _ => True) v → VR w O φ α v u → VR w O (ren φ 999 (φ b)) α (renK b v) u
  | .int k n, u, _, h => h
  | .bool b, u, _, h => h
  | .str s, u, _, h => h
  | .sl T n l, u, _, h => h
  | .nil, u, _, h => h
  | .nilI, u, _, h => h
  | .nilp, u, _, h => h
  | .undef, u, _, h => trivial
  | .gone, u, _, h => h
  | .err _, u, _, h => h
  | .cptr cs off, u, _, h => h
  | .eptr x m i off, u, k, h => h
  | .ref a, u, k, h => h
  | .ptr x off, u, k, h => by
    have k : x ≠ 999 := k
    unfold renK
    split
    · rename_i e
      have e := Nat.eq_of_beq_eq_true e
      subst e
      simp only [VR] at h ⊢
      simpa [ren] using h
    · simp only [VR] at h ⊢
      simpa [ren, k] using h
  | .selfp x, u, k, h => by
    have k : x ≠ 999 := k
    unfold renK
    split
    · rename_i e
      have e := Nat.eq_of_beq_eq_true e
      subst e
      simp only [VR] at h ⊢
      simpa [ren] using h
    · simp only [VR] at h ⊢
      simpa [ren, k] using h
  | .agg cs, u, k, h => by
    obtain ⟨us, h1, h2⟩ := h
    exact ⟨us, h1, renKs_ok cs us k h2⟩
  | .tup cs, u, k, h => by
    obtain ⟨us, h1, h2⟩ := h
    exact ⟨us, h1, renKs_ok cs us k h2⟩
  | .iface T v, u, k, h => by
    obtain ⟨x, h1, h2⟩ := h
    exact ⟨x, h1, renK_ok v x k h2⟩
  | .fn f as' cs, u, k, h => by
    obtain ⟨us, vs, h1, h2, h3⟩ := h
    exact ⟨us, vs, h1, renKs_ok as' us k.1 h2, renKs_ok cs vs k.2 h3⟩
theorem renKs_ok {b : Nat} : ∀ (vs : List PV) (us : List Value), keyP.go (fun x => x ≠ 999) (fun _ => True) vs → VRs w O φ α vs us → VRs w O (ren φ 999 (φ b)) α (renK.go b vs) us
  | [], us, _, h => h
  | v :: vs, us, k, h => by
    obtain ⟨u, us', h1, h2, h3⟩ := h
    exact ⟨u, us', h1, renK_ok v u k.1 h2, renKs_ok vs us' k.2 h3⟩
end
theorem Rel.ren9 {σ' : St} {b : Nat} (h : Rl z σ V w O φ α) (e : σ.renB b = some σ') : Rl { z with φ0 := ren z.φ0 999 (φ b) } σ' V w O (ren φ 999 (φ b)) α := by
  unfold St.renB at e
  split at e
  · rename_i eb hb hf
    cases e
    simp only [St.free999, Bool.and_eq_true, List.all_eq_true] at hf
    obtain ⟨⟨f1, f2⟩, f3⟩ := hf
    have kL : ∀ t v, lk σ.L t = some v → keyP (fun x => x ≠ 999) (fun _ => True) v := fun t v hv => noK.b (x := 0) (f2 _ (lk_mem hv))
    have kB : ∀ b e, lk σ.B b = some e → keyP.go (fun x => x ≠ 999) (fun _ => True) e.cs := fun b e he => noKs.b (f3 _ (lk_mem he))
    have n9 : ∀ x e, lk σ.B x = some e → x ≠ 999 := fun x e he hx => by
      subst hx
      rw [he] at f1
      cases f1
    have e9 : ren φ 999 (φ b) 999 = φ b := by simp [ren]
    have eo : ∀ x, x ≠ 999 → ren φ 999 (φ b) x = φ x := fun x hx => by simp [ren, hx]
    have get : ∀ x e, lk ((999, (⟨eb.T, renK.go b eb.cs⟩ : Bx)) :: (delk b σ.B).map fun p => (p.1, (⟨p.2.T, renK.go b p.2.cs⟩ : Bx))) x = some e →
        (x = 999 ∧ e = ⟨eb.T, renK.go b eb.cs⟩) ∨ (x ≠ 999 ∧ x ≠ b ∧ ∃ e0, lk σ.B x = some e0 ∧ e = ⟨e0.T, renK.go b e0.cs⟩) := fun x e he => by
      rcases lk_cons he with h1 | ⟨h1, h2⟩
      · exact .inl h1
      · have h3 : (lk (delk b σ.B) x).map (fun y : Bx => (⟨y.T, renK.go b y.cs⟩ : Bx)) = some e := (lk_map (fun y : Bx => (⟨y.T, renK.go b y.cs⟩ : Bx)) (delk b σ.B) x).symm.trans h2
        obtain ⟨e0, h4, h5⟩ := Option.map_eq_some_iff.1 h3
        obtain ⟨h6, h7⟩ := lk_delk h4
        exact .inr ⟨h1, h6, e0, h7, h5.symm⟩
    refine ⟨fun t v hv => ?_, fun x e he => ?_, h.arr, fun x y e e' he he' hn => ?_, h.aa, fun a x e e' ha he => ?_, fun x e he => ?_, h.aF, h.bd, h.ext, h.only, h.gl, fun x hx => ?_⟩
    · simp only at hv
      rw [lk_map] at hv
      obtain ⟨v0, h1, rfl⟩ := Option.map_eq_some_iff.1 hv
      obtain ⟨u, h2, h3⟩ := h.env t v0 h1
      exact ⟨u, h2, renK_ok v0 u (kL t v0 h1) h3⟩
    · rcases get x e he with ⟨rfl, rfl⟩ | ⟨h1, h2, e0, h3, rfl⟩
      · rw [e9]
        obtain ⟨k1, us, k2, k3⟩ := h.box b eb hb
        exact ⟨k1, us, k2, renKs_ok _ _ (kB b eb hb) k3⟩
      · rw [eo x h1]
        obtain ⟨k1, us, k2, k3⟩ := h.box x e0 h3
        exact ⟨k1, us, k2, renKs_ok _ _ (kB x e0 h3) k3⟩
    · rcases get x e he with ⟨rfl, rfl⟩ | ⟨h1, h2, e0, h3, rfl⟩ <;> rcases get y e' he' with ⟨rfl, rfl⟩ | ⟨h1', h2', e0', h3', rfl⟩
      · exact (hn rfl).elim
      · rw [e9, eo y h1']; exact h.bb b y eb e0' hb h3' (Ne.symm h2')
      · rw [e9, eo x h1]; exact h.bb x b e0 eb h3 hb h2
      · rw [eo x h1, eo y h1']; exact h.bb x y e0 e0' h3 h3' hn
    · rcases get x e' he with ⟨rfl, rfl⟩ | ⟨h1, h2, e0, h3, rfl⟩
      · rw [e9]; exact h.ab a b e eb ha hb
      · rw [eo x h1]; exact h.ab a x e e0 ha h3
    · rcases get x e he with ⟨rfl, rfl⟩ | ⟨h1, h2, e0, h3, rfl⟩
      · rw [e9]
        rcases h.bF b eb hb with ⟨_, k⟩ | k
        · exact .inl ⟨by decide, k⟩
        · exact .inr k
      · rw [eo x h1]; exact h.bF x e0 h3
    · show ren φ 999 (φ b) x = ren z.φ0 999 (φ b) x
      by_cases hx9 : x = 999
      · subst hx9; simp [ren]
      · simp only [ren, hx9, if_false]; exact h.keep x hx
  · cases e
def dOfF (f g : Nat) : Deferred := { target := .fn (.func f) (List.toArray []), args := List.toArray [Value.pointer (some ⟨g, 0, none⟩)] }
theorem exD_sound (ht : TbG C.P tb G) (hcon : ∀ f i o, con f i o → Con C.P G f i o) (hz : ∀ w O, z.G w O → G.p w O) {k : Flow → St → Prop} {kD : Nat → Flow → St → Prop} : ∀ (c : Code) (σ : St) (todo : List Item), okC ann n c = true → noDraw c = true → exD tb cty ann con k kD c σ → (∀ fl s, k fl s → fl ≠ .normal → FS z C n [] todo fl s) →
    (∀ f g fl s, kD f fl s → FS { z with φ0 := ren z.φ0 999 g } C n [dOfF f g] todo fl s) → KS z C n [] (.code c :: todo) σ
  | .seq a b, σ, todo, hn, hd, hw, hk, hkD => by
    simp only [okC, Bool.and_eq_true] at hn
    simp only [noDraw, Bool.and_eq_true] at hd
    intro V w hr
    refine TW.seq ?_
    unfold exD at hw
    split at hw
    · rename_i x y hx
      unfold dfr1 at hx
      split at hx
      · rename_i id ops
        split at hx
        · rename_i o ho
          split at hx
          · rename_i c hop hg hdst
            split at hx
            · rename_i x' y' hcx hcy
              cases hx
              obtain ⟨cal, cargs, cty'⟩ := c
              simp only at hcx hcy
              subst hcx
              have e1 : ops = [o].toArray := by apply Array.toList_inj.1; simpa using ho
              subst e1
              obtain ⟨O, φ, α, h, hs⟩ := hr
              split at hw
              · rename_i f bx hf hb
                obtain ⟨s, hs1, hw⟩ := wt_some hw
                obtain ⟨uf, h1, us, vs, rfl, h2, h3⟩ := h.ev hf
                obtain ⟨ub, h4, h5⟩ := h.ev hb
                simp only [VR] at h5
                subst h5
                have h2 : us = [] := h2
                have h3 : vs = [] := h3
                subst h2 h3
                refine TW.deferR (caps := []) (vs := [Value.pointer (some ⟨φ bx, 0, none⟩)]) hg hdst hop h1 (by rw [hcy]; simp only [Lk.evs, h4]) ?_
                have := ex_sound (z := { z with φ0 := ren z.φ0 999 (φ bx) }) (ds := [dOfF f (φ bx)]) (G := G) ht hcon hz b s (kD f) todo hn.2 (.inr hd.2) hw (fun fl s hk => hkD f (φ bx) fl s hk)
                exact this V w ⟨O, _, α, h.ren9 hs1, hs⟩
              · exact hw.elim
            · cases hx
          · cases hx
        · cases hx
      · cases hx
    · refine ex_sound (ds := []) (G := G) ht hcon hz a σ _ (.code b :: todo) hn.1 (.inr hd.1) hw (fun fl s hs => ?_) V w hr
      cases fl with
      | normal => exact exD_sound ht hcon hz b s todo hn.2 hd.2 hs hk hkD
      | exit i => exact (hk _ _ hs (by simp)).code (by simp)
      | ret => exact (hk _ _ hs (by simp)).code (by simp)
      | pan v => exact (hk _ _ hs (by simp)).code (by simp)
  | .skip, σ, todo, _, _, hw, _, _ => hw.elim
  | .label _, σ, todo, _, _, hw, _, _ => hw.elim
  | .ret, σ, todo, _, _, hw, _, _ => hw.elim
  | .exit _, σ, todo, _, _, hw, _, _ => hw.elim
  | .region _ _ _, σ, todo, _, _, hw, _, _ => hw.elim
  | .cond _ _ _, σ, todo, _, _, hw, _, _ => hw.elim
  | .block _ _, σ, todo, _, _, hw, _, _ => hw.elim
  | .loop _, σ, todo, _, _, hw, _, _ => hw.elim
  | .rangeFunc .., σ, todo, _, _, hw, _, _ => hw.elim
  | .scope _, σ, todo, _, _, hw, _, _ => hw.elim
  | .goto _, σ, todo, _, _, hw, _, _ => hw.elim
  | .refuse _, σ, todo, _, _, hw, _, _ => hw.elim
end
/-- What a deferred function does that catches a panic's error of type T and puts its number where its argument points. -/
structure Caught (P : Program) (f T : Nat) (ik : IntKind) (Te : Nat) : Prop where
  ent : ∀ args w, (callFunc f args).run P w = .ok (.enter f args) w
  ret : ∀ w b, CallsD P f (List.toArray [Value.pointer (some ⟨b, 0, none⟩)]) .returning w (fun e u w' => e = .returned (.tuple #[]) ∧ u = .returning ∧ Ext Nowhere w w')
  pan : ∀ w b c e, BoxAt w b Te [c] → CallsD P f (List.toArray [Value.pointer (some ⟨b, 0, none⟩)]) (.panicking [{ v := Value.iface T (Value.agg (List.toArray [Value.int ik e])), recovered := false }]) w
    (fun e' u w' => e' = .returned (.tuple #[]) ∧ u = .panicking [{ v := Value.iface T (Value.agg (List.toArray [Value.int ik e])), recovered := true }] ∧ BoxAt w' b Te [Value.int ik e] ∧ Ext (At b) w w')
/-- What is shown of the end of a function with such a deferral. -/
def finD (tb : Tb) (ann : Ann) (res : List ResultVar) (out : COut) (fc T : Nat) (ik : IntKind) (Te : Nat) (f : Nat) (fl : Flow) (s : St) : Prop :=
  match Nat.beq f fc, fl, out with
  | true, .ret, .ok vs B A => finO tb ann res s vs B A
  | true, .pan v, .ok vs B A => match v, lk s.B 999 with
    | .iface T' (.agg [.int ik' e]), some ⟨Te', [_]⟩ => match Nat.beq T' T && ikEq ik' ik && Nat.beq Te' Te with
      | true => finO tb ann res { s with B := setk 999 ⟨Te', [.int ik' e]⟩ s.B } vs B A
      | false => False
    | _, _ => False
  | _, _, _ => False
theorem Con.ofD {P : Program} {G : GI} {tb : Tb} {cty : List (Nat × List (Option (Nat × Nat)))} {ann : Ann} {f : Nat} {fn : Func} {c : Code} {i : CIn} {o : COut} {n : Nat} {res : List ResultVar} {fc T : Nat} {ik : IntKind} {Te : Nat} (hct : Caught P fc T ik Te) (ht : TbG P tb G) (ent : ∀ args w, (callFunc f args).run P w = .ok (.enter f args) w) (hf : P.funcs[f]? = some fn) (hb : fn.body = some c) (hn : fn.ntmps = n)
    (hres : fn.results = res.toArray) (hok : okC ann n c = true) (hnd : noDraw c = true) (hl : Nat.ble i.vs.length n = true) (hnb : ann.nb = i.B.length) (h1000 : Nat.ble i.B.length 900 = true) (hw : exD tb cty ann (Con P G) (fin tb ann res o) (finD tb ann res o fc T ik Te) c (entry i)) : Con P G f i o := by
  refine ⟨ent, fun w O φ α us hv hm hB hG => ?_⟩
  have h1000 := Nat.le_of_ble_eq_true h1000
  obtain ⟨hF, h0⟩ := entry_ok (G := G) hv hm hB hG (by omega)
  have hlu : us.length = i.vs.length := hv.len
  refine calls_ofD hf hb n hn (by rw [hlu]; exact hl) ?_
  have hN : ∀ b, b < i.B.length → b ≠ 999 := fun b hb => by omega
  refine exD_sound (z := w0Of G i w O φ α hF hB) (C := { P := P, f := f, fn := fn, R := Done i w O φ α o, hf := hf, lv := true }) (n := n) (G := G) ht (fun _ _ _ h => h) (fun _ _ h => h) c (entry i) [] hok hnd hw (fun fl s hs hne => ?_) (fun f' g fl s hs => ?_) _ _ ⟨O, φ, α, h0, fun _ hx => hx⟩
  · cases fl with
    | normal => exact (hne rfl).elim
    | ret =>
      intro k' V w' hr
      obtain ⟨O', φ', α', h1, h2⟩ := hr
      cases o with
      | pan v => exact hs.elim
      | ok vs B A =>
        obtain ⟨us', h3, h4⟩ := finO_ok (C := { P := P, f := f, fn := fn, R := Done i w O φ α (.ok vs B A), hf := hf, lv := true }) (n := n) (hF := hF) (hB := hB) (g := φ) ht hres (fun b hb => h1.keep b (by omega)) h1 h2 hnb (by omega) hs
        exact TW.ret h3 h4
    | exit _ => exact hs.elim
    | pan v =>
      cases hs
      intro V w' O' φ' α' u φ2 α2 h1 h2 h3 a ha hda
      exact PN.nil hda ⟨u, O', φ2, α2, rfl, h3, h1.ext, h1.tr0, h1.bd, h1.only⟩
  · unfold finD at hs
    split at hs
    · rename_i vs B A hff
      have hff := Nat.eq_of_beq_eq_true hff
      subst hff
      intro k' V w' hr
      obtain ⟨O', φ', α', h1, h2⟩ := hr
      refine TW.retD rfl (LV.ret2 (caps := []) (vs := [Value.pointer (some ⟨g, 0, none⟩)]) hct.ent (hct.ret w' g) fun w2 x => ?_)
      have h3 := h1.moveN x
      obtain ⟨us', h4, h5⟩ := finO_ok (C := { P := P, f := f, fn := fn, R := Done i w O φ α (.ok vs B A), hf := hf, lv := true }) (n := n) (hF := hF) (hB := hB) (g := ren φ 999 g) ht hres (fun b hb => (h3.keep b (by omega)).trans (by simp [ren, hN b hb, w0Of])) h3 h2 hnb (by omega) hs
      exact ⟨_, h4, h5⟩
    · rename_i v vs B A hff
      have hff := Nat.eq_of_beq_eq_true hff
      subst hff
      split at hs
      · rename_i T' ik' e Te' c0 hbx
        split at hs
        · rename_i hb3
          simp only [Bool.and_eq_true] at hb3
          have e1 := Nat.eq_of_beq_eq_true hb3.1.1
          have e2 := ikEq_eq hb3.1.2
          have e3 := Nat.eq_of_beq_eq_true hb3.2
          subst e1 e2 e3
          intro V w' O' φ' α' u φ2 α2 h1 h2 h3 a ha hda
          obtain ⟨x, rfl, us', rfl, y, r, rfl, hy, hr⟩ := h3
          simp only [VR] at hy
          subst hy
          have hr : r = [] := hr
          subst hr
          obtain ⟨k1, us2, k2, k3⟩ := h1.box 999 _ hbx
          obtain ⟨c1, r1, rfl, _, hr1⟩ := k3
          have hr1 : r1 = [] := hr1
          subst hr1
          have e9 : φ' 999 = g := (h1.keep 999 (by decide)).trans (by simp [ren])
          rw [e9] at k2
          have key := LV.pan2 (C := { P := P, f := f, fn := fn, R := Done i w O φ α (.ok vs B A), hf := hf, lv := true }) (n := n) (L := V) (caps := []) (vs := [Value.pointer (some ⟨g, 0, none⟩)]) (fun w2 => BoxAt w2 g Te' [Value.int ik' e] ∧ Ext (At g) w' w2) hct.ent (hct.pan w' g c1 e k2) fun w2 ⟨q1, q2⟩ => by
            have h4 := h1.newBS (b := 0) (cs := [.int ik' e]) hbx (by rw [e9]; exact q1) (by rw [e9]; exact q2) ⟨_, [], rfl, rfl, rfl⟩ rfl
            obtain ⟨us', h5, h6⟩ := finO_ok (C := { P := P, f := f, fn := fn, R := Done i w O φ α (.ok vs B A), hf := hf, lv := true }) (n := n) (hF := hF) (hB := hB) (g := ren φ 999 g) ht hres (fun b hb => (h4.keep b (by omega)).trans (by simp [ren, hN b hb, w0Of])) h4 h2 hnb (by omega) hs
            exact ⟨_, h5, h6⟩
          have := key a ha hda
          unfold PN
          rw [hda]
          exact this
        · exact hs.elim
      · exact hs.elim
    · exact hs.elim
end Go.Pe
namespace Go.Pe
open Go.RowKit Go.Lk
/-- How a function that may panic ends. -/
inductive Rs (α : Type) where
  | ok (a : α)
  | pan (e : Int)
theorem and_t {a e v : Bool} (h : a = true) (p : v = e) : v = (a && e) := by rw [h]; exact p
theorem and_f {a e : Bool} (h : a = false) : false = (a && e) := by rw [h]; rfl
theorem or_t {a e : Bool} (h : a = true) : true = (a || e) := by rw [h]; rfl
theorem or_f {a e v : Bool} (h : a = false) (p : v = e) : v = (a || e) := by rw [h]; exact p
section
variable {R A : Type} {W : R → Prop} {y : Option R}
theorem S.an {p : Prop} (hp : p) (h : S y W) : S y (fun r => p ∧ W r) := fun r hm => ⟨hp, h r hm⟩
theorem S.eh {z : Option A} {F : R → A → Prop} {g : A → Option R} (h : ∀ a, z = some a → S (g a) (fun r => F r a)) : S (z >>= g) (fun r => Ex z (F r)) := by
  intro r hm
  obtain ⟨a, h1, h2⟩ := bnd hm
  exact ⟨a, h1, h a h1 r h2⟩
theorem S.b {z : Option A} {g : A → Option R} (h : ∀ a, z = some a → S (g a) W) : S (z >>= g) W := by
  intro r hm
  obtain ⟨a, h1, h2⟩ := bnd hm
  exact h a h1 r h2
theorem S.two {V : R → Prop} (h : S y V) (h2 : S y W) : S y (fun r => V r ∧ W r) := fun r hm => ⟨h r hm, h2 r hm⟩
/-- A guard that is plain: its two ways meet in one value. -/
theorem S.jb {X : Type} {B : R → St → Prop} {A' : R → (St → Prop) → Prop} {v : X} (sh : X → St) (hA : ∀ r, A' r fun s => ∃ b, s = sh b ∧ b = v) (hB : S y (fun r => B r (sh v))) : S y (fun r => ∃ J : St → Prop, A' r J ∧ ∀ s, J s → B r s) :=
  fun r hm => ⟨_, hA r, fun s ⟨b, h1, h2⟩ => by subst h1 h2; exact hB r hm⟩
theorem S.jc0 {B : R → St → Prop} {A' : R → (St → Prop) → Prop} (sh : St) (Jm : Option R) (hA : S y fun r => A' r fun s => s = sh ∧ Jm = some r) (hB : S Jm (fun r => B r sh)) : S y (fun r => ∃ J : St → Prop, A' r J ∧ ∀ s, J s → B r s) :=
  fun r hm => ⟨_, hA r hm, fun s ⟨h1, h2⟩ => by subst h1; exact hB r h2⟩
theorem S.jc1 {X0 : Type} {B : R → St → Prop} {A' : R → (St → Prop) → Prop} (sh : X0 → St) (Jm : X0 → Option R) (hA : S y fun r => A' r fun s => ∃ x0, s = sh x0 ∧ Jm x0 = some r) (hB : ∀ x0, S (Jm x0) (fun r => B r (sh x0))) : S y (fun r => ∃ J : St → Prop, A' r J ∧ ∀ s, J s → B r s) :=
  fun r hm => ⟨_, hA r hm, fun s ⟨x0, h1, h2⟩ => by subst h1; exact hB x0 r h2⟩
theorem S.jc2 {X0 X1 : Type} {B : R → St → Prop} {A' : R → (St → Prop) → Prop} (sh : X0 → X1 → St) (Jm : X0 → X1 → Option R) (hA : S y fun r => A' r fun s => ∃ x0 x1, s = sh x0 x1 ∧ Jm x0 x1 = some r) (hB : ∀ x0 x1, S (Jm x0 x1) (fun r => B r (sh x0 x1))) : S y (fun r => ∃ J : St → Prop, A' r J ∧ ∀ s, J s → B r s) :=
  fun r hm => ⟨_, hA r hm, fun s ⟨x0, x1, h1, h2⟩ => by subst h1; exact hB x0 x1 r h2⟩
theorem S.jc3 {X0 X1 X2 : Type} {B : R → St → Prop} {A' : R → (St → Prop) → Prop} (sh : X0 → X1 → X2 → St) (Jm : X0 → X1 → X2 → Option R) (hA : S y fun r => A' r fun s => ∃ x0 x1 x2, s = sh x0 x1 x2 ∧ Jm x0 x1 x2 = some r) (hB : ∀ x0 x1 x2, S (Jm x0 x1 x2) (fun r => B r (sh x0 x1 x2))) : S y (fun r => ∃ J : St → Prop, A' r J ∧ ∀ s, J s → B r s) :=
  fun r hm => ⟨_, hA r hm, fun s ⟨x0, x1, x2, h1, h2⟩ => by subst h1; exact hB x0 x1 x2 r h2⟩
theorem S.jc4 {X0 X1 X2 X3 : Type} {B : R → St → Prop} {A' : R → (St → Prop) → Prop} (sh : X0 → X1 → X2 → X3 → St) (Jm : X0 → X1 → X2 → X3 → Option R) (hA : S y fun r => A' r fun s => ∃ x0 x1 x2 x3, s = sh x0 x1 x2 x3 ∧ Jm x0 x1 x2 x3 = some r) (hB : ∀ x0 x1 x2 x3, S (Jm x0 x1 x2 x3) (fun r => B r (sh x0 x1 x2 x3))) : S y (fun r => ∃ J : St → Prop, A' r J ∧ ∀ s, J s → B r s) :=
  fun r hm => ⟨_, hA r hm, fun s ⟨x0, x1, x2, x3, h1, h2⟩ => by subst h1; exact hB x0 x1 x2 x3 r h2⟩
theorem S.jc5 {X0 X1 X2 X3 X4 : Type} {B : R → St → Prop} {A' : R → (St → Prop) → Prop} (sh : X0 → X1 → X2 → X3 → X4 → St) (Jm : X0 → X1 → X2 → X3 → X4 → Option R) (hA : S y fun r => A' r fun s => ∃ x0 x1 x2 x3 x4, s = sh x0 x1 x2 x3 x4 ∧ Jm x0 x1 x2 x3 x4 = some r) (hB : ∀ x0 x1 x2 x3 x4, S (Jm x0 x1 x2 x3 x4) (fun r => B r (sh x0 x1 x2 x3 x4))) : S y (fun r => ∃ J : St → Prop, A' r J ∧ ∀ s, J s → B r s) :=
  fun r hm => ⟨_, hA r hm, fun s ⟨x0, x1, x2, x3, x4, h1, h2⟩ => by subst h1; exact hB x0 x1 x2 x3 x4 r h2⟩
theorem S.jc6 {X0 X1 X2 X3 X4 X5 : Type} {B : R → St → Prop} {A' : R → (St → Prop) → Prop} (sh : X0 → X1 → X2 → X3 → X4 → X5 → St) (Jm : X0 → X1 → X2 → X3 → X4 → X5 → Option R) (hA : S y fun r => A' r fun s => ∃ x0 x1 x2 x3 x4 x5, s = sh x0 x1 x2 x3 x4 x5 ∧ Jm x0 x1 x2 x3 x4 x5 = some r) (hB : ∀ x0 x1 x2 x3 x4 x5, S (Jm x0 x1 x2 x3 x4 x5) (fun r => B r (sh x0 x1 x2 x3 x4 x5))) : S y (fun r => ∃ J : St → Prop, A' r J ∧ ∀ s, J s → B r s) :=
  fun r hm => ⟨_, hA r hm, fun s ⟨x0, x1, x2, x3, x4, x5, h1, h2⟩ => by subst h1; exact hB x0 x1 x2 x3 x4 x5 r h2⟩
theorem S.jc7 {X0 X1 X2 X3 X4 X5 X6 : Type} {B : R → St → Prop} {A' : R → (St → Prop) → Prop} (sh : X0 → X1 → X2 → X3 → X4 → X5 → X6 → St) (Jm : X0 → X1 → X2 → X3 → X4 → X5 → X6 → Option R) (hA : S y fun r => A' r fun s => ∃ x0 x1 x2 x3 x4 x5 x6, s = sh x0 x1 x2 x3 x4 x5 x6 ∧ Jm x0 x1 x2 x3 x4 x5 x6 = some r) (hB : ∀ x0 x1 x2 x3 x4 x5 x6, S (Jm x0 x1 x2 x3 x4 x5 x6) (fun r => B r (sh x0 x1 x2 x3 x4 x5 x6))) : S y (fun r => ∃ J : St → Prop, A' r J ∧ ∀ s, J s → B r s) :=
  fun r hm => ⟨_, hA r hm, fun s ⟨x0, x1, x2, x3, x4, x5, x6, h1, h2⟩ => by subst h1; exact hB x0 x1 x2 x3 x4 x5 x6 r h2⟩
theorem S.jc8 {X0 X1 X2 X3 X4 X5 X6 X7 : Type} {B : R → St → Prop} {A' : R → (St → Prop) → Prop} (sh : X0 → X1 → X2 → X3 → X4 → X5 → X6 → X7 → St) (Jm : X0 → X1 → X2 → X3 → X4 → X5 → X6 → X7 → Option R) (hA : S y fun r => A' r fun s => ∃ x0 x1 x2 x3 x4 x5 x6 x7, s = sh x0 x1 x2 x3 x4 x5 x6 x7 ∧ Jm x0 x1 x2 x3 x4 x5 x6 x7 = some r) (hB : ∀ x0 x1 x2 x3 x4 x5 x6 x7, S (Jm x0 x1 x2 x3 x4 x5 x6 x7) (fun r => B r (sh x0 x1 x2 x3 x4 x5 x6 x7))) : S y (fun r => ∃ J : St → Prop, A' r J ∧ ∀ s, J s → B r s) :=
  fun r hm => ⟨_, hA r hm, fun s ⟨x0, x1, x2, x3, x4, x5, x6, x7, h1, h2⟩ => by subst h1; exact hB x0 x1 x2 x3 x4 x5 x6 x7 r h2⟩
theorem S.jc9 {X0 X1 X2 X3 X4 X5 X6 X7 X8 : Type} {B : R → St → Prop} {A' : R → (St → Prop) → Prop} (sh : X0 → X1 → X2 → X3 → X4 → X5 → X6 → X7 → X8 → St) (Jm : X0 → X1 → X2 → X3 → X4 → X5 → X6 → X7 → X8 → Option R) (hA : S y fun r => A' r fun s => ∃ x0 x1 x2 x3 x4 x5 x6 x7 x8, s = sh x0 x1 x2 x3 x4 x5 x6 x7 x8 ∧ Jm x0 x1 x2 x3 x4 x5 x6 x7 x8 = some r) (hB : ∀ x0 x1 x2 x3 x4 x5 x6 x7 x8, S (Jm x0 x1 x2 x3 x4 x5 x6 x7 x8) (fun r => B r (sh x0 x1 x2 x3 x4 x5 x6 x7 x8))) : S y (fun r => ∃ J : St → Prop, A' r J ∧ ∀ s, J s → B r s) :=
  fun r hm => ⟨_, hA r hm, fun s ⟨x0, x1, x2, x3, x4, x5, x6, x7, x8, h1, h2⟩ => by subst h1; exact hB x0 x1 x2 x3 x4 x5 x6 x7 x8 r h2⟩
theorem S.jc10 {X0 X1 X2 X3 X4 X5 X6 X7 X8 X9 : Type} {B : R → St → Prop} {A' : R → (St → Prop) → Prop} (sh : X0 → X1 → X2 → X3 → X4 → X5 → X6 → X7 → X8 → X9 → St) (Jm : X0 → X1 → X2 → X3 → X4 → X5 → X6 → X7 → X8 → X9 → Option R) (hA : S y fun r => A' r fun s => ∃ x0 x1 x2 x3 x4 x5 x6 x7 x8 x9, s = sh x0 x1 x2 x3 x4 x5 x6 x7 x8 x9 ∧ Jm x0 x1 x2 x3 x4 x5 x6 x7 x8 x9 = some r) (hB : ∀ x0 x1 x2 x3 x4 x5 x6 x7 x8 x9, S (Jm x0 x1 x2 x3 x4 x5 x6 x7 x8 x9) (fun r => B r (sh x0 x1 x2 x3 x4 x5 x6 x7 x8 x9))) : S y (fun r => ∃ J : St → Prop, A' r J ∧ ∀ s, J s → B r s) :=
  fun r hm => ⟨_, hA r hm, fun s ⟨x0, x1, x2, x3, x4, x5, x6, x7, x8, x9, h1, h2⟩ => by subst h1; exact hB x0 x1 x2 x3 x4 x5 x6 x7 x8 x9 r h2⟩
theorem S.jc11 {X0 X1 X2 X3 X4 X5 X6 X7 X8 X9 X10 : Type} {B : R → St → Prop} {A' : R → (St → Prop) → Prop} (sh : X0 → X1 → X2 → X3 → X4 → X5 → X6 → X7 → X8 → X9 → X10 → St) (Jm : X0 → X1 → X2 → X3 → X4 → X5 → X6 → X7 → X8 → X9 → X10 → Option R) (hA : S y fun r => A' r fun s => ∃ x0 x1 x2 x3 x4 x5 x6 x7 x8 x9 x10, s = sh x0 x1 x2 x3 x4 x5 x6 x7 x8 x9 x10 ∧ Jm x0 x1 x2 x3 x4 x5 x6 x7 x8 x9 x10 = some r) (hB : ∀ x0 x1 x2 x3 x4 x5 x6 x7 x8 x9 x10, S (Jm x0 x1 x2 x3 x4 x5 x6 x7 x8 x9 x10) (fun r => B r (sh x0 x1 x2 x3 x4 x5 x6 x7 x8 x9 x10))) : S y (fun r => ∃ J : St → Prop, A' r J ∧ ∀ s, J s → B r s) :=
  fun r hm => ⟨_, hA r hm, fun s ⟨x0, x1, x2, x3, x4, x5, x6, x7, x8, x9, x10, h1, h2⟩ => by subst h1; exact hB x0 x1 x2 x3 x4 x5 x6 x7 x8 x9 x10 r h2⟩
theorem S.jc12 {X0 X1 X2 X3 X4 X5 X6 X7 X8 X9 X10 X11 : Type} {B : R → St → Prop} {A' : R → (St → Prop) → Prop} (sh : X0 → X1 → X2 → X3 → X4 → X5 → X6 → X7 → X8 → X9 → X10 → X11 → St) (Jm : X0 → X1 → X2 → X3 → X4 → X5 → X6 → X7 → X8 → X9 → X10 → X11 → Option R) (hA : S y fun r => A' r fun s => ∃ x0 x1 x2 x3 x4 x5 x6 x7 x8 x9 x10 x11, s = sh x0 x1 x2 x3 x4 x5 x6 x7 x8 x9 x10 x11 ∧ Jm x0 x1 x2 x3 x4 x5 x6 x7 x8 x9 x10 x11 = some r) (hB : ∀ x0 x1 x2 x3 x4 x5 x6 x7 x8 x9 x10 x11, S (Jm x0 x1 x2 x3 x4 x5 x6 x7 x8 x9 x10 x11) (fun r => B r (sh x0 x1 x2 x3 x4 x5 x6 x7 x8 x9 x10 x11))) : S y (fun r => ∃ J : St → Prop, A' r J ∧ ∀ s, J s → B r s) :=
  fun r hm => ⟨_, hA r hm, fun s ⟨x0, x1, x2, x3, x4, x5, x6, x7, x8, x9, x10, x11, h1, h2⟩ => by subst h1; exact hB x0 x1 x2 x3 x4 x5 x6 x7 x8 x9 x10 x11 r h2⟩
end
section
variable {tb : Tb} {cty : List (Nat × List (Option (Nat × Nat)))} {ann : Ann} {con : Nat → CIn → COut → Prop}
theorem S.lw0 {R : Type} {a : Code} {c : Cut} {k : R → Flow → St → Prop} {σ : St} {L : Option R} {Bd : Option R → Option R} (sh : St)
    (pc : ∀ motive : R → Prop, (∀ f : Option R, (∀ r, f = some r → motive r) → ∀ r, Bd f = some r → motive r) → ∀ r, L = some r → motive r)
    (h0 : σ = sh) (h : ∀ (f : Option R) (I : R → St → Prop), S f (fun r => I r sh) → S (Bd f) (fun r => ex tb cty ann con a sh (kSeq (fun s => wt (s.cut c) (I r)) (k r)))) :
    S L (fun r => LW (fun I s => ex tb cty ann con a s (kSeq (fun s => wt (s.cut c) I) (k r))) σ) := by
  subst h0
  exact pc (fun r => LW (fun I s => ex tb cty ann con a s (kSeq (fun s => wt (s.cut c) I) (k r))) σ) (fun f ih r hm => LW.fold (step_mono a c (k r)) (h f (fun r => LW (fun I s => ex tb cty ann con a s (kSeq (fun s => wt (s.cut c) I) (k r)))) ih r hm))
theorem S.lw3 {X0 X1 X2 R : Type} {a : Code} {c : Cut} {k : R → Flow → St → Prop} {σ : St} {L : X0 → X1 → X2 → Option R} {Bd : (X0 → X1 → X2 → Option R) → X0 → X1 → X2 → Option R} {x0 : X0} {x1 : X1} {x2 : X2} (sh : X0 → X1 → X2 → St)
    (pc : ∀ motive : X0 → X1 → X2 → R → Prop, (∀ f : X0 → X1 → X2 → Option R, (∀ x0 x1 x2 r, f x0 x1 x2 = some r → motive x0 x1 x2 r) → ∀ x0 x1 x2 r, Bd f x0 x1 x2 = some r → motive x0 x1 x2 r) → ∀ x0 x1 x2 r, L x0 x1 x2 = some r → motive x0 x1 x2 r)
    (h0 : σ = sh x0 x1 x2) (h : ∀ (f : X0 → X1 → X2 → Option R) (I : R → St → Prop), (∀ x0 x1 x2, S (f x0 x1 x2) (fun r => I r (sh x0 x1 x2))) → ∀ x0 x1 x2, S (Bd f x0 x1 x2) (fun r => ex tb cty ann con a (sh x0 x1 x2) (kSeq (fun s => wt (s.cut c) (I r)) (k r)))) :
    S (L x0 x1 x2) (fun r => LW (fun I s => ex tb cty ann con a s (kSeq (fun s => wt (s.cut c) I) (k r))) σ) := by
  subst h0
  exact pc (fun x0 x1 x2 r => LW (fun I s => ex tb cty ann con a s (kSeq (fun s => wt (s.cut c) I) (k r))) (sh x0 x1 x2)) (fun f ih x0 x1 x2 r hm => LW.fold (step_mono a c (k r)) (h f (fun r => LW (fun I s => ex tb cty ann con a s (kSeq (fun s => wt (s.cut c) I) (k r)))) ih x0 x1 x2 r hm)) x0 x1 x2
theorem S.lw4 {X0 X1 X2 X3 R : Type} {a : Code} {c : Cut} {k : R → Flow → St → Prop} {σ : St} {L : X0 → X1 → X2 → X3 → Option R} {Bd : (X0 → X1 → X2 → X3 → Option R) → X0 → X1 → X2 → X3 → Option R} {x0 : X0} {x1 : X1} {x2 : X2} {x3 : X3} (sh : X0 → X1 → X2 → X3 → St)
    (pc : ∀ motive : X0 → X1 → X2 → X3 → R → Prop, (∀ f : X0 → X1 → X2 → X3 → Option R, (∀ x0 x1 x2 x3 r, f x0 x1 x2 x3 = some r → motive x0 x1 x2 x3 r) → ∀ x0 x1 x2 x3 r, Bd f x0 x1 x2 x3 = some r → motive x0 x1 x2 x3 r) → ∀ x0 x1 x2 x3 r, L x0 x1 x2 x3 = some r → motive x0 x1 x2 x3 r)
    (h0 : σ = sh x0 x1 x2 x3) (h : ∀ (f : X0 → X1 → X2 → X3 → Option R) (I : R → St → Prop), (∀ x0 x1 x2 x3, S (f x0 x1 x2 x3) (fun r => I r (sh x0 x1 x2 x3))) → ∀ x0 x1 x2 x3, S (Bd f x0 x1 x2 x3) (fun r => ex tb cty ann con a (sh x0 x1 x2 x3) (kSeq (fun s => wt (s.cut c) (I r)) (k r)))) :
    S (L x0 x1 x2 x3) (fun r => LW (fun I s => ex tb cty ann con a s (kSeq (fun s => wt (s.cut c) I) (k r))) σ) := by
  subst h0
  exact pc (fun x0 x1 x2 x3 r => LW (fun I s => ex tb cty ann con a s (kSeq (fun s => wt (s.cut c) I) (k r))) (sh x0 x1 x2 x3)) (fun f ih x0 x1 x2 x3 r hm => LW.fold (step_mono a c (k r)) (h f (fun r => LW (fun I s => ex tb cty ann con a s (kSeq (fun s => wt (s.cut c) I) (k r)))) ih x0 x1 x2 x3 r hm)) x0 x1 x2 x3
theorem S.lw5 {X0 X1 X2 X3 X4 R : Type} {a : Code} {c : Cut} {k : R → Flow → St → Prop} {σ : St} {L : X0 → X1 → X2 → X3 → X4 → Option R} {Bd : (X0 → X1 → X2 → X3 → X4 → Option R) → X0 → X1 → X2 → X3 → X4 → Option R} {x0 : X0} {x1 : X1} {x2 : X2} {x3 : X3} {x4 : X4} (sh : X0 → X1 → X2 → X3 → X4 → St)
    (pc : ∀ motive : X0 → X1 → X2 → X3 → X4 → R → Prop, (∀ f : X0 → X1 → X2 → X3 → X4 → Option R, (∀ x0 x1 x2 x3 x4 r, f x0 x1 x2 x3 x4 = some r → motive x0 x1 x2 x3 x4 r) → ∀ x0 x1 x2 x3 x4 r, Bd f x0 x1 x2 x3 x4 = some r → motive x0 x1 x2 x3 x4 r) → ∀ x0 x1 x2 x3 x4 r, L x0 x1 x2 x3 x4 = some r → motive x0 x1 x2 x3 x4 r)
    (h0 : σ = sh x0 x1 x2 x3 x4) (h : ∀ (f : X0 → X1 → X2 → X3 → X4 → Option R) (I : R → St → Prop), (∀ x0 x1 x2 x3 x4, S (f x0 x1 x2 x3 x4) (fun r => I r (sh x0 x1 x2 x3 x4))) → ∀ x0 x1 x2 x3 x4, S (Bd f x0 x1 x2 x3 x4) (fun r => ex tb cty ann con a (sh x0 x1 x2 x3 x4) (kSeq (fun s => wt (s.cut c) (I r)) (k r)))) :
    S (L x0 x1 x2 x3 x4) (fun r => LW (fun I s => ex tb cty ann con a s (kSeq (fun s => wt (s.cut c) I) (k r))) σ) := by
  subst h0
  exact pc (fun x0 x1 x2 x3 x4 r => LW (fun I s => ex tb cty ann con a s (kSeq (fun s => wt (s.cut c) I) (k r))) (sh x0 x1 x2 x3 x4)) (fun f ih x0 x1 x2 x3 x4 r hm => LW.fold (step_mono a c (k r)) (h f (fun r => LW (fun I s => ex tb cty ann con a s (kSeq (fun s => wt (s.cut c) I) (k r)))) ih x0 x1 x2 x3 x4 r hm)) x0 x1 x2 x3 x4
theorem S.lw6 {X0 X1 X2 X3 X4 X5 R : Type} {a : Code} {c : Cut} {k : R → Flow → St → Prop} {σ : St} {L : X0 → X1 → X2 → X3 → X4 → X5 → Option R} {Bd : (X0 → X1 → X2 → X3 → X4 → X5 → Option R) → X0 → X1 → X2 → X3 → X4 → X5 → Option R} {x0 : X0} {x1 : X1} {x2 : X2} {x3 : X3} {x4 : X4} {x5 : X5} (sh : X0 → X1 → X2 → X3 → X4 → X5 → St)
    (pc : ∀ motive : X0 → X1 → X2 → X3 → X4 → X5 → R → Prop, (∀ f : X0 → X1 → X2 → X3 → X4 → X5 → Option R, (∀ x0 x1 x2 x3 x4 x5 r, f x0 x1 x2 x3 x4 x5 = some r → motive x0 x1 x2 x3 x4 x5 r) → ∀ x0 x1 x2 x3 x4 x5 r, Bd f x0 x1 x2 x3 x4 x5 = some r → motive x0 x1 x2 x3 x4 x5 r) → ∀ x0 x1 x2 x3 x4 x5 r, L x0 x1 x2 x3 x4 x5 = some r → motive x0 x1 x2 x3 x4 x5 r)
    (h0 : σ = sh x0 x1 x2 x3 x4 x5) (h : ∀ (f : X0 → X1 → X2 → X3 → X4 → X5 → Option R) (I : R → St → Prop), (∀ x0 x1 x2 x3 x4 x5, S (f x0 x1 x2 x3 x4 x5) (fun r => I r (sh x0 x1 x2 x3 x4 x5))) → ∀ x0 x1 x2 x3 x4 x5, S (Bd f x0 x1 x2 x3 x4 x5) (fun r => ex tb cty ann con a (sh x0 x1 x2 x3 x4 x5) (kSeq (fun s => wt (s.cut c) (I r)) (k r)))) :
    S (L x0 x1 x2 x3 x4 x5) (fun r => LW (fun I s => ex tb cty ann con a s (kSeq (fun s => wt (s.cut c) I) (k r))) σ) := by
  subst h0
  exact pc (fun x0 x1 x2 x3 x4 x5 r => LW (fun I s => ex tb cty ann con a s (kSeq (fun s => wt (s.cut c) I) (k r))) (sh x0 x1 x2 x3 x4 x5)) (fun f ih x0 x1 x2 x3 x4 x5 r hm => LW.fold (step_mono a c (k r)) (h f (fun r => LW (fun I s => ex tb cty ann con a s (kSeq (fun s => wt (s.cut c) I) (k r)))) ih x0 x1 x2 x3 x4 x5 r hm)) x0 x1 x2 x3 x4 x5
theorem S.lw7 {X0 X1 X2 X3 X4 X5 X6 R : Type} {a : Code} {c : Cut} {k : R → Flow → St → Prop} {σ : St} {L : X0 → X1 → X2 → X3 → X4 → X5 → X6 → Option R} {Bd : (X0 → X1 → X2 → X3 → X4 → X5 → X6 → Option R) → X0 → X1 → X2 → X3 → X4 → X5 → X6 → Option R} {x0 : X0} {x1 : X1} {x2 : X2} {x3 : X3} {x4 : X4} {x5 : X5} {x6 : X6} (sh : X0 → X1 → X2 → X3 → X4 → X5 → X6 → St)
    (pc : ∀ motive : X0 → X1 → X2 → X3 → X4 → X5 → X6 → R → Prop, (∀ f : X0 → X1 → X2 → X3 → X4 → X5 → X6 → Option R, (∀ x0 x1 x2 x3 x4 x5 x6 r, f x0 x1 x2 x3 x4 x5 x6 = some r → motive x0 x1 x2 x3 x4 x5 x6 r) → ∀ x0 x1 x2 x3 x4 x5 x6 r, Bd f x0 x1 x2 x3 x4 x5 x6 = some r → motive x0 x1 x2 x3 x4 x5 x6 r) → ∀ x0 x1 x2 x3 x4 x5 x6 r, L x0 x1 x2 x3 x4 x5 x6 = some r → motive x0 x1 x2 x3 x4 x5 x6 r)
    (h0 : σ = sh x0 x1 x2 x3 x4 x5 x6) (h : ∀ (f : X0 → X1 → X2 → X3 → X4 → X5 → X6 → Option R) (I : R → St → Prop), (∀ x0 x1 x2 x3 x4 x5 x6, S (f x0 x1 x2 x3 x4 x5 x6) (fun r => I r (sh x0 x1 x2 x3 x4 x5 x6))) → ∀ x0 x1 x2 x3 x4 x5 x6, S (Bd f x0 x1 x2 x3 x4 x5 x6) (fun r => ex tb cty ann con a (sh x0 x1 x2 x3 x4 x5 x6) (kSeq (fun s => wt (s.cut c) (I r)) (k r)))) :
    S (L x0 x1 x2 x3 x4 x5 x6) (fun r => LW (fun I s => ex tb cty ann con a s (kSeq (fun s => wt (s.cut c) I) (k r))) σ) := by
  subst h0
  exact pc (fun x0 x1 x2 x3 x4 x5 x6 r => LW (fun I s => ex tb cty ann con a s (kSeq (fun s => wt (s.cut c) I) (k r))) (sh x0 x1 x2 x3 x4 x5 x6)) (fun f ih x0 x1 x2 x3 x4 x5 x6 r hm => LW.fold (step_mono a c (k r)) (h f (fun r => LW (fun I s => ex tb cty ann con a s (kSeq (fun s => wt (s.cut c) I) (k r)))) ih x0 x1 x2 x3 x4 x5 x6 r hm)) x0 x1 x2 x3 x4 x5 x6
theorem S.lw8 {X0 X1 X2 X3 X4 X5 X6 X7 R : Type} {a : Code} {c : Cut} {k : R → Flow → St → Prop} {σ : St} {L : X0 → X1 → X2 → X3 → X4 → X5 → X6 → X7 → Option R} {Bd : (X0 → X1 → X2 → X3 → X4 → X5 → X6 → X7 → Option R) → X0 → X1 → X2 → X3 → X4 → X5 → X6 → X7 → Option R} {x0 : X0} {x1 : X1} {x2 : X2} {x3 : X3} {x4 : X4} {x5 : X5} {x6 : X6} {x7 : X7} (sh : X0 → X1 → X2 → X3 → X4 → X5 → X6 → X7 → St)
    (pc : ∀ motive : X0 → X1 → X2 → X3 → X4 → X5 → X6 → X7 → R → Prop, (∀ f : X0 → X1 → X2 → X3 → X4 → X5 → X6 → X7 → Option R, (∀ x0 x1 x2 x3 x4 x5 x6 x7 r, f x0 x1 x2 x3 x4 x5 x6 x7 = some r → motive x0 x1 x2 x3 x4 x5 x6 x7 r) → ∀ x0 x1 x2 x3 x4 x5 x6 x7 r, Bd f x0 x1 x2 x3 x4 x5 x6 x7 = some r → motive x0 x1 x2 x3 x4 x5 x6 x7 r) → ∀ x0 x1 x2 x3 x4 x5 x6 x7 r, L x0 x1 x2 x3 x4 x5 x6 x7 = some r → motive x0 x1 x2 x3 x4 x5 x6 x7 r)
    (h0 : σ = sh x0 x1 x2 x3 x4 x5 x6 x7) (h : ∀ (f : X0 → X1 → X2 → X3 → X4 → X5 → X6 → X7 → Option R) (I : R → St → Prop), (∀ x0 x1 x2 x3 x4 x5 x6 x7, S (f x0 x1 x2 x3 x4 x5 x6 x7) (fun r => I r (sh x0 x1 x2 x3 x4 x5 x6 x7))) → ∀ x0 x1 x2 x3 x4 x5 x6 x7, S (Bd f x0 x1 x2 x3 x4 x5 x6 x7) (fun r => ex tb cty ann con a (sh x0 x1 x2 x3 x4 x5 x6 x7) (kSeq (fun s => wt (s.cut c) (I r)) (k r)))) :
    S (L x0 x1 x2 x3 x4 x5 x6 x7) (fun r => LW (fun I s => ex tb cty ann con a s (kSeq (fun s => wt (s.cut c) I) (k r))) σ) := by
  subst h0
  exact pc (fun x0 x1 x2 x3 x4 x5 x6 x7 r => LW (fun I s => ex tb cty ann con a s (kSeq (fun s => wt (s.cut c) I) (k r))) (sh x0 x1 x2 x3 x4 x5 x6 x7)) (fun f ih x0 x1 x2 x3 x4 x5 x6 x7 r hm => LW.fold (step_mono a c (k r)) (h f (fun r => LW (fun I s => ex tb cty ann con a s (kSeq (fun s => wt (s.cut c) I) (k r)))) ih x0 x1 x2 x3 x4 x5 x6 x7 r hm)) x0 x1 x2 x3 x4 x5 x6 x7
theorem S.lw9 {X0 X1 X2 X3 X4 X5 X6 X7 X8 R : Type} {a : Code} {c : Cut} {k : R → Flow → St → Prop} {σ : St} {L : X0 → X1 → X2 → X3 → X4 → X5 → X6 → X7 → X8 → Option R} {Bd : (X0 → X1 → X2 → X3 → X4 → X5 → X6 → X7 → X8 → Option R) → X0 → X1 → X2 → X3 → X4 → X5 → X6 → X7 → X8 → Option R} {x0 : X0} {x1 : X1} {x2 : X2} {x3 : X3} {x4 : X4} {x5 : X5} {x6 : X6} {x7 : X7} {x8 : X8} (sh : X0 → X1 → X2 → X3 → X4 → X5 → X6 → X7 → X8 → St)
    (pc : ∀ motive : X0 → X1 → X2 → X3 → X4 → X5 → X6 → X7 → X8 → R → Prop, (∀ f : X0 → X1 → X2 → X3 → X4 → X5 → X6 → X7 → X8 → Option R, (∀ x0 x1 x2 x3 x4 x5 x6 x7 x8 r, f x0 x1 x2 x3 x4 x5 x6 x7 x8 = some r → motive x0 x1 x2 x3 x4 x5 x6 x7 x8 r) → ∀ x0 x1 x2 x3 x4 x5 x6 x7 x8 r, Bd f x0 x1 x2 x3 x4 x5 x6 x7 x8 = some r → motive x0 x1 x2 x3 x4 x5 x6 x7 x8 r) → ∀ x0 x1 x2 x3 x4 x5 x6 x7 x8 r, L x0 x1 x2 x3 x4 x5 x6 x7 x8 = some r → motive x0 x1 x2 x3 x4 x5 x6 x7 x8 r)
    (h0 : σ = sh x0 x1 x2 x3 x4 x5 x6 x7 x8) (h : ∀ (f : X0 → X1 → X2 → X3 → X4 → X5 → X6 → X7 → X8 → Option R) (I : R → St → Prop), (∀ x0 x1 x2 x3 x4 x5 x6 x7 x8, S (f x0 x1 x2 x3 x4 x5 x6 x7 x8) (fun r => I r (sh x0 x1 x2 x3 x4 x5 x6 x7 x8))) → ∀ x0 x1 x2 x3 x4 x5 x6 x7 x8, S (Bd f x0 x1 x2 x3 x4 x5 x6 x7 x8) (fun r => ex tb cty ann con a (sh x0 x1 x2 x3 x4 x5 x6 x7 x8) (kSeq (fun s => wt (s.cut c) (I r)) (k r)))) :
    S (L x0 x1 x2 x3 x4 x5 x6 x7 x8) (fun r => LW (fun I s => ex tb cty ann con a s (kSeq (fun s => wt (s.cut c) I) (k r))) σ) := by
  subst h0
  exact pc (fun x0 x1 x2 x3 x4 x5 x6 x7 x8 r => LW (fun I s => ex tb cty ann con a s (kSeq (fun s => wt (s.cut c) I) (k r))) (sh x0 x1 x2 x3 x4 x5 x6 x7 x8)) (fun f ih x0 x1 x2 x3 x4 x5 x6 x7 x8 r hm => LW.fold (step_mono a c (k r)) (h f (fun r => LW (fun I s => ex tb cty ann con a s (kSeq (fun s => wt (s.cut c) I) (k r)))) ih x0 x1 x2 x3 x4 x5 x6 x7 x8 r hm)) x0 x1 x2 x3 x4 x5 x6 x7 x8
theorem S.lw10 {X0 X1 X2 X3 X4 X5 X6 X7 X8 X9 R : Type} {a : Code} {c : Cut} {k : R → Flow → St → Prop} {σ : St} {L : X0 → X1 → X2 → X3 → X4 → X5 → X6 → X7 → X8 → X9 → Option R} {Bd : (X0 → X1 → X2 → X3 → X4 → X5 → X6 → X7 → X8 → X9 → Option R) → X0 → X1 → X2 → X3 → X4 → X5 → X6 → X7 → X8 → X9 → Option R} {x0 : X0} {x1 : X1} {x2 : X2} {x3 : X3} {x4 : X4} {x5 : X5} {x6 : X6} {x7 : X7} {x8 : X8} {x9 : X9} (sh : X0 → X1 → X2 → X3 → X4 → X5 → X6 → X7 → X8 → X9 → St)
    (pc : ∀ motive : X0 → X1 → X2 → X3 → X4 → X5 → X6 → X7 → X8 → X9 → R → Prop, (∀ f : X0 → X1 → X2 → X3 → X4 → X5 → X6 → X7 → X8 → X9 → Option R, (∀ x0 x1 x2 x3 x4 x5 x6 x7 x8 x9 r, f x0 x1 x2 x3 x4 x5 x6 x7 x8 x9 = some r → motive x0 x1 x2 x3 x4 x5 x6 x7 x8 x9 r) → ∀ x0 x1 x2 x3 x4 x5 x6 x7 x8 x9 r, Bd f x0 x1 x2 x3 x4 x5 x6 x7 x8 x9 = some r → motive x0 x1 x2 x3 x4 x5 x6 x7 x8 x9 r) → ∀ x0 x1 x2 x3 x4 x5 x6 x7 x8 x9 r, L x0 x1 x2 x3 x4 x5 x6 x7 x8 x9 = some r → motive x0 x1 x2 x3 x4 x5 x6 x7 x8 x9 r)
    (h0 : σ = sh x0 x1 x2 x3 x4 x5 x6 x7 x8 x9) (h : ∀ (f : X0 → X1 → X2 → X3 → X4 → X5 → X6 → X7 → X8 → X9 → Option R) (I : R → St → Prop), (∀ x0 x1 x2 x3 x4 x5 x6 x7 x8 x9, S (f x0 x1 x2 x3 x4 x5 x6 x7 x8 x9) (fun r => I r (sh x0 x1 x2 x3 x4 x5 x6 x7 x8 x9))) → ∀ x0 x1 x2 x3 x4 x5 x6 x7 x8 x9, S (Bd f x0 x1 x2 x3 x4 x5 x6 x7 x8 x9) (fun r => ex tb cty ann con a (sh x0 x1 x2 x3 x4 x5 x6 x7 x8 x9) (kSeq (fun s => wt (s.cut c) (I r)) (k r)))) :
    S (L x0 x1 x2 x3 x4 x5 x6 x7 x8 x9) (fun r => LW (fun I s => ex tb cty ann con a s (kSeq (fun s => wt (s.cut c) I) (k r))) σ) := by
  subst h0
  exact pc (fun x0 x1 x2 x3 x4 x5 x6 x7 x8 x9 r => LW (fun I s => ex tb cty ann con a s (kSeq (fun s => wt (s.cut c) I) (k r))) (sh x0 x1 x2 x3 x4 x5 x6 x7 x8 x9)) (fun f ih x0 x1 x2 x3 x4 x5 x6 x7 x8 x9 r hm => LW.fold (step_mono a c (k r)) (h f (fun r => LW (fun I s => ex tb cty ann con a s (kSeq (fun s => wt (s.cut c) I) (k r)))) ih x0 x1 x2 x3 x4 x5 x6 x7 x8 x9 r hm)) x0 x1 x2 x3 x4 x5 x6 x7 x8 x9
theorem S.lw11 {X0 X1 X2 X3 X4 X5 X6 X7 X8 X9 X10 R : Type} {a : Code} {c : Cut} {k : R → Flow → St → Prop} {σ : St} {L : X0 → X1 → X2 → X3 → X4 → X5 → X6 → X7 → X8 → X9 → X10 → Option R} {Bd : (X0 → X1 → X2 → X3 → X4 → X5 → X6 → X7 → X8 → X9 → X10 → Option R) → X0 → X1 → X2 → X3 → X4 → X5 → X6 → X7 → X8 → X9 → X10 → Option R} {x0 : X0} {x1 : X1} {x2 : X2} {x3 : X3} {x4 : X4} {x5 : X5} {x6 : X6} {x7 : X7} {x8 : X8} {x9 : X9} {x10 : X10} (sh : X0 → X1 → X2 → X3 → X4 → X5 → X6 → X7 → X8 → X9 → X10 → St)
    (pc : ∀ motive : X0 → X1 → X2 → X3 → X4 → X5 → X6 → X7 → X8 → X9 → X10 → R → Prop, (∀ f : X0 → X1 → X2 → X3 → X4 → X5 → X6 → X7 → X8 → X9 → X10 → Option R, (∀ x0 x1 x2 x3 x4 x5 x6 x7 x8 x9 x10 r, f x0 x1 x2 x3 x4 x5 x6 x7 x8 x9 x10 = some r → motive x0 x1 x2 x3 x4 x5 x6 x7 x8 x9 x10 r) → ∀ x0 x1 x2 x3 x4 x5 x6 x7 x8 x9 x10 r, Bd f x0 x1 x2 x3 x4 x5 x6 x7 x8 x9 x10 = some r → motive x0 x1 x2 x3 x4 x5 x6 x7 x8 x9 x10 r) → ∀ x0 x1 x2 x3 x4 x5 x6 x7 x8 x9 x10 r, L x0 x1 x2 x3 x4 x5 x6 x7 x8 x9 x10 = some r → motive x0 x1 x2 x3 x4 x5 x6 x7 x8 x9 x10 r)
    (h0 : σ = sh x0 x1 x2 x3 x4 x5 x6 x7 x8 x9 x10) (h : ∀ (f : X0 → X1 → X2 → X3 → X4 → X5 → X6 → X7 → X8 → X9 → X10 → Option R) (I : R → St → Prop), (∀ x0 x1 x2 x3 x4 x5 x6 x7 x8 x9 x10, S (f x0 x1 x2 x3 x4 x5 x6 x7 x8 x9 x10) (fun r => I r (sh x0 x1 x2 x3 x4 x5 x6 x7 x8 x9 x10))) → ∀ x0 x1 x2 x3 x4 x5 x6 x7 x8 x9 x10, S (Bd f x0 x1 x2 x3 x4 x5 x6 x7 x8 x9 x10) (fun r => ex tb cty ann con a (sh x0 x1 x2 x3 x4 x5 x6 x7 x8 x9 x10) (kSeq (fun s => wt (s.cut c) (I r)) (k r)))) :
    S (L x0 x1 x2 x3 x4 x5 x6 x7 x8 x9 x10) (fun r => LW (fun I s => ex tb cty ann con a s (kSeq (fun s => wt (s.cut c) I) (k r))) σ) := by
  subst h0
  exact pc (fun x0 x1 x2 x3 x4 x5 x6 x7 x8 x9 x10 r => LW (fun I s => ex tb cty ann con a s (kSeq (fun s => wt (s.cut c) I) (k r))) (sh x0 x1 x2 x3 x4 x5 x6 x7 x8 x9 x10)) (fun f ih x0 x1 x2 x3 x4 x5 x6 x7 x8 x9 x10 r hm => LW.fold (step_mono a c (k r)) (h f (fun r => LW (fun I s => ex tb cty ann con a s (kSeq (fun s => wt (s.cut c) I) (k r)))) ih x0 x1 x2 x3 x4 x5 x6 x7 x8 x9 x10 r hm)) x0 x1 x2 x3 x4 x5 x6 x7 x8 x9 x10
theorem S.lw12 {X0 X1 X2 X3 X4 X5 X6 X7 X8 X9 X10 X11 R : Type} {a : Code} {c : Cut} {k : R → Flow → St → Prop} {σ : St} {L : X0 → X1 → X2 → X3 → X4 → X5 → X6 → X7 → X8 → X9 → X10 → X11 → Option R} {Bd : (X0 → X1 → X2 → X3 → X4 → X5 → X6 → X7 → X8 → X9 → X10 → X11 → Option R) → X0 → X1 → X2 → X3 → X4 → X5 → X6 → X7 → X8 → X9 → X10 → X11 → Option R} {x0 : X0} {x1 : X1} {x2 : X2} {x3 : X3} {x4 : X4} {x5 : X5} {x6 : X6} {x7 : X7} {x8 : X8} {x9 : X9} {x10 : X10} {x11 : X11} (sh : X0 → X1 → X2 → X3 → X4 → X5 → X6 → X7 → X8 → X9 → X10 → X11 → St)
    (pc : ∀ motive : X0 → X1 → X2 → X3 → X4 → X5 → X6 → X7 → X8 → X9 → X10 → X11 → R → Prop, (∀ f : X0 → X1 → X2 → X3 → X4 → X5 → X6 → X7 → X8 → X9 → X10 → X11 → Option R, (∀ x0 x1 x2 x3 x4 x5 x6 x7 x8 x9 x10 x11 r, f x0 x1 x2 x3 x4 x5 x6 x7 x8 x9 x10 x11 = some r → motive x0 x1 x2 x3 x4 x5 x6 x7 x8 x9 x10 x11 r) → ∀ x0 x1 x2 x3 x4 x5 x6 x7 x8 x9 x10 x11 r, Bd f x0 x1 x2 x3 x4 x5 x6 x7 x8 x9 x10 x11 = some r → motive x0 x1 x2 x3 x4 x5 x6 x7 x8 x9 x10 x11 r) → ∀ x0 x1 x2 x3 x4 x5 x6 x7 x8 x9 x10 x11 r, L x0 x1 x2 x3 x4 x5 x6 x7 x8 x9 x10 x11 = some r → motive x0 x1 x2 x3 x4 x5 x6 x7 x8 x9 x10 x11 r)
    (h0 : σ = sh x0 x1 x2 x3 x4 x5 x6 x7 x8 x9 x10 x11) (h : ∀ (f : X0 → X1 → X2 → X3 → X4 → X5 → X6 → X7 → X8 → X9 → X10 → X11 → Option R) (I : R → St → Prop), (∀ x0 x1 x2 x3 x4 x5 x6 x7 x8 x9 x10 x11, S (f x0 x1 x2 x3 x4 x5 x6 x7 x8 x9 x10 x11) (fun r => I r (sh x0 x1 x2 x3 x4 x5 x6 x7 x8 x9 x10 x11))) → ∀ x0 x1 x2 x3 x4 x5 x6 x7 x8 x9 x10 x11, S (Bd f x0 x1 x2 x3 x4 x5 x6 x7 x8 x9 x10 x11) (fun r => ex tb cty ann con a (sh x0 x1 x2 x3 x4 x5 x6 x7 x8 x9 x10 x11) (kSeq (fun s => wt (s.cut c) (I r)) (k r)))) :
    S (L x0 x1 x2 x3 x4 x5 x6 x7 x8 x9 x10 x11) (fun r => LW (fun I s => ex tb cty ann con a s (kSeq (fun s => wt (s.cut c) I) (k r))) σ) := by
  subst h0
  exact pc (fun x0 x1 x2 x3 x4 x5 x6 x7 x8 x9 x10 x11 r => LW (fun I s => ex tb cty ann con a s (kSeq (fun s => wt (s.cut c) I) (k r))) (sh x0 x1 x2 x3 x4 x5 x6 x7 x8 x9 x10 x11)) (fun f ih x0 x1 x2 x3 x4 x5 x6 x7 x8 x9 x10 x11 r hm => LW.fold (step_mono a c (k r)) (h f (fun r => LW (fun I s => ex tb cty ann con a s (kSeq (fun s => wt (s.cut c) I) (k r)))) ih x0 x1 x2 x3 x4 x5 x6 x7 x8 x9 x10 x11 r hm)) x0 x1 x2 x3 x4 x5 x6 x7 x8 x9 x10 x11
theorem S.lwx {R : Type} {a : Code} {c : Cut} {k : R → Flow → St → Prop} {σ : St} {y : Option R} (h : S y (fun r => ex tb cty ann con a σ (kSeq (fun s => wt (s.cut c) (LW (fun I s => ex tb cty ann con a s (kSeq (fun s => wt (s.cut c) I) (k r))))) (k r)))) : S y (fun r => LW (fun I s => ex tb cty ann con a s (kSeq (fun s => wt (s.cut c) I) (k r))) σ) :=
  fun r hm => LW.fold (step_mono a c (k r)) (h r hm)
end
section
variable {R A X : Type} {f c : X → List D} {E : List X → List (List D)} {l l2 : List (List D)} {xs ys : List X}
theorem S.ixE (hE : ∀ l, E l = l.map f) {i : Int} {F : R → List D → Prop} {g : X → Option R} (hl : l = E xs) (hc : ∀ x, f x = c x) (h : ∀ x, S (g x) (fun r => F r (c x))) : S (Go.Lk.ix xs i >>= g) (fun r => Ex (Go.Lk.ix l i) (F r)) := S.ix (hl.trans (hE xs)) hc h
theorem S.subE (hE : ∀ l, E l = l.map f) {i j : Int} {F : R → List (List D) → Prop} {g : List X → Option R} (hl : l = E xs) (h : ∀ x, S (g x) (fun r => F r (E x))) : S (Go.Lk.sub xs i j >>= g) (fun r => Ex (Go.Lk.sub l i j) (F r)) := S.sub (f := f) (hl.trans (hE xs)) fun x => by rw [← hE]; exact h x
theorem S.appE (hE : ∀ l, E l = l.map f) {n : Nat} {F : R → List (List D) → Prop} {g : List X → Option R} (hl : l = E xs) (hl2 : l2 = E ys) (h : ∀ x, S (g x) (fun r => F r (E x))) : S (Go.Lk.app n xs ys >>= g) (fun r => Ex (Go.Lk.app n l l2) (F r)) := S.app (f := f) (hl.trans (hE xs)) (hl2.trans (hE ys)) fun x => by rw [← hE]; exact h x
theorem S.setxE (hE : ∀ l, E l = l.map f) {d : List D} {x : X} {i : Int} {F : R → List (List D) → Prop} {g : List X → Option R} (hl : l = E xs) (hd : d = f x) (h : ∀ x, S (g x) (fun r => F r (E x))) : S (Go.Lk.setx xs i x >>= g) (fun r => Ex (Go.Lk.setx l i d) (F r)) := S.setx (f := f) (hl.trans (hE xs)) hd fun x => by rw [← hE]; exact h x
/-- A length: of what E tells. -/
theorem len_map {l : List X} : (l.map f).length = l.length := List.length_map ..
end
section
variable {tb : Tb} {cty : List (Nat × List (Option (Nat × Nat)))} {ann : Ann} {con : Nat → CIn → COut → Prop} {R X : Type}
/-- What follows, where a part is told by itself: its ends within, and what is behind it. -/
def kD {Y : Type} (k : R → Y) (no : Y) : Jn R X → Y
  | .done r => k r
  | .go _ => no
def jG (sh : X → St) (j : Jn R X) : St → Prop := fun s => match j with
  | .go x => s = sh x
  | .done _ => False
theorem S.jn {a : Code} {σ : St} {c : Cut} {k : R → Flow → St → Prop} {B : R → St → Prop} {z : Option (Jn R X)} {m : Jn R X → Option R} (sh : X → St)
    (hA : S z fun j => ex tb cty ann con a σ (kSeq (fun s => wt (s.cut c) (jG sh j)) (kD k (fun _ _ => False) j))) (hd : ∀ r, m (.done r) = some r) (hB : ∀ x, S (m (.go x)) fun r => B r (sh x)) :
    S (z >>= m) (fun r => ∃ J : St → Prop, ex tb cty ann con a σ (kSeq (fun s => wt (s.cut c) J) (k r)) ∧ ∀ s, J s → B r s) := by
  intro r hm
  obtain ⟨j, h1, h2⟩ := bnd hm
  refine ⟨jG sh j, ex_mono a _ _ _ (kSeq_mono (fun _ => id) ?_) (hA j h1), ?_⟩
  · cases j with
    | done r0 => rw [hd] at h2; cases h2; exact fun _ _ => id
    | go x => exact fun _ _ h => h.elim
  · cases j with
    | done r0 => exact fun _ h => h.elim
    | go x => intro s h; cases h; exact hB x r h2
theorem S.jo {ops : Array Oper} {os : List Oper} {σ : St} {c : Cut} {kp : R → PV → St → Prop} {B : R → St → Prop} {z : Option (Jn R X)} {m : Jn R X → Option R} (sh : X → St)
    (hA : S z fun j => exops tb cty ann con ops (kD kp (fun _ _ => False) j) (fun s => wt (s.cut c) (jG sh j)) os σ) (hd : ∀ r, m (.done r) = some r) (hB : ∀ x, S (m (.go x)) fun r => B r (sh x)) :
    S (z >>= m) (fun r => ∃ J : St → Prop, exops tb cty ann con ops (kp r) (fun s => wt (s.cut c) J) os σ ∧ ∀ s, J s → B r s) := by
  intro r hm
  obtain ⟨j, h1, h2⟩ := bnd hm
  refine ⟨jG sh j, exops_mono (fun _ => id) ?_ _ _ (hA j h1), ?_⟩
  · cases j with
    | done r0 => rw [hd] at h2; cases h2; exact fun _ _ => id
    | go x => exact fun _ _ h => h.elim
  · cases j with
    | done r0 => exact fun _ h => h.elim
    | go x => intro s h; cases h; exact hB x r h2
theorem S.jd {ops : Array Oper} {g : Gt} {qs : List Nat} {σ : St} {c : Cut} {kp : R → PV → St → Prop} {B : R → St → Prop} {z : Option (Jn R X)} {m : Jn R X → Option R} (sh : X → St)
    (hA : S z fun j => exdraw tb cty ann con ops (kD kp (fun _ _ => False) j) (fun s => wt (s.cut c) (jG sh j)) g qs σ) (hd : ∀ r, m (.done r) = some r) (hB : ∀ x, S (m (.go x)) fun r => B r (sh x)) :
    S (z >>= m) (fun r => ∃ J : St → Prop, exdraw tb cty ann con ops (kp r) (fun s => wt (s.cut c) J) g qs σ ∧ ∀ s, J s → B r s) := by
  intro r hm
  obtain ⟨j, h1, h2⟩ := bnd hm
  refine ⟨jG sh j, exdraw_mono (fun _ => id) ?_ _ _ _ (hA j h1), ?_⟩
  · cases j with
    | done r0 => rw [hd] at h2; cases h2; exact fun _ _ => id
    | go x => exact fun _ _ h => h.elim
  · cases j with
    | done r0 => exact fun _ h => h.elim
    | go x => intro s h; cases h; exact hB x r h2
/-- An end of what is around, told within. -/
theorem S.dn {Y1 Y2 : Type} {k : R → Y1 → Y2 → Prop} {p : Y1} {q : Y2} {y : Option R} (h : S y fun r => k r p q) : S (y >>= fun r => some (Jn.done r : Jn R X)) (fun j => kD k (fun _ _ => False) j p q) := by
  intro j hm
  obtain ⟨r, h1, h2⟩ := bnd hm
  cases h2
  exact h r h1
theorem lenD_map {Y : Type} {f : Y → List D} {xs : List Y} : lenD (xs.map f) = some (xs.length : Int) := by simp [lenD]
theorem lenD_E {Y : Type} {f : Y → List D} {E : List Y → List (List D)} (hE : ∀ l, E l = l.map f) {xs : List Y} : lenD (E xs) = some (xs.length : Int) := by rw [hE]; exact lenD_map
theorem Ex.i {Y : Type} {z : Option Y} {k : Y → Prop} {a : Y} (hz : z = some a) (h : k a) : Ex z k := ⟨a, hz, h⟩
theorem jbI {Y : Type} {sh : Y → St} {v b : Y} {s : St} (h : s = sh b) (p : b = v) : ∃ b, s = sh b ∧ b = v := ⟨b, h, p⟩
theorem nand_t {a e : Bool} (h : a = true) : false = (!a && e) := by rw [h]; rfl
theorem nand_f {a e v : Bool} (h : a = false) (p : v = e) : v = (!a && e) := by rw [h]; exact p
theorem nor_f {a e : Bool} (h : a = false) : true = (!a || e) := by rw [h]; rfl
theorem nor_t {a e v : Bool} (h : a = true) (p : v = e) : v = (!a || e) := by rw [h]; exact p
theorem it_t {Y : Type} {a : Bool} {v e1 e2 : Y} (h : a = true) (p : v = e1) : v = (if a = true then e1 else e2) := by rw [if_pos h]; exact p
theorem it_f {Y : Type} {a : Bool} {v e1 e2 : Y} (h : a = false) (p : v = e2) : v = (if a = true then e1 else e2) := by rw [if_neg (by rw [h]; exact Bool.false_ne_true)]; exact p
end
end Go.Pe
