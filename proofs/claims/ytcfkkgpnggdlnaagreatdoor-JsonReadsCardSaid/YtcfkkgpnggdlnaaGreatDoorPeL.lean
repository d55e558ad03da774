/- The lockstep rules: a model's step beside the evaluator's. -/
import Derived.Test.YtcfkkgpnggdlnaaGreatDoorPeB
set_option linter.all false
namespace Go.Pe
open Go.RowKit Go.Lk
def en {β : Type} : Nat → List β → List (Nat × β)
  | _, [] => []
  | i, x :: r => (i, x) :: en (i + 1) r
def entry (i : CIn) : St := { L := en 0 i.vs, B := en 0 i.B, A := en 0 (i.A.map fun e => (⟨false, e.1, e.2.1, e.2.2⟩ : Arr)) }
def resV (tb : Tb) (σ : St) : List ResultVar → Option (List PV)
  | [] => some []
  | .tmp t :: r => match lk σ.L t, resV tb σ r with
    | some v, some vs => some (v :: vs)
    | _, _ => none
  | .cell t T :: r => match lk σ.L t with
    | some (.ptr b 0) => match lk σ.B b, lk tb.shp T with
      | some e, some s => match Nat.beq e.cs.length s.2, aggOf s.1 s.2 e.cs, resV tb σ r with
        | true, some v, some vs => some (v :: vs)
        | _, _, _ => none
      | _, _ => none
    | _ => none
def rslots : List ResultVar → List Nat
  | [] => []
  | .tmp t :: r => t :: rslots r
  | .cell t _ :: r => t :: rslots r
/-- Which boxes the places' pointers lead to. -/
def St.keysAt (σ : St) : List Place → Option (List Nat)
  | [] => some []
  | p :: r => match σ.at p, σ.keysAt r with
    | some (.ptr b 0), some l => some (b :: l)
    | _, _ => none
def rng : Nat → Nat → List Nat
  | 0, _ => []
  | n + 1, i => i :: rng n (i + 1)
def arrsOut (σ : St) : Nat → List (Option (Nat × Nat × List (List D))) → Prop
  | _, [] => True
  | i, none :: r => arrsOut σ (i + 1) r
  | i, some e :: r => (match lk σ.A i with
    | some x => x.T = e.1 ∧ x.n = e.2.1 ∧ x.l = e.2.2
    | none => False) ∧ arrsOut σ (i + 1) r
def finO (tb : Tb) (ann : Ann) (res : List ResultVar) (σ : St) (vs : List PV) (B : List Bx) (A : List (Option (Nat × Nat × List (List D)))) : Prop :=
  wt (({ σ with L := keepK (rslots res) σ.L } : St).home ann.fin) fun σ => wt (resV tb σ res) fun rs => wt (σ.freeze (lent.go vs rs)) fun σ' => wt (σ.keysAt ann.finB) fun nk =>
    nrm.go σ vs rs = renP.go (rng ann.nb 0 ++ nk) (rng A.length 0) vs ∧ boxesOk σ' (rng ann.nb 0 ++ nk) (rng A.length 0) (rng ann.nb 0 ++ nk) B ∧ arrsOut σ' 0 A ∧
    (inR.go B.length A.length vs && B.all (fun e => inR.go B.length A.length e.cs) && nodupN nk && nk.all (Nat.ble 1000) && Nat.beq B.length (ann.nb + nk.length)) = true
/-- What is shown of a function's end. -/
def fin (tb : Tb) (ann : Ann) (res : List ResultVar) (out : COut) : Flow → St → Prop
  | .ret, σ => match out with
    | .ok vs B A => finO tb ann res σ vs B A
    | .pan _ => False
  | .normal, σ => match out with
    | .ok vs B A => finO tb ann res σ vs B A
    | .pan _ => False
  | .pan v, _ => out = .pan v
  | .exit _, _ => False
def bodyOf (f : Func) : Code := match f.body with
  | some c => c
  | none => .refuse ""

/-- Whatever the model's y comes to, W holds of it. -/
def S {R : Type} (y : Option R) (W : R → Prop) : Prop := ∀ r, y = some r → W r
section
variable {R A : Type} {W W1 W2 : R → Prop} {y y1 y2 : Option R}
theorem S.c {p : Prop} [Decidable p] {b : Bool} (hb : b = decide p) (h1 : S y1 W1) (h2 : S y2 W2) : S (if p then y1 else y2) (fun r => cond b (W1 r) (W2 r)) := by
  subst hb
  intro r h
  by_cases hp : p
  · rw [if_pos hp] at h; rw [decide_eq_true hp]; exact h1 r h
  · rw [if_neg hp] at h; rw [decide_eq_false hp]; exact h2 r h
theorem S.cb {b : Bool} (h1 : S y1 W1) (h2 : S y2 W2) : S (if b = true then y1 else y2) (fun r => cond b (W1 r) (W2 r)) := by
  intro r h
  cases b with
  | true => exact h1 r h
  | false => exact h2 r h
theorem S.e {z : Option A} {F : R → A → Prop} {g : A → Option R} (h : ∀ a, S (g a) (fun r => F r a)) : S (z >>= g) (fun r => Ex z (F r)) := by
  intro r hm
  obtain ⟨a, h1, h2⟩ := bnd hm
  exact ⟨a, h1, h a r h2⟩
theorem S.eq {z : Option A} {F : R → A → Prop} {a : A} (hz : z = some a) (h : S y (fun r => F r a)) : S y (fun r => Ex z (F r)) := fun r hm => ⟨a, hz, h r hm⟩
theorem S.z {a : R} (h : W a) : S (some a) W := fun r e => by cases e; exact h
theorem S.ix {X : Type} {f c : X → List D} {l : List (List D)} {xs : List X} {i : Int} {F : R → List D → Prop} {g : X → Option R} (hl : l = xs.map f) (hc : ∀ x, f x = c x) (h : ∀ x, S (g x) (fun r => F r (c x))) : S (Go.Lk.ix xs i >>= g) (fun r => Ex (Go.Lk.ix l i) (F r)) := by
  intro r hm
  obtain ⟨a, h1, h2⟩ := bnd hm
  obtain ⟨j, rfl, h3⟩ := ix_some h1
  exact ⟨f a, by rw [hl]; simp [Go.Lk.ix, h3], by rw [hc]; exact h a r h2⟩
theorem S.sub {X : Type} {f : X → List D} {l : List (List D)} {xs : List X} {i j : Int} {F : R → List (List D) → Prop} {g : List X → Option R} (hl : l = xs.map f) (h : ∀ x, S (g x) (fun r => F r (x.map f))) : S (Go.Lk.sub xs i j >>= g) (fun r => Ex (Go.Lk.sub l i j) (F r)) := by
  intro r hm
  obtain ⟨a, h1, h2⟩ := bnd hm
  refine ⟨a.map f, ?_, h a r h2⟩
  subst hl
  unfold Go.Lk.sub at h1 ⊢
  split at h1
  · rename_i hc
    cases h1
    rw [if_pos (by simpa using hc)]
    simp
  · cases h1
theorem S.app {X : Type} {f : X → List D} {l l2 : List (List D)} {xs ys : List X} {n : Nat} {F : R → List (List D) → Prop} {g : List X → Option R} (hl : l = xs.map f) (hl2 : l2 = ys.map f) (h : ∀ x, S (g x) (fun r => F r (x.map f))) : S (Go.Lk.app n xs ys >>= g) (fun r => Ex (Go.Lk.app n l l2) (F r)) := by
  intro r hm
  obtain ⟨a, h1, h2⟩ := bnd hm
  refine ⟨a.map f, ?_, h a r h2⟩
  subst hl hl2
  unfold Go.Lk.app at h1 ⊢
  split at h1
  · rename_i hc
    cases h1
    rw [if_pos (by simpa using hc)]
    simp
  · cases h1
theorem S.setx {X : Type} {f : X → List D} {l : List (List D)} {d : List D} {xs : List X} {x : X} {i : Int} {F : R → List (List D) → Prop} {g : List X → Option R} (hl : l = xs.map f) (hd : d = f x) (h : ∀ x, S (g x) (fun r => F r (x.map f))) : S (Go.Lk.setx xs i x >>= g) (fun r => Ex (Go.Lk.setx l i d) (F r)) := by
  intro r hm
  obtain ⟨a, h1, h2⟩ := bnd hm
  refine ⟨a.map f, ?_, h a r h2⟩
  subst hl hd
  unfold Go.Lk.setx at h1 ⊢
  split at h1
  · rename_i hc
    cases h1
    rw [if_pos (by simpa using hc)]
    simp [List.map_set]
  · cases h1
theorem dby_eI (xs : List Int) : Go.Pe.dby (xs.map (eI .u8)) = some (byt xs) := by
  induction xs with
  | nil => rfl
  | cons x xs ih =>
    simp only [List.map_cons, eI, Go.Pe.dby]
    rw [ih]
    rfl
theorem S.dby {l : List (List D)} {xs : List Int} {F : R → List UInt8 → Prop} (hl : l = xs.map (eI .u8)) (h : S y (fun r => F r (byt xs))) : S y (fun r => Ex (Go.Pe.dby l) (F r)) := fun r hm => ⟨byt xs, by rw [hl]; exact dby_eI xs, h r hm⟩
/-- A cut: what the first part comes to has the shape 'sh a'. -/
theorem S.j {B : R → St → Prop} {A' : R → (St → Prop) → Prop} {z : Option A} {g : A → Option R} (sh : A → St) (hA : ∀ r, S z fun a => A' r fun s => s = sh a) (hB : ∀ a, S (g a) (fun r => B r (sh a))) : S (z >>= g) (fun r => ∃ J : St → Prop, A' r J ∧ ∀ s, J s → B r s) := by
  intro r hm
  obtain ⟨a, h1, h2⟩ := bnd hm
  exact ⟨_, hA r a h1, fun s hs => by subst hs; exact hB a r h2⟩
theorem S.jp {B : R → St → Prop} {A' : R → (St → Prop) → Prop} (s0 : St) (hA : ∀ r, A' r fun s => s = s0) (hB : S y (fun r => B r s0)) : S y (fun r => ∃ J : St → Prop, A' r J ∧ ∀ s, J s → B r s) := fun r hm => ⟨_, hA r, fun s hs => by subst hs; exact hB r hm⟩
theorem cnd {b : Bool} {p q : Prop} (h1 : b = true → p) (h2 : b = false → q) : cond b p q := by
  cases b with
  | true => exact h1 rfl
  | false => exact h2 rfl
/-- A call. -/
theorem S.k {con : Nat → CIn → COut → Prop} {σ : St} {f : Nat} {args : List PV} {k : R → PV → St → Prop} {kp : R → PV → St → Prop} {z : Option A} {g : A → Option R} {i : CIn} {o : A → COut} (bs as as' : List Nat) (hc : ∀ a, z = some a → con f i (o a))
    (h1 : nrm.go σ i.vs args = renP.go bs as i.vs) (h2 : boxesOk σ bs as bs i.B) (h3 : arrsOk σ as i.A) (h4 : callOk σ bs as (lent.go i.vs args) i = true)
    (h : ∀ a, S (g a) (fun r => callK bs as as' i args σ (k r) (kp r) (o a))) : S (z >>= g) (fun r => callW con σ f args (k r) (kp r)) := by
  intro r hm
  obtain ⟨a, h5, h6⟩ := bnd hm
  exact ⟨bs, as, as', i, o a, hc a h5, h1, h2, h3, h4, h a r h6⟩
/-- The evaluator is monotone in what follows. -/
theorem wt_mono {α : Type} {z : Option α} {k k' : α → Prop} (h : ∀ a, k a → k' a) (hw : wt z k) : wt z k' := by
  cases z with
  | none => exact hw
  | some a => exact h a hw
theorem Ex_mono {α : Type} {z : Option α} {k k' : α → Prop} (h : ∀ a, k a → k' a) (hw : Ex z k) : Ex z k' := by
  obtain ⟨a, h1, h2⟩ := hw
  exact ⟨a, h1, h a h2⟩
theorem cond_mono {b : Bool} {p q p' q' : Prop} (h1 : p → p') (h2 : q → q') (h : cond b p q) : cond b p' q' := by
  cases b with
  | true => exact h1 h
  | false => exact h2 h
end
end Go.Pe
namespace Go.Pe
open Go.RowKit Go.Lk
theorem bop_mono {td : TypeDesc} {op : BinOp} {u v : PV} {k k' : PV → Prop} (h : ∀ a, k a → k' a) (hw : bop td op u v k) : bop td op u v k' := by
  revert hw
  unfold bop
  repeat' split
  all_goals first
    | exact fun hw => Ex_mono (fun _ => h _) hw
    | exact fun hw => wt_mono (fun _ => h _) hw
    | exact fun hw => h _ hw
    | exact fun hw => hw
theorem uop_mono {op : UnOp} {u : PV} {k k' : PV → Prop} (h : ∀ a, k a → k' a) (hw : uop op u k) : uop op u k' := by
  revert hw
  unfold uop
  repeat' split
  all_goals first
    | exact fun hw => wt_mono (fun _ => h _) hw
    | exact fun hw => h _ hw
    | exact fun hw => hw
theorem loadE_mono {σ : St} {g : Bool} {n : Nat} {u : PV} {k k' : PV → Prop} (h : ∀ a, k a → k' a) (hw : loadE σ g n u k) : loadE σ g n u k' := by
  revert hw
  unfold loadE
  split
  · refine fun hw => wt_mono (fun _ => ?_) hw
    split <;> first | exact Ex_mono (fun _ => wt_mono h) | exact id
  · exact fun hw => wt_mono h hw
theorem lenW_mono {td : TypeDesc} {σ : St} {u : PV} {k k' : Int → Prop} (h : ∀ a, k a → k' a) : lenW td σ u k → lenW td σ u k' := by
  unfold lenW
  split
  · exact h _
  · exact Ex_mono h
  · exact h _
  · exact wt_mono fun _ => Ex_mono h
  · exact id
theorem loW_mono {σ : St} {x : Option Operand} {k k' : Int → Prop} (h : ∀ a, k a → k' a) : loW σ x k → loW σ x k' := by
  unfold loW
  split
  · exact h _
  · split <;> first | exact h _ | exact id
theorem hiW_mono {td : TypeDesc} {σ : St} {u : PV} {x : Option Operand} {k k' : Int → Prop} (h : ∀ a, k a → k' a) : hiW td σ u x k → hiW td σ u x k' := by
  unfold hiW
  split
  · exact lenW_mono h
  · split <;> first | exact h _ | exact id
theorem mmW_mono {b : Bool} {u v : PV} {k k' : PV → Prop} (h : ∀ x, k x → k' x) : mmW b u v k → mmW b u v k' := by
  unfold mmW
  split
  · split <;> first | exact h _ | exact id
  · exact id
theorem qop_mono {tb : Tb} {σ : St} {op : Op} {k k' : PV → Prop} (h : ∀ a, k a → k' a) (hw : qop tb σ op k) : qop tb σ op k' := by
  revert hw
  unfold qop
  split
  case h_1 => exact wt_mono h
  case h_2 => exact wt_mono h
  case h_3 => split <;> first | exact wt_mono (fun _ => wt_mono fun _ => cond_mono (h _) (h _)) | exact id
  case h_4 =>
    split
    · split
      · refine wt_mono fun _ => ?_
        split <;> first | exact h _ | exact id
      · exact id
    · exact wt_mono fun _ => wt_mono fun _ => wt_mono fun _ => bop_mono h
  case h_5 => exact wt_mono fun _ => uop_mono h
  case h_6 => refine wt_mono fun _ => ?_; split <;> first | exact h _ | exact id
  case h_7 => refine wt_mono fun _ => ?_; split <;> first | exact h _ | exact id
  case h_8 => exact wt_mono fun _ => wt_mono fun _ => h _
  case h_9 => split <;> first | exact wt_mono h | exact id
  case h_10 => refine wt_mono fun _ => ?_; split <;> first | exact h _ | exact id
  case h_11 => refine wt_mono fun _ => wt_mono fun _ => ?_; split <;> first | exact h _ | exact id
  case h_12 => refine wt_mono fun _ => ?_; split <;> first | exact wt_mono h | exact id
  case h_13 => exact wt_mono fun _ => wt_mono fun _ => loadE_mono h
  case h_14 => split <;> first | exact Ex_mono fun _ => h _ | exact id
  case h_15 =>
    split
    · refine wt_mono fun _ => ?_
      split
      · refine wt_mono fun _ => ?_; split <;> first | exact Ex_mono fun _ => h _ | exact id
      · exact id
    refine wt_mono fun _ => ?_
    split
    · refine wt_mono fun _ => ?_
      split
      · split <;> first | exact Ex_mono fun _ => h _ | exact id
      · refine wt_mono fun _ => ?_; split <;> first | exact Ex_mono fun _ => h _ | exact id
      · exact id
    · exact id
  case h_16 =>
    refine wt_mono fun _ => wt_mono fun _ => loW_mono fun _ => hiW_mono fun _ => ?_
    split
    · exact Ex_mono fun _ => h _
    · refine wt_mono fun _ => ?_; split <;> first | exact Ex_mono fun _ => h _ | exact id
    · exact id
  case h_17 => split <;> first | exact wt_mono fun _ => wt_mono fun _ => lenW_mono fun _ => h _ | exact wt_mono fun _ => wt_mono fun _ => mmW_mono fun _ => h _ | exact id
  case h_19 => exact wt_mono fun _ => wt_mono fun _ => wt_mono fun _ => by split <;> first | exact h _ | exact id
  case h_18 =>
    refine wt_mono fun _ => ?_
    split
    · split <;> exact h _
    · exact h _
    · exact id
  case h_20 =>
    refine wt_mono fun _ => ?_
    split
    · refine wt_mono fun _ => ?_
      split
      · exact Ex_mono fun _ => Ex_mono fun _ => Ex_mono fun _ => h _
      · exact id
    · exact id
  case h_21 => exact id
section
variable {tb : Tb} {cty : List (Nat × List (Option (Nat × Nat)))} {ann : Ann} {con : Nat → CIn → COut → Prop}
theorem callK_mono {bs as as' : List Nat} {i : CIn} {args : List PV} {σ : St} {k k' : PV → St → Prop} {kp kp' : PV → St → Prop} (h : ∀ a s, k a s → k' a s) (hp : ∀ v s, kp v s → kp' v s) : ∀ {o : COut}, callK bs as as' i args σ k kp o → callK bs as as' i args σ k' kp' o
  | .ok _ _ _, hw => wt_mono (fun _ hw => ⟨hw.1, h _ _ hw.2⟩) hw
  | .pan _, hw => ⟨hw.1, hp _ _ hw.2⟩
theorem callW_mono {σ : St} {f : Nat} {args : List PV} {k k' : PV → St → Prop} {kp kp' : PV → St → Prop} (h : ∀ a s, k a s → k' a s) (hp : ∀ v s, kp v s → kp' v s) (hw : callW con σ f args k kp) : callW con σ f args k' kp' := by
  obtain ⟨bs, as, as', i, o, h1, h2, h3, h4, h5, h6⟩ := hw
  exact ⟨bs, as, as', i, o, h1, h2, h3, h4, h5, callK_mono h hp h6⟩
theorem born_mono {σ : St} {key E : Nat} {k k' : St → Prop} (h : ∀ s, k s → k' s) : σ.born key E k → σ.born key E k' := by
  unfold St.born
  refine wt_mono fun _ => ?_
  split <;> first | exact h _ | exact id
set_option maxRecDepth 100000 in
theorem act_mono {σ : St} {o : Oper} {k k' : St → Prop} {kp kp' : PV → St → Prop} (h : ∀ s, k s → k' s) (hp : ∀ v s, kp v s → kp' v s) (hw : act tb cty ann con σ o k kp) : act tb cty ann con σ o k' kp' := by
  revert hw
  unfold act
  split
  case h_1 =>
    refine wt_mono fun _ => wt_mono fun _ => ?_
    split
    · split
      · exact h _
      · exact born_mono h
    · exact id
  case h_2 =>
    refine wt_mono fun _ => wt_mono fun _ => ?_
    split
    · refine wt_mono fun _ => ?_; split <;> first | exact h _ | exact id
    · split <;> first | exact h _ | exact id
  case h_3 =>
    split
    · refine wt_mono fun _ => wt_mono fun _ => wt_mono fun _ => ?_
      split
      · refine wt_mono fun _ => ?_; split <;> first | exact h _ | exact id
      · refine wt_mono fun _ => wt_mono fun _ => wt_mono fun _ => wt_mono fun _ => ?_; split <;> first | exact Ex_mono fun _ => h _ | exact id
      · exact id
    · exact id
  case h_4 =>
    refine wt_mono fun _ => ?_
    split
    · refine wt_mono fun _ => wt_mono fun _ => wt_mono fun _ => wt_mono fun _ => wt_mono fun _ => wt_mono fun _ => ?_
      split
      · split
        · split <;> first | exact h _ | exact id
        · exact h _
      · exact id
    · exact id
  case h_5 => refine wt_mono fun _ => ?_; split <;> first | exact hp _ _ | exact id
  case h_6 =>
    refine wt_mono fun _ => wt_mono fun _ => ?_
    split
    · split <;> first | exact Ex_mono fun _ => h _ | exact id
    · split <;> first | exact Ex_mono fun _ => h _ | exact id
    · refine wt_mono fun _ => ?_; split <;> first | exact Ex_mono fun _ => h _ | exact id
    · exact id
  case h_7 =>
    split
    · refine wt_mono fun _ => wt_mono fun _ => wt_mono fun _ => ?_
      split
      · split
        · refine wt_mono fun _ => wt_mono fun _ => wt_mono fun _ => wt_mono fun _ => ?_
          split
          · split
            · split <;> first | exact Ex_mono fun _ => h _ | exact id
            · refine wt_mono fun _ => ?_; split <;> first | exact Ex_mono fun _ => h _ | exact id
            · exact id
          · exact id
        · exact id
      · exact id
    · refine wt_mono fun _ => ?_
      split
      · exact callW_mono (fun _ _ => h _) hp
      · exact id
    · exact id
  case h_8 => exact id
theorem go_mono {σ : St} {k k' : St → Prop} (h : ∀ s, k s → k' s) : σ.go k → σ.go k' := by
  rw [St.go_eq, St.go_eq]
  exact h σ
theorem run_mono {σ : St} {o : Oper} {k k' : St → Prop} {kp kp' : PV → St → Prop} (h : ∀ s, k s → k' s) (hp : ∀ v s, kp v s → kp' v s) (hw : run tb cty ann con σ o k kp) : run tb cty ann con σ o k' kp' := by
  revert hw
  unfold run
  split
  · exact qop_mono fun _ => go_mono h
  · exact act_mono h hp
theorem exo_mono {ops : Array Oper} {σ : St} {o : Oper} {k k' : St → Prop} {kp kp' : PV → St → Prop} (h : ∀ s, k s → k' s) (hp : ∀ v s, kp v s → kp' v s) (hw : exo tb cty ann con ops σ o k kp) : exo tb cty ann con ops σ o k' kp' := by
  revert hw
  unfold exo
  split
  · exact run_mono h hp
  · split
    · exact id
    · split
      · split
        · exact cond_mono (go_mono fun _ => run_mono h hp) (go_mono h)
        · exact cond_mono (go_mono h) (go_mono fun _ => run_mono h hp)
      · exact go_mono h
      · exact id
theorem exops_mono {ops : Array Oper} {k k' : St → Prop} {kp kp' : PV → St → Prop} (h : ∀ s, k s → k' s) (hp : ∀ v s, kp v s → kp' v s) : ∀ (os : List Oper) (σ : St), exops tb cty ann con ops kp k os σ → exops tb cty ann con ops kp' k' os σ
  | [], σ, hw => h _ hw
  | o :: os, σ, hw => exo_mono (fun s => exops_mono h hp os s) hp hw
theorem exsegs_mono {ops : Array Oper} {k k' : St → Prop} {kp kp' : PV → St → Prop} (h : ∀ s, k s → k' s) (hp : ∀ v s, kp v s → kp' v s) : ∀ (l : List (Nat × Nat × Cut)) (os : List Oper) (σ : St), exsegs tb cty ann con ops kp k l os σ → exsegs tb cty ann con ops kp' k' l os σ
  | [], os, σ, hw => exops_mono h hp os σ hw
  | (n0, m, c) :: r, os, σ, hw => exops_mono (fun _ ⟨J, h1, h2⟩ => ⟨J, exops_mono (fun _ => id) hp _ _ h1, fun s hs => exsegs_mono h hp r _ s (h2 s hs)⟩) hp _ σ hw
theorem exq_mono {ops : Array Oper} {σ : St} {dn : List (Nat × Bool)} {q : Nat} {k k' : St → List (Nat × Bool) → Prop} (h : ∀ s d, k s d → k' s d) (hw : exq tb ops σ dn q k) : exq tb ops σ dn q k' := by
  revert hw
  unfold exq
  split
  · exact id
  · split
    · split
      · exact qop_mono fun _ => go_mono fun _ => h _ _
      · split
        · exact id
        · split
          · split
            · exact cond_mono (go_mono fun _ => qop_mono fun _ => go_mono fun _ => h _ _) (go_mono fun _ => h _ _)
            · exact cond_mono (go_mono fun _ => h _ _) (go_mono fun _ => qop_mono fun _ => go_mono fun _ => h _ _)
          · exact go_mono fun _ => h _ _
          · exact id
    · exact id
theorem exqs_mono {ops : Array Oper} {k k' : St → List (Nat × Bool) → Prop} (h : ∀ s d, k s d → k' s d) : ∀ (qs : List Nat) (σ : St) (dn : List (Nat × Bool)), exqs tb ops qs σ dn k → exqs tb ops qs σ dn k'
  | [], σ, dn, hw => h _ _ hw
  | _ :: r, σ, dn, hw => exq_mono (fun s d => exqs_mono h r s d) hw
theorem exalt_mono {ops : Array Oper} {k k' : St → Prop} {kp kp' : PV → St → Prop} (h : ∀ s, k s → k' s) (hp : ∀ v s, kp v s → kp' v s) : ∀ (g : Gt) (dn : List (Nat × Bool)) (σ : St), exalt tb cty ann con ops kp k g dn σ → exalt tb cty ann con ops kp' k' g dn σ
  | .fin, dn, σ, hw => h _ hw
  | .one e kpl qs2 g, dn, σ, hw => by
    revert hw
    unfold exalt
    split
    · exact exo_mono (fun s => exqs_mono (fun s d hw => ⟨hw.1, exalt_mono h hp g d s hw.2⟩) _ _ _) hp
    · exact id
  | .alt e kpl qs2 g r, dn, σ, hw => by
    revert hw
    unfold exalt
    refine fun hw => ⟨?_, exalt_mono h hp r dn σ hw.2⟩
    have h1 := hw.1
    revert h1
    split
    · exact exo_mono (fun s => exqs_mono (fun s d hw => ⟨hw.1, exalt_mono h hp g d s hw.2⟩) _ _ _) hp
    · exact id
theorem exdraw_mono {ops : Array Oper} {k k' : St → Prop} {kp kp' : PV → St → Prop} (h : ∀ s, k s → k' s) (hp : ∀ v s, kp v s → kp' v s) (g : Gt) (qs : List Nat) (σ : St) (hw : exdraw tb cty ann con ops kp k g qs σ) : exdraw tb cty ann con ops kp' k' g qs σ :=
  exqs_mono (fun s d hw => ⟨hw.1, exalt_mono h hp g d s hw.2⟩) qs σ [] hw
theorem exreg_mono {ops : Array Oper} {k k' : St → Prop} {kp kp' : PV → St → Prop} (h : ∀ s, k s → k' s) (hp : ∀ v s, kp v s → kp' v s) (d : Drw) (σ : St) (hw : exreg tb cty ann con ops kp k d σ) : exreg tb cty ann con ops kp' k' d σ := by
  revert hw
  unfold exreg
  split
  · exact exdraw_mono h hp _ _ _
  · exact fun ⟨J, h1, h2⟩ => ⟨J, exdraw_mono (fun _ => id) hp _ _ _ h1, fun s hs => h s (h2 s hs)⟩
theorem kSeq_mono {f f' : St → Prop} {k k' : Flow → St → Prop} (hf : ∀ s, f s → f' s) (hk : ∀ fl s, k fl s → k' fl s) : ∀ fl s, kSeq f k fl s → kSeq f' k' fl s
  | .normal, s, h => hf s h
  | .exit _, s, h => hk _ s h
  | .ret, s, h => hk _ s h
  | .pan _, s, h => hk _ s h
theorem kBlk_mono {i : Nat} {k k' : Flow → St → Prop} (hk : ∀ fl s, k fl s → k' fl s) : ∀ fl s, kBlk i k fl s → kBlk i k' fl s
  | .normal, s, h => hk _ s h
  | .exit j, s, h => by
    simp only [kBlk] at h ⊢
    cases hb : Nat.beq i j with
    | true => simp only [hb] at h ⊢; exact hk _ _ h
    | false => simp only [hb] at h ⊢; exact hk _ _ h
  | .ret, s, h => hk _ s h
  | .pan _, s, h => hk _ s h
theorem LW.mono {step step' : (St → Prop) → St → Prop} (h : ∀ I s, step I s → step' I s) {s : St} (hw : LW step s) : LW step' s := fun I hI => hw I fun s hs => hI s (h I s hs)
theorem ex_mono : ∀ (c : Code) (σ : St) (k k' : Flow → St → Prop), (∀ fl s, k fl s → k' fl s) → ex tb cty ann con c σ k → ex tb cty ann con c σ k'
  | .skip, σ, k, k', h, hw => h _ _ hw
  | .label _, σ, k, k', h, hw => h _ _ hw
  | .region id ops dr, σ, k, k', h, hw => by
    cases dr with
    | false => exact exsegs_mono (fun s => h _ s) (fun v s => h _ s) _ _ _ hw
    | true => exact wt_mono (fun _ => exreg_mono (fun s => h _ s) (fun v s => h _ s) _ _) hw
  | .seq a b, σ, k, k', h, hw => by
    unfold ex at hw ⊢
    split at hw
    · obtain ⟨J, h1, h2⟩ := hw
      exact ⟨J, ex_mono a _ _ _ (kSeq_mono (fun _ => id) h) h1, fun s hs => ex_mono b _ _ _ h (h2 s hs)⟩
    · exact ex_mono a _ _ _ (kSeq_mono (fun s => ex_mono b s _ _ h) h) hw
  | .cond c a b, σ, k, k', h, hw => by
    unfold ex at hw ⊢
    split at hw
    · exact cond_mono (ex_mono a _ _ _ h) (ex_mono b _ _ _ h) hw
    · exact hw
  | .block i a, σ, k, k', h, hw => ex_mono a _ _ _ (kBlk_mono h) hw
  | .exit i, σ, k, k', h, hw => h _ _ hw
  | .ret, σ, k, k', h, hw => h _ _ hw
  | .loop a, σ, k, k', h, hw => by
    unfold ex at hw ⊢
    exact wt_mono (fun _ => wt_mono fun _ => LW.mono fun I s => ex_mono a _ _ _ (kSeq_mono (fun _ => id) h)) hw
  | .rangeFunc .., σ, k, k', h, hw => hw
  | .scope _, σ, k, k', h, hw => hw
  | .goto _, σ, k, k', h, hw => hw
  | .refuse _, σ, k, k', h, hw => hw
theorem step_mono (a : Code) (c : Cut) (k : Flow → St → Prop) : ∀ I I' : St → Prop, (∀ s, I s → I' s) → ∀ s, ex tb cty ann con a s (kSeq (fun s => wt (s.cut c) I) k) → ex tb cty ann con a s (kSeq (fun s => wt (s.cut c) I') k) :=
  fun _ _ h s hw => ex_mono a s _ _ (kSeq_mono (fun _ => wt_mono h) fun _ _ => id) hw
theorem LW.fold {step : (St → Prop) → St → Prop} (hm : ∀ I I' : St → Prop, (∀ s, I s → I' s) → ∀ s, step I s → step I' s) {s : St} (h : step (LW step) s) : LW step s := fun I hI => hI s (hm _ _ (fun s' h' => h' I hI) s h)
/-- A loop, by its model's own induction: of one variable, of two, .. -/
theorem S.lw {X R : Type} {a : Code} {c : Cut} {k : R → Flow → St → Prop} {σ : St} {L : X → Option R} {Bd : (X → Option R) → X → Option R} {x : X} (sh : X → St)
    (pc : ∀ motive : X → R → Prop, (∀ f : X → Option R, (∀ x r, f x = some r → motive x r) → ∀ x r, Bd f x = some r → motive x r) → ∀ x r, L x = some r → motive x r)
    (h0 : σ = sh x) (h : ∀ (f : X → Option R) (I : R → St → Prop), (∀ x, S (f x) (fun r => I r (sh x))) → ∀ x, S (Bd f x) (fun r => ex tb cty ann con a (sh x) (kSeq (fun s => wt (s.cut c) (I r)) (k r)))) :
    S (L x) (fun r => LW (fun I s => ex tb cty ann con a s (kSeq (fun s => wt (s.cut c) I) (k r))) σ) := by
  subst h0
  exact pc (fun x r => LW (fun I s => ex tb cty ann con a s (kSeq (fun s => wt (s.cut c) I) (k r))) (sh x)) (fun f ih x r hm => LW.fold (step_mono a c (k r)) (h f (fun r => LW (fun I s => ex tb cty ann con a s (kSeq (fun s => wt (s.cut c) I) (k r)))) ih x r hm)) x
theorem S.lw2 {X Y R : Type} {a : Code} {c : Cut} {k : R → Flow → St → Prop} {σ : St} {L : X → Y → Option R} {Bd : (X → Y → Option R) → X → Y → Option R} {x : X} {y : Y} (sh : X → Y → St)
    (pc : ∀ motive : X → Y → R → Prop, (∀ f : X → Y → Option R, (∀ x y r, f x y = some r → motive x y r) → ∀ x y r, Bd f x y = some r → motive x y r) → ∀ x y r, L x y = some r → motive x y r)
    (h0 : σ = sh x y) (h : ∀ (f : X → Y → Option R) (I : R → St → Prop), (∀ x y, S (f x y) (fun r => I r (sh x y))) → ∀ x y, S (Bd f x y) (fun r => ex tb cty ann con a (sh x y) (kSeq (fun s => wt (s.cut c) (I r)) (k r)))) :
    S (L x y) (fun r => LW (fun I s => ex tb cty ann con a s (kSeq (fun s => wt (s.cut c) I) (k r))) σ) := by
  subst h0
  exact pc (fun x y r => LW (fun I s => ex tb cty ann con a s (kSeq (fun s => wt (s.cut c) I) (k r))) (sh x y)) (fun f ih x y r hm => LW.fold (step_mono a c (k r)) (h f (fun r => LW (fun I s => ex tb cty ann con a s (kSeq (fun s => wt (s.cut c) I) (k r)))) ih x y r hm)) x y
end
end Go.Pe
