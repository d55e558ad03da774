/- The evaluator: what a function's code comes to, over pure values. It speaks of no program. -/
import Derived.Test.YtcfkkgpnggdlnaaGreatDoorPeA
import Derived.Test.YtcfkkgpnggdlnaaGreatDoorLkG
import Derived.Orders
set_option linter.all false
namespace Go.Pe
open Go.RowKit Go.Lk

def lk {β : Type} : List (Nat × β) → Nat → Option β
  | [], _ => none
  | (s, v) :: r, t => match Nat.beq s t with
    | true => some v
    | false => lk r t
def wt {α : Type} : Option α → (α → Prop) → Prop
  | some a, k => k a
  | none, _ => False
/-- There is what z gives, and k holds of it. -/
def Ex {α : Type} (z : Option α) (k : α → Prop) : Prop := ∃ a, z = some a ∧ k a

/-- An owned array: is it the call's own (not handed in)?, its element's type, cells an element, what it holds. -/
structure Arr where
  mine : Bool
  T : Nat
  n : Nat
  l : List (List D)
structure Bx where
  T : Nat
  cs : List PV
structure St where
  L : List (Nat × PV)
  B : List (Nat × Bx)
  A : List (Nat × Arr)
  D : Option (Nat × Nat × Nat) := none
/-- What a call takes and gives: values, boxes, arrays: keys are places in the lists. -/
structure CIn where
  vs : List PV
  B : List Bx
  A : List (Nat × Nat × List (List D))
inductive COut where
  | ok (vs : List PV) (B : List Bx) (A : List (Option (Nat × Nat × List (List D))))
  | pan (v : PV)
inductive Place where
  | slot (t : Nat) (leaf : Option Nat)
  | cell (b j : Nat)
/-- A cut: the slots, boxes, arrays that stay; which places are given which keys of arrays. -/
structure Cut where
  L : List Nat := []
  B : List Nat := []
  A : List Nat := []
  H : List (Place × Nat × Nat × Nat) := []
  N : List (Place × Nat × Nat) := []      -- nil slices that are data
/-- How a region of open order is walked: what lies behind each operation; quiet operations; (an acting one, the quiet ones of before that still count behind it, the quiet ones that wait for it). -/
structure Drw where
  anc : List Nat
  E : List Nat
  qs : List Nat
  g : Gt
  c : Option Cut := none
structure Ann where
  drw : List (Nat × Drw) := []
  seq : List (Nat × Cut) := []          -- by the first region of what follows
  loop : List (Nat × Cut) := []         -- by the loop's first region
  reg : List (Nat × List (Nat × Nat × Cut)) := []   -- cuts within a region: so many operations, then so many under a cut
  own : List Nat := []                  -- slots of literals that are owned
  ro : List Nat := []                   -- slots of boxes that are only read: data
  fin : List (Place × Nat × Nat × Nat) := []
  nb : Nat := 0                         -- boxes handed in
  finB : List Place := []               -- where the pointers to new boxes that are handed out lie
structure Tb where
  und : List (Nat × TypeDesc) := []
  shp : List (Nat × Bool × Nat) := []
  fld : List (Nat × List (Nat × Bool × Nat)) := []
  zer : List (Nat × Value) := []
  inf : List (Nat × Value × Nat × Nat) := []
  nif : List Nat := []                  -- types that are no interfaces
  ifc : List Nat := []                  -- interface types
  bld : List (Nat × Nat) := []          -- strings.Builder, its bytes' type
  glb : List (Nat × Nat × Nat × List (List D)) := []   -- variables that hold tables: cells an element, how many, what they hold

def isNil : Value → Bool
  | .slice none 0 0 => true
  | _ => false
def ofV1 : Value → PV
  | .int k n => .int k n
  | .bool b => .bool b
  | .string s => .str s.data.toList
  | .slice none 0 0 => .nil
  | .nilIface => .nilI
  | .pointer none => .nilp
  | _ => .undef
def ofV : Value → PV
  | .agg cs => .agg (cs.toList.map ofV1)
  | v => ofV1 v
def ofD : D → PV
  | .int k n => .int k n
  | .bool b => .bool b
  | .str s => .str s
  | .sl T n l => .sl T n l
  | .val _ => .undef
def ofDs (l : List D) : List PV := l.map ofD
def cellsOf : PV → List PV
  | .agg cs => cs
  | v => [v]
def aggOf (g : Bool) (n : Nat) (cs : List PV) : Option PV := match g, cs with
  | true, cs => match Nat.beq cs.length n with
    | true => some (.agg cs)
    | false => none
  | false, [v] => some v
  | false, _ => none
/-- Values of one cell. -/
def oneP : PV → Bool
  | .agg _ => false
  | .tup _ => false
  | .undef => false
  | .gone => false
  | _ => true
def isUndef : PV → Bool
  | .undef => true
  | .gone => true
  | _ => false
def St.ev (σ : St) : Operand → Option PV
  | .tmp t => lk σ.L t
  | .const v => some (ofV v)
  | .func f => some (.fn f [] [])
  | .global _ => none
def St.evs (σ : St) : List Operand → Option (List PV)
  | [] => some []
  | x :: xs => match σ.ev x, σ.evs xs with
    | some v, some vs => some (v :: vs)
    | _, _ => none
def ikEq (a b : IntKind) : Bool := Nat.beq a.ctorIdx b.ctorIdx

/-! The quiet operations. -/
def bop (td : TypeDesc) (op : BinOp) (u v : PV) (k : PV → Prop) : Prop :=
  match u, v with
  | .int a p, .int b q => match op with
    | .shl => Ex (chk (decide (0 ≤ q))) fun _ => k (.int a (shlI a p q))
    | .shr => Ex (chk (decide (0 ≤ q))) fun _ => k (.int a (shrI a p q))
    | .quo => match ikEq a b with
      | true => Ex (chk (decide (q ≠ 0))) fun _ => k (.int a (a.wrap (p.tdiv q)))
      | false => False
    | .rem => match ikEq a b with
      | true => Ex (chk (decide (q ≠ 0))) fun _ => k (.int a (p.tmod q))
      | false => False
    | op => match ikEq a b with
      | true => wt (ibin op a p q) fun x => k (ofV1 x)
      | false => False
  | .str p, .str q => match op with
    | .add => Ex (cat p q) fun s => k (.str s)
    | op => wt (sbin op p q) fun x => k (ofV1 x)
  | .bool p, .bool q => match td, op with
    | .bool, .eql => k (.bool (p == q))
    | .bool, .neq => k (.bool (!(p == q)))
    | _, _ => False
  | _, _ => False
def uop (op : UnOp) (u : PV) (k : PV → Prop) : Prop :=
  match op, u with
  | .not, .bool b => k (.bool (!b))
  | op, .int a p => wt (iun op a p) fun x => k (ofV1 x)
  | _, _ => False
/-- An array that is not frozen (a frozen one has 1000000 on its type). -/
def lkU (A : List (Nat × Arr)) (a : Nat) : Option Arr := match lk A a with
  | some e => match Nat.blt e.T 1000000 with
    | true => some e
    | false => none
  | none => none
theorem lkU_some {A : List (Nat × Arr)} {a : Nat} {e : Arr} (h : lkU A a = some e) : lk A a = some e ∧ e.T < 1000000 := by
  unfold lkU at h
  split at h
  · rename_i e' he
    split at h
    · rename_i hb
      cases h
      exact ⟨he, by simpa [Nat.blt_eq] using hb⟩
    · cases h
  · cases h
/-- A number's character. -/
def encS (n : Int) : List UInt8 := (Utf8.encode n).data.toList
def lenD (l : List (List D)) : Option Int := some (l.length : Int)
def lenW (td : TypeDesc) (σ : St) (u : PV) (k : Int → Prop) : Prop := match td, u with
  | .string, .str s => k (s.length : Int)
  | .slice _, .sl _ _ l => Ex (lenD l) k
  | .slice _, .nil => k 0
  | .slice _, .ref a => wt (lkU σ.A a) fun e => Ex (lenD e.l) k
  | _, _ => False
/-- A bound of a slice expression. -/
def loW (σ : St) (x : Option Operand) (k : Int → Prop) : Prop := match x with
  | none => k 0
  | some y => match σ.ev y with
    | some (.int _ n) => k n
    | _ => False
def hiW (td : TypeDesc) (σ : St) (u : PV) (x : Option Operand) (k : Int → Prop) : Prop := match x with
  | none => lenW td σ u k
  | some y => match σ.ev y with
    | some (.int _ n) => k n
    | _ => False
def loadP (σ : St) (g : Bool) (n : Nat) : PV → Option PV
  | .ptr b off => match lk σ.B b with
    | some e => aggOf g n ((e.cs.drop off).take n)
    | none => none
  | .cptr cs off => aggOf g n (((ofDs cs).drop off).take n)
  | _ => none
/-- A load through a pointer into an owned array. -/
def loadE (σ : St) (g : Bool) (n : Nat) (u : PV) (k : PV → Prop) : Prop := match u with
  | .eptr a m i off => wt (lkU σ.A a) fun e => match Nat.beq e.n m with
    | true => Ex (ix e.l i) fun cs => wt (aggOf g n (((ofDs cs).drop off).take n)) k
    | false => False
  | u => wt (loadP σ g n u) k
def eqNats : List Nat → List Nat → Bool
  | [], [] => true
  | a :: l, b :: r => Nat.beq a b && eqNats l r
  | _, _ => false
/-- Is it the nil interface? -/
def nilQ : PV → Option Bool
  | .nilI => some true
  | .iface _ _ => some false
  | .err b => some b
  | _ => none
/-- The parts are of their places' sizes. -/
def fillOk (fs : List (Nat × Bool × Nat)) : List Nat → List PV → List PV → Bool
  | i :: is, u :: us, cs => match fs[i]? with
    | some f => Nat.beq (cellsOf u).length f.2.2 && Nat.ble (f.1 + f.2.2) cs.length && !(isUndef u) && fillOk fs is us (cs.take f.1 ++ cellsOf u ++ cs.drop (f.1 + f.2.2))
    | none => false
  | _, _, _ => true
def maxI (p q : Int) : Int := if q > p then q else p
def minI (p q : Int) : Int := if q < p then q else p
def mmW (b : Bool) (u v : PV) (k : PV → Prop) : Prop := match u, v with
  | .int a p, .int c q => match ikEq a c, b with
    | true, true => k (.int a (maxI p q))
    | true, false => k (.int a (minI p q))
    | false, _ => False
  | _, _ => False
def qop (tb : Tb) (σ : St) (op : Op) (k : PV → Prop) : Prop :=
  match op with
  | .move x => wt (σ.ev x) k
  | .assign x => wt (σ.ev x) k
  | .pick c x y => match σ.ev c with
    | some (.bool c) => wt (σ.ev x) fun u => wt (σ.ev y) fun v => cond c (k u) (k v)
    | _ => False
  | .binOp op t x y _ => match tb.ifc.any (Nat.beq t) with
    | true => match y with
      | .const .nilIface => wt ((σ.ev x).bind nilQ) fun b => match op with
        | .eql => k (.bool b)
        | .neq => k (.bool (!b))
        | _ => False
      | _ => False
    | false => wt (lk tb.und t) fun td => wt (σ.ev x) fun u => wt (σ.ev y) fun v => bop td op u v k
  | .unOp op _ x => wt (σ.ev x) fun u => uop op u k
  | .convert s t x => wt (σ.ev x) fun u => match u, lk tb.und s, lk tb.und t with
    | .int _ n, some (.int _), some (.int kk) => k (.int kk (kk.wrap n))
    | .str s, some .string, some .string => k (.str s)
    | .int _ n, some (.int _), some .string => k (.str (encS n))
    | _, _, _ => False
  | .makeInterface t x => wt (σ.ev x) fun u => match tb.nif.any (Nat.beq t) with
    | true => k (.iface t u)
    | false => False
  | .makeFunc (.func f) as cs => wt (σ.evs as.toList) fun us => wt (σ.evs cs.toList) fun vs => k (.fn f us vs)
  | .extract x i => match σ.ev x with
    | some (.tup vs) => wt vs[i]? k
    | _ => False
  | .nilCheck x => wt (σ.ev x) fun u => match u with
    | .ptr _ _ => k u
    | .cptr _ _ => k u
    | .eptr _ _ _ _ => k u
    | _ => False
  | .fieldAddr t x i => wt ((lk tb.fld t).bind (·[i]?)) fun f => wt (σ.ev x) fun u => match u with
    | .ptr b off => k (.ptr b (off + f.1))
    | .cptr cs off => k (.cptr cs (off + f.1))
    | .eptr a m j off => k (.eptr a m j (off + f.1))
    | _ => False
  | .field t x i => wt ((lk tb.fld t).bind (·[i]?)) fun f => match σ.ev x with
    | some (.agg cs) => wt (aggOf f.2.1 f.2.2 ((cs.drop f.1).take f.2.2)) k
    | _ => False
  | .load t x => wt (lk tb.shp t) fun s => wt (σ.ev x) fun u => loadE σ s.1 s.2 u k
  | .index t x y => match lk tb.und t, σ.ev x, σ.ev y with
    | some .string, some (.str s), some (.int _ i) => Ex (ix s i) fun c => k (.int .u8 (c.toNat : Int))
    | _, _, _ => False
  | .indexAddr t x y => match x with
    | .global g => wt (lk tb.glb g) fun e => match lk tb.und t, σ.ev y with
      | some (.array len T), some (.int _ i) => wt (lk tb.shp T) fun s => match Nat.beq s.2 e.1 && Nat.beq len e.2.1 with
        | true => Ex (ix e.2.2 i) fun cs => k (.cptr cs 0)
        | false => False
      | _, _ => False
    | x => wt (σ.ev x) fun u => match lk tb.und t with
      | some (.slice T) => wt (lk tb.shp T) fun s => match u, σ.ev y with
        | .sl _ n l, some (.int _ i) => match Nat.beq s.2 n with
          | true => Ex (ix l i) fun cs => k (.cptr cs 0)
          | false => False
        | .ref a, some (.int _ i) => wt (lkU σ.A a) fun e => match Nat.beq s.2 e.n with
          | true => Ex (ix e.l i) fun _ => k (.eptr a e.n i 0)
          | false => False
        | _, _ => False
      | _ => False
  | .slice t x lo hi none => wt (σ.ev x) fun u => wt (lk tb.und t) fun td => loW σ lo fun a => hiW td σ u hi fun b => match td, u with
    | .string, .str s => Ex (sub s a b) fun r => k (.str r)
    | .slice e, .sl T m l => wt (lk tb.shp e) fun s => match Nat.beq e T && Nat.beq s.2 m with
      | true => Ex (sub l a b) fun r => k (.sl T m r)
      | false => False
    | _, _ => False
  | .call c => match c.callee, c.args.toList, c.argTypes.toList with
    | .builtin .len, [x], [t] => wt (lk tb.und t) fun td => wt (σ.ev x) fun u => lenW td σ u fun n => k (.int .i64 n)
    | .builtin .max, [x, y], _ => wt (σ.ev x) fun u => wt (σ.ev y) fun v => mmW true u v k
    | .builtin .min, [x, y], _ => wt (σ.ev x) fun u => wt (σ.ev y) fun v => mmW false u v k
    | _, _, _ => False
  | .typeAssert x _ t true => wt (lk tb.zer t) fun z => match σ.ev x, tb.nif.any (Nat.beq t) with
    | some (.iface T u), true => match Nat.beq T t with
      | true => k (.tup [u, .bool true])
      | false => k (.tup [ofV z, .bool false])
    | some .nilI, true => k (.tup [ofV z, .bool false])
    | _, _ => False
  | .build t parts => wt (σ.evs (parts.toList.map (·.2))) fun us => wt (lk tb.zer t) fun z => wt (lk tb.fld t) fun fs =>
      match fillOk fs (parts.toList.map (·.1)) us (cellsOf (ofV z)) with
      | true => k (.agg (fillP fs (cellsOf (ofV z)) (parts.toList.map (·.1)) us))
      | false => False
  | .slice t x none (some hi) (some mx) => wt (σ.ev x) fun u => match lk tb.und t, u, σ.ev hi, σ.ev mx with
    | some (.slice e), .sl T m l, some (.int _ b), some (.int _ c) => wt (lk tb.shp e) fun s => match Nat.beq e T && Nat.beq s.2 m with
      | true => Ex (lenD l) fun n => Ex (chk (decide (b ≤ c) && decide (c ≤ n))) fun _ => Ex (sub l 0 b) fun r => k (.sl T m r)
      | false => False
    | _, _, _, _ => False
  | _ => False
where
  fillP (fs : List (Nat × Bool × Nat)) (cs : List PV) : List Nat → List PV → List PV
    | i :: is, u :: us => match fs[i]? with
      | some f => fillP fs (cs.take f.1 ++ cellsOf u ++ cs.drop (f.1 + f.2.2)) is us
      | none => []
    | _, _ => cs

@[reducible] def St.go (σ : St) (k : St → Prop) : Prop := k σ
theorem St.go_eq {σ : St} {k : St → Prop} : σ.go k = k σ := rfl
def nthO {β : Type} : List β → Nat → Option β
  | [], _ => none
  | x :: _, 0 => some x
  | _ :: r, n + 1 => nthO r n
theorem nthO_eq {β : Type} : ∀ (l : List β) (n : Nat), nthO l n = l[n]?
  | [], n => by simp [nthO]
  | x :: r, 0 => rfl
  | x :: r, n + 1 => by simp [nthO, nthO_eq r n]
def opAt (ops : Array Oper) (q : Nat) : Option Oper := nthO ops.toList q
theorem opAt_eq {ops : Array Oper} {q : Nat} : opAt ops q = ops[q]? := by simp [opAt, nthO_eq]
/-! Names. -/
def renP (bs as : List Nat) : PV → PV
  | .ref a => match as[a]? with
    | some x => .ref x
    | none => .undef
  | .ptr b off => match bs[b]? with
    | some x => .ptr x off
    | none => .undef
  | .selfp b => match bs[b]? with
    | some x => .selfp x
    | none => .undef
  | .agg cs => .agg (go cs)
  | .tup cs => .tup (go cs)
  | .iface T v => .iface T (renP bs as v)
  | .fn f a c => .fn f (go a) (go c)
  | .eptr _ _ _ _ => .undef
  | v => v
where
  go : List PV → List PV
    | [] => []
    | v :: vs => renP bs as v :: go vs
/-- v, told as w is: an array lent as data, a nil slice as data. -/
def nrm (σ : St) : PV → PV → PV
  | .sl _ _ _, .ref a => match lkU σ.A a with
    | some e => .sl e.T e.n e.l
    | none => .undef
  | .sl T n _, .nil => .sl T n []
  | .err _, .nilI => .err true
  | .err _, .iface _ _ => .err false
  | .agg ws, .agg vs => .agg (go ws vs)
  | .tup ws, .tup vs => .tup (go ws vs)
  | _, v => v
where
  go : List PV → List PV → List PV
    | w :: ws, v :: vs => nrm σ w v :: go ws vs
    | _, vs => vs
/-- Which arrays are lent so. -/
def lent : PV → PV → List Nat
  | .sl _ _ _, .ref a => [a]
  | .agg ws, .agg vs => go ws vs
  | .tup ws, .tup vs => go ws vs
  | _, _ => []
where
  go : List PV → List PV → List Nat
    | w :: ws, v :: vs => lent w v ++ go ws vs
    | _, _ => []
def hasSl : PV → Bool
  | .sl _ _ _ => true
  | .cptr _ _ => true
  | .agg cs => go cs
  | .tup cs => go cs
  | .iface _ v => hasSl v
  | .fn _ a c => go a || go c
  | _ => false
where
  go : List PV → Bool
    | [] => false
    | v :: vs => hasSl v || go vs
def frzP (a : Nat) (e : Arr) : PV → PV
  | .ref x => match Nat.beq x a with
    | true => .sl e.T e.n e.l
    | false => .ref x
  | .eptr x m i off => match Nat.beq x a with
    | true => .undef
    | false => .eptr x m i off
  | .agg cs => .agg (go cs)
  | .tup cs => .tup (go cs)
  | .iface T v => .iface T (frzP a e v)
  | .fn f s c => .fn f (go s) (go c)
  | v => v
where
  go : List PV → List PV
    | [] => []
    | v :: vs => frzP a e v :: go vs
def frzPs (a : Nat) (e : Arr) (vs : List PV) : List PV := frzP.go a e vs
def delk {β : Type} (a : Nat) : List (Nat × β) → List (Nat × β)
  | [] => []
  | (s, v) :: r => match Nat.beq s a with
    | true => delk a r
    | false => (s, v) :: delk a r
def setk {β : Type} (a : Nat) (x : β) : List (Nat × β) → List (Nat × β)
  | [] => []
  | (s, v) :: r => match Nat.beq s a with
    | true => (s, x) :: r
    | false => (s, v) :: setk a x r
def St.mapV (σ : St) (f : PV → PV) : St := { σ with L := σ.L.map fun p => (p.1, f p.2), B := σ.B.map fun p => (p.1, { p.2 with cs := p.2.cs.map f }) }
/-- Arrays that are data from now on: those of the call's own. -/
def St.freeze (σ : St) : List Nat → Option St
  | [] => some σ
  | a :: as => match lk σ.A a with
    | some e => match e.mine && Nat.blt e.T 1000000 with
      | true => ({ (σ.mapV (frzP a e)) with A := delk a σ.A } : St).freeze as
      | false => none
    | none => σ.freeze as
def St.freshB (σ : St) (b : Nat) : Bool := Nat.ble 1000 b && (lk σ.B b).isNone && σ.L.all (fun p => noK (some b) none p.2) && σ.B.all (fun p => noKs (some b) none p.2.cs)
def St.freshA (σ : St) (a : Nat) : Bool := (lk σ.A a).isNone && σ.L.all (fun p => noK none (some a) p.2) && σ.B.all (fun p => noKs none (some a) p.2.cs)
def St.put (σ : St) (d : Option Nat) (v : PV) : St := match d with
  | some d => { σ with L := (d, v) :: σ.L }
  | none => σ
/-- v as an element's cells: none of them owned. -/
def toD (T : Option (Nat × Nat)) : PV → Option D
  | .int k n => some (.int k n)
  | .bool b => some (.bool b)
  | .str s => some (.str s)
  | .sl T n l => some (.sl T n l)
  | .nil => match T with
    | some (T, n) => some (.sl T n [])
    | none => none
  | _ => none
def toDs (ct : List (Option (Nat × Nat))) (cs : List PV) : Option (List D) := match cs, ct with
  | [], _ => some []
  | v :: vs, c :: ct => match toD c v, toDs ct vs with
    | some d, some ds => some (d :: ds)
    | _, _ => none
  | v :: vs, [] => match toD none v, toDs [] vs with
    | some d, some ds => some (d :: ds)
    | _, _ => none
def elsD (ct : List (Option (Nat × Nat))) : List PV → Option (List (List D))
  | [] => some []
  | v :: vs => match toDs ct (cellsOf v), elsD ct vs with
    | some d, some ds => some (d :: ds)
    | _, _ => none
def refsP : PV → List Nat
  | .ref a => [a]
  | .agg cs => go cs
  | .tup cs => go cs
  | .iface _ v => refsP v
  | _ => []
where
  go : List PV → List Nat
    | [] => []
    | v :: vs => refsP v ++ go vs
/-- Bytes of plain elements. -/
def dby : List (List D) → Option (List UInt8)
  | [] => some []
  | [.int .u8 n] :: r => match dby r with
    | some s => some (UInt8.ofNat n.toNat :: s)
    | none => none
  | _ => none
def bytD (s : List UInt8) : List (List D) := (unb s).map (eI .u8)
def rangeOk : Nat → List Nat → Bool
  | _, [] => true
  | i, j :: r => Nat.beq i j && rangeOk (i + 1) r
/-! Cuts. -/
def keepK {β : Type} (ks : List Nat) (l : List (Nat × β)) : List (Nat × β) := match ks with
  | [] => []
  | x :: r => match lk l x with
    | some v => (x, v) :: keepK r l
    | none => keepK r l
def leafOf : Option Nat → PV → Option PV
  | none, v => some v
  | some j, .agg cs => cs[j]?
  | _, _ => none
def setLeaf : Option Nat → PV → PV → PV
  | none, _, x => x
  | some j, .agg cs, x => .agg (cs.set j x)
  | _, v, _ => v
def St.at (σ : St) : Place → Option PV
  | .slot t j => match lk σ.L t with
    | some v => leafOf j v
    | none => none
  | .cell b j => match lk σ.B b with
    | some e => e.cs[j]?
    | none => none
def St.set (σ : St) (x : PV) : Place → St
  | .slot t j => match lk σ.L t with
    | some v => { σ with L := setk t (setLeaf j v x) σ.L }
    | none => σ
  | .cell b j => match lk σ.B b with
    | some e => { σ with B := setk b { e with cs := e.cs.set j x } σ.B }
    | none => σ
/-- A place's array is given the key 'a'. -/
def St.home (σ : St) : List (Place × Nat × Nat × Nat) → Option St
  | [] => some σ
  | (p, a, T, n) :: r => match σ.at p with
    | some .nil => match σ.freshA a with
      | true => ({ (σ.set (.ref a) p) with A := (a, ⟨true, T, n, []⟩) :: σ.A } : St).home r
      | false => none
    | some (.ref x) => match Nat.beq x a with
      | true => σ.home r
      | false => match lk σ.A x, σ.freshA a with
        | some e, true => ({ (σ.set (.ref a) p) with A := (a, e) :: delk x σ.A } : St).home r
        | _, _ => none
    | _ => none
/-- A nil slice at a place is data. -/
def St.nilD (σ : St) : List (Place × Nat × Nat) → Option St
  | [] => some σ
  | (p, T, n) :: r => match σ.at p with
    | some .nil => (σ.set (.sl T n []) p).nilD r
    | some (.sl _ _ _) => σ.nilD r
    | _ => none
/-- Owned rows at places that are to hold data. -/
def St.refsAt (σ : St) : List (Place × Nat × Nat) → List Nat
  | [] => []
  | (p, _, _) :: r => match σ.at p with
    | some (.ref a) => a :: σ.refsAt r
    | _ => σ.refsAt r
def St.cut0 (σ : St) (c : Cut) : Option St := match ({ σ with L := keepK c.L σ.L, B := keepK c.B σ.B } : St).home c.H with
  | some s => match s.nilD c.N with
    | some s => some { s with A := keepK c.A s.A }
    | none => none
  | none => none
def St.cut (σ : St) (c : Cut) : Option St := match σ.freeze (σ.refsAt c.N) with
  | some s => s.cut0 c
  | none => none

/-- What is appended. -/
def apL (tb : Tb) (t t2 : Nat) (inf : Value × Nat × Nat) (v : PV) : Option (List (List D)) := match v with
  | .sl _ n l => match Nat.beq t t2 && Nat.beq n inf.2.1 with
    | true => some l
    | false => none
  | .nil => match Nat.beq t t2 with
    | true => some []
    | false => none
  | .str s => match lk tb.und t2, inf with
    | some .string, (.int .u8 0, 1, 1) => some (bytD s)
    | _, _ => none
  | _ => none
/-! The acting operations. -/
section
variable (tb : Tb) (cty : List (Nat × List (Option (Nat × Nat)))) (ann : Ann) (con : Nat → CIn → COut → Prop)
def boxesOk (σ : St) (bs as : List Nat) : List Nat → List Bx → Prop
  | b :: ks, e :: es => (match lk σ.B b with
    | some x => x.T = e.T ∧ nrm.go { σ with A := [] } e.cs x.cs = renP.go bs as e.cs
    | none => False) ∧ boxesOk σ bs as ks es
  | _, [] => True
  | [], _ :: _ => False
def arrsOk (σ : St) : List Nat → List (Nat × Nat × List (List D)) → Prop
  | a :: ks, e :: es => (match lk σ.A a with
    | some x => x.T = e.1 ∧ x.n = e.2.1 ∧ x.l = e.2.2
    | none => False) ∧ arrsOk σ ks es
  | _, [] => True
  | [], _ :: _ => False
def nodupN : List Nat → Bool
  | [] => true
  | x :: r => !(r.any (Nat.beq x)) && nodupN r
/-- The keys are places in lists of so many. -/
def inR (nb na : Nat) : PV → Bool
  | .ref a => Nat.blt a na
  | .ptr b _ => Nat.blt b nb
  | .selfp b => Nat.blt b nb
  | .eptr _ _ _ _ => false
  | .agg cs => go cs
  | .tup cs => go cs
  | .iface _ v => inR nb na v
  | .fn _ a c => go a && go c
  | _ => true
where
  go : List PV → Bool
    | [] => true
    | v :: vs => inR nb na v && go vs
def delks {β : Type} : List Nat → List (Nat × β) → List (Nat × β)
  | [], l => l
  | a :: as, l => delks as (delk a l)
def zipA (m : Bool) : List Nat → List (Option (Nat × Nat × List (List D))) → List (Nat × Arr)
  | a :: ks, some e :: es => (a, ⟨m, e.1, e.2.1, e.2.2⟩) :: zipA m ks es
  | _ :: ks, none :: es => zipA m ks es
  | _, _ => []
def zipB (bs as : List Nat) : List Nat → List Bx → List (Nat × Bx)
  | b :: ks, e :: es => (b, ⟨e.T, renP.go bs as e.cs⟩) :: zipB bs as ks es
  | _, _ => []
def retV : List PV → PV
  | [v] => v
  | vs => .tup vs
def allMine (σ : St) : List Nat → Bool
  | [] => true
  | a :: as => (match lk σ.A a with
    | some e => e.mine
    | none => false) && allMine σ as
/-- What a call asks. -/
def callOk (σ : St) (bs as ls : List Nat) (i : CIn) : Bool :=
  nodupN bs && nodupN as && Nat.ble i.B.length bs.length && Nat.beq i.A.length as.length && inR.go i.B.length i.A.length i.vs && i.B.all (fun e => inR.go i.B.length i.A.length e.cs) &&
    ls.all fun a => (lk σ.A a).isSome && !(as.any (Nat.beq a))
/-- What is left behind a call. -/
def outOk (σ : St) (bs as' : List Nat) (nb : Nat) (vs : List PV) (B : List Bx) (A : List (Option (Nat × Nat × List (List D)))) : Bool :=
  nodupN as' && Nat.beq B.length bs.length && Nat.beq A.length as'.length && inR.go B.length A.length vs && B.all (fun e => inR.go B.length A.length e.cs) && as'.all σ.freshA && (bs.drop nb).all σ.freshB
def lends (vs : List PV) (B : List Bx) (A : List (Option (Nat × Nat × List (List D)))) : Bool := hasSl.go vs || B.any (fun e => hasSl.go e.cs) || A.any (fun e => e.isSome)
def frz (b : Bool) (σ : St) (ls : List Nat) : Option St := match b with
  | true => σ.freeze ls
  | false => some σ
def left (m : Bool) (bs as as' : List Nat) (B : List Bx) (A : List (Option (Nat × Nat × List (List D)))) (σ : St) : St := { σ with B := zipB bs as' bs B ++ delks bs σ.B, A := zipA m as' A ++ delks as σ.A }
/-- What is left where a call panics. -/
def St.lost (σ : St) (bs as : List Nat) : St := { σ with B := delks bs σ.B, A := delks as σ.A }
/-- What is left of a call's outcome. -/
def callK (bs as as' : List Nat) (i : CIn) (args : List PV) (σ : St) (k : PV → St → Prop) (kp : PV → St → Prop) : COut → Prop
  | .ok vs B A => wt (frz (lends vs B A) σ (lent.go i.vs args)) fun s =>
      outOk { s with B := delks bs s.B, A := delks as s.A } bs as' i.B.length vs B A = true ∧ k (retV (renP.go bs as' vs)) (left (allMine σ as) bs as as' B A s)
  | .pan v => hasSl v = false ∧ kp v (σ.lost bs (as ++ lent.go i.vs args))
def callW (σ : St) (f : Nat) (args : List PV) (k : PV → St → Prop) (kp : PV → St → Prop) : Prop :=
  ∃ (bs as as' : List Nat) (i : CIn) (o : COut), con f i o ∧ nrm.go σ i.vs args = renP.go bs as i.vs ∧ boxesOk σ bs as bs i.B ∧ arrsOk σ as i.A ∧ callOk σ bs as (lent.go i.vs args) i = true ∧ callK bs as as' i args σ k kp o
def quiet : Op → Bool
  | .alloc _ | .box _ _ | .store _ _ _ | .buildSlice _ _ _ | .panic _ | .makeSlice _ _ _ | .defer _ => false
  | .call c => match c.callee with
    | .builtin .len => true
    | .builtin .max => true
    | .builtin .min => true
    | _ => false
  | .convert _ _ _ => true
  | _ => true
/-- A builder is born: its own address or nil, a row of its own. -/
def St.born (σ : St) (key E : Nat) (k : St → Prop) : Prop := wt (σ.home [(.cell key 1, key, E, 1)]) fun s => match s.at (.cell key 0) with
  | some .nilp => k (s.set (.selfp key) (.cell key 0))
  | _ => False
def act (σ : St) (o : Oper) (k : St → Prop) (kp : PV → St → Prop) : Prop :=
  match o.op with
  | .alloc T => wt o.dst fun d => wt (lk tb.zer T) fun z => match σ.freshB (d + 1000) && !(isUndef (ofV z)) with
    | true => match lk tb.bld T with
      | none => k { σ with B := (d + 1000, ⟨T, cellsOf (ofV z)⟩) :: σ.B, L := (d, .ptr (d + 1000) 0) :: σ.L }
      | some E => ({ σ with B := (d + 1000, ⟨T, cellsOf (ofV z)⟩) :: σ.B, L := (d, .ptr (d + 1000) 0) :: σ.L } : St).born (d + 1000) E k
    | false => False
  | .box T x => wt o.dst fun d => wt (σ.ev x) fun v => match ann.ro.any (Nat.beq d) with
    | true => wt (toDs (match lk cty T with | some c => c | none => []) (cellsOf v)) fun ds => match !(isUndef v) with
      | true => k { σ with L := (d, .cptr ds 0) :: σ.L }
      | false => False
    | false => match σ.freshB (d + 1000) && !(isUndef v) with
      | true => k { σ with B := (d + 1000, ⟨T, cellsOf v⟩) :: σ.B, L := (d, .ptr (d + 1000) 0) :: σ.L }
      | false => False
  | .store T x y => match o.dst with
    | none => wt (lk tb.shp T) fun s => wt (σ.ev x) fun u => wt (σ.ev y) fun v => (match u with
    | .ptr b off => wt (lk σ.B b) fun e => match Nat.beq (cellsOf v).length s.2 && Nat.ble (off + s.2) e.cs.length && (cellsOf v).all oneP with
      | true => k { σ with B := setk b ⟨e.T, e.cs.take off ++ cellsOf v ++ e.cs.drop (off + s.2)⟩ σ.B }
      | false => False
    | .eptr a m i 0 => wt (σ.freeze (refsP v)) fun σ => wt (lkU σ.A a) fun e => wt (σ.ev y) fun v => wt (toDs (match lk cty e.T with | some c => c | none => []) (cellsOf v)) fun ds => match Nat.beq ds.length e.n && Nat.beq s.2 e.n && Nat.beq e.n m && (cellsOf v).all oneP with
      | true => Ex (setx e.l i ds) fun l => k { σ with A := setk a { e with l := l } σ.A }
      | false => False
    | _ => False)
    | some _ => False
  | .buildSlice t n parts => wt o.dst fun d => match lk tb.und t with
    | some (.slice e) => wt (σ.evs (parts.toList.map (·.2))) fun us => wt (σ.freeze (refsP.go us)) fun σ => wt (σ.evs (parts.toList.map (·.2))) fun us => wt (lk tb.shp e) fun s => wt (lk tb.zer e) fun z =>
      wt (elsD (match lk cty e with | some c => c | none => []) us) fun ds => match rangeOk 0 (parts.toList.map (·.1)) && Nat.beq us.length n && Nat.beq z.cells.size s.2 && Nat.ble (n * s.2) 16777216 && Nat.ble n 16777216 && us.all (fun x => !(isUndef x)) && ds.all (fun x => Nat.beq x.length s.2) with
      | true => match ann.own.any (Nat.beq d) with
        | true => match σ.freshA (d + 1000) && Nat.blt e 1000000 with
          | true => k { σ with A := (d + 1000, ⟨true, e, s.2, ds⟩) :: σ.A, L := (d, .ref (d + 1000)) :: σ.L }
          | false => False
        | false => k { σ with L := (d, .sl e s.2 ds) :: σ.L }
      | false => False
    | _ => False
  | .panic x => wt (σ.ev x) fun v => match v with
    | .iface _ _ => kp v σ
    | _ => False
  | .convert s t x => wt o.dst fun d => wt (σ.ev x) fun u => match u, lk tb.und s, lk tb.und t with
    | .str s, some .string, some (.slice e) => match lk tb.und e with
      | some (.int .u8) => Ex (chk (decide (s.length ≤ 9223372036854775807))) fun _ => k { σ with L := (d, .sl e 1 (bytD s)) :: σ.L }
      | _ => False
    | .sl _ 1 l, some (.slice e), some .string => match lk tb.und e with
      | some (.int .u8) => Ex (dby l) fun s => k { σ with L := (d, .str s) :: σ.L }
      | _ => False
    | .ref a, some (.slice e), some .string => wt (lkU σ.A a) fun x => match lk tb.und e, Nat.beq x.n 1 with
      | some (.int .u8), true => Ex (dby x.l) fun s => k { σ with L := (d, .str s) :: σ.L }
      | _, _ => False
    | _, _, _ => False
  | .call c => match c.callee, c.args.toList with
    | .builtin .append, [x, y] => wt o.dst fun d => wt (σ.ev x) fun u => wt (σ.ev y) fun v => match c.argTypes.toList with
      | [t, t2] => match lk tb.und t with
        | some (.slice e) => wt (lk tb.inf e) fun inf => wt (σ.freeze (refsP v)) fun σ => wt (σ.ev y) fun v => wt (apL tb t t2 inf v) fun l2 => match Nat.beq inf.1.cells.size inf.2.1 && Nat.blt 0 inf.2.1 && Nat.blt 0 inf.2.2 with
          | true => match u with
            | .nil => match σ.freshA (d + 1000) && Nat.blt e 1000000 with
              | true => Ex (app inf.2.2 [] l2) fun r => k { σ with A := (d + 1000, ⟨true, e, inf.2.1, r⟩) :: σ.A, L := (d, .ref (d + 1000)) :: σ.L }
              | false => False
            | .ref a => wt (lkU σ.A a) fun x => match ({ σ with A := delk a σ.A } : St).freshA (d + 1000) && Nat.beq x.T e && Nat.beq x.n inf.2.1 with
              | true => Ex (app inf.2.2 x.l l2) fun r => k { σ with A := (d + 1000, { x with l := r }) :: delk a σ.A, L := (d, .ref (d + 1000)) :: σ.L }
              | false => False
            | _ => False
          | false => False
        | _ => False
      | _ => False
    | .value x, args => wt (σ.evs args) fun vs => match σ.ev x with
      | some (.fn f as cs) => callW con σ f (as ++ vs ++ cs) (fun v σ => k (σ.put o.dst v)) kp
      | _ => False
    | _, _ => False
  | _ => False
/-- Which conversions act. -/
def actsC (s t : Option TypeDesc) : Bool := match s, t with
  | some .string, some (.slice _) => true
  | some (.slice _), some .string => true
  | _, _ => false
def run (σ : St) (o : Oper) (k : St → Prop) (kp : PV → St → Prop) : Prop :=
  match (match o.op with
    | .convert s t _ => !actsC (lk tb.und s) (lk tb.und t)
    | op => quiet op) with
  | true => qop tb σ o.op fun v => (σ.put o.dst v).go k
  | false => act tb cty ann con σ o k kp
/-- The slot s is known. -/
def St.setB (σ : St) (s : Nat) (b : Bool) : St := { σ with L := (s, .bool b) :: σ.L }
def exo (ops : Array Oper) (σ : St) (o : Oper) (k : St → Prop) (kp : PV → St → Prop) : Prop :=
  match o.guard with
  | none => run tb cty ann con σ o k kp
  | some (j, b) => match (opAt ops j).bind (·.dst) with
    | none => False
    | some s => match lk σ.L s with
      | some (.bool c) => match b with
        | true => cond c ((σ.setB s true).go fun σ => run tb cty ann con σ o k kp) (((σ.setB s false).put o.dst .gone).go k)
        | false => cond c (((σ.setB s true).put o.dst .gone).go k) ((σ.setB s false).go fun σ => run tb cty ann con σ o k kp)
      | some .gone => (σ.put o.dst .gone).go k
      | _ => False
def exops (ops : Array Oper) (kp : PV → St → Prop) (k : St → Prop) : List Oper → St → Prop
  | [], σ => k σ
  | o :: os, σ => exo tb cty ann con ops σ o (fun σ => exops ops kp k os σ) kp
def exsegs (ops : Array Oper) (kp : PV → St → Prop) (k : St → Prop) : List (Nat × Nat × Cut) → List Oper → St → Prop
  | [], os, σ => exops tb cty ann con ops kp k os σ
  | (n0, m, c) :: r, os, σ => exops tb cty ann con ops kp (fun σ => ∃ J : St → Prop, exops tb cty ann con ops kp (fun s => wt (s.cut c) J) ((os.drop n0).take m) σ ∧ ∀ s, J s → exsegs ops kp k r ((os.drop n0).drop m) s) (os.take n0) σ

/-! Regions of open order. -/
def isQuiet (o : Oper) : Bool := match o.op with
  | .convert s t _ => !actsC (lk tb.und s) (lk tb.und t)
  | op => quiet op
/-- None of these looks at the slot d, or is told there. -/
def clearD (ops : Array Oper) (d : Nat) : List Nat → Bool
  | [] => true
  | q :: r => (match ops[q]? with
    | some o => (match o.dst with
      | some e => !(Nat.beq e d)
      | none => true) && !((o.looksAt ops).any (Nat.beq d))
    | none => true) && clearD ops d r
/-- What is told turns nothing that others of before look at. -/
def clrQ (ops : Array Oper) : List Nat → List Nat → Bool
  | [], _ => true
  | q :: r, dn => (match ops[q]? with
    | some o => match o.dst with
      | some d => clearD ops d dn && !((o.looksAt ops).any (Nat.beq d))
      | none => true
    | none => true) && clrQ ops r (q :: dn)
def keepN (kp dn : List Nat) : List Nat := dn.filter fun p => kp.any (Nat.beq p)
def clrN (ops : Array Oper) (e : Nat) (kpl qs2 dn1 : List Nat) : Bool := (match ops[e]? with
    | some o => match o.dst with
      | some d => clearD ops d (keepN kpl dn1)
      | none => true
    | none => true) && clrQ ops qs2 (keepN kpl dn1)
def clrA (ops : Array Oper) : Gt → List Nat → Bool
  | .fin, _ => true
  | .one e kpl qs2 sub, dn1 => clrN ops e kpl qs2 dn1 && clrA ops sub (qs2.reverse ++ keepN kpl dn1)
  | .alt e kpl qs2 sub r, dn1 => clrN ops e kpl qs2 dn1 && clrA ops sub (qs2.reverse ++ keepN kpl dn1) && clrA ops r dn1
def clrG (ops : Array Oper) (g : Gt) (qs : List Nat) : Bool := clrQ ops qs [] && clrA ops g qs.reverse
/-- Only what the operation looks at. -/
def St.only (σ : St) (ops : Array Oper) (o : Oper) : St := { σ with L := keepK (o.looksAt ops) σ.L }
/-- What it gives hangs on no world. -/
def stb (σ : St) (op : Op) : Bool := match op with
  | .load _ x => match σ.ev x with
    | some (.cptr _ _) => true
    | _ => false
  | _ => true
def exq (ops : Array Oper) (σ : St) (dn : List (Nat × Bool)) (q : Nat) (k : St → List (Nat × Bool) → Prop) : Prop := match opAt ops q with
  | none => False
  | some o => match o.dst, isQuiet tb o with
    | some d, true => match o.guard with
      | none => qop tb σ o.op fun v => (σ.put (some d) v).go fun s' => k s' ((q, stb σ o.op) :: dn)
      | some (j, b) => match (opAt ops j).bind (·.dst) with
        | none => False
        | some s => match lk σ.L s with
          | some (.bool c) => match b with
            | true => cond c ((σ.setB s true).go fun σ => qop tb σ o.op fun v => (σ.put (some d) v).go fun s' => k s' ((q, stb σ o.op) :: dn)) (((σ.setB s false).put (some d) .gone).go fun s' => k s' ((q, true) :: dn))
            | false => cond c (((σ.setB s true).put (some d) .gone).go fun s' => k s' ((q, true) :: dn)) ((σ.setB s false).go fun σ => qop tb σ o.op fun v => (σ.put (some d) v).go fun s' => k s' ((q, stb σ o.op) :: dn))
          | some .gone => (σ.put (some d) .gone).go fun s' => k s' ((q, true) :: dn)
          | _ => False
    | _, _ => False
def exqs (ops : Array Oper) : List Nat → St → List (Nat × Bool) → (St → List (Nat × Bool) → Prop) → Prop
  | [], σ, dn, k => k σ dn
  | q :: r, σ, dn, k => exq tb ops σ dn q fun σ dn => exqs ops r σ dn k
/-- There is one value only that v says. -/
def detP : PV → Bool
  | .int _ _ => true
  | .bool _ => true
  | .str _ => true
  | .nil => true
  | .ref _ => true
  | .ptr _ _ => true
  | .nilI => true
  | .nilp => true
  | .agg cs => go cs
  | .tup cs => go cs
  | .iface _ v => detP v
  | _ => false
where
  go : List PV → Bool
    | [] => true
    | v :: vs => detP v && go vs
/-- Those of before that hang on the world are as they were. -/
def rechk (ops : Array Oper) (σ : St) : List (Nat × Bool) → Prop
  | [] => True
  | (_, true) :: r => rechk ops σ r
  | (q, false) :: r => (match ops[q]? with
    | some o => match o.dst with
      | some d => match lk σ.L d with
        | some v => detP v = true ∧ qop tb σ o.op fun v' => v' = v
        | none => False
      | none => False
    | none => False) ∧ rechk ops σ r
def keptOf (kp : List Nat) (dn : List (Nat × Bool)) : List (Nat × Bool) := dn.filter fun p => kp.any (Nat.beq p.1)
/-- The choices: each of them. -/
def exalt (ops : Array Oper) (kp : PV → St → Prop) (k : St → Prop) : Gt → List (Nat × Bool) → St → Prop
  | .fin, _, σ => k σ
  | .one e kpl qs2 g, dn1, σ1 => match opAt ops e with
    | some o => exo tb cty ann con ops σ1 o (fun σ2 => exqs tb ops qs2 σ2 (keptOf kpl dn1) fun σ3 dn3 => rechk tb ops σ3 (keptOf kpl dn1) ∧ exalt ops kp k g dn3 σ3) kp
    | none => False
  | .alt e kpl qs2 g r, dn1, σ1 => (match opAt ops e with
    | some o => exo tb cty ann con ops σ1 o (fun σ2 => exqs tb ops qs2 σ2 (keptOf kpl dn1) fun σ3 dn3 => rechk tb ops σ3 (keptOf kpl dn1) ∧ exalt ops kp k g dn3 σ3) kp
    | none => False) ∧ exalt ops kp k r dn1 σ1
def exdraw (ops : Array Oper) (kp : PV → St → Prop) (k : St → Prop) (g : Gt) (qs : List Nat) (σ : St) : Prop :=
  exqs tb ops qs σ [] fun σ1 dn1 => rechk tb ops σ1 [] ∧ exalt tb cty ann con ops kp k g dn1 σ1
def exreg (ops : Array Oper) (kp : PV → St → Prop) (k : St → Prop) (d : Drw) (σ : St) : Prop := match d.c with
  | none => exdraw tb cty ann con ops kp k d.g d.qs σ
  | some c => ∃ J : St → Prop, exdraw tb cty ann con ops kp (fun s => wt (s.cut c) J) d.g d.qs σ ∧ ∀ s, J s → k s

inductive Flow where
  | normal
  | exit (i : Nat)
  | ret
  | pan (v : PV)
/-- What follows where a part ends by itself. -/
def kSeq (f : St → Prop) (k : Flow → St → Prop) : Flow → St → Prop
  | .normal, s => f s
  | .exit i, s => k (.exit i) s
  | .ret, s => k .ret s
  | .pan v, s => k (.pan v) s
def kBlk (i : Nat) (k : Flow → St → Prop) : Flow → St → Prop
  | .normal, s => k .normal s
  | .exit j, s => match Nat.beq i j with
    | true => k .normal s
    | false => k (.exit j) s
  | .ret, s => k .ret s
  | .pan v, s => k (.pan v) s
def firstR : Code → Option Nat
  | .region i _ _ => some i
  | .seq a b => match firstR a with
    | some i => some i
    | none => firstR b
  | .cond _ a b => match firstR a with
    | some i => some i
    | none => firstR b
  | .block _ a => firstR a
  | .loop a => firstR a
  | .scope a => firstR a
  | .exit i => some (1000000 + i)
  | _ => none
def cutOf (l : List (Nat × Cut)) (c : Code) : Option Cut := match firstR c with
  | some i => lk l i
  | none => none
/-- The least that is closed under 'step'. -/
def LW (step : (St → Prop) → St → Prop) (σ : St) : Prop := ∀ I : St → Prop, (∀ s, step I s → I s) → I σ
def ex : Code → St → (Flow → St → Prop) → Prop
  | .skip, σ, k => k .normal σ
  | .label _, σ, k => k .normal σ
  | .region id ops dr, σ, k => match dr with
    | false => exsegs tb cty ann con ops (fun v s => k (.pan v) s) (fun s => k .normal s) (match lk ann.reg id with | some l => l | none => []) ops.toList σ
    | true => wt (lk ann.drw id) fun d => exreg tb cty ann con ops (fun v s => k (.pan v) s) (fun s => k .normal s) d σ
  | .seq a b, σ, k => match cutOf ann.seq b with
    | some c => ∃ J : St → Prop, ex a σ (kSeq (fun s => wt (s.cut c) J) k) ∧ ∀ s, J s → ex b s k
    | none => ex a σ (kSeq (fun s => ex b s k) k)
  | .cond c a b, σ, k => match σ.ev c with
    | some (.bool x) => cond x (ex a σ k) (ex b σ k)
    | _ => False
  | .block i a, σ, k => ex a σ (kBlk i k)
  | .exit i, σ, k => k (.exit i) σ
  | .ret, σ, k => k .ret σ
  | .loop a, σ, k => wt (cutOf ann.loop a) fun c => wt (σ.cut c) fun σ => LW (fun I s => ex a s (kSeq (fun s => wt (s.cut c) I) k)) σ
  | _, _, _ => False
end
end Go.Pe
