import Derived.Test.YtmmgdladipbedaaGreatDoorPeA
import Derived.Test.YtmmgdladipbedaaGreatDoorLkF
import Derived.Orders
set_option linter.all false
namespace Go.Pe
open _root_.Nat renaming beq → ya, ble → yb, blt → yc
open Go.RowKit Go.Lk
variable [Lb]

def lk {β:Type}:List (Nat × β)→Nat→Option β
 | [],_=>none
 | (s,v)::r,t=>match ya s t with
  | true=>some v
  | false=>lk r t
def wt {α:Type}:Option α→(α→Prop)→Prop
 | some a,k=>k a
 | none,_=>False
def Ex {α:Type} (z:Option α) (k:α→Prop):Prop := ∃ a,z=some a∧k a

structure Arr where
 zqv:Bool
 T:Nat
 n:Nat
 l:List (List D)
structure Bx where
 T:Nat
 cs:List PV
structure St where
 L:List (Nat × PV)
 B:List (Nat × Bx)
 A:List (Nat × Arr)
 D:Option (Nat × Nat × Nat):=none
structure CIn where
 vs:List PV
 B:List Bx
 A:List (Nat × Nat × List (List D))
inductive z3s where
 | ok (vs:List PV) (B:List Bx) (A:List (Option (Nat × Nat × List (List D))))
 | okI (vs:List PV) (B:List Bx) (A:List (Option (Nat × Nat × List (List D))))      -- the arrays stay where they were
 | pan (v:PV)
inductive Place where
 | slot (t:Nat) (leaf:Option Nat)
 | cell (b j:Nat)
structure Cut where
 L:List Nat:=[]
 B:List Nat:=[]
 A:List Nat:=[]
 H:List (Place × Nat × Nat × Nat):=[]
 N:List (Place × Nat × Nat):=[]      -- nil slices that are data
 I:List Nat:=[]                      -- iterators whose last entry is forgotten
structure Drw where
 anc:List Nat
 E:List Nat
 qs:List Nat
 g:Gt
 c:Option Cut:=none
 cs:List (Nat × Cut):=[]           -- cuts behind acting operations
 lin:Option (List (Nat × Nat × Cut)):=none   -- a chain of acting operations: as one row,with cuts within
structure Ann where
 drw:List (Nat × Drw):=[]
 seq:List (Nat × Cut):=[]          -- by the first region of what follows
 loop:List (Nat × Cut):=[]         -- by the loop's first region
 reg:List (Nat × List (Nat × Nat × Cut)):=[]   -- cuts within a region: so many operations,then so many under a cut
 own:List Nat:=[]                  -- slots of literals that are owned
 ro:List Nat:=[]                   -- slots of boxes that are only read: data
 fin:List (Place × Nat × Nat × Nat):=[]
 nb:Nat:=0                         -- boxes handed in
 finB:List Place:=[]               -- where the pointers to new boxes that are handed out lie
structure Tb where
 und:List (Nat × TypeDesc):=[]
 shp:List (Nat × Bool × Nat):=[]
 fld:List (Nat × List (Nat × Bool × Nat)):=[]
 zer:List (Nat × Value):=[]
 inf:List (Nat × Value × Nat × Nat):=[]
 nif:List Nat:=[]                  -- types that are no interfaces
 ifc:List Nat:=[]                  -- interface types
 bld:List (Nat × Nat):=[]          -- strings.Builder,its bytes' type
 glb:List (Nat × Nat × Nat × List (List D)):=[]   -- variables that hold tables: cells an element,how many,what they hold

def isNil:Value→Bool
 | .slice none 0 0=>true
 | _=>false
def zlm:Value→PV
 | .int k n => .int k n
 | .bool b => .bool b
 | .string s => .str s.data.toList
 | .slice none 0 0 => .nil
 | .nilIface => .zc7
 | .pointer none => .zfc
 | _ => .undef
def ofV:Value→PV
 | .agg cs => .agg (cs.toList.map zlm)
 | v=>zlm v
def dfn (n:Nat):D:=.val (.func (.func n) (List.toArray []) (List.toArray []))
def ofD:D→PV
 | .int k n => .int k n
 | .bool b => .bool b
 | .str s => .str s
 | .sl T n l => .sl T n l
 | .fsl T n l => .sl T n l
 | .val (.func (.func n) as cs)=>match as.toList,cs.toList with
  | [],[] => .fn n [] []
  | _,_ => .undef
 | .val _ => .undef
def zpi (l:List D):List PV:=l.map ofD
def zw7 (cty:List (Nat × List (Option (Nat × Nat)))):Bool:=match lk cty 999999 with
 | some _=>true
 | none=>false
def zy2:D→PV
 | .fsl T n l => .fsl T n l
 | d=>ofD d
def mkD:D→D
 | .sl T n l => .fsl T n l
 | d=>d
def mkZ (fr g:Bool) (zd:List D):List D:=match fr,g with
 | true,false=>zd.map mkD
 | _,_=>zd
def zz2 (fr:Bool) (v0:PV) (g:Bool) (vd:List D):List D:=match fr,v0,g with
 | true,.ref _,false=>vd.map mkD
 | _,_,_=>vd
def cellsOf:PV→List PV
 | .agg cs=>cs
 | v=>[v]
def z3z (g:Bool) (n:Nat) (cs:List PV):Option PV:=match g,cs with
 | true,cs=>match ya cs.length n with
  | true=>some (.agg cs)
  | false=>none
 | false,[v]=>some v
 | false,_=>none
def zm8:PV→Bool
 | .agg _=>false
 | .tup _=>false
 | .undef=>false
 | .gone=>false
 | .md _=>false
 | _=>true
def z3a:PV→Bool
 | .undef=>true
 | .gone=>true
 | .md _=>true
 | _=>false
def St.ev (σ:St):Operand→Option PV
 | .tmp t=>lk σ.L t
 | .const v=>some (ofV v)
 | .func f=>some (.fn f [] [])
 | .global _=>none
def St.evs (σ:St):List Operand→Option (List PV)
 | []=>some []
 | x::xs=>match σ.ev x,σ.evs xs with
  | some v,some vs=>some (v::vs)
  | _,_=>none
def zsd (a b:IntKind):Bool:=ya a.ctorIdx b.ctorIdx

def bop (td:TypeDesc) (op:BinOp) (u v:PV) (k:PV→Prop):Prop :=
 match u,v with
 | .int a p,.int b q=>match op with
  | .shl=>Ex (chk (decide (0≤q))) fun _=>k (.int a (zcn a p q))
  | .shr=>Ex (chk (decide (0≤q))) fun _=>k (.int a (zpk a p q))
  | .quo=>match zsd a b with
   | true=>Ex (chk (decide (q≠0))) fun _=>k (.int a (a.wrap (p.tdiv q)))
   | false=>False
  | .rem=>match zsd a b with
   | true=>Ex (chk (decide (q≠0))) fun _=>k (.int a (p.tmod q))
   | false=>False
  | op=>match zsd a b with
   | true=>wt (zxr op a p q) fun x=>k (zlm x)
   | false=>False
 | .str p,.str q=>match op with
  | .add=>Ex (cat p q) fun s=>k (.str s)
  | op=>wt (zzf op p q) fun x=>k (zlm x)
 | .bool p,.bool q=>match td,op with
  | .bool,.eql=>k (.bool (p==q))
  | .bool,.neq=>k (.bool (!(p==q)))
  | _,_=>False
 | _,_=>False
def uop (op:UnOp) (u:PV) (k:PV→Prop):Prop :=
 match op,u with
 | .not,.bool b=>k (.bool (!b))
 | op,.int a p=>wt (iun op a p) fun x=>k (zlm x)
 | _,_=>False
def lkU (A:List (Nat × Arr)) (a:Nat):Option Arr:=match lk A a with
 | some e=>match yc e.T 1000000 with
  | true=>some e
  | false=>none
 | none=>none
theorem z3k {A:List (Nat × Arr)} {a:Nat} {e:Arr} (h:lkU A a=some e):lk A a=some e∧e.T<1000000:=by
 unfold lkU at h
 split at h
 ·rename_i e' he
  split at h
  ·rename_i hb
   cases h
   exact ⟨he,by simpa [Nat.blt_eq] using hb⟩
  ·cases h
 ·cases h
def lkB (B:List (Nat × Bx)) (b:Nat):Option Bx:=match lk B b with
 | some e=>match yc e.T 1000000 with
  | true=>some e
  | false=>none
 | none=>none
theorem z6j {B:List (Nat × Bx)} {b:Nat} {e:Bx} (h:lkB B b=some e):lk B b=some e∧e.T<1000000:=by
 unfold lkB at h
 split at h
 ·rename_i e' he
  split at h
  ·rename_i hb
   cases h
   exact ⟨he,by simpa [Nat.blt_eq] using hb⟩
  ·cases h
 ·cases h
def ztv:TypeDesc→Option (Option IntKind)
 | .int k=>some (some k)
 | .string=>some none
 | _=>none
def toKey:Option IntKind→PV→Option D
 | some k,.int k' n=>match zsd k k' with
  | true=>some (.int k' n)
  | false=>none
 | none,.str s=>some (.str s)
 | _,_=>none
def zyu:Option IntKind→Option IntKind→Bool
 | some k,some k'=>zsd k k'
 | none,none=>true
 | _,_=>false
def bq:Bool→Bool→Bool
 | true,b=>b
 | false,b => !b
def za5 (σ:St) (ky:Option IntKind) (g:Bool):PV→Option (Nat × List (List D))
 | .mp b=>match lk σ.B b with
  | some e=>match e.cs with
   | [.md (.cont ky' g' l)]=>match ya e.T 1000000&&zyu ky ky'&&bq g g' with
    | true=>some (b,l)
    | false=>none
   | _=>none
  | none=>none
 | _=>none
def zt3 (g:Bool) (v:PV):Bool:=match g,v with
 | true,.agg _=>true
 | false,v=>zm8 v
 | true,_=>false
structure NxW (rem:List (List D)) (k0:Prop) (k1:List D→List (List D)→Prop):Prop where
 stop:rem=[]→k0
 more:∀ (i:Nat) (x:List D),rem[i]? = some x→k1 x (rem.eraseIdx i)
def encS (n:Int):List UInt8:=(Utf8.encode n).data.toList
def zqt (l:List (List D)):Option Int:=some (l.length:Int)
def zsk (σ:St) (u:PV) (k:Int→Prop):Prop:=match u with
 | .mp b=>match lk σ.B b with
  | some e=>match e.cs with
   | [.md (.cont _ _ l)]=>match ya e.T 1000000 with
    | true=>Ex (zqt l) k
    | false=>False
   | _=>False
  | none=>False
 | _=>False
def zpg (td:TypeDesc) (σ:St) (u:PV) (k:Int→Prop):Prop:=match td,u with
 | .string,.str s=>k (s.length:Int)
 | .slice _,.sl _ _ l=>Ex (zqt l) k
 | .slice _,.nil=>k 0
 | .slice _,.ref a=>wt (lkU σ.A a) fun e=>Ex (zqt e.l) k
 | .map _ _,.mp b=>zsk σ (.mp b) k
 | _,_=>False
def loW (σ:St) (x:Option Operand) (k:Int→Prop):Prop:=match x with
 | none=>k 0
 | some y=>match σ.ev y with
  | some (.int _ n)=>k n
  | _=>False
def hiW (td:TypeDesc) (σ:St) (u:PV) (x:Option Operand) (k:Int→Prop):Prop:=match x with
 | none=>zpg td σ u k
 | some y=>match σ.ev y with
  | some (.int _ n)=>k n
  | _=>False
def zu6 (σ:St) (g:Bool) (n:Nat):PV→Option PV
 | .ptr b off=>match lkB σ.B b with
  | some e=>z3z g n ((e.cs.drop off).take n)
  | none=>none
 | .z09 cs off=>z3z g n (((zpi cs).drop off).take n)
 | .z9k cs off _=>z3z g n (((zpi cs).drop off).take n)
 | _=>none
def zgi (σ:St) (g:Bool) (n:Nat) (u:PV) (k:PV→Prop):Prop:=match u with
 | .z8y a m i off=>wt (lkU σ.A a) fun e=>match ya e.n m with
  | true=>Ex (ix e.l i) fun cs=>wt (z3z g n (((zpi cs).drop off).take n)) k
  | false=>False
 | u=>wt (zu6 σ g n u) k
def zz4:PV→Option Bool
 | .zc7=>some true
 | .iface _ _=>some false
 | .err b=>some b
 | _=>none
def zji (fs:List (Nat × Bool × Nat)):List Nat→List PV→List PV→Bool
 | i::is,u::us,cs=>match fs[i]? with
  | some f=>ya (cellsOf u).length f.2.2&&yb (f.1+f.2.2) cs.length && !(z3a u)&&zji fs is us (cs.take f.1++cellsOf u++cs.drop (f.1+f.2.2))
  | none=>false
 | _,_,_=>true
def zny (p q:Int):Int:=if q>p then q else p
def zxz (p q:Int):Int:=if q<p then q else p
def mmW (b:Bool) (u v:PV) (k:PV→Prop):Prop:=match u,v with
 | .int a p,.int c q=>match zsd a c,b with
  | true,true=>k (.int a (zny p q))
  | true,false=>k (.int a (zxz p q))
  | false,_=>False
 | _,_=>False
def qop (tb:Tb) (σ:St) (op:Op) (k:PV→Prop):Prop :=
 match op with
 | .move x=>wt (σ.ev x) k
 | .assign x=>wt (σ.ev x) k
 | .pick c x y=>match σ.ev c with
  | some (.bool c)=>wt (σ.ev x) fun u=>wt (σ.ev y) fun v=>cond c (k u) (k v)
  | _=>False
 | .binOp op t x y _=>match tb.ifc.any (ya t) with
  | true=>match y with
   | .const .nilIface=>wt ((σ.ev x).bind zz4) fun b=>match op with
    | .eql=>k (.bool b)
    | .neq=>k (.bool (!b))
    | _=>False
   | _=>False
  | false=>wt (lk tb.und t) fun td=>wt (σ.ev x) fun u=>wt (σ.ev y) fun v=>bop td op u v k
 | .unOp op _ x=>wt (σ.ev x) fun u=>uop op u k
 | .convert s t x=>wt (σ.ev x) fun u=>match u,lk tb.und s,lk tb.und t with
  | .int _ n,some (.int _),some (.int kk)=>k (.int kk (kk.wrap n))
  | .str s,some .string,some .string=>k (.str s)
  | .int _ n,some (.int _),some .string=>k (.str (encS n))
  | _,_,_=>False
 | .makeInterface t x=>wt (σ.ev x) fun u=>match tb.nif.any (ya t) with
  | true=>k (.iface t u)
  | false=>False
 | .makeFunc (.func f) as cs=>wt (σ.evs as.toList) fun us=>wt (σ.evs cs.toList) fun vs=>k (.fn f us vs)
 | .extract x i=>match σ.ev x with
  | some (.tup vs)=>wt vs[i]? k
  | _=>False
 | .nilCheck x=>wt (σ.ev x) fun u=>match u with
  | .ptr _ _=>k u
  | .z09 _ _=>k u
  | .z8y _ _ _ _=>k u
  | _=>False
 | .fieldAddr t x i=>wt ((lk tb.fld t).bind (·[i]?)) fun f=>wt (σ.ev x) fun u=>match u with
  | .ptr b off=>k (.ptr b (off+f.1))
  | .z09 cs off=>k (.z09 cs (off+f.1))
  | .z8y a m j off=>k (.z8y a m j (off+f.1))
  | _=>False
 | .field t x i=>wt ((lk tb.fld t).bind (·[i]?)) fun f=>match σ.ev x with
  | some (.agg cs)=>wt (z3z f.2.1 f.2.2 ((cs.drop f.1).take f.2.2)) k
  | _=>False
 | .load t x=>wt (lk tb.shp t) fun s=>wt (σ.ev x) fun u=>zgi σ s.1 s.2 u k
 | .index t x y=>match lk tb.und t,σ.ev x,σ.ev y with
  | some .string,some (.str s),some (.int _ i)=>Ex (ix s i) fun c=>k (.int .u8 (c.toNat:Int))
  | _,_,_=>False
 | .indexAddr t x y=>match x with
  | .global g=>wt (lk tb.glb g) fun e=>match lk tb.und t,σ.ev y with
   | some (.array len T),some (.int _ i)=>wt (lk tb.shp T) fun s=>match ya s.2 e.1&&ya len e.2.1 with
    | true=>Ex (ix e.2.2 i) fun cs=>k (.z09 cs 0)
    | false=>False
   | _,_=>False
  | x=>wt (σ.ev x) fun u=>match lk tb.und t with
   | some (.slice T)=>wt (lk tb.shp T) fun s=>match u,σ.ev y with
    | .sl _ n l,some (.int _ i)=>match ya s.2 n with
     | true=>Ex (ix l i) fun cs=>k (.z09 cs 0)
     | false=>False
    | .ref a,some (.int _ i)=>wt (lkU σ.A a) fun e=>match ya s.2 e.n with
     | true=>Ex (ix e.l i) fun _=>k (.z8y a e.n i 0)
     | false=>False
    | _,_=>False
   | _=>False
 | .slice t x lo hi none=>wt (σ.ev x) fun u=>wt (lk tb.und t) fun td=>loW σ lo fun a=>hiW td σ u hi fun b=>match td,u with
  | .string,.str s=>Ex (sub s a b) fun r=>k (.str r)
  | .slice e,.sl T m l=>wt (lk tb.shp e) fun s=>match ya e T&&ya s.2 m with
   | true=>Ex (sub l a b) fun r=>k (.sl T m r)
   | false=>False
  | _,_=>False
 | .call c=>match c.callee,c.args.toList,c.argTypes.toList with
  | .builtin .len,[x],[t]=>wt (lk tb.und t) fun td=>wt (σ.ev x) fun u=>zpg td σ u fun n=>k (.int .i64 n)
  | .builtin .max,[x,y],_=>wt (σ.ev x) fun u=>wt (σ.ev y) fun v=>mmW true u v k
  | .builtin .min,[x,y],_=>wt (σ.ev x) fun u=>wt (σ.ev y) fun v=>mmW false u v k
  | _,_,_=>False
 | .typeAssert x _ t true=>wt (lk tb.zer t) fun z=>match σ.ev x,tb.nif.any (ya t) with
  | some (.iface T u),true=>match ya T t with
   | true=>k (.tup [u,.bool true])
   | false=>k (.tup [ofV z,.bool false])
  | some .zc7,true=>k (.tup [ofV z,.bool false])
  | _,_=>False
 | .build t parts=>wt (σ.evs (parts.toList.map (·.2))) fun us=>wt (lk tb.zer t) fun z=>wt (lk tb.fld t) fun fs =>
   match zji fs (parts.toList.map (·.1)) us (cellsOf (ofV z)) with
   | true=>k (.agg (zl5 fs (cellsOf (ofV z)) (parts.toList.map (·.1)) us))
   | false=>False
 | .slice t x none (some hi) (some mx)=>wt (σ.ev x) fun u=>match lk tb.und t,u,σ.ev hi,σ.ev mx with
  | some (.slice e),.sl T m l,some (.int _ b),some (.int _ c)=>wt (lk tb.shp e) fun s=>match ya e T&&ya s.2 m with
   | true=>Ex (zqt l) fun n=>Ex (chk (decide (b≤c)&&decide (c≤n))) fun _=>Ex (sub l 0 b) fun r=>k (.sl T m r)
   | false=>False
  | _,_,_,_=>False
 | _=>False
where
 zl5 (fs:List (Nat × Bool × Nat)) (cs:List PV):List Nat→List PV→List PV
  | i::is,u::us=>match fs[i]? with
   | some f=>zl5 fs (cs.take f.1++cellsOf u++cs.drop (f.1+f.2.2)) is us
   | none=>[]
  | _,_=>cs

@[reducible] def St.go (σ:St) (k:St→Prop):Prop:=k σ
theorem St.go_eq {σ:St} {k:St→Prop}:σ.go k=k σ:=rfl
def zwp {β:Type}:List β→Nat→Option β
 | [],_=>none
 | x::_,0=>some x
 | _::r,n+1=>zwp r n
theorem zo8 {β:Type}:∀ (l:List β) (n:Nat),zwp l n=l[n]?
 | [],n=>by simp [zwp]
 | x::r,0=>rfl
 | x::r,n+1=>by simp [zwp,zo8 r n]
def zr4 (ops:Array Oper) (q:Nat):Option Oper:=zwp ops.toList q
theorem z7w {ops:Array Oper} {q:Nat}:zr4 ops q=ops[q]?:=by simp [zr4,zo8]
def z7y (bs as:List Nat):PV→PV
 | .ref a=>match as[a]? with
  | some x => .ref x
  | none => .undef
 | .ptr b off=>match bs[b]? with
  | some x => .ptr x off
  | none => .undef
 | .z0g b=>match bs[b]? with
  | some x => .z0g x
  | none => .undef
 | .mp b=>match bs[b]? with
  | some x => .mp x
  | none => .undef
 | .agg cs => .agg (go cs)
 | .tup cs => .tup (go cs)
 | .iface T v => .iface T (z7y bs as v)
 | .fn f a c => .fn f (go a) (go c)
 | .z8y _ _ _ _ => .undef
 | v=>v
where
 go:List PV→List PV
  | []=>[]
  | v::vs=>z7y bs as v::go vs
def nrm (σ:St):PV→PV→PV
 | .sl _ _ _,.ref a=>match lkU σ.A a with
  | some e => .sl e.T e.n e.l
  | none => .undef
 | .sl T n _,.nil => .sl T n []
 | .sl _ _ _,.slx T n l _ => .sl T n l
 | .err _,.zc7 => .err true
 | .err _,.iface _ _ => .err false
 | .agg ws,.agg vs => .agg (go ws vs)
 | .tup ws,.tup vs => .tup (go ws vs)
 | _,v=>v
where
 go:List PV→List PV→List PV
  | w::ws,v::vs=>nrm σ w v::go ws vs
  | _,vs=>vs
def z7s:PV→PV→List Nat
 | .sl _ _ _,.ref a=>[a]
 | .agg ws,.agg vs=>go ws vs
 | .tup ws,.tup vs=>go ws vs
 | _,_=>[]
where
 go:List PV→List PV→List Nat
  | w::ws,v::vs=>z7s w v++go ws vs
  | _,_=>[]
def z7p:PV→Bool
 | .sl _ _ _=>true
 | .fsl _ _ _=>true
 | .slx _ _ _ _=>true
 | .z09 _ _=>true
 | .z9k _ _ _=>true
 | .md _=>true
 | .agg cs=>go cs
 | .tup cs=>go cs
 | .iface _ v=>z7p v
 | .fn _ a c=>go a||go c
 | _=>false
where
 go:List PV→Bool
  | []=>false
  | v::vs=>z7p v||go vs
def z6z (a:Nat) (e:Arr):PV→PV
 | .ref x=>match ya x a with
  | true => .sl e.T e.n e.l
  | false => .ref x
 | .z8y x m i off=>match ya x a with
  | true => .undef
  | false => .z8y x m i off
 | .agg cs => .agg (go cs)
 | .tup cs => .tup (go cs)
 | .iface T v => .iface T (z6z a e v)
 | .fn f s c => .fn f (go s) (go c)
 | v=>v
where
 go:List PV→List PV
  | []=>[]
  | v::vs=>z6z a e v::go vs
def z88 {β:Type} (a:Nat):List (Nat × β)→List (Nat × β)
 | []=>[]
 | (s,v)::r=>match ya s a with
  | true=>z88 a r
  | false=>(s,v)::z88 a r
def zh2 {β:Type} (a:Nat) (x:β):List (Nat × β)→List (Nat × β)
 | []=>[]
 | (s,v)::r=>match ya s a with
  | true=>(s,x)::r
  | false=>(s,v)::zh2 a x r
def St.zxy (σ:St) (f:PV→PV):St:={ σ with L:=σ.L.map fun p=>(p.1,f p.2),B:=σ.B.map fun p=>(p.1,{ p.2 with cs:=p.2.cs.map f }) }
def St.freeze (σ:St):List Nat→Option St
 | []=>some σ
 | a::as=>match lk σ.A a with
  | some e=>match e.zqv&&yc e.T 1000000 with
   | true=>({ (σ.zxy (z6z a e)) with A:=z88 a σ.A }:St).freeze as
   | false=>none
  | none=>σ.freeze as
def St.z5j (σ:St) (b:Nat):Bool:=yb 1000 b&&(lk σ.B b).isNone&&σ.L.all (fun p=>noK (some b) none p.2)&&σ.B.all (fun p=>z96 (some b) none p.2.cs)
def St.z4q (σ:St) (a:Nat):Bool:=(lk σ.A a).isNone&&σ.L.all (fun p=>noK none (some a) p.2)&&σ.B.all (fun p=>z96 none (some a) p.2.cs)
def St.put (σ:St) (d:Option Nat) (v:PV):St:=match d with
 | some d => { σ with L:=(d,v)::σ.L }
 | none=>σ
def toD (T:Option (Nat × Nat)):PV→Option D
 | .int k n=>some (.int k n)
 | .bool b=>some (.bool b)
 | .str s=>some (.str s)
 | .sl T n l=>some (.sl T n l)
 | .nil=>match T with
  | some (T,n)=>some (.sl T n [])
  | none=>none
 | .fn f [] []=>some (dfn f)
 | .fsl T n l=>some (.fsl T n l)
 | _=>none
def toDs (ct:List (Option (Nat × Nat))) (cs:List PV):Option (List D):=match cs,ct with
 | [],_=>some []
 | v::vs,c::ct=>match toD c v,toDs ct vs with
  | some d,some ds=>some (d::ds)
  | _,_=>none
 | v::vs,[]=>match toD none v,toDs [] vs with
  | some d,some ds=>some (d::ds)
  | _,_=>none
def zw0 (ct:List (Option (Nat × Nat))):List PV→Option (List (List D))
 | []=>some []
 | v::vs=>match toDs ct (cellsOf v),zw0 ct vs with
  | some d,some ds=>some (d::ds)
  | _,_=>none
def za7:PV→List Nat
 | .ref a=>[a]
 | .agg cs=>go cs
 | .tup cs=>go cs
 | .iface _ v=>za7 v
 | _=>[]
where
 go:List PV→List Nat
  | []=>[]
  | v::vs=>za7 v++go vs
def dby:List (List D)→Option (List UInt8)
 | []=>some []
 | [.int .u8 n]::r=>match dby r with
  | some s=>some (UInt8.ofNat n.toNat::s)
  | none=>none
 | _=>none
def zvd (s:List UInt8):List (List D):=(unb s).map (eI .u8)
def zev:Nat→List Nat→Bool
 | _,[]=>true
 | i,j::r=>ya i j&&zev (i+1) r
def z5l {β:Type} (ks:List Nat) (l:List (Nat × β)):List (Nat × β):=match ks with
 | []=>[]
 | x::r=>match lk l x with
  | some v=>(x,v)::z5l r l
  | none=>z5l r l
def zns:Option Nat→PV→Option PV
 | none,v=>some v
 | some j,.agg cs=>cs[j]?
 | _,_=>none
def zuk:Option Nat→PV→PV→PV
 | none,_,x=>x
 | some j,.agg cs,x => .agg (cs.set j x)
 | _,v,_=>v
def St.at (σ:St):Place→Option PV
 | .slot t j=>match lk σ.L t with
  | some v=>zns j v
  | none=>none
 | .cell b j=>match lk σ.B b with
  | some e=>e.cs[j]?
  | none=>none
def St.set (σ:St) (x:PV):Place→St
 | .slot t j=>match lk σ.L t with
  | some v => { σ with L:=zh2 t (zuk j v x) σ.L }
  | none=>σ
 | .cell b j=>match lk σ.B b with
  | some e => { σ with B:=zh2 b { e with cs:=e.cs.set j x } σ.B }
  | none=>σ
def St.home (σ:St):List (Place × Nat × Nat × Nat)→Option St
 | []=>some σ
 | (p,a,T,n)::r=>match σ.at p with
  | some .nil=>match σ.z4q a with
   | true=>({ (σ.set (.ref a) p) with A:=(a,⟨true,T,n,[]⟩)::σ.A }:St).home r
   | false=>none
  | some (.ref x)=>match ya x a with
   | true=>σ.home r
   | false=>match lk σ.A x,σ.z4q a with
    | some e,true=>({ (σ.set (.ref a) p) with A:=(a,e)::z88 x σ.A }:St).home r
    | _,_=>none
  | _=>none
def St.zvg (σ:St):List (Place × Nat × Nat)→Option St
 | []=>some σ
 | (p,T,n)::r=>match σ.at p with
  | some .nil=>(σ.set (.sl T n []) p).zvg r
  | some (.sl _ _ _)=>σ.zvg r
  | _=>none
def St.zoj (σ:St):List (Place × Nat × Nat)→List Nat
 | []=>[]
 | (p,_,_)::r=>match σ.at p with
  | some (.ref a)=>a::σ.zoj r
  | _=>σ.zoj r
def St.zyk (σ:St) (c:Cut):Option St:=match ({ σ with L:=z5l c.L σ.L,B:=z5l c.B σ.B }:St).home c.H with
 | some s=>match s.zvg c.N with
  | some s=>some { s with A:=z5l c.A s.A }
  | none=>none
 | none=>none
def St.itN (σ:St):List Nat→St
 | []=>σ
 | b::r=>match σ.at (.cell b 0) with
  | some (.md (.it ky g _ rem))=>(σ.set (.md (.it ky g none rem)) (.cell b 0)).itN r
  | _=>σ.itN r
def St.cut (σ:St) (c:Cut):Option St:=match σ.freeze (σ.zoj c.N) with
 | some s=>(s.itN c.I).zyk c
 | none=>none

def apL (tb:Tb) (t t2:Nat) (inf:Value × Nat × Nat) (v:PV):Option (List (List D)):=match v with
 | .sl _ n l=>match ya t t2&&ya n inf.2.1 with
  | true=>some l
  | false=>none
 | .nil=>match ya t t2 with
  | true=>some []
  | false=>none
 | .str s=>match lk tb.und t2,inf with
  | some .string,(.int .u8 0,1,1)=>some (zvd s)
  | _,_=>none
 | _=>none
section
variable (tb:Tb) (cty:List (Nat × List (Option (Nat × Nat)))) (ann:Ann) (con:Nat→CIn→z3s→Prop)
def z7h (σ:St) (bs as:List Nat):List Nat→List Bx→Prop
 | b::ks,e::es=>(match lk σ.B b with
  | some x=>x.T=e.T∧nrm.go { σ with A:=[] } e.cs x.cs=z7y.go bs as e.cs
  | none=>False)∧z7h σ bs as ks es
 | _,[]=>True
 | [],_::_=>False
def zcr (σ:St):List Nat→List (Nat × Nat × List (List D))→Prop
 | a::ks,e::es=>(match lk σ.A a with
  | some x=>x.T=e.1∧x.n=e.2.1∧x.l=e.2.2
  | none=>False)∧zcr σ ks es
 | _,[]=>True
 | [],_::_=>False
def z5w:List Nat→Bool
 | []=>true
 | x::r => !(r.any (ya x))&&z5w r
def inR (nb na:Nat):PV→Bool
 | .ref a=>yc a na
 | .ptr b _=>yc b nb
 | .z0g b=>yc b nb
 | .mp b=>yc b nb
 | .z8y _ _ _ _=>false
 | .agg cs=>go cs
 | .tup cs=>go cs
 | .iface _ v=>inR nb na v
 | .fn _ a c=>go a&&go c
 | _=>true
where
 go:List PV→Bool
  | []=>true
  | v::vs=>inR nb na v&&go vs
def z34 {β:Type}:List Nat→List (Nat × β)→List (Nat × β)
 | [],l=>l
 | a::as,l=>z34 as (z88 a l)
def zv9 (m:Bool):List Nat→List (Option (Nat × Nat × List (List D)))→List (Nat × Arr)
 | a::ks,some e::es=>(a,⟨m,e.1,e.2.1,e.2.2⟩)::zv9 m ks es
 | _::ks,none::es=>zv9 m ks es
 | _,_=>[]
def zxg (bs as:List Nat):List Nat→List Bx→List (Nat × Bx)
 | b::ks,e::es=>(b,⟨e.T,z7y.go bs as e.cs⟩)::zxg bs as ks es
 | _,_=>[]
def zy5:List PV→PV
 | [v]=>v
 | vs => .tup vs
def z4w (σ:St):List Nat→Bool
 | []=>true
 | a::as=>(match lk σ.A a with
  | some e=>e.zqv
  | none=>false)&&z4w σ as
def zfj (σ:St) (bs as ls:List Nat) (i:CIn):Bool :=
 z5w bs&&z5w as&&yb i.B.length bs.length&&ya i.A.length as.length&&inR.go i.B.length i.A.length i.vs&&i.B.all (fun e=>inR.go i.B.length i.A.length e.cs) &&
  ls.all fun a=>(lk σ.A a).isSome && !(as.any (ya a))
def zr5 (σ:St) (bs as':List Nat) (nb:Nat) (vs:List PV) (B:List Bx) (A:List (Option (Nat × Nat × List (List D)))):Bool :=
 z5w as'&&ya B.length bs.length&&ya A.length as'.length&&inR.go B.length A.length vs&&B.all (fun e=>inR.go B.length A.length e.cs)&&as'.all σ.z4q&&(bs.drop nb).all σ.z5j
def zbe (vs:List PV) (B:List Bx) (A:List (Option (Nat × Nat × List (List D)))):Bool:=z7p.go vs||B.any (fun e=>z7p.go e.cs)||A.any (fun e=>e.isSome)
def frz (b:Bool) (σ:St) (ls:List Nat):Option St:=match b with
 | true=>σ.freeze ls
 | false=>some σ
def left (m:Bool) (bs as as':List Nat) (B:List Bx) (A:List (Option (Nat × Nat × List (List D)))) (σ:St):St:={ σ with B:=zxg bs as' bs B++z34 bs σ.B,A:=zv9 m as' A++z34 as σ.A }
def St.lost (σ:St) (bs as:List Nat):St:={ σ with B:=z34 bs σ.B,A:=z34 as σ.A }
def za2:List Nat→List Nat→List (Nat × Arr)→List (Nat × Arr)
 | a::as,a'::as',A=>match lk A a' with
  | some e=>za2 as as' ((a,e)::z88 a' A)
  | none=>za2 as as' A
 | _,_,A=>A
def disj (as as':List Nat):Bool:=as.all fun a => !(as'.any (ya a))
def St.za2 (σ:St) (as as':List Nat):St:={ σ with A:=Go.Pe.za2 as as' σ.A }
def zkq (bs as as':List Nat) (i:CIn) (args:List PV) (σ:St) (k:PV→St→Prop) (kp:PV→St→Prop):z3s→Prop
 | .ok vs B A=>wt (frz (zbe vs B A) σ (z7s.go i.vs args)) fun s =>
   zr5 { s with B:=z34 bs s.B,A:=z34 as s.A } bs as' i.B.length vs B A=true∧k (zy5 (z7y.go bs as' vs)) (left (z4w σ as) bs as as' B A s)
 | .okI vs B A=>wt (frz (zbe vs B A) σ (z7s.go i.vs args)) fun s =>
   (zr5 { s with B:=z34 bs s.B,A:=z34 as s.A } bs as' i.B.length vs B A&&disj as as')=true∧k (zy5 (z7y.go bs as' vs)) ((left (z4w σ as) bs as as' B A s).za2 as as')
 | .pan v=>z7p v=false∧kp v (σ.lost bs (as++z7s.go i.vs args))
def zfk (σ:St) (f:Nat) (args:List PV) (k:PV→St→Prop) (kp:PV→St→Prop):Prop :=
 ∃ (bs as as':List Nat) (i:CIn) (o:z3s),con f i o∧nrm.go σ i.vs args=z7y.go bs as i.vs∧z7h σ bs as bs i.B∧zcr σ as i.A∧zfj σ bs as (z7s.go i.vs args) i=true∧zkq bs as as' i args σ k kp o
def quiet:Op→Bool
 | .alloc _ | .box _ _ | .store _ _ _ | .buildSlice _ _ _ | .panic _ | .makeSlice _ _ _ | .defer _ | .makeMap _ _ | .mapUpdate _ _ _ _ | .lookup _ _ _ _ | .range _ _ | .next _ _ | .entry _=>false
 | .call c=>match c.callee with
  | .builtin .len=>true
  | .builtin .max=>true
  | .builtin .min=>true
  | _=>false
 | .convert _ _ _=>true
 | _=>true
def St.born (σ:St) (key E:Nat) (k:St→Prop):Prop:=wt (σ.home [(.cell key 1,key,E,1)]) fun s=>match s.at (.cell key 0) with
 | some .zfc=>k (s.set (.z0g key) (.cell key 0))
 | _=>False
def zt2 (σ:St) (o:Oper) (k:St→Prop):Prop :=
 match o.op with
 | .makeMap t none=>wt o.dst fun d=>match lk tb.und t with
  | some (.map kt et)=>wt ((lk tb.und kt).bind ztv) fun ky=>wt (lk tb.shp et) fun s=>match σ.z5j (d+1000) with
   | true=>k { σ with B:=(d+1000,⟨1000000,[.md (.cont ky s.1 [])]⟩)::σ.B,L:=(d,.mp (d+1000))::σ.L }
   | false=>False
  | _=>False
 | .mapUpdate t x y v=>match o.dst with
  | none=>match lk tb.und t with
   | some (.map kt et)=>wt ((lk tb.und kt).bind ztv) fun ky=>wt (lk tb.shp et) fun s=>wt (σ.ev v) fun v0=>wt (σ.freeze (za7 v0)) fun σ=>wt (σ.ev x) fun u=>wt (σ.ev y) fun kv=>wt (σ.ev v) fun v =>
    wt (toKey ky kv) fun kd=>wt (toDs (match lk cty et with|some c=>c|none=>[]) (cellsOf v)) fun vd=>wt (za5 σ ky s.1 u) fun m=>match zt3 s.1 v with
    | true=>Ex (some (z7t m.2 kd (zz2 (zw7 cty) v0 s.1 vd))) fun l=>k { σ with B:=zh2 m.1 ⟨1000000,[.md (.cont ky s.1 l)]⟩ σ.B }
    | false=>False
   | _=>False
  | some _=>False
 | .lookup t x y c=>wt o.dst fun d=>match lk tb.und t with
  | some (.map kt et)=>wt ((lk tb.und kt).bind ztv) fun ky=>wt (lk tb.shp et) fun s=>wt (lk tb.zer et) fun z=>wt (σ.ev x) fun u=>wt (σ.ev y) fun kv=>wt (toKey ky kv) fun kd =>
   wt (toDs (match lk cty et with|some c=>c|none=>[]) (cellsOf (ofV z))) fun zd=>wt (za5 σ ky s.1 u) fun m=>match zt3 s.1 (ofV z) with
   | true=>Ex (some (zei m.2 kd (mkZ (zw7 cty) s.1 zd))) fun ds=>wt (z3z s.1 s.2 (zpi ds)) fun r=>match c with
    | false=>k { σ with L:=(d,r)::σ.L }
    | true=>Ex (some (zgl m.2 kd)) fun b=>k { σ with L:=(d,.tup [r,.bool b])::σ.L }
   | false=>False
  | _=>False
 | .range t x=>wt o.dst fun d=>match lk tb.und t with
  | some (.map kt et)=>wt ((lk tb.und kt).bind ztv) fun ky=>wt (lk tb.shp et) fun s=>wt (σ.ev x) fun u=>wt (za5 σ ky s.1 u) fun m=>match yb 1000 m.1&&({ σ with B:=z88 m.1 σ.B }:St).z5j (d+1000) with
   | true=>k { σ with B:=(d+1000,⟨2000000,[.md (.it ky s.1 none m.2)]⟩)::z88 m.1 σ.B,L:=(d,.ptr (d+1000) 0)::σ.L }
   | false=>False
  | _=>False
 | .next x false=>wt o.dst fun d=>wt (σ.ev x) fun u=>match u with
  | .ptr b off=>wt (lk σ.B b) fun e=>match e.cs with
   | [.md (.it ky g _ rem)]=>match ya off 0&&ya e.T 2000000 with
    | true=>NxW rem (k { σ with L:=(d,.tup [.bool false])::σ.L }) fun x r=>k { σ with B:=zh2 b ⟨2000000,[.md (.it ky g (some x) r)]⟩ σ.B,L:=(d,.tup [.bool true,.undef,.undef])::σ.L }
    | false=>False
   | _=>False
  | _=>False
 | .entry x=>wt o.dst fun d=>wt (σ.ev x) fun u=>match u with
  | .ptr b off=>wt (lk σ.B b) fun e=>match e.cs with
   | [.md (.it _ g (some (kd::ds)) _)]=>match ya off 0&&ya e.T 2000000 with
    | true=>wt (z3z g ds.length (match zw7 cty with|true=>ds.map zy2|false=>zpi ds)) fun r=>k { σ with L:=(d,.tup [ofD kd,r])::σ.L }
    | false=>False
   | _=>False
  | _=>False
 | .call c=>match c.callee,c.args.toList,c.argTypes.toList with
  | .builtin .delete,[x,y],t::_=>match o.dst with
   | none=>match lk tb.und t with
    | some (.map kt et)=>wt ((lk tb.und kt).bind ztv) fun ky=>wt (lk tb.shp et) fun s=>wt (σ.ev x) fun u=>wt (σ.ev y) fun kv=>wt (toKey ky kv) fun kd=>wt (za5 σ ky s.1 u) fun m =>
     Ex (some (z8h m.2 kd)) fun l=>k { σ with B:=zh2 m.1 ⟨1000000,[.md (.cont ky s.1 l)]⟩ σ.B }
    | _=>False
   | some _=>False
  | _,_,_=>False
 | _=>False
def act (σ:St) (o:Oper) (k:St→Prop) (kp:PV→St→Prop):Prop :=
 match o.op with
 | .alloc T=>wt o.dst fun d=>wt (lk tb.zer T) fun z=>match σ.z5j (d+1000)&&yc T 1000000 with
  | true=>match lk tb.bld T with
   | none=>k { σ with B:=(d+1000,⟨T,cellsOf (ofV z)⟩)::σ.B,L:=(d,.ptr (d+1000) 0)::σ.L }
   | some E=>({ σ with B:=(d+1000,⟨T,cellsOf (ofV z)⟩)::σ.B,L:=(d,.ptr (d+1000) 0)::σ.L }:St).born (d+1000) E k
  | false=>False
 | .box T x=>wt o.dst fun d=>wt (σ.ev x) fun v=>match ann.ro.any (ya d) with
  | true=>wt (toDs (match lk cty T with|some c=>c|none=>[]) (cellsOf v)) fun ds=>match !(z3a v) with
   | true=>k { σ with L:=(d,.z09 ds 0)::σ.L }
   | false=>False
  | false=>match σ.z5j (d+1000) && !(z3a v)&&yc T 1000000 with
   | true=>k { σ with B:=(d+1000,⟨T,cellsOf v⟩)::σ.B,L:=(d,.ptr (d+1000) 0)::σ.L }
   | false=>False
 | .store T x y=>match o.dst with
  | none=>wt (lk tb.shp T) fun s=>wt (σ.ev x) fun u=>wt (σ.ev y) fun v=>(match u with
  | .ptr b off=>wt (lkB σ.B b) fun e=>match ya (cellsOf v).length s.2&&yb (off+s.2) e.cs.length&&(cellsOf v).all zm8 with
   | true=>k { σ with B:=zh2 b ⟨e.T,e.cs.take off++cellsOf v++e.cs.drop (off+s.2)⟩ σ.B }
   | false=>False
  | .z8y a m i 0=>wt (σ.freeze (za7 v)) fun σ=>wt (lkU σ.A a) fun e=>wt (σ.ev y) fun v=>wt (toDs (match lk cty e.T with|some c=>c|none=>[]) (cellsOf v)) fun ds=>match ya ds.length e.n&&ya s.2 e.n&&ya e.n m&&(cellsOf v).all zm8 with
   | true=>Ex (zy6 e.l i ds) fun l=>k { σ with A:=zh2 a { e with l:=l } σ.A }
   | false=>False
  | _=>False)
  | some _=>False
 | .buildSlice t n parts=>wt o.dst fun d=>match lk tb.und t with
  | some (.slice e)=>wt (σ.evs (parts.toList.map (·.2))) fun us=>wt (σ.freeze (za7.go us)) fun σ=>wt (σ.evs (parts.toList.map (·.2))) fun us=>wt (lk tb.shp e) fun s=>wt (lk tb.zer e) fun z =>
   wt (zw0 (match lk cty e with|some c=>c|none=>[]) us) fun ds=>match zev 0 (parts.toList.map (·.1))&&ya us.length n&&ya z.cells.size s.2&&yb (n*s.2) 16777216&&yb n 16777216&&us.all (fun x => !(z3a x))&&ds.all (fun x=>ya x.length s.2) with
   | true=>match ann.own.any (ya d) with
    | true=>match σ.z4q (d+1000)&&yc e 1000000 with
     | true=>k { σ with A:=(d+1000,⟨true,e,s.2,ds⟩)::σ.A,L:=(d,.ref (d+1000))::σ.L }
     | false=>False
    | false=>k { σ with L:=(d,.sl e s.2 ds)::σ.L }
   | false=>False
  | _=>False
 | .panic x=>wt (σ.ev x) fun v=>match v with
  | .iface _ _=>kp v σ
  | _=>False
 | .convert s t x=>wt o.dst fun d=>wt (σ.ev x) fun u=>match u,lk tb.und s,lk tb.und t with
  | .str s,some .string,some (.slice e)=>match lk tb.und e with
   | some (.int .u8)=>Ex (chk (decide (s.length≤9223372036854775807))) fun _=>k { σ with L:=(d,.sl e 1 (zvd s))::σ.L }
   | _=>False
  | .sl _ 1 l,some (.slice e),some .string=>match lk tb.und e with
   | some (.int .u8)=>Ex (dby l) fun s=>k { σ with L:=(d,.str s)::σ.L }
   | _=>False
  | .ref a,some (.slice e),some .string=>wt (lkU σ.A a) fun x=>match lk tb.und e,ya x.n 1 with
   | some (.int .u8),true=>Ex (dby x.l) fun s=>k { σ with L:=(d,.str s)::σ.L }
   | _,_=>False
  | _,_,_=>False
 | .call c=>match c.callee,c.args.toList with
  | .builtin .append,[x,y]=>wt o.dst fun d=>wt (σ.ev x) fun u=>wt (σ.ev y) fun v=>match c.argTypes.toList with
   | [t,t2]=>match lk tb.und t with
    | some (.slice e)=>wt (lk tb.inf e) fun inf=>wt (σ.freeze (za7 v)) fun σ=>wt (σ.ev y) fun v=>wt (apL tb t t2 inf v) fun l2=>match ya inf.1.cells.size inf.2.1&&yc 0 inf.2.1&&yc 0 inf.2.2 with
     | true=>match u with
      | .nil=>match σ.z4q (d+1000)&&yc e 1000000 with
       | true=>Ex (app inf.2.2 [] l2) fun r=>k { σ with A:=(d+1000,⟨true,e,inf.2.1,r⟩)::σ.A,L:=(d,.ref (d+1000))::σ.L }
       | false=>False
      | .ref a=>wt (lkU σ.A a) fun x=>match ({ σ with A:=z88 a σ.A }:St).z4q (d+1000)&&ya x.T e&&ya x.n inf.2.1 with
       | true=>Ex (app inf.2.2 x.l l2) fun r=>k { σ with A:=(d+1000,{ x with l:=r })::z88 a σ.A,L:=(d,.ref (d+1000))::σ.L }
       | false=>False
      | _=>False
     | false=>False
    | _=>False
   | _=>False
  | .value x,args=>wt (σ.evs args) fun vs=>match σ.ev x with
   | some (.fn f as cs)=>zfk con σ f (as++vs++cs) (fun v σ=>k (σ.put o.dst v)) kp
   | _=>False
  | _,_=>zt2 tb cty σ o k
 | _=>zt2 tb cty σ o k
def zvm (s t:Option TypeDesc):Bool:=match s,t with
 | some .string,some (.slice _)=>true
 | some (.slice _),some .string=>true
 | _,_=>false
def run (σ:St) (o:Oper) (k:St→Prop) (kp:PV→St→Prop):Prop :=
 match (match o.op with
  | .convert s t _ => !zvm (lk tb.und s) (lk tb.und t)
  | op=>quiet op) with
 | true=>qop tb σ o.op fun v=>(σ.put o.dst v).go k
 | false=>act tb cty ann con σ o k kp
def St.zh0 (σ:St) (s:Nat) (b:Bool):St:={ σ with L:=(s,.bool b)::σ.L }
def exo (ops:Array Oper) (σ:St) (o:Oper) (k:St→Prop) (kp:PV→St→Prop):Prop :=
 match o.guard with
 | none=>run tb cty ann con σ o k kp
 | some (j,b)=>match (zr4 ops j).bind (·.dst) with
  | none=>False
  | some s=>match lk σ.L s with
   | some (.bool c)=>match b with
    | true=>cond c ((σ.zh0 s true).go fun σ=>run tb cty ann con σ o k kp) (((σ.zh0 s false).put o.dst .gone).go k)
    | false=>cond c (((σ.zh0 s true).put o.dst .gone).go k) ((σ.zh0 s false).go fun σ=>run tb cty ann con σ o k kp)
   | some .gone=>(σ.put o.dst .gone).go k
   | _=>False
def zhr (ops:Array Oper) (kp:PV→St→Prop) (k:St→Prop):List Oper→St→Prop
 | [],σ=>k σ
 | o::os,σ=>exo tb cty ann con ops σ o (fun σ=>zhr ops kp k os σ) kp
def zg2 (ops:Array Oper) (kp:PV→St→Prop) (k:St→Prop):List (Nat × Nat × Cut)→List Oper→St→Prop
 | [],os,σ=>zhr tb cty ann con ops kp k os σ
 | (n0,m,c)::r,os,σ=>zhr tb cty ann con ops kp (fun σ=>∃ J:St→Prop,zhr tb cty ann con ops kp (fun s=>wt (s.cut c) J) ((os.drop n0).take m) σ∧∀ s,J s→zg2 ops kp k r ((os.drop n0).drop m) s) (os.take n0) σ

def ztr (o:Oper):Bool:=match o.op with
 | .convert s t _ => !zvm (lk tb.und s) (lk tb.und t)
 | op=>quiet op
def z6v (ops:Array Oper) (d:Nat):List Nat→Bool
 | []=>true
 | q::r=>(match ops[q]? with
  | some o=>(match o.dst with
   | some e => !(ya e d)
   | none=>true) && !((o.looksAt ops).any (ya d))
  | none=>true)&&z6v ops d r
def zky (ops:Array Oper):List Nat→List Nat→Bool
 | [],_=>true
 | q::r,dn=>(match ops[q]? with
  | some o=>match o.dst with
   | some d=>z6v ops d dn && !((o.looksAt ops).any (ya d))
   | none=>true
  | none=>true)&&zky ops r (q::dn)
def z92 (kp dn:List Nat):List Nat:=dn.filter fun p=>kp.any (ya p)
def zxm (ops:Array Oper) (e:Nat) (kpl qs2 dn1:List Nat):Bool:=(match ops[e]? with
  | some o=>match o.dst with
   | some d=>z6v ops d (z92 kpl dn1)
   | none=>true
  | none=>true)&&zky ops qs2 (z92 kpl dn1)
def zq1 (ops:Array Oper):Gt→List Nat→Bool
 | .fin,_=>true
 | .one e kpl qs2 sub,dn1=>zxm ops e kpl qs2 dn1&&zq1 ops sub (qs2.reverse++z92 kpl dn1)
 | .alt e kpl qs2 sub r,dn1=>zxm ops e kpl qs2 dn1&&zq1 ops sub (qs2.reverse++z92 kpl dn1)&&zq1 ops r dn1
def zyd (ops:Array Oper) (g:Gt) (qs:List Nat):Bool:=zky ops qs []&&zq1 ops g qs.reverse
def St.only (σ:St) (ops:Array Oper) (o:Oper):St:={ σ with L:=z5l (o.looksAt ops) σ.L }
def stb (σ:St) (op:Op):Bool:=match op with
 | .load _ x=>match σ.ev x with
  | some (.z09 _ _)=>true
  | some (.z9k _ _ _)=>true
  | _=>false
 | .call c=>match c.args.toList with
  | [x]=>match σ.ev x with
   | some (.mp _)=>false
   | _=>true
  | _=>true
 | _=>true
def exq (ops:Array Oper) (σ:St) (dn:List (Nat × Bool)) (q:Nat) (k:St→List (Nat × Bool)→Prop):Prop:=match zr4 ops q with
 | none=>False
 | some o=>match o.dst,ztr tb o with
  | some d,true=>match o.guard with
   | none=>qop tb σ o.op fun v=>(σ.put (some d) v).go fun s'=>k s' ((q,stb σ o.op)::dn)
   | some (j,b)=>match (zr4 ops j).bind (·.dst) with
    | none=>False
    | some s=>match lk σ.L s with
     | some (.bool c)=>match b with
      | true=>cond c ((σ.zh0 s true).go fun σ=>qop tb σ o.op fun v=>(σ.put (some d) v).go fun s'=>k s' ((q,stb σ o.op)::dn)) (((σ.zh0 s false).put (some d) .gone).go fun s'=>k s' ((q,true)::dn))
      | false=>cond c (((σ.zh0 s true).put (some d) .gone).go fun s'=>k s' ((q,true)::dn)) ((σ.zh0 s false).go fun σ=>qop tb σ o.op fun v=>(σ.put (some d) v).go fun s'=>k s' ((q,stb σ o.op)::dn))
     | some .gone=>(σ.put (some d) .gone).go fun s'=>k s' ((q,true)::dn)
     | _=>False
  | _,_=>False
def zqa (ops:Array Oper):List Nat→St→List (Nat × Bool)→(St→List (Nat × Bool)→Prop)→Prop
 | [],σ,dn,k=>k σ dn
 | q::r,σ,dn,k=>exq tb ops σ dn q fun σ dn=>zqa ops r σ dn k
def zve:PV→Bool
 | .int _ _=>true
 | .slx _ _ _ _=>true
 | .bool _=>true
 | .str _=>true
 | .nil=>true
 | .ref _=>true
 | .ptr _ _=>true
 | .zc7=>true
 | .zfc=>true
 | .agg cs=>go cs
 | .tup cs=>go cs
 | .iface _ v=>zve v
 | _=>false
where
 go:List PV→Bool
  | []=>true
  | v::vs=>zve v&&go vs
def zew (ops:Array Oper) (σ:St):List (Nat × Bool)→Prop
 | []=>True
 | (_,true)::r=>zew ops σ r
 | (q,false)::r=>(match ops[q]? with
  | some o=>match o.dst with
   | some d=>match lk σ.L d with
    | some v=>zve v=true∧qop tb σ o.op fun v'=>v'=v
    | none=>False
   | none=>False
  | none=>False)∧zew ops σ r
def z3n (kp:List Nat) (dn:List (Nat × Bool)):List (Nat × Bool):=dn.filter fun p=>kp.any (ya p.1)
def rst (cs:List (Nat × Cut)) (e:Nat) (σ:St) (k:St→Prop):Prop:=match lk cs e with
 | some c=>∃ J:St→Prop,wt (σ.cut c) J∧∀ s,J s→k s
 | none=>k σ
def z7j (ops:Array Oper) (cs:List (Nat × Cut)) (kp:PV→St→Prop) (k:St→Prop):Gt→List (Nat × Bool)→St→Prop
 | .fin,_,σ=>k σ
 | .one e kpl qs2 g,dn1,σ1=>match zr4 ops e with
  | some o=>exo tb cty ann con ops σ1 o (fun σ2=>rst cs e σ2 fun σ2=>zqa tb ops qs2 σ2 (z3n kpl dn1) fun σ3 dn3=>zew tb ops σ3 (z3n kpl dn1)∧z7j ops cs kp k g dn3 σ3) kp
  | none=>False
 | .alt e kpl qs2 g r,dn1,σ1=>(match zr4 ops e with
  | some o=>exo tb cty ann con ops σ1 o (fun σ2=>rst cs e σ2 fun σ2=>zqa tb ops qs2 σ2 (z3n kpl dn1) fun σ3 dn3=>zew tb ops σ3 (z3n kpl dn1)∧z7j ops cs kp k g dn3 σ3) kp
  | none=>False)∧z7j ops cs kp k r dn1 σ1
def zcw (ops:Array Oper) (cs:List (Nat × Cut)) (kp:PV→St→Prop) (k:St→Prop) (g:Gt) (qs:List Nat) (σ:St):Prop :=
 zqa tb ops qs σ [] fun σ1 dn1=>zew tb ops σ1 []∧z7j tb cty ann con ops cs kp k g dn1 σ1
inductive It where
 | q (q:Nat)
 | a (e:Nat) (kpl:List Nat)
def zud:List Nat→List It→List It
 | [],r=>r
 | q::qs,r => .q q::zud qs r
def zle:Gt→List It
 | .fin=>[]
 | .one e kpl qs sub => .a e kpl::zud qs (zle sub)
 | .alt _ _ _ _ _=>[]
def zfp:Gt→Bool
 | .fin=>true
 | .one _ _ _ sub=>zfp sub
 | .alt _ _ _ _ _=>false
def dnI:It→List Nat→List Nat
 | .q q,dn=>q::dn
 | .a _ kpl,dn=>z92 kpl dn
def zdu (ops:Array Oper):List It→List Nat→Bool
 | [],_=>true
 | .q q::r,dn=>zky ops [q] dn&&zdu ops r (dnI (.q q) dn)
 | .a e kpl::r,dn=>(match ops[e]? with
  | some o=>match o.dst with
   | some d=>z6v ops d (z92 kpl dn)
   | none=>true
  | none=>true)&&kpl.all (fun q=>dn.any (ya q))&&zdu ops r (dnI (.a e kpl) dn)
def zxk:List (Nat × Bool)→Bool
 | []=>true
 | (_,b)::r=>b&&zxk r
def zuu:Op→Bool
 | .load _ _=>false
 | .call _=>false
 | _=>true
def zut (ops:Array Oper) (q:Nat):Bool:=match zr4 ops q with
 | some o=>zuu o.op
 | none=>true
def ex1 (ops:Array Oper) (kp:PV→St→Prop):It→St→List (Nat × Bool)→(St→List (Nat × Bool)→Prop)→Prop
 | .q q,σ,dn,k=>exq tb ops σ dn q k
 | .a e kpl,σ,dn,k=>match zxk (z3n kpl dn) with
  | true=>match zr4 ops e with
   | some o=>exo tb cty ann con ops σ o (fun s=>k s (z3n kpl dn)) kp
   | none=>False
  | false=>False
def zhq (ops:Array Oper) (kp:PV→St→Prop) (k:St→List (Nat × Bool)→Prop):List It→St→List (Nat × Bool)→Prop
 | [],σ,dn=>k σ dn
 | i::r,σ,dn=>ex1 tb cty ann con ops kp i σ dn fun σ dn=>zhq ops kp k r σ dn
def zxo:List It→List Nat→List Nat
 | [],dn=>dn
 | i::r,dn=>zxo r (dnI i dn)
def dnA (ops:Array Oper) (l:List It) (dn:List (Nat × Bool)):List (Nat × Bool):=(zxo l (dn.map (·.1))).map fun q=>(q,zut ops q)
def zn6 (ops:Array Oper) (kp:PV→St→Prop) (k:St→Prop):List (Nat × Nat × Cut)→List It→St→List (Nat × Bool)→Prop
 | [],its,σ,dn=>zhq tb cty ann con ops kp (fun s _=>k s) its σ dn
 | (n0,m,c)::r,its,σ,dn=>zhq tb cty ann con ops kp (fun σ dn=>∃ J:St→Prop,zhq tb cty ann con ops kp (fun s _=>wt (s.cut c) J) ((its.drop n0).take m) σ dn∧∀ s,J s→zn6 ops kp k r ((its.drop n0).drop m) s (dnA ops ((its.drop n0).take m) dn)) (its.take n0) σ dn
def zhs (ops:Array Oper) (kp:PV→St→Prop) (k:St→Prop) (d:Drw) (σ:St):Prop:=match d.lin with
 | some l=>zn6 tb cty ann con ops kp k l (zud d.qs (zle d.g)) σ []
 | none=>match d.c with
  | none=>zcw tb cty ann con ops d.cs kp k d.g d.qs σ
  | some c=>∃ J:St→Prop,zcw tb cty ann con ops d.cs kp (fun s=>wt (s.cut c) J) d.g d.qs σ∧∀ s,J s→k s

inductive z8v where
 | normal
 | exit (i:Nat)
 | ret
 | pan (v:PV)
def z7a (f:St→Prop) (k:z8v→St→Prop):z8v→St→Prop
 | .normal,s=>f s
 | .exit i,s=>k (.exit i) s
 | .ret,s=>k .ret s
 | .pan v,s=>k (.pan v) s
def zwd (i:Nat) (k:z8v→St→Prop):z8v→St→Prop
 | .normal,s=>k .normal s
 | .exit j,s=>match ya i j with
  | true=>k .normal s
  | false=>k (.exit j) s
 | .ret,s=>k .ret s
 | .pan v,s=>k (.pan v) s
def z9n:Code→Option Nat
 | .region i _ _=>some i
 | .seq a b=>match z9n a with
  | some i=>some i
  | none=>z9n b
 | .cond _ a b=>match z9n a with
  | some i=>some i
  | none=>z9n b
 | .block _ a=>z9n a
 | .loop a=>z9n a
 | .scope a=>z9n a
 | .exit i=>some (1000000+i)
 | _=>none
def zvt (l:List (Nat × Cut)) (c:Code):Option Cut:=match z9n c with
 | some i=>lk l i
 | none=>none
def LW (step:(St→Prop)→St→Prop) (σ:St):Prop := ∀ I:St→Prop,(∀ s,step I s→I s)→I σ
def ex:Code→St→(z8v→St→Prop)→Prop
 | .skip,σ,k=>k .normal σ
 | .label _,σ,k=>k .normal σ
 | .region id ops dr,σ,k=>match dr with
  | false=>zg2 tb cty ann con ops (fun v s=>k (.pan v) s) (fun s=>k .normal s) (match lk ann.reg id with|some l=>l|none=>[]) ops.toList σ
  | true=>wt (lk ann.drw id) fun d=>zhs tb cty ann con ops (fun v s=>k (.pan v) s) (fun s=>k .normal s) d σ
 | .seq a b,σ,k=>match zvt ann.seq b with
  | some c=>∃ J:St→Prop,ex a σ (z7a (fun s=>wt (s.cut c) J) k)∧∀ s,J s→ex b s k
  | none=>ex a σ (z7a (fun s=>ex b s k) k)
 | .cond c a b,σ,k=>match σ.ev c with
  | some (.bool x)=>cond x (ex a σ k) (ex b σ k)
  | _=>False
 | .block i a,σ,k=>ex a σ (zwd i k)
 | .exit i,σ,k=>k (.exit i) σ
 | .ret,σ,k=>k .ret σ
 | .loop a,σ,k=>wt (zvt ann.loop a) fun c=>wt (σ.cut c) fun σ=>LW (fun I s=>ex a s (z7a (fun s=>wt (s.cut c) I) k)) σ
 | _,_,_=>False
end
end Go.Pe
