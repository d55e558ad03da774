import Derived.Test.YtfdoofnmjehecaaGreatDoorPPfA
import Derived.Test.YtfdoofnmjehecaaGreatDoorPLmG
import Derived.Orders
set_option linter.all false
namespace Go.Pe
open _root_.Nat renaming beq → ya, ble → yb, blt → yc, blt_eq → yd
open Go.RowKit Go.Lk

def lk {β:Type}:List (Nat × β)→Nat→Option β
 | [],_=>none
 | (s,v)::r,t=>match ya s t with
  | true=>some v
  | false=>lk r t
def wt {α:Type}:Option α→(α→Prop)→Prop
 | some a,k=>k a
 | none,_=>False
def Ex {α:Type} (z:Option α) (k:α→Prop):Prop := ∃ a,z=some a∧k a

structure Arr where
 zmv:Bool
 T:Nat
 n:Nat
 l:List (List D)
structure Bx where
 T:Nat
 cs:List PV
structure St where
 L:List (Nat × PV)
 B:List (Nat × Bx)
 A:List (Nat × Arr)
 D:Option (Nat × Nat × Nat):=none
structure CIn where
 vs:List PV
 B:List Bx
 A:List (Nat × Nat × List (List D))
inductive z2u where
 | ok (vs:List PV) (B:List Bx) (A:List (Option (Nat × Nat × List (List D))))
 | okI (vs:List PV) (B:List Bx) (A:List (Option (Nat × Nat × List (List D))))      -- the arrays stay where they were
 | pan (v:PV)
 | zbf (v:PV) (B:List Bx)         -- a panic,and what the boxes hold then
inductive Place where
 | slot (t:Nat) (leaf:Option Nat)
 | cell (b j:Nat)
structure Cut where
 L:List Nat:=[]
 B:List Nat:=[]
 A:List Nat:=[]
 H:List (Place × Nat × Nat × Nat):=[]
 N:List (Place × Nat × Nat):=[]      -- nil slices that are data
 I:List Nat:=[]                      -- iterators whose last entry is forgotten
structure Drw where
 anc:List Nat
 E:List Nat
 qs:List Nat
 g:Gt
 c:Option Cut:=none
 cs:List (Nat × Cut):=[]           -- cuts behind acting operations
 lin:Option (List (Nat × Nat × Cut)):=none   -- a chain of acting operations: as one row,with cuts within
structure Ann where
 drw:List (Nat × Drw):=[]
 seq:List (Nat × Cut):=[]          -- by the first region of what follows
 loop:List (Nat × Cut):=[]         -- by the loop's first region
 reg:List (Nat × List (Nat × Nat × Cut)):=[]   -- cuts within a region: so many operations,then so many under a cut
 own:List Nat:=[]                  -- slots of literals that are owned
 ro:List Nat:=[]                   -- slots of boxes that are only read: data
 fin:List (Place × Nat × Nat × Nat):=[]
 nb:Nat:=0                         -- boxes handed in
 zv3:List Place:=[]               -- where the pointers to new boxes that are handed out lie
structure Tb where
 und:List (Nat × TypeDesc):=[]
 shp:List (Nat × Bool × Nat):=[]
 fld:List (Nat × List (Nat × Bool × Nat)):=[]
 zer:List (Nat × Value):=[]
 inf:List (Nat × Value × Nat × Nat):=[]
 nif:List Nat:=[]                  -- types that are no interfaces
 ifc:List Nat:=[]                  -- interface types
 bld:List (Nat × Nat):=[]          -- strings.Builder,its bytes' type
 ars:List (Nat × Nat):=[]          -- arrays of strings,how many
 sts:List (Nat × Nat):=[]          -- structs of strings,how many
 glb:List (Nat × Nat × Nat × List (List D)):=[]   -- variables that hold tables: cells an element,how many,what they hold

def Tb.eqn (tb:Tb) (t:Nat):Option Nat:=match lk tb.ars t with
 | some n=>some n
 | none=>lk tb.sts t
def isNil:Value→Bool
 | .slice none 0 0=>true
 | _=>false
def zj8:Value→PV
 | .int k n => .int k n
 | .bool b => .bool b
 | .string s => .str s.data.toList
 | .slice none 0 0 => .nil
 | .nilIface => .zan
 | .pointer none => .zb7
 | .nilFunc => .fn NF [] []
 | _ => .undef
def ofV:Value→PV
 | .agg cs => .agg (cs.toList.map zj8)
 | v=>zj8 v
@[reducible] def dfn (n:Nat):D:=.fn n
def ofD:D→PV
 | .int k n => .int k n
 | .bool b => .bool b
 | .str s => .str s
 | .sl T n l => .sl T n l
 | .fn n => .fn n [] []
 | .val _ => .undef
def zmz (l:List D):List PV:=l.map ofD
def cellsOf:PV→List PV
 | .agg cs=>cs
 | v=>[v]
def z4r (g:Bool) (n:Nat) (cs:List PV):Option PV:=match g,cs with
 | true,cs=>match ya cs.length n with
  | true=>some (.agg cs)
  | false=>none
 | false,[v]=>some v
 | false,_=>none
def zj9:PV→Bool
 | .agg _=>false
 | .tup _=>false
 | .undef=>false
 | .gone=>false
 | .md _=>false
 | _=>true
def z3k:PV→Bool
 | .undef=>true
 | .gone=>true
 | .md _=>true
 | _=>false
def St.ev (σ:St):Operand→Option PV
 | .tmp t=>lk σ.L t
 | .const v=>some (ofV v)
 | .func f=>match ya f NF with
  | true=>none
  | false=>some (.fn f [] [])
 | .global _=>none
def St.evs (σ:St):List Operand→Option (List PV)
 | []=>some []
 | x::xs=>match σ.ev x,σ.evs xs with
  | some v,some vs=>some (v::vs)
  | _,_=>none
def zmn (a b:IntKind):Bool:=ya a.ctorIdx b.ctorIdx

def bop (td:TypeDesc) (op:BinOp) (u v:PV) (k:PV→Prop):Prop :=
 match u,v with
 | .int a p,.int b q=>match op with
  | .shl=>Ex (chk (decide (0≤q))) fun _=>k (.int a (z8r a p q))
  | .shr=>Ex (chk (decide (0≤q))) fun _=>k (.int a (zhz a p q))
  | .quo=>match zmn a b with
   | true=>Ex (chk (decide (q≠0))) fun _=>k (.int a (a.wrap (p.tdiv q)))
   | false=>False
  | .rem=>match zmn a b with
   | true=>Ex (chk (decide (q≠0))) fun _=>k (.int a (p.tmod q))
   | false=>False
  | op=>match zmn a b with
   | true=>wt (zud op a p q) fun x=>k (zj8 x)
   | false=>False
 | .str p,.str q=>match op with
  | .add=>Ex (cat p q) fun s=>k (.str s)
  | op=>wt (zut op p q) fun x=>k (zj8 x)
 | .bool p,.bool q=>match td,op with
  | .bool,.eql=>k (.bool (p==q))
  | .bool,.neq=>k (.bool (!(p==q)))
  | _,_=>False
 | .ptr _ _,.zb7=>match td,op with
  | .pointer _,.eql=>k (.bool false)
  | .pointer _,.neq=>k (.bool true)
  | _,_=>False
 | .zb7,.zb7=>match td,op with
  | .pointer _,.eql=>k (.bool true)
  | .pointer _,.neq=>k (.bool false)
  | _,_=>False
 | _,_=>False
def zth:List PV→List PV→Option Bool
 | [],[]=>some true
 | .str a::r,.str b::s=>match zth r s with
  | some c=>some (decide (a=b)&&c)
  | none=>none
 | _,_=>none
def zrq (n:Nat) (op:BinOp) (u v:PV) (k:PV→Prop):Prop:=match u,v with
 | .agg us,.agg vs=>wt (zth us vs) fun b=>match ya us.length n,op with
  | true,.eql=>k (.bool b)
  | true,.neq=>k (.bool (!b))
  | _,_=>False
 | _,_=>False
def ztu:PV→Bool
 | .str _=>true
 | _=>false
def z7w:Nat→List Nat→Bool
 | _,[]=>true
 | i,j::r=>ya i j&&z7w (i+1) r
def zoc:Operand→Bool
 | .const .nilFunc=>true
 | _=>false
def zsn (td:TypeDesc) (op:BinOp) (u:PV) (k:PV→Prop):Prop:=match td,u with
 | .func _ _ _,.fn f _ _=>match op with
  | .eql=>k (.bool (ya f NF))
  | .neq=>k (.bool (!ya f NF))
  | _=>False
 | _,_=>False
def uop (op:UnOp) (u:PV) (k:PV→Prop):Prop :=
 match op,u with
 | .not,.bool b=>k (.bool (!b))
 | op,.int a p=>wt (iun op a p) fun x=>k (zj8 x)
 | _,_=>False
def lkU (A:List (Nat × Arr)) (a:Nat):Option Arr:=match lk A a with
 | some e=>match yc e.T 1000000 with
  | true=>some e
  | false=>none
 | none=>none
theorem zhi {A:List (Nat × Arr)} {a:Nat} {e:Arr} (h:lkU A a=some e):lk A a=some e∧e.T<1000000:=by
 unfold lkU at h
 split at h
 ·rename_i e' he
  split at h
  ·rename_i hb
   cases h
   exact ⟨he,by simpa [yd] using hb⟩
  ·cases h
 ·cases h
def lkO (A:List (Nat × Arr)) (a:Nat):Option Arr:=match lk A a with
 | some e=>match yc e.T 1000000||yb 2000000 e.T with
  | true=>some e
  | false=>none
 | none=>none
theorem z4u {A:List (Nat × Arr)} {a:Nat} {e:Arr} (h:lkO A a=some e):lk A a=some e∧(e.T<1000000∨2000000≤e.T):=by
 unfold lkO at h
 split at h
 ·rename_i e' he
  split at h
  ·rename_i hb
   cases h
   rw [Bool.or_eq_true] at hb
   exact ⟨he,by simpa [yd] using hb⟩
  ·cases h
 ·cases h
def lkM (A:List (Nat × Arr)) (a:Nat):Option Arr:=match lk A a with
 | some e=>match yb 2000000 e.T with
  | true=>some e
  | false=>none
 | none=>none
theorem zhh {A:List (Nat × Arr)} {a:Nat} {e:Arr} (h:lkM A a=some e):lk A a=some e∧2000000≤e.T:=by
 unfold lkM at h
 split at h
 ·rename_i e' he
  split at h
  ·rename_i hb
   cases h
   exact ⟨he,by simpa using hb⟩
  ·cases h
 ·cases h
def lkB (B:List (Nat × Bx)) (b:Nat):Option Bx:=match lk B b with
 | some e=>match yc e.T 1000000 with
  | true=>some e
  | false=>none
 | none=>none
theorem z5o {B:List (Nat × Bx)} {b:Nat} {e:Bx} (h:lkB B b=some e):lk B b=some e∧e.T<1000000:=by
 unfold lkB at h
 split at h
 ·rename_i e' he
  split at h
  ·rename_i hb
   cases h
   exact ⟨he,by simpa [yd] using hb⟩
  ·cases h
 ·cases h
def zoh:TypeDesc→Option (Option IntKind)
 | .int k=>some (some k)
 | .string=>some none
 | _=>none
def toKey:Option IntKind→PV→Option D
 | some k,.int k' n=>match zmn k k' with
  | true=>some (.int k' n)
  | false=>none
 | none,.str s=>some (.str s)
 | _,_=>none
def zuf:Option IntKind→Option IntKind→Bool
 | some k,some k'=>zmn k k'
 | none,none=>true
 | _,_=>false
def bq:Bool→Bool→Bool
 | true,b=>b
 | false,b => !b
def z8k (σ:St) (ky:Option IntKind) (g:Bool):PV→Option (Nat × List (List D))
 | .mp b=>match lk σ.B b with
  | some e=>match e.cs with
   | [.md (.cont ky' g' l)]=>match ya e.T 1000000&&zuf ky ky'&&bq g g' with
    | true=>some (b,l)
    | false=>none
   | _=>none
  | none=>none
 | _=>none
def zrc (g:Bool) (v:PV):Bool:=match g,v with
 | true,.agg _=>true
 | false,v=>zj9 v
 | true,_=>false
structure NxW (rem:List (List D)) (k0:Prop) (k1:List D→List (List D)→Prop):Prop where
 stop:rem=[]→k0
 more:∀ (i:Nat) (x:List D),rem[i]? = some x→k1 x (rem.eraseIdx i)
def encS (n:Int):List UInt8:=(Utf8.encode n).data.toList
def zmt (l:List (List D)):Option Int:=some (l.length:Int)
def zoi (σ:St) (u:PV) (k:Int→Prop):Prop:=match u with
 | .mp b=>match lk σ.B b with
  | some e=>match e.cs with
   | [.md (.cont _ _ l)]=>match ya e.T 1000000 with
    | true=>Ex (zmt l) k
    | false=>False
   | _=>False
  | none=>False
 | _=>False
def zls (td:TypeDesc) (σ:St) (u:PV) (k:Int→Prop):Prop:=match td,u with
 | .string,.str s=>k (s.length:Int)
 | .slice _,.sl _ _ l=>Ex (zmt l) k
 | .slice _,.nil=>k 0
 | .slice _,.ref a=>wt (lkO σ.A a) fun e=>Ex (zmt e.l) k
 | .map _ _,.mp b=>zoi σ (.mp b) k
 | _,_=>False
def loW (σ:St) (x:Option Operand) (k:Int→Prop):Prop:=match x with
 | none=>k 0
 | some y=>match σ.ev y with
  | some (.int _ n)=>k n
  | _=>False
def hiW (td:TypeDesc) (σ:St) (u:PV) (x:Option Operand) (k:Int→Prop):Prop:=match x with
 | none=>zls td σ u k
 | some y=>match σ.ev y with
  | some (.int _ n)=>k n
  | _=>False
def zpw (σ:St) (g:Bool) (n:Nat):PV→Option PV
 | .ptr b off=>match lkB σ.B b with
  | some e=>z4r g n ((e.cs.drop off).take n)
  | none=>none
 | .zn cs off=>z4r g n (((zmz cs).drop off).take n)
 | _=>none
def zep (σ:St) (g:Bool) (n:Nat) (u:PV) (k:PV→Prop):Prop:=match u with
 | .z8y a m i off=>wt (lkO σ.A a) fun e=>match ya e.n m with
  | true=>Ex (ix e.l i) fun cs=>wt (z4r g n (((zmz cs).drop off).take n)) k
  | false=>False
 | u=>wt (zpw σ g n u) k
def zun:PV→Option Bool
 | .zan=>some true
 | .iface _ _=>some false
 | .err b=>some b
 | _=>none
def ztk:List PV→(List PV→Bool)→Bool
 | [],k=>k []
 | x::xs,k=>ztk xs fun ys=>k (x::ys)
def zs4:List PV→(List PV→Prop)→Prop
 | [],k=>k []
 | x::xs,k=>zs4 xs fun ys=>k (x::ys)
theorem zcv:∀ (l:List PV) (k:List PV→Prop),zs4 l k=k l
 | [],_=>rfl
 | x::xs,k=>by rw [zs4,zcv xs]
theorem zk3:∀ (l:List PV) (k:List PV→Bool),ztk l k=k l
 | [],_=>rfl
 | x::xs,k=>by rw [ztk,zk3 xs]
def zh9 (fs:List (Nat × Bool × Nat)):List Nat→List PV→List PV→Bool
 | i::is,u::us,cs=>match fs[i]? with
  | some f=>ya (cellsOf u).length f.2.2&&yb (f.1+f.2.2) cs.length && !(z3k u)&&ztk (cs.take f.1++cellsOf u++cs.drop (f.1+f.2.2)) (zh9 fs is us)
  | none=>false
 | _,_,_=>true
def ze8 (fs:List (Nat × Bool × Nat)) (cs:List PV):List Nat→List PV→List PV
 | i::is,u::us=>match fs[i]? with
  | some f=>ze8 fs (cs.take f.1++cellsOf u++cs.drop (f.1+f.2.2)) is us
  | none=>[]
 | _,_=>cs
def zmb (fs:List (Nat × Bool × Nat)) (k:List PV→Prop):List Nat→List PV→List PV→Prop
 | i::is,u::us,cs=>match fs[i]? with
  | some f=>zs4 (cs.take f.1++cellsOf u++cs.drop (f.1+f.2.2)) (zmb fs k is us)
  | none=>k []
 | _,_,cs=>k cs
theorem zcs {fs:List (Nat × Bool × Nat)} {k:List PV→Prop}:∀ (is:List Nat) (us cs:List PV),zmb fs k is us cs=k (ze8 fs cs is us)
 | [],us,cs=>by cases us<;>rfl
 | i::is,[],cs=>rfl
 | i::is,u::us,cs=>by
  unfold zmb ze8
  split
  ·rename_i f hf
   rw [zcv,zcs is us]
  ·rfl
def ztn (p q:Int):Int:=if q>p then q else p
def zsh (p q:Int):Int:=if q<p then q else p
def mmW (b:Bool) (u v:PV) (k:PV→Prop):Prop:=match u,v with
 | .int a p,.int c q=>match zmn a c,b with
  | true,true=>k (.int a (ztn p q))
  | true,false=>k (.int a (zsh p q))
  | false,_=>False
 | _,_=>False
def qop (tb:Tb) (σ:St) (op:Op) (k:PV→Prop):Prop :=
 match op with
 | .move x=>wt (σ.ev x) k
 | .assign x=>wt (σ.ev x) k
 | .pick c x y=>match σ.ev c with
  | some (.bool c)=>wt (σ.ev x) fun u=>wt (σ.ev y) fun v=>cond c (k u) (k v)
  | _=>False
 | .binOp op t x y _=>match tb.ifc.any (ya t) with
  | true=>match y with
   | .const .nilIface=>wt ((σ.ev x).bind zun) fun b=>match op with
    | .eql=>k (.bool b)
    | .neq=>k (.bool (!b))
    | _=>False
   | _=>False
  | false=>match tb.eqn t with
   | some n=>wt (σ.ev x) fun u=>wt (σ.ev y) fun v=>zrq n op u v k
   | none=>wt (lk tb.und t) fun td=>wt (σ.ev x) fun u=>match zoc y with
    | true=>zsn td op u k
    | false=>wt (σ.ev y) fun v=>bop td op u v k
 | .unOp op _ x=>wt (σ.ev x) fun u=>uop op u k
 | .convert s t x=>wt (σ.ev x) fun u=>match u,lk tb.und s,lk tb.und t with
  | .int _ n,some (.int _),some (.int kk)=>k (.int kk (kk.wrap n))
  | .str s,some .string,some .string=>k (.str s)
  | .int _ n,some (.int _),some .string=>k (.str (encS n))
  | _,_,_=>False
 | .makeInterface t x=>wt (σ.ev x) fun u=>match tb.nif.any (ya t) with
  | true=>k (.iface t u)
  | false=>False
 | .makeFunc (.func f) as cs=>match ya f NF with
  | true=>False
  | false=>wt (σ.evs as.toList) fun us=>wt (σ.evs cs.toList) fun vs=>k (.fn f us vs)
 | .extract x i=>match σ.ev x with
  | some (.tup vs)=>wt vs[i]? k
  | _=>False
 | .nilCheck x=>wt (σ.ev x) fun u=>match u with
  | .ptr _ _=>k u
  | .zn _ _=>k u
  | .z8y _ _ _ _=>k u
  | _=>False
 | .fieldAddr t x i=>wt ((lk tb.fld t).bind (·[i]?)) fun f=>wt (σ.ev x) fun u=>match u with
  | .ptr b off=>k (.ptr b (off+f.1))
  | .zn cs off=>k (.zn cs (off+f.1))
  | .z8y a m j off=>k (.z8y a m j (off+f.1))
  | _=>False
 | .field t x i=>wt ((lk tb.fld t).bind (·[i]?)) fun f=>match σ.ev x with
  | some (.agg cs)=>wt (z4r f.2.1 f.2.2 ((cs.drop f.1).take f.2.2)) k
  | _=>False
 | .load t x=>wt (lk tb.shp t) fun s=>wt (σ.ev x) fun u=>zep σ s.1 s.2 u k
 | .index t x y=>match lk tb.und t,σ.ev x,σ.ev y with
  | some .string,some (.str s),some (.int _ i)=>Ex (ix s i) fun c=>k (.int .u8 (c.toNat:Int))
  | _,_,_=>False
 | .indexAddr t x y=>match x with
  | .global g=>wt (lk tb.glb g) fun e=>match lk tb.und t,σ.ev y with
   | some (.array len T),some (.int _ i)=>wt (lk tb.shp T) fun s=>match ya s.2 e.1&&ya len e.2.1 with
    | true=>Ex (ix e.2.2 i) fun cs=>k (.zn cs 0)
    | false=>False
   | _,_=>False
  | x=>wt (σ.ev x) fun u=>match lk tb.und t with
   | some (.slice T)=>wt (lk tb.shp T) fun s=>match u,σ.ev y with
    | .sl _ n l,some (.int _ i)=>match ya s.2 n with
     | true=>Ex (ix l i) fun cs=>k (.zn cs 0)
     | false=>False
    | .ref a,some (.int _ i)=>wt (lkO σ.A a) fun e=>match ya s.2 e.n with
     | true=>Ex (ix e.l i) fun _=>k (.z8y a e.n i 0)
     | false=>False
    | _,_=>False
   | _=>False
 | .slice t x lo hi none=>wt (σ.ev x) fun u=>wt (lk tb.und t) fun td=>loW σ lo fun a=>hiW td σ u hi fun b=>match td,u with
  | .string,.str s=>Ex (sub s a b) fun r=>k (.str r)
  | .slice e,.sl T m l=>wt (lk tb.shp e) fun s=>match ya e T&&ya s.2 m with
   | true=>Ex (sub l a b) fun r=>k (.sl T m r)
   | false=>False
  | _,_=>False
 | .call c=>match c.callee,c.args.toList,c.argTypes.toList with
  | .builtin .len,[x],[t]=>wt (lk tb.und t) fun td=>wt (σ.ev x) fun u=>zls td σ u fun n=>k (.int .i64 n)
  | .builtin .max,[x,y],_=>wt (σ.ev x) fun u=>wt (σ.ev y) fun v=>mmW true u v k
  | .builtin .min,[x,y],_=>wt (σ.ev x) fun u=>wt (σ.ev y) fun v=>mmW false u v k
  | _,_,_=>False
 | .typeAssert x _ t true=>wt (lk tb.zer t) fun z=>match σ.ev x,tb.nif.any (ya t) with
  | some (.iface T u),true=>match ya T t with
   | true=>k (.tup [u,.bool true])
   | false=>k (.tup [ofV z,.bool false])
  | some .zan,true=>k (.tup [ofV z,.bool false])
  | _,_=>False
 | .build t parts=>wt (σ.evs (parts.toList.map (·.2))) fun us=>match lk tb.ars t with
  | some n=>match ya us.length n&&z7w 0 (parts.toList.map (·.1))&&us.all ztu with
   | true=>k (.agg us)
   | false=>False
  | none=>wt (lk tb.zer t) fun z=>wt (lk tb.fld t) fun fs=>zs4 (cellsOf (ofV z)) fun cs =>
   match zh9 fs (parts.toList.map (·.1)) us cs with
   | true=>zmb fs (fun ds=>k (.agg ds)) (parts.toList.map (·.1)) us cs
   | false=>False
 | .slice t x none (some hi) (some mx)=>wt (σ.ev x) fun u=>match lk tb.und t,u,σ.ev hi,σ.ev mx with
  | some (.slice e),.sl T m l,some (.int _ b),some (.int _ c)=>wt (lk tb.shp e) fun s=>match ya e T&&ya s.2 m with
   | true=>Ex (zmt l) fun n=>Ex (chk (decide (b≤c)&&decide (c≤n))) fun _=>Ex (sub l 0 b) fun r=>k (.sl T m r)
   | false=>False
  | _,_,_,_=>False
 | _=>False

@[reducible] def St.go (σ:St) (k:St→Prop):Prop:=k σ
theorem St.go_eq {σ:St} {k:St→Prop}:σ.go k=k σ:=rfl
def zok {β:Type}:List β→Nat→Option β
 | [],_=>none
 | x::_,0=>some x
 | _::r,n+1=>zok r n
theorem zap {β:Type}:∀ (l:List β) (n:Nat),zok l n=l[n]?
 | [],n=>by simp [zok]
 | x::r,0=>rfl
 | x::r,n+1=>by simp [zok,zap r n]
def zkt (ops:Array Oper) (q:Nat):Option Oper:=zok ops.toList q
theorem z6n {ops:Array Oper} {q:Nat}:zkt ops q=ops[q]?:=by simp [zkt,zap]
def z7j (bs as:List Nat):PV→PV
 | .ref a=>match as[a]? with
  | some x => .ref x
  | none => .undef
 | .ptr b off=>match bs[b]? with
  | some x => .ptr x off
  | none => .undef
 | .z0m b=>match bs[b]? with
  | some x => .z0m x
  | none => .undef
 | .mp b=>match bs[b]? with
  | some x => .mp x
  | none => .undef
 | .agg cs => .agg (go cs)
 | .tup cs => .tup (go cs)
 | .iface T v => .iface T (z7j bs as v)
 | .fn f a c => .fn f (go a) (go c)
 | .z8y _ _ _ _ => .undef
 | v=>v
where
 go:List PV→List PV
  | []=>[]
  | v::vs=>z7j bs as v::go vs
def nrm (σ:St):PV→PV→PV
 | .sl _ _ _,.ref a=>match lkU σ.A a with
  | some e => .sl e.T e.n e.l
  | none => .undef
 | .sl T n _,.nil => .sl T n []
 | .err _,.zan => .err true
 | .err _,.iface _ _ => .err false
 | .agg ws,.agg vs => .agg (go ws vs)
 | .tup ws,.tup vs => .tup (go ws vs)
 | _,v=>v
where
 go:List PV→List PV→List PV
  | w::ws,v::vs=>nrm σ w v::go ws vs
  | _,vs=>vs
def z6z:PV→PV→List Nat
 | .sl _ _ _,.ref a=>[a]
 | .agg ws,.agg vs=>go ws vs
 | .tup ws,.tup vs=>go ws vs
 | _,_=>[]
where
 go:List PV→List PV→List Nat
  | w::ws,v::vs=>z6z w v++go ws vs
  | _,_=>[]
def z6f:PV→Bool
 | .sl _ _ _=>true
 | .zn _ _=>true
 | .md _=>true
 | .agg cs=>go cs
 | .tup cs=>go cs
 | .iface _ v=>z6f v
 | .fn _ a c=>go a||go c
 | _=>false
where
 go:List PV→Bool
  | []=>false
  | v::vs=>z6f v||go vs
def z7r (a:Nat) (e:Arr):PV→PV
 | .ref x=>match ya x a with
  | true => .sl e.T e.n e.l
  | false => .ref x
 | .z8y x m i off=>match ya x a with
  | true => .undef
  | false => .z8y x m i off
 | .agg cs => .agg (go cs)
 | .tup cs => .tup (go cs)
 | .iface T v => .iface T (z7r a e v)
 | .fn f s c => .fn f (go s) (go c)
 | v=>v
where
 go:List PV→List PV
  | []=>[]
  | v::vs=>z7r a e v::go vs
def z65 {β:Type} (a:Nat):List (Nat × β)→List (Nat × β)
 | []=>[]
 | (s,v)::r=>match ya s a with
  | true=>z65 a r
  | false=>(s,v)::z65 a r
def zaz {β:Type} (a:Nat) (x:β):List (Nat × β)→List (Nat × β)
 | []=>[]
 | (s,v)::r=>match ya s a with
  | true=>(s,x)::r
  | false=>(s,v)::zaz a x r
def St.ztm (σ:St) (f:PV→PV):St:={ σ with L:=σ.L.map fun p=>(p.1,f p.2),B:=σ.B.map fun p=>(p.1,{ p.2 with cs:=p.2.cs.map f }) }
def St.freeze (σ:St):List Nat→Option St
 | []=>some σ
 | a::as=>match lk σ.A a with
  | some e=>match e.zmv&&yc e.T 1000000 with
   | true=>({ (σ.ztm (z7r a e)) with A:=z65 a σ.A }:St).freeze as
   | false=>none
  | none=>σ.freeze as
def St.z5x (σ:St) (b:Nat):Bool:=yb 1000 b&&(lk σ.B b).isNone&&σ.L.all (fun p=>noK (some b) none p.2)&&σ.B.all (fun p=>z8t (some b) none p.2.cs)
def St.z4l (σ:St) (a:Nat):Bool:=(lk σ.A a).isNone&&σ.L.all (fun p=>noK none (some a) p.2)&&σ.B.all (fun p=>z8t none (some a) p.2.cs)
def St.put (σ:St) (d:Option Nat) (v:PV):St:=match d with
 | some d => { σ with L:=(d,v)::σ.L }
 | none=>σ
def toD (T:Option (Nat × Nat)):PV→Option D
 | .int k n=>some (.int k n)
 | .bool b=>some (.bool b)
 | .str s=>some (.str s)
 | .sl T n l=>some (.sl T n l)
 | .nil=>match T with
  | some (T,n)=>some (.sl T n [])
  | none=>none
 | .fn f [] []=>some (dfn f)
 | _=>none
def toDs (ct:List (Option (Nat × Nat))) (cs:List PV):Option (List D):=match cs,ct with
 | [],_=>some []
 | v::vs,c::ct=>match toD c v,toDs ct vs with
  | some d,some ds=>some (d::ds)
  | _,_=>none
 | v::vs,[]=>match toD none v,toDs [] vs with
  | some d,some ds=>some (d::ds)
  | _,_=>none
def zrx (ct:List (Option (Nat × Nat))):List PV→Option (List (List D))
 | []=>some []
 | v::vs=>match toDs ct (cellsOf v),zrx ct vs with
  | some d,some ds=>some (d::ds)
  | _,_=>none
def z8p:PV→List Nat
 | .ref a=>[a]
 | .agg cs=>go cs
 | .tup cs=>go cs
 | .iface _ v=>z8p v
 | _=>[]
where
 go:List PV→List Nat
  | []=>[]
  | v::vs=>z8p v++go vs
def dby:List (List D)→Option (List UInt8)
 | []=>some []
 | [.int .u8 n]::r=>match dby r with
  | some s=>some (UInt8.ofNat n.toNat::s)
  | none=>none
 | _=>none
def zj5 (s:List UInt8):List (List D):=(unb s).map (eI .u8)
def z62 {β:Type} (ks:List Nat) (l:List (Nat × β)):List (Nat × β):=match ks with
 | []=>[]
 | x::r=>match lk l x with
  | some v=>(x,v)::z62 r l
  | none=>z62 r l
def zkh:Option Nat→PV→Option PV
 | none,v=>some v
 | some j,.agg cs=>cs[j]?
 | _,_=>none
def zqt:Option Nat→PV→PV→PV
 | none,_,x=>x
 | some j,.agg cs,x => .agg (cs.set j x)
 | _,v,_=>v
def St.at (σ:St):Place→Option PV
 | .slot t j=>match lk σ.L t with
  | some v=>zkh j v
  | none=>none
 | .cell b j=>match lk σ.B b with
  | some e=>e.cs[j]?
  | none=>none
def St.set (σ:St) (x:PV):Place→St
 | .slot t j=>match lk σ.L t with
  | some v => { σ with L:=zaz t (zqt j v x) σ.L }
  | none=>σ
 | .cell b j=>match lk σ.B b with
  | some e => { σ with B:=zaz b { e with cs:=e.cs.set j x } σ.B }
  | none=>σ
def St.home (σ:St):List (Place × Nat × Nat × Nat)→Option St
 | []=>some σ
 | (p,a,T,n)::r=>match σ.at p with
  | some .nil=>match σ.z4l a with
   | true=>({ (σ.set (.ref a) p) with A:=(a,⟨true,T,n,[]⟩)::σ.A }:St).home r
   | false=>none
  | some (.ref x)=>match ya x a with
   | true=>σ.home r
   | false=>match lk σ.A x,σ.z4l a with
    | some e,true=>({ (σ.set (.ref a) p) with A:=(a,e)::z65 x σ.A }:St).home r
    | _,_=>none
  | _=>none
def St.zrg (σ:St):List (Place × Nat × Nat)→Option St
 | []=>some σ
 | (p,T,n)::r=>match σ.at p with
  | some .nil=>(σ.set (.sl T n []) p).zrg r
  | some (.sl _ _ _)=>σ.zrg r
  | _=>none
def St.zl3 (σ:St):List (Place × Nat × Nat)→List Nat
 | []=>[]
 | (p,_,_)::r=>match σ.at p with
  | some (.ref a)=>a::σ.zl3 r
  | _=>σ.zl3 r
def St.zu9 (σ:St) (c:Cut):Option St:=match ({ σ with L:=z62 c.L σ.L,B:=z62 c.B σ.B }:St).home c.H with
 | some s=>match s.zrg c.N with
  | some s=>some { s with A:=z62 c.A s.A }
  | none=>none
 | none=>none
def St.itN (σ:St):List Nat→St
 | []=>σ
 | b::r=>match σ.at (.cell b 0) with
  | some (.md (.it ky g _ rem))=>(σ.set (.md (.it ky g none rem)) (.cell b 0)).itN r
  | _=>σ.itN r
def St.cut (σ:St) (c:Cut):Option St:=match σ.freeze (σ.zl3 c.N) with
 | some s=>(s.itN c.I).zu9 c
 | none=>none

def apL (tb:Tb) (t t2:Nat) (inf:Value × Nat × Nat) (v:PV):Option (List (List D)):=match v with
 | .sl _ n l=>match ya t t2&&ya n inf.2.1 with
  | true=>some l
  | false=>none
 | .nil=>match ya t t2 with
  | true=>some []
  | false=>none
 | .str s=>match lk tb.und t2,inf with
  | some .string,(.int .u8 0,1,1)=>some (zj5 s)
  | _,_=>none
 | _=>none
section
variable (tb:Tb) (cty:List (Nat × List (Option (Nat × Nat)))) (ann:Ann) (con:Nat→CIn→z2u→Prop)
def z69 (σ:St) (bs as:List Nat):List Nat→List Bx→Prop
 | b::ks,e::es=>(match lk σ.B b with
  | some x=>x.T=e.T∧nrm.go { σ with A:=[] } e.cs x.cs=z7j.go bs as e.cs
  | none=>False)∧z69 σ bs as ks es
 | _,[]=>True
 | [],_::_=>False
def z9v (σ:St):List Nat→List (Nat × Nat × List (List D))→Prop
 | a::ks,e::es=>(match lk σ.A a with
  | some x=>x.T=e.1∧x.n=e.2.1∧x.l=e.2.2
  | none=>False)∧z9v σ ks es
 | _,[]=>True
 | [],_::_=>False
def z5y:List Nat→Bool
 | []=>true
 | x::r => !(r.any (ya x))&&z5y r
def inR (nb na:Nat):PV→Bool
 | .ref a=>yc a na
 | .ptr b _=>yc b nb
 | .z0m b=>yc b nb
 | .mp b=>yc b nb
 | .z8y _ _ _ _=>false
 | .agg cs=>go cs
 | .tup cs=>go cs
 | .iface _ v=>inR nb na v
 | .fn _ a c=>go a&&go c
 | _=>true
where
 go:List PV→Bool
  | []=>true
  | v::vs=>inR nb na v&&go vs
def z3e {β:Type}:List Nat→List (Nat × β)→List (Nat × β)
 | [],l=>l
 | a::as,l=>z3e as (z65 a l)
def zr6 (m:Bool):List Nat→List (Option (Nat × Nat × List (List D)))→List (Nat × Arr)
 | a::ks,some e::es=>(a,⟨m,e.1,e.2.1,e.2.2⟩)::zr6 m ks es
 | _::ks,none::es=>zr6 m ks es
 | _,_=>[]
def zt8 (bs as:List Nat):List Nat→List Bx→List (Nat × Bx)
 | b::ks,e::es=>(b,⟨e.T,z7j.go bs as e.cs⟩)::zt8 bs as ks es
 | _,_=>[]
def ztr:List PV→PV
 | [v]=>v
 | vs => .tup vs
def z4w (σ:St):List Nat→Bool
 | []=>true
 | a::as=>(match lk σ.A a with
  | some e=>e.zmv
  | none=>false)&&z4w σ as
def zbn (σ:St) (bs as ls:List Nat) (i:CIn):Bool :=
 z5y bs&&z5y as&&yb i.B.length bs.length&&ya i.A.length as.length&&inR.go i.B.length i.A.length i.vs&&i.B.all (fun e=>inR.go i.B.length i.A.length e.cs) &&
  ls.all fun a=>(lk σ.A a).isSome && !(as.any (ya a))
def zew (σ:St) (bs as':List Nat) (nb:Nat) (vs:List PV) (B:List Bx) (A:List (Option (Nat × Nat × List (List D)))):Bool :=
 z5y as'&&ya B.length bs.length&&ya A.length as'.length&&inR.go B.length A.length vs&&B.all (fun e=>inR.go B.length A.length e.cs)&&as'.all σ.z4l&&(bs.drop nb).all σ.z5x
def z8j (vs:List PV) (B:List Bx) (A:List (Option (Nat × Nat × List (List D)))):Bool:=z6f.go vs||B.any (fun e=>z6f.go e.cs)||A.any (fun e=>e.isSome)
def frz (b:Bool) (σ:St) (ls:List Nat):Option St:=match b with
 | true=>σ.freeze ls
 | false=>some σ
def left (m:Bool) (bs as as':List Nat) (B:List Bx) (A:List (Option (Nat × Nat × List (List D)))) (σ:St):St:={ σ with B:=zt8 bs as' bs B++z3e bs σ.B,A:=zr6 m as' A++z3e as σ.A }
def St.lost (σ:St) (bs as:List Nat):St:={ σ with B:=z3e bs σ.B,A:=z3e as σ.A }
def z9j:List Nat→List Nat→List (Nat × Arr)→List (Nat × Arr)
 | a::as,a'::as',A=>match lk A a' with
  | some e=>z9j as as' ((a,e)::z65 a' A)
  | none=>z9j as as' A
 | _,_,A=>A
def zvm (as as':List Nat):Bool:=as.all fun a => !(as'.any (ya a))
def St.z9j (σ:St) (as as':List Nat):St:={ σ with A:=Go.Pe.z9j as as' σ.A }
def zfo (bs as as':List Nat) (i:CIn) (args:List PV) (σ:St) (k:PV→St→Prop) (kp:PV→St→Prop):z2u→Prop
 | .ok vs B A=>wt (frz (z8j vs B A) σ (z6z.go i.vs args)) fun s =>
   zew { s with B:=z3e bs s.B,A:=z3e as s.A } bs as' i.B.length vs B A=true∧k (ztr (z7j.go bs as' vs)) (left (z4w σ as) bs as as' B A s)
 | .okI vs B A=>wt (frz (z8j vs B A) σ (z6z.go i.vs args)) fun s =>
   (zew { s with B:=z3e bs s.B,A:=z3e as s.A } bs as' i.B.length vs B A&&zvm as as')=true∧k (ztr (z7j.go bs as' vs)) ((left (z4w σ as) bs as as' B A s).z9j as as')
 | .pan v=>z6f v=false∧kp v (σ.lost bs (as++z6z.go i.vs args))
 | .zbf v B=>wt (frz (z8j [] B []) σ (z6z.go i.vs args)) fun s =>
   (zew { s with B:=z3e bs s.B,A:=z3e as s.A } bs as' i.B.length [] B [] && !(z6f v))=true∧kp v (left (z4w σ as) bs as as' B [] s)
def zcl (σ:St) (f:Nat) (args:List PV) (k:PV→St→Prop) (kp:PV→St→Prop):Prop :=
 ∃ (bs as as':List Nat) (i:CIn) (o:z2u),con f i o∧nrm.go σ i.vs args=z7j.go bs as i.vs∧z69 σ bs as bs i.B∧z9v σ as i.A∧zbn σ bs as (z6z.go i.vs args) i=true∧zfo bs as as' i args σ k kp o
def quiet:Op→Bool
 | .alloc _ | .box _ _ | .store _ _ _ | .buildSlice _ _ _ | .panic _ | .makeSlice _ _ _ | .defer _ | .makeMap _ _ | .mapUpdate _ _ _ _ | .insert _ _ _ _ | .lookup _ _ _ _ | .range _ _ | .next _ _ | .entry _=>false
 | .call c=>match c.callee with
  | .builtin .len=>true
  | .builtin .max=>true
  | .builtin .min=>true
  | _=>false
 | .convert _ _ _=>true
 | _=>true
def St.born (σ:St) (key E:Nat) (k:St→Prop):Prop:=wt (σ.home [(.cell key 1,key,E,1)]) fun s=>match s.at (.cell key 0) with
 | some .zb7=>k (s.set (.z0m key) (.cell key 0))
 | _=>False
def zow (σ:St) (o:Oper) (k:St→Prop):Prop :=
 match o.op with
 | .makeMap t none=>wt o.dst fun d=>match lk tb.und t with
  | some (.map kt et)=>wt ((lk tb.und kt).bind zoh) fun ky=>wt (lk tb.shp et) fun s=>match σ.z5x (d+1000) with
   | true=>k { σ with B:=(d+1000,⟨1000000,[.md (.cont ky s.1 [])]⟩)::σ.B,L:=(d,.mp (d+1000))::σ.L }
   | false=>False
  | _=>False
 | .mapUpdate t x y v=>match o.dst with
  | none=>match lk tb.und t with
   | some (.map kt et)=>wt ((lk tb.und kt).bind zoh) fun ky=>wt (lk tb.shp et) fun s=>wt (σ.ev v) fun v0=>wt (σ.freeze (z8p v0)) fun σ=>wt (σ.ev x) fun u=>wt (σ.ev y) fun kv=>wt (σ.ev v) fun v =>
    wt (toKey ky kv) fun kd=>wt (toDs (match lk cty et with|some c=>c|none=>[]) (cellsOf v)) fun vd=>wt (z8k σ ky s.1 u) fun m=>match zrc s.1 v with
    | true=>Ex (some (z6l m.2 kd vd)) fun l=>k { σ with B:=zaz m.1 ⟨1000000,[.md (.cont ky s.1 l)]⟩ σ.B }
    | false=>False
   | _=>False
  | some _=>False
 | .insert t x y v=>match o.dst with
  | none=>match lk tb.und t with
   | some (.map kt et)=>wt ((lk tb.und kt).bind zoh) fun ky=>wt (lk tb.shp et) fun s=>wt (σ.ev v) fun v0=>wt (σ.freeze (z8p v0)) fun σ=>wt (σ.ev x) fun u=>wt (σ.ev y) fun kv=>wt (σ.ev v) fun v =>
    wt (toKey ky kv) fun kd=>wt (toDs (match lk cty et with|some c=>c|none=>[]) (cellsOf v)) fun vd=>wt (z8k σ ky s.1 u) fun m=>match zrc s.1 v with
    | true=>Ex (some (z6l m.2 kd vd)) fun l=>k { σ with B:=zaz m.1 ⟨1000000,[.md (.cont ky s.1 l)]⟩ σ.B }
    | false=>False
   | _=>False
  | some _=>False
 | .lookup t x y c=>wt o.dst fun d=>match lk tb.und t with
  | some (.map kt et)=>wt ((lk tb.und kt).bind zoh) fun ky=>wt (lk tb.shp et) fun s=>wt (lk tb.zer et) fun z=>wt (σ.ev x) fun u=>wt (σ.ev y) fun kv=>wt (toKey ky kv) fun kd =>
   wt (toDs (match lk cty et with|some c=>c|none=>[]) (cellsOf (ofV z))) fun zd=>wt (z8k σ ky s.1 u) fun m=>match zrc s.1 (ofV z) with
   | true=>Ex (some (zd6 m.2 kd zd)) fun ds=>wt (z4r s.1 s.2 (zmz ds)) fun r=>match c with
    | false=>k { σ with L:=(d,r)::σ.L }
    | true=>Ex (some (zeq m.2 kd)) fun b=>k { σ with L:=(d,.tup [r,.bool b])::σ.L }
   | false=>False
  | _=>False
 | .range t x=>wt o.dst fun d=>match lk tb.und t with
  | some (.map kt et)=>wt ((lk tb.und kt).bind zoh) fun ky=>wt (lk tb.shp et) fun s=>wt (σ.ev x) fun u=>wt (z8k σ ky s.1 u) fun m=>match yb 1000 m.1&&({ σ with B:=z65 m.1 σ.B }:St).z5x (d+1000) with
   | true=>k { σ with B:=(d+1000,⟨2000000,[.md (.it ky s.1 none m.2)]⟩)::z65 m.1 σ.B,L:=(d,.ptr (d+1000) 0)::σ.L }
   | false=>False
  | _=>False
 | .next x false=>wt o.dst fun d=>wt (σ.ev x) fun u=>match u with
  | .ptr b off=>wt (lk σ.B b) fun e=>match e.cs with
   | [.md (.it ky g _ rem)]=>match ya off 0&&ya e.T 2000000 with
    | true=>NxW rem (k { σ with L:=(d,.tup [.bool false])::σ.L }) fun x r=>k { σ with B:=zaz b ⟨2000000,[.md (.it ky g (some x) r)]⟩ σ.B,L:=(d,.tup [.bool true,.undef,.undef])::σ.L }
    | false=>False
   | _=>False
  | _=>False
 | .entry x=>wt o.dst fun d=>wt (σ.ev x) fun u=>match u with
  | .ptr b off=>wt (lk σ.B b) fun e=>match e.cs with
   | [.md (.it _ g (some (kd::ds)) _)]=>match ya off 0&&ya e.T 2000000 with
    | true=>wt (z4r g ds.length (zmz ds)) fun r=>k { σ with L:=(d,.tup [ofD kd,r])::σ.L }
    | false=>False
   | _=>False
  | _=>False
 | .call c=>match c.callee,c.args.toList,c.argTypes.toList with
  | .builtin .delete,[x,y],t::_=>match o.dst with
   | none=>match lk tb.und t with
    | some (.map kt et)=>wt ((lk tb.und kt).bind zoh) fun ky=>wt (lk tb.shp et) fun s=>wt (σ.ev x) fun u=>wt (σ.ev y) fun kv=>wt (toKey ky kv) fun kd=>wt (z8k σ ky s.1 u) fun m =>
     Ex (some (zbe m.2 kd)) fun l=>k { σ with B:=zaz m.1 ⟨1000000,[.md (.cont ky s.1 l)]⟩ σ.B }
    | _=>False
   | some _=>False
  | _,_,_=>False
 | _=>False
def zur:Operand→Option Nat
 | .tmp d=>match ann.ro.any (ya d) with
  | true=>some d
  | false=>none
 | _=>none
def St.zs5 (σ:St) (d b:Nat):Bool:=σ.L.all (fun p=>ya p.1 d||noK (some b) none p.2)&&(z65 b σ.B).all (fun p=>z8t (some b) none p.2.cs)
def stR (σ:St) (n T d:Nat) (y:Operand) (k:St→Prop):Prop:=wt (σ.ev y) fun v0=>wt (σ.freeze (z8p v0)) fun σ=>wt (lk σ.L d) fun u=>wt (σ.ev y) fun v=>match u with
 | .ptr b off=>wt (lkB σ.B b) fun e=>wt (toDs (match lk cty T with|some c=>c|none=>[]) (cellsOf v)) fun ds=>match ya off 0&&yb 1000 b&&ya e.cs.length n&&ya (cellsOf v).length n&&(cellsOf v).all zj9&&σ.zs5 d b with
  | true=>k { σ with B:=z65 b σ.B,L:=(d,.zn ds 0)::σ.L }
  | false=>False
 | _=>False
def stC (cs:List PV) (off n:Nat) (vs:List PV):Option (List PV):=match ya vs.length n&&yb (off+n) cs.length&&vs.all zj9 with
 | true=>some (cs.take off++vs++cs.drop (off+n))
 | false=>none
def act (σ:St) (o:Oper) (k:St→Prop) (kp:PV→St→Prop):Prop :=
 match o.op with
 | .alloc T=>wt o.dst fun d=>wt (lk tb.zer T) fun z=>match σ.z5x (d+1000)&&yc T 1000000 with
  | true=>match lk tb.bld T with
   | none=>k { σ with B:=(d+1000,⟨T,cellsOf (ofV z)⟩)::σ.B,L:=(d,.ptr (d+1000) 0)::σ.L }
   | some E=>({ σ with B:=(d+1000,⟨T,cellsOf (ofV z)⟩)::σ.B,L:=(d,.ptr (d+1000) 0)::σ.L }:St).born (d+1000) E k
  | false=>False
 | .box T x=>wt o.dst fun d=>wt (σ.ev x) fun v=>match ann.ro.any (ya d) with
  | true=>wt (toDs (match lk cty T with|some c=>c|none=>[]) (cellsOf v)) fun ds=>match !(z3k v) with
   | true=>k { σ with L:=(d,.zn ds 0)::σ.L }
   | false=>False
  | false=>match σ.z5x (d+1000) && !(z3k v)&&yc T 1000000 with
   | true=>k { σ with B:=(d+1000,⟨T,cellsOf v⟩)::σ.B,L:=(d,.ptr (d+1000) 0)::σ.L }
   | false=>False
 | .store T x y=>match o.dst with
  | none=>wt (lk tb.shp T) fun s=>(match zur ann x with
  | some d=>stR cty σ s.2 T d y k
  | none=>wt (σ.ev x) fun u=>wt (σ.ev y) fun v=>(match u with
  | .ptr b off=>wt (lkB σ.B b) fun e=>wt (stC e.cs off s.2 (cellsOf v)) fun cs=>k { σ with B:=zaz b ⟨e.T,cs⟩ σ.B }
  | .z8y a m i 0=>wt (σ.freeze (z8p v)) fun σ=>wt (lkO σ.A a) fun e=>wt (σ.ev y) fun v=>wt (toDs (match lk cty e.T with|some c=>c|none=>[]) (cellsOf v)) fun ds=>match ya ds.length e.n&&ya s.2 e.n&&ya e.n m&&(cellsOf v).all zj9 with
   | true=>Ex (ztt e.l i ds) fun l=>k { σ with A:=zaz a { e with l:=l } σ.A }
   | false=>False
  | _=>False))
  | some _=>False
 | .buildSlice t n parts=>wt o.dst fun d=>match lk tb.und t with
  | some (.slice e)=>wt (σ.evs (parts.toList.map (·.2))) fun us=>wt (σ.freeze (z8p.go us)) fun σ=>wt (σ.evs (parts.toList.map (·.2))) fun us=>wt (lk tb.shp e) fun s=>wt (lk tb.zer e) fun z =>
   wt (zrx (match lk cty e with|some c=>c|none=>[]) us) fun ds=>match z7w 0 (parts.toList.map (·.1))&&ya us.length n&&ya z.cells.size s.2&&yb (n*s.2) 16777216&&yb n 16777216&&us.all (fun x => !(z3k x))&&ds.all (fun x=>ya x.length s.2) with
   | true=>match ann.own.any (ya d) with
    | true=>match σ.z4l (d+1000)&&yc e 1000000 with
     | true=>k { σ with A:=(d+1000,⟨true,e,s.2,ds⟩)::σ.A,L:=(d,.ref (d+1000))::σ.L }
     | false=>False
    | false=>k { σ with L:=(d,.sl e s.2 ds)::σ.L }
   | false=>False
  | _=>False
 | .panic x=>wt (σ.ev x) fun v=>match v with
  | .iface _ _=>kp v σ
  | _=>False
 | .convert s t x=>wt o.dst fun d=>wt (σ.ev x) fun u=>match u,lk tb.und s,lk tb.und t with
  | .str s,some .string,some (.slice e)=>match lk tb.und e with
   | some (.int .u8)=>Ex (chk (decide (s.length≤9223372036854775807))) fun _=>match ann.own.any (ya d) with
    | true=>match σ.z4l (d+1000) with
     | true=>k { σ with A:=(d+1000,⟨true,e+2000000,1,zj5 s⟩)::σ.A,L:=(d,.ref (d+1000))::σ.L }
     | false=>False
    | false=>k { σ with L:=(d,.sl e 1 (zj5 s))::σ.L }
   | _=>False
  | .sl _ 1 l,some (.slice e),some .string=>match lk tb.und e with
   | some (.int .u8)=>Ex (dby l) fun s=>k { σ with L:=(d,.str s)::σ.L }
   | _=>False
  | .ref a,some (.slice e),some .string=>wt (lkO σ.A a) fun x=>match lk tb.und e,ya x.n 1 with
   | some (.int .u8),true=>Ex (dby x.l) fun s=>k { σ with L:=(d,.str s)::σ.L }
   | _,_=>False
  | _,_,_=>False
 | .call c=>match c.callee,c.args.toList with
  | .builtin .append,[x,y]=>wt o.dst fun d=>wt (σ.ev x) fun u=>wt (σ.ev y) fun v=>match c.argTypes.toList with
   | [t,t2]=>match lk tb.und t with
    | some (.slice e)=>wt (lk tb.inf e) fun inf=>wt (σ.freeze (z8p v)) fun σ=>wt (σ.ev y) fun v=>wt (apL tb t t2 inf v) fun l2=>match ya inf.1.cells.size inf.2.1&&yc 0 inf.2.1&&yc 0 inf.2.2 with
     | true=>match u with
      | .nil=>match σ.z4l (d+1000)&&yc e 1000000 with
       | true=>Ex (app inf.2.2 [] l2) fun r=>k { σ with A:=(d+1000,⟨true,e,inf.2.1,r⟩)::σ.A,L:=(d,.ref (d+1000))::σ.L }
       | false=>False
      | .ref a=>match lkM σ.A a with
       | some x=>match ({ σ with A:=z65 a σ.A }:St).z4l (d+1000)&&ya x.T (e+2000000)&&ya x.n 1&&ztu v with
        | true=>Ex (app inf.2.2 x.l l2) fun r=>k { σ with A:=(d+1000,{ x with l:=r })::z65 a σ.A,L:=(d,.ref (d+1000))::σ.L }
        | false=>False
       | none=>wt (lkU σ.A a) fun x=>match ({ σ with A:=z65 a σ.A }:St).z4l (d+1000)&&ya x.T e&&ya x.n inf.2.1 with
        | true=>Ex (app inf.2.2 x.l l2) fun r=>k { σ with A:=(d+1000,{ x with l:=r })::z65 a σ.A,L:=(d,.ref (d+1000))::σ.L }
        | false=>False
      | _=>False
     | false=>False
    | _=>False
   | _=>False
  | .value x,args=>wt (σ.evs args) fun vs=>match σ.ev x with
   | some (.fn f as cs)=>zcl con σ f (as++vs++cs) (fun v σ=>k (σ.put o.dst v)) kp
   | _=>False
  | _,_=>zow tb cty σ o k
 | _=>zow tb cty σ o k
def zro (s t:Option TypeDesc):Bool:=match s,t with
 | some .string,some (.slice _)=>true
 | some (.slice _),some .string=>true
 | _,_=>false
def run (σ:St) (o:Oper) (k:St→Prop) (kp:PV→St→Prop):Prop :=
 match (match o.op with
  | .convert s t _ => !zro (lk tb.und s) (lk tb.und t)
  | op=>quiet op) with
 | true=>qop tb σ o.op fun v=>(σ.put o.dst v).go k
 | false=>act tb cty ann con σ o k kp
def St.zfb (σ:St) (s:Nat) (b:Bool):St:={ σ with L:=(s,.bool b)::σ.L }
def exo (ops:Array Oper) (σ:St) (o:Oper) (k:St→Prop) (kp:PV→St→Prop):Prop :=
 match o.guard with
 | none=>run tb cty ann con σ o k kp
 | some (j,b)=>match (zkt ops j).bind (·.dst) with
  | none=>False
  | some s=>match lk σ.L s with
   | some (.bool c)=>match b with
    | true=>cond c ((σ.zfb s true).go fun σ=>run tb cty ann con σ o k kp) (((σ.zfb s false).put o.dst .gone).go k)
    | false=>cond c (((σ.zfb s true).put o.dst .gone).go k) ((σ.zfb s false).go fun σ=>run tb cty ann con σ o k kp)
   | some .gone=>(σ.put o.dst .gone).go k
   | _=>False
def ze5 (ops:Array Oper) (kp:PV→St→Prop) (k:St→Prop):List Oper→St→Prop
 | [],σ=>k σ
 | o::os,σ=>exo tb cty ann con ops σ o (fun σ=>ze5 ops kp k os σ) kp
def ze7 (ops:Array Oper) (kp:PV→St→Prop) (k:St→Prop):List (Nat × Nat × Cut)→List Oper→St→Prop
 | [],os,σ=>ze5 tb cty ann con ops kp k os σ
 | (n0,m,c)::r,os,σ=>ze5 tb cty ann con ops kp (fun σ=>∃ J:St→Prop,ze5 tb cty ann con ops kp (fun s=>wt (s.cut c) J) ((os.drop n0).take m) σ∧∀ s,J s→ze7 ops kp k r ((os.drop n0).drop m) s) (os.take n0) σ

def zpi (o:Oper):Bool:=match o.op with
 | .convert s t _ => !zro (lk tb.und s) (lk tb.und t)
 | op=>quiet op
def z6c (ops:Array Oper) (d:Nat):List Nat→Bool
 | []=>true
 | q::r=>(match ops[q]? with
  | some o=>(match o.dst with
   | some e => !(ya e d)
   | none=>true) && !((o.looksAt ops).any (ya d))
  | none=>true)&&z6c ops d r
def zfq (ops:Array Oper):List Nat→List Nat→Bool
 | [],_=>true
 | q::r,dn=>(match ops[q]? with
  | some o=>match o.dst with
   | some d=>z6c ops d dn && !((o.looksAt ops).any (ya d))
   | none=>true
  | none=>true)&&zfq ops r (q::dn)
def z6i (kp dn:List Nat):List Nat:=dn.filter fun p=>kp.any (ya p)
def zo5 (ops:Array Oper) (e:Nat) (kpl qs2 dn1:List Nat):Bool:=(match ops[e]? with
  | some o=>match o.dst with
   | some d=>z6c ops d (z6i kpl dn1)
   | none=>true
  | none=>true)&&zfq ops qs2 (z6i kpl dn1)
def zm6 (ops:Array Oper):Gt→List Nat→Bool
 | .fin,_=>true
 | .one e kpl qs2 sub,dn1=>zo5 ops e kpl qs2 dn1&&zm6 ops sub (qs2.reverse++z6i kpl dn1)
 | .alt e kpl qs2 sub r,dn1=>zo5 ops e kpl qs2 dn1&&zm6 ops sub (qs2.reverse++z6i kpl dn1)&&zm6 ops r dn1
def zu3 (ops:Array Oper) (g:Gt) (qs:List Nat):Bool:=zfq ops qs []&&zm6 ops g qs.reverse
def St.only (σ:St) (ops:Array Oper) (o:Oper):St:={ σ with L:=z62 (o.looksAt ops) σ.L }
def stb (σ:St) (op:Op):Bool:=match op with
 | .load _ x=>match σ.ev x with
  | some (.zn _ _)=>true
  | _=>false
 | .call c=>match c.args.toList with
  | [x]=>match σ.ev x with
   | some (.mp _)=>false
   | _=>true
  | _=>true
 | _=>true
def exq (ops:Array Oper) (σ:St) (dn:List (Nat × Bool)) (q:Nat) (k:St→List (Nat × Bool)→Prop):Prop:=match zkt ops q with
 | none=>False
 | some o=>match o.dst,zpi tb o with
  | some d,true=>match o.guard with
   | none=>qop tb σ o.op fun v=>(σ.put (some d) v).go fun s'=>k s' ((q,stb σ o.op)::dn)
   | some (j,b)=>match (zkt ops j).bind (·.dst) with
    | none=>False
    | some s=>match lk σ.L s with
     | some (.bool c)=>match b with
      | true=>cond c ((σ.zfb s true).go fun σ=>qop tb σ o.op fun v=>(σ.put (some d) v).go fun s'=>k s' ((q,stb σ o.op)::dn)) (((σ.zfb s false).put (some d) .gone).go fun s'=>k s' ((q,true)::dn))
      | false=>cond c (((σ.zfb s true).put (some d) .gone).go fun s'=>k s' ((q,true)::dn)) ((σ.zfb s false).go fun σ=>qop tb σ o.op fun v=>(σ.put (some d) v).go fun s'=>k s' ((q,stb σ o.op)::dn))
     | some .gone=>(σ.put (some d) .gone).go fun s'=>k s' ((q,true)::dn)
     | _=>False
  | _,_=>False
def zh8 (ops:Array Oper):List Nat→St→List (Nat × Bool)→(St→List (Nat × Bool)→Prop)→Prop
 | [],σ,dn,k=>k σ dn
 | q::r,σ,dn,k=>exq tb ops σ dn q fun σ dn=>zh8 ops r σ dn k
def zre:PV→Bool
 | .int _ _=>true
 | .bool _=>true
 | .str _=>true
 | .nil=>true
 | .ref _=>true
 | .ptr _ _=>true
 | .zan=>true
 | .zb7=>true
 | .agg cs=>go cs
 | .tup cs=>go cs
 | .iface _ v=>zre v
 | _=>false
where
 go:List PV→Bool
  | []=>true
  | v::vs=>zre v&&go vs
def z8o (ops:Array Oper) (σ:St):List (Nat × Bool)→Prop
 | []=>True
 | (_,true)::r=>z8o ops σ r
 | (q,false)::r=>(match ops[q]? with
  | some o=>match o.dst with
   | some d=>match lk σ.L d with
    | some v=>zre v=true∧qop tb σ o.op fun v'=>v'=v
    | none=>False
   | none=>False
  | none=>False)∧z8o ops σ r
def z2m (kp:List Nat) (dn:List (Nat × Bool)):List (Nat × Bool):=dn.filter fun p=>kp.any (ya p.1)
def rst (cs:List (Nat × Cut)) (e:Nat) (σ:St) (k:St→Prop):Prop:=match lk cs e with
 | some c=>∃ J:St→Prop,wt (σ.cut c) J∧∀ s,J s→k s
 | none=>k σ
def z7o (ops:Array Oper) (cs:List (Nat × Cut)) (kp:PV→St→Prop) (k:St→Prop):Gt→List (Nat × Bool)→St→Prop
 | .fin,_,σ=>k σ
 | .one e kpl qs2 g,dn1,σ1=>match zkt ops e with
  | some o=>exo tb cty ann con ops σ1 o (fun σ2=>rst cs e σ2 fun σ2=>zh8 tb ops qs2 σ2 (z2m kpl dn1) fun σ3 dn3=>z8o tb ops σ3 (z2m kpl dn1)∧z7o ops cs kp k g dn3 σ3) kp
  | none=>False
 | .alt e kpl qs2 g r,dn1,σ1=>(match zkt ops e with
  | some o=>exo tb cty ann con ops σ1 o (fun σ2=>rst cs e σ2 fun σ2=>zh8 tb ops qs2 σ2 (z2m kpl dn1) fun σ3 dn3=>z8o tb ops σ3 (z2m kpl dn1)∧z7o ops cs kp k g dn3 σ3) kp
  | none=>False)∧z7o ops cs kp k r dn1 σ1
def zbs (ops:Array Oper) (cs:List (Nat × Cut)) (kp:PV→St→Prop) (k:St→Prop) (g:Gt) (qs:List Nat) (σ:St):Prop :=
 zh8 tb ops qs σ [] fun σ1 dn1=>z8o tb ops σ1 []∧z7o tb cty ann con ops cs kp k g dn1 σ1
inductive It where
 | q (q:Nat)
 | a (e:Nat) (kpl:List Nat)
def zq5:List Nat→List It→List It
 | [],r=>r
 | q::qs,r => .q q::zq5 qs r
def ziq:Gt→List It
 | .fin=>[]
 | .one e kpl qs sub => .a e kpl::zq5 qs (ziq sub)
 | .alt _ _ _ _ _=>[]
def zdy:Gt→Bool
 | .fin=>true
 | .one _ _ _ sub=>zdy sub
 | .alt _ _ _ _ _=>false
def dnI:It→List Nat→List Nat
 | .q q,dn=>q::dn
 | .a _ kpl,dn=>z6i kpl dn
def zcn (ops:Array Oper):List It→List Nat→Bool
 | [],_=>true
 | .q q::r,dn=>zfq ops [q] dn&&zcn ops r (dnI (.q q) dn)
 | .a e kpl::r,dn=>(match ops[e]? with
  | some o=>match o.dst with
   | some d=>z6c ops d (z6i kpl dn)
   | none=>true
  | none=>true)&&kpl.all (fun q=>dn.any (ya q))&&zcn ops r (dnI (.a e kpl) dn)
def ztc:List (Nat × Bool)→Bool
 | []=>true
 | (_,b)::r=>b&&ztc r
def zqy:Op→Bool
 | .load _ _=>false
 | .call _=>false
 | _=>true
def zqx (ops:Array Oper) (q:Nat):Bool:=match zkt ops q with
 | some o=>zqy o.op
 | none=>true
def ex1 (ops:Array Oper) (kp:PV→St→Prop):It→St→List (Nat × Bool)→(St→List (Nat × Bool)→Prop)→Prop
 | .q q,σ,dn,k=>exq tb ops σ dn q k
 | .a e kpl,σ,dn,k=>match ztc (z2m kpl dn) with
  | true=>match zkt ops e with
   | some o=>exo tb cty ann con ops σ o (fun s=>k s (z2m kpl dn)) kp
   | none=>False
  | false=>False
def zft (ops:Array Oper) (kp:PV→St→Prop) (k:St→List (Nat × Bool)→Prop):List It→St→List (Nat × Bool)→Prop
 | [],σ,dn=>k σ dn
 | i::r,σ,dn=>ex1 tb cty ann con ops kp i σ dn fun σ dn=>zft ops kp k r σ dn
def ztg:List It→List Nat→List Nat
 | [],dn=>dn
 | i::r,dn=>ztg r (dnI i dn)
def dnA (ops:Array Oper) (l:List It) (dn:List (Nat × Bool)):List (Nat × Bool):=(ztg l (dn.map (·.1))).map fun q=>(q,zqx ops q)
def zjy (ops:Array Oper) (kp:PV→St→Prop) (k:St→Prop):List (Nat × Nat × Cut)→List It→St→List (Nat × Bool)→Prop
 | [],its,σ,dn=>zft tb cty ann con ops kp (fun s _=>k s) its σ dn
 | (n0,m,c)::r,its,σ,dn=>zft tb cty ann con ops kp (fun σ dn=>∃ J:St→Prop,zft tb cty ann con ops kp (fun s _=>wt (s.cut c) J) ((its.drop n0).take m) σ dn∧∀ s,J s→zjy ops kp k r ((its.drop n0).drop m) s (dnA ops ((its.drop n0).take m) dn)) (its.take n0) σ dn
def zfu (ops:Array Oper) (kp:PV→St→Prop) (k:St→Prop) (d:Drw) (σ:St):Prop:=match d.lin with
 | some l=>zjy tb cty ann con ops kp k l (zq5 d.qs (ziq d.g)) σ []
 | none=>match d.c with
  | none=>zbs tb cty ann con ops d.cs kp k d.g d.qs σ
  | some c=>∃ J:St→Prop,zbs tb cty ann con ops d.cs kp (fun s=>wt (s.cut c) J) d.g d.qs σ∧∀ s,J s→k s

inductive z61 where
 | normal
 | exit (i:Nat)
 | ret
 | pan (v:PV)
def z68 (f:St→Prop) (k:z61→St→Prop):z61→St→Prop
 | .normal,s=>f s
 | .exit i,s=>k (.exit i) s
 | .ret,s=>k .ret s
 | .pan v,s=>k (.pan v) s
def zpj (i:Nat) (k:z61→St→Prop):z61→St→Prop
 | .normal,s=>k .normal s
 | .exit j,s=>match ya i j with
  | true=>k .normal s
  | false=>k (.exit j) s
 | .ret,s=>k .ret s
 | .pan v,s=>k (.pan v) s
def z9d:Code→Option Nat
 | .region i _ _=>some i
 | .seq a b=>match z9d a with
  | some i=>some i
  | none=>z9d b
 | .cond _ a b=>match z9d a with
  | some i=>some i
  | none=>z9d b
 | .block _ a=>z9d a
 | .loop a=>z9d a
 | .scope a=>z9d a
 | .exit i=>some (1000000+i)
 | _=>none
def zp6 (l:List (Nat × Cut)) (c:Code):Option Cut:=match z9d c with
 | some i=>lk l i
 | none=>none
def LW (step:(St→Prop)→St→Prop) (σ:St):Prop := ∀ I:St→Prop,(∀ s,step I s→I s)→I σ
def ex:Code→St→(z61→St→Prop)→Prop
 | .skip,σ,k=>k .normal σ
 | .label _,σ,k=>k .normal σ
 | .region id ops dr,σ,k=>match dr with
  | false=>ze7 tb cty ann con ops (fun v s=>k (.pan v) s) (fun s=>k .normal s) (match lk ann.reg id with|some l=>l|none=>[]) ops.toList σ
  | true=>wt (lk ann.drw id) fun d=>zfu tb cty ann con ops (fun v s=>k (.pan v) s) (fun s=>k .normal s) d σ
 | .seq a b,σ,k=>match zp6 ann.seq b with
  | some c=>∃ J:St→Prop,ex a σ (z68 (fun s=>wt (s.cut c) J) k)∧∀ s,J s→ex b s k
  | none=>ex a σ (z68 (fun s=>ex b s k) k)
 | .cond c a b,σ,k=>match σ.ev c with
  | some (.bool x)=>cond x (ex a σ k) (ex b σ k)
  | _=>False
 | .block i a,σ,k=>ex a σ (zpj i k)
 | .exit i,σ,k=>k (.exit i) σ
 | .ret,σ,k=>k .ret σ
 | .loop a,σ,k=>wt (zp6 ann.loop a) fun c=>wt (σ.cut c) fun σ=>LW (fun I s=>ex a s (z68 (fun s=>wt (s.cut c) I) k)) σ
 | _,_,_=>False
end
end Go.Pe
