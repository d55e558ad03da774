import Derived.Test.YtfdoofnmjehecaaGreatDoorDLmA
import Derived.Lib.Strings
set_option linter.all false
namespace Go.Lk
open _root_.Nat renaming blt → ya
open _root_.Int renaming natCast_nonneg → yb
open _root_.Array renaming toList_inj → yc
open Go.RowKit

def zxr:TypeDesc→Bool
 | .struct _ | .array _ _=>true
 | _=>false
def shp (P:Program) (T:TypeId):Option (Bool × Nat) :=
 match P.underlying T,P.info? T with
 | some d,some i=>some (zxr d,i.size)
 | _,_=>none
def fld (P:Program) (T:TypeId) (i:Nat):Option (Nat × Bool × Nat) :=
 match P.underlying T with
 | some (.struct fs)=>match fs[i]? with
  | some f=>match shp P f.type with
   | some (b,n)=>if n=0 then none else some (f.offset,b,n)
   | none=>none
  | none=>none
 | _=>none
def zer (P:Program) (T:TypeId):Option Value:=(P.info? T).bind (·.zero)

section
variable {P:Program} {w:World}
theorem z1e {T:TypeId} {b:Bool} {n:Nat} (h:shp P T=some (b,n)):(isAgg T).run P w = .ok b w∧(sizeOf T).run P w = .ok n w:=by
 unfold shp at h
 split at h
 ·rename_i d i h1 h2
  simp only [Option.some.injEq,Prod.mk.injEq] at h
  obtain ⟨rfl,rfl⟩:=h
  constructor
  ·simp only [isAgg,Sem.run_bind,run_underlying h1,Result.andThen_ok]
   cases d<;>rfl
  ·simp [sizeOf,typeInfo,h2]
 ·cases h
theorem zpp {T:TypeId} {b:Bool} {n:Nat} (h:shp P T=some (b,n)):∃ i,P.info? T=some i∧i.size=n:=by
 unfold shp at h
 split at h
 ·rename_i d i h1 h2
  simp only [Option.some.injEq,Prod.mk.injEq] at h
  exact ⟨i,h2,h.2⟩
 ·cases h
theorem z7i {T:TypeId} {n:Nat} {a:Addr} {v:Value} (h:shp P T=some (false,n)) (hc:w.cell? a=some v):(loadVar T a).run P w = .ok v w:=by
 simp only [loadVar,Sem.run_bind,(z1e h).1,Result.andThen_ok]
 simp [hc]
theorem zae {T:TypeId} {n:Nat} {b o:Nat} {cs:List Value} (h:shp P T=some (true,n)) (hn:cs.length=n) (hc:∀ j v,cs[j]? = some v→w.cell? ⟨b,o+j,none⟩=some v) :
  (loadVar T ⟨b,o,none⟩).run P w = .ok (.agg cs.toArray) w:=by
 have hl:=run_loadCells_list (P:=P) (w:=w) ⟨b,o,none⟩ cs (fun j v e=>by rw [Addr.add_lit];exact hc j v e)
 subst hn
 simp only [loadVar,Sem.run_bind,(z1e h).1,Result.andThen_ok,(z1e h).2,hl,if_true]
 rfl
theorem zi5 {T:TypeId} {i k n:Nat} {g:Bool} {b o:Nat} (h:fld P T i=some (k,g,n)):(Instr.fieldAt T (.pointer (some ⟨b,o,none⟩)) i).run P w = .ok (.pointer (some ⟨b,o+k,none⟩)) w:=by
 unfold fld at h
 split at h
 ·rename_i fs h1
  split at h
  ·rename_i f h2
   split at h
   ·rename_i g' n' h3
    split at h
    ·cases h
    ·rename_i hn
     simp only [Option.some.injEq,Prod.mk.injEq] at h
     obtain ⟨rfl,rfl,rfl⟩:=h
     simp only [Instr.fieldAt,Sem.run_bind,run_underlying h1,Result.andThen_ok,h2,Instr.sureAddr,Sem.run_pure,fieldPlace,(z1e h3).2,if_neg hn,Addr.add_lit]
   ·cases h
  ·cases h
 ·cases h
theorem zn6 {T:TypeId} {i k n:Nat} {cs:List Value} (h:fld P T i=some (k,false,n)) {v:Value} (hv:cs[k]? = some v):(Instr.field T (.agg cs.toArray) i).run P w = .ok v w:=by
 unfold fld at h
 split at h
 ·rename_i fs h1
  split at h
  ·rename_i f h2
   split at h
   ·rename_i g' n' h3
    split at h
    ·cases h
    ·rename_i hn
     simp only [Option.some.injEq,Prod.mk.injEq] at h
     obtain ⟨rfl,rfl,rfl⟩:=h
     simp only [Instr.field,Sem.run_bind,run_underlying h1,Result.andThen_ok,h2,asAgg,Sem.run_pure,part,(z1e h3).1,List.getElem?_toArray,hv]
     rfl
   ·cases h
  ·cases h
 ·cases h
theorem zkt {T:TypeId} {i k n:Nat} {cs:List Value} (h:fld P T i=some (k,true,n)):(Instr.field T (.agg cs.toArray) i).run P w = .ok (.agg ((cs.drop k).take n).toArray) w:=by
 unfold fld at h
 split at h
 ·rename_i fs h1
  split at h
  ·rename_i f h2
   split at h
   ·rename_i g' n' h3
    split at h
    ·cases h
    ·rename_i hn
     simp only [Option.some.injEq,Prod.mk.injEq] at h
     obtain ⟨rfl,rfl,rfl⟩:=h
     simp only [Instr.field,Sem.run_bind,run_underlying h1,Result.andThen_ok,h2,asAgg,Sem.run_pure,part,(z1e h3).1,(z1e h3).2,if_true]
     rw [List.extract_toArray,List.extract_eq_take_drop]
     simp
   ·cases h
  ·cases h
 ·cases h
end

def zeo (k:IntKind) (a b:Int):Int:=k.wrap (BitVec.ofInt k.bits a &&& BitVec.ofInt k.bits b).toNat
def orI (k:IntKind) (a b:Int):Int:=k.wrap (BitVec.ofInt k.bits a ||| BitVec.ofInt k.bits b).toNat
def zxo (k:IntKind) (a b:Int):Int:=k.wrap (BitVec.ofInt k.bits a ^^^ BitVec.ofInt k.bits b).toNat
def zlc (k:IntKind) (a b:Int):Int:=k.wrap (BitVec.ofInt k.bits a &&& ~~~ BitVec.ofInt k.bits b).toNat
def z8q (k:IntKind) (a b:Int):Int:=k.wrap (a*2 ^ (min b.toNat k.bits))
def znn (k:IntKind) (a b:Int):Int:=a.fdiv (2 ^ (min b.toNat k.bits))
def zxi (k:IntKind) (a:Int):Int:=k.wrap (BitVec.ofInt k.bits (if k.signed then -1 else k.max) ^^^ BitVec.ofInt k.bits a).toNat
def zwo (op:BinOp) (k:IntKind) (a b:Int):Option Value :=
 match op with
 | .add=>some (.int k (k.wrap (a+b)))
 | .sub=>some (.int k (k.wrap (a - b)))
 | .mul=>some (.int k (k.wrap (a*b)))
 | .and=>some (.int k (zeo k a b))
 | .or=>some (.int k (orI k a b))
 | .xor=>some (.int k (zxo k a b))
 | .andNot=>some (.int k (zlc k a b))
 | .eql=>some (.bool (decide (a=b)))
 | .neq=>some (.bool (!decide (a=b)))
 | .lss=>some (.bool (decide (a<b)))
 | .leq=>some (.bool (decide (a≤b)))
 | .gtr=>some (.bool (decide (b<a)))
 | .geq=>some (.bool (decide (b≤a)))
 | _=>none
def zxh (op:BinOp) (k:IntKind) (a b:Int):Option Value :=
 match op with
 | .quo=>some (.int k (k.wrap (a.tdiv b)))
 | .rem=>some (.int k (a.tmod b))
 | _=>none
def zqf (op:BinOp) (k:IntKind) (a b:Int):Option Value :=
 match op with
 | .shl=>some (.int k (z8q k a b))
 | .shr=>some (.int k (znn k a b))
 | _=>none
def slt (a b:List UInt8):Bool:=Op.bytesLess a b
def zx6 (op:BinOp) (a b:List UInt8):Option Value :=
 match op with
 | .eql=>some (.bool (decide (a=b)))
 | .neq=>some (.bool (!decide (a=b)))
 | .lss=>some (.bool (slt a b))
 | .leq=>some (.bool (slt a b||decide (a=b)))
 | .gtr=>some (.bool (!(slt a b||decide (a=b))))
 | .geq=>some (.bool (!slt a b))
 | _=>none
def iun (op:UnOp) (k:IntKind) (a:Int):Option Value :=
 match op with
 | .neg=>some (.int k (k.wrap (0 - a)))
 | .xor=>some (.int k (zxi k a))
 | _=>none

def Lo (L:Env) (lo:Option Operand) (a e:Nat):Prop :=
 match lo with
 | none=>a=e
 | some y=>∃ kd i,ev L y=some (.int kd i)∧i=(a:Nat)
def LoV (lo:Option Value) (a e:Nat):Prop :=
 match lo with
 | none=>a=e
 | some y=>∃ kd,y = .int kd (a:Nat)
theorem Lo.val {n:Nat} {L:Env} {ac:Act} (ha:Has n L ac) {lo:Option Operand} {a e:Nat} (h:Lo L lo a e):LoV (lo.map ac.eval) a e:=by
 cases lo with
 | none=>exact h
 | some y=>obtain ⟨kd,i,h1,h2⟩:=h;exact ⟨kd,by rw [ha.ev h1,h2]⟩
section
variable {C:Cx} {n:Nat} {ds:List Deferred} {k:Act→World→Prop} {L:Env} {w:World} {ops:Array Oper} {o:Oper} {rest:List Oper} {d:Nat} {v:Value}

theorem EX.move {x:Operand} (ho:o.op = .move x) (hx:ev L x=some v):EX C n L w o (v) :=
 fun a ha=>by simp [execOp,ho,ha.ev hx]
theorem OW.move {x:Operand} (hg:o.guard=none) (hd:o.dst=some d) (hn:ya d n=true) (ho:o.op = .move x) (hx:ev L x=some v) (h:OW C n ds ops rest k ((d,v)::L) w):OW C n ds ops (o::rest) k L w :=
 OW.val hg hd hn (EX.move ho hx) h
theorem EX.assign {x:Operand} (ho:o.op = .assign x) (hx:ev L x=some v):EX C n L w o (v) :=
 fun a ha=>by simp [execOp,ho,ha.ev hx]
theorem OW.assign {x:Operand} (hg:o.guard=none) (hd:o.dst=some d) (hn:ya d n=true) (ho:o.op = .assign x) (hx:ev L x=some v) (h:OW C n ds ops rest k ((d,v)::L) w):OW C n ds ops (o::rest) k L w :=
 OW.val hg hd hn (EX.assign ho hx) h
theorem EX.zv1 {c x y:Operand} (ho:o.op = .pick c x y) (hc:ev L c=some (.bool true)) (hx:ev L x=some v):EX C n L w o (v) :=
 fun a ha=>by simp [execOp,ho,ha.ev hc,ha.ev hx,asBool]
theorem EX.zv0 {c x y:Operand} (ho:o.op = .pick c x y) (hc:ev L c=some (.bool false)) (hx:ev L y=some v):EX C n L w o (v) :=
 fun a ha=>by simp [execOp,ho,ha.ev hc,ha.ev hx,asBool]
theorem EX.zxt {op:BinOp} {t u:TypeId} {x y:Operand} {kd:IntKind} {p q:Int} (ho:o.op = .binOp op t x y u)
  (hx:ev L x=some (.int kd p)) (hy:ev L y=some (.int kd q)) (hv:zwo op kd p q=some v):EX C n L w o (v) :=
 fun a ha=>by
  simp only [execOp,ho,ha.ev hx,ha.ev hy,eqGuard_at_int]
  cases op<;>simp only [zwo,Option.some.injEq,reduceCtorEq] at hv<;>subst hv<;>simp [binOp,Op.intArith,Op.intBits,Op.intCmp,bne,BEq.beq,zeo,orI,zxo,zlc]
theorem EX.zxl {op:BinOp} {t u:TypeId} {x y:Operand} {kd:IntKind} {p q:Int} (ho:o.op = .binOp op t x y u)
  (hx:ev L x=some (.int kd p)) (hy:ev L y=some (.int kd q)) (hq:q≠0) (hv:zxh op kd p q=some v):EX C n L w o (v) :=
 fun a ha=>by
  simp only [execOp,ho,ha.ev hx,ha.ev hy,eqGuard_at_int]
  cases op<;>simp only [zxh,Option.some.injEq,reduceCtorEq] at hv<;>subst hv<;>simp [binOp,Op.intDiv,hq]
theorem EX.zqs {op:BinOp} {t u:TypeId} {x y:Operand} {kd kq:IntKind} {p q:Int} (ho:o.op = .binOp op t x y u)
  (hx:ev L x=some (.int kd p)) (hy:ev L y=some (.int kq q)) (hq:0≤q) (hv:zqf op kd p q=some v):EX C n L w o (v) :=
 fun a ha=>by
  have hq':¬q<0:=by omega
  simp only [execOp,ho,ha.ev hx,ha.ev hy,eqGuard_at_int]
  cases op<;>simp only [zqf,Option.some.injEq,reduceCtorEq] at hv<;>subst hv<;>simp [binOp,Op.shift,hq',z8q,znn]
theorem EX.zxu {op:BinOp} {t u:TypeId} {x y:Operand} {p q:List UInt8} (ho:o.op = .binOp op t x y u)
  (hx:ev L x=some (.string ⟨p.toArray⟩)) (hy:ev L y=some (.string ⟨q.toArray⟩)) (hv:zx6 op p q=some v):EX C n L w o (v) :=
 fun a ha=>by
  have e:(p==q)=decide (p=q):=by rw [Bool.eq_iff_iff];simp
  simp only [execOp,ho,ha.ev hx,ha.ev hy,eqGuard_at_string]
  cases op<;>simp only [zx6,Option.some.injEq,reduceCtorEq] at hv<;>subst hv<;>simp [binOp,Op.stringOp,slt,e]
theorem EX.zxv {t u:TypeId} {x y:Operand} {p q:List UInt8} (ho:o.op = .binOp .add t x y u)
  (hx:ev L x=some (.string ⟨p.toArray⟩)) (hy:ev L y=some (.string ⟨q.toArray⟩)) (hl:p.length+q.length≤9223372036854775807):EX C n L w o (.string ⟨(p++q).toArray⟩) :=
 fun a ha=>by
  have e:(⟨p.toArray⟩++⟨q.toArray⟩:ByteArray)=⟨(p++q).toArray⟩:=by
   apply Go.WideShapes.bytes_inj
   simp
  simp only [execOp,ho,ha.ev hx,ha.ev hy,eqGuard_at_string,binOp,Sem.run_bind,Sem.run_pure,Result.andThen_ok]
  rw [run_string_add_sum _ _ _ (by simpa [ByteArray.size] using hl),e]
  rfl
theorem EX.zxc {op:BinOp} {t u:TypeId} {x y:Operand} {p q:Bool} (ho:o.op = .binOp op t x y u) (ht:C.P.underlying t=some .bool)
  (hx:ev L x=some (.bool p)) (hy:ev L y=some (.bool q)) (hv:(match op with | .eql=>some (Value.bool (p==q)) | .neq=>some (.bool (!(p==q)))|_=>none)=some v):EX C n L w o (v) :=
 fun a ha=>by
  simp only [execOp,ho,ha.ev hx,ha.ev hy,eqGuard_at_bool]
  cases op<;>simp only [Option.some.injEq,reduceCtorEq] at hv<;>subst hv
  ·simp [run_eql_bool _ _ _ _ ht]
  ·simp [run_neq_bool _ _ _ _ ht]
theorem EX.unI {op:UnOp} {t:TypeId} {x:Operand} {kd:IntKind} {p:Int} (ho:o.op = .unOp op t x)
  (hx:ev L x=some (.int kd p)) (hv:iun op kd p=some v):EX C n L w o (v) :=
 fun a ha=>by
  simp only [execOp,ho,ha.ev hx]
  cases op<;>simp only [iun,Option.some.injEq,reduceCtorEq] at hv<;>subst hv<;>simp [Op.unary,Op.intArith,Op.intBits,zxi]
theorem EX.zy9 {t:TypeId} {x:Operand} {p:Bool} (ho:o.op = .unOp .not t x)
  (hx:ev L x=some (.bool p)):EX C n L w o (.bool (!p)) :=
 fun a ha=>by simp [execOp,ho,ha.ev hx,Op.unary]
theorem EX.zwe {s t:TypeId} {sd:TypeDesc} {x:Operand} {kd kt:IntKind} {p:Int} (ho:o.op = .convert s t x)
  (hs:C.P.underlying s=some sd) (ht:C.P.underlying t=some (.int kt)) (hx:ev L x=some (.int kd p)):EX C n L w o (.int kt (kt.wrap p)) :=
 fun a ha=>by
  simp only [execOp,ho,ha.ev hx,convert,Sem.run_bind,run_underlying hs,run_underlying ht,Result.andThen_ok,Conv.intToInt]
  rfl
theorem EX.zwg {s t:TypeId} {x:Operand} {p:ByteArray} (ho:o.op = .convert s t x)
  (hs:C.P.underlying s=some .string) (ht:C.P.underlying t=some .string) (hx:ev L x=some (.string p)):EX C n L w o (.string p) :=
 fun a ha=>by
  simp only [execOp,ho,ha.ev hx,convert,Sem.run_bind,run_underlying hs,run_underlying ht,Result.andThen_ok]
  rfl
theorem EX.zy4 {t:TypeId} {x:Operand} {p:List UInt8} (ho:o.op = .call { callee:=.builtin .len,args := #[x],argTypes := #[t] })
  (ht:C.P.underlying t=some .string) (hx:ev L x=some (.string ⟨p.toArray⟩)):EX C n L w o (.int .i64 (p.length:Nat)) :=
 fun a ha=>by
  have e:(⟨p.toArray⟩:ByteArray).size=p.length:=by simp [ByteArray.size]
  simp [execOp,ho,resolve,invoke,builtin,Builtin.len_,ha.ev hx,run_underlying ht,goInt,e]
theorem EX.zy3 {t e:TypeId} {x:Operand} {p:Option Addr} {l c:Nat} (ho:o.op = .call { callee:=.builtin .len,args := #[x],argTypes := #[t] })
  (ht:C.P.underlying t=some (.slice e)) (hx:ev L x=some (.slice p l c)):EX C n L w o (.int .i64 (l:Nat)) :=
 fun a ha=>by
  simp [execOp,ho,resolve,invoke,builtin,Builtin.len_,ha.ev hx,run_underlying ht,goInt]
theorem EX.zum {t:TypeId} {x y:Operand} {p:List UInt8} {kd:IntKind} {i:Int} {j:Nat} {c:UInt8} (ho:o.op = .index t x y)
  (ht:C.P.underlying t=some .string) (hx:ev L x=some (.string ⟨p.toArray⟩)) (hy:ev L y=some (.int kd i)) (hi:i=(j:Nat)) (hc:p[j]? = some c):EX C n L w o (.int .u8 (c.toNat:Nat)) :=
 fun a ha=>by
  subst hi
  have hj:j<p.length:=by
   rcases Nat.lt_or_ge j p.length with hj|hj
   ·exact hj
   ·simp [List.getElem?_eq_none hj] at hc
  have hc':p[j]=c:=by simpa [List.getElem?_eq_getElem hj] using hc
  have e:(⟨p.toArray⟩:ByteArray)[j]? = some c:=by
   rw [getElem?_pos (⟨p.toArray⟩:ByteArray) j (by simpa [ByteArray.size] using hj)]
   simp [←hc']
   rfl
  simp [execOp,ho,Instr.index,ha.ev hx,ha.ev hy,asIntOf,run_underlying ht,e]
theorem EX.zva {t:TypeId} {x:Operand} {lo hi:Option Operand} {p:List UInt8} {a b:Nat} (ho:o.op = .slice t x lo hi none)
  (ht:C.P.underlying t=some .string) (hx:ev L x=some (.string ⟨p.toArray⟩))
  (hlo:Lo L lo a 0) (hhi:Lo L hi b p.length) (hab:a≤b) (hb:b≤p.length):EX C n L w o (.string ⟨((p.take b).drop a).toArray⟩) :=
 fun ac ha=>by
  have e:(⟨p.toArray⟩:ByteArray).extract a b=⟨((p.take b).drop a).toArray⟩:=by
   apply Go.WideShapes.bytes_inj
   rw [Go.Lib.extract_data]
   simp [List.drop_take]
  have hp:(⟨p.toArray⟩:ByteArray).size=p.length:=by simp [ByteArray.size]
  have i1:(0:Int)≤(a:Int):=yb _
  have i2:(0:Int)≤(b:Int):=yb _
  have i3:(a:Int)≤(b:Int):=Int.ofNat_le.2 hab
  have i4:(b:Int)≤(p.length:Int):=Int.ofNat_le.2 hb
  have hlo:=hlo.val ha
  have hhi:=hhi.val ha
  simp only [execOp,ho,Instr.sliceAt,Sem.run_bind,run_underlying ht,Result.andThen_ok,ha.ev hx,Instr.slice]
  revert hlo hhi
  generalize lo.map ac.eval=lo'
  generalize hi.map ac.eval=hi'
  intro hlo hhi
  cases lo' with
  | none =>
   simp only [LoV] at hlo
   subst hlo
   cases hi' with
   | none=>simp only [LoV] at hhi;subst hhi;simp [Instr.sliceBounds,hp,e]
   | some y=>obtain ⟨kd,rfl⟩:=hhi;simp [Instr.sliceBounds,Instr.sliceBound,hp,e,asIntOf,hb]
  | some z =>
   obtain ⟨kz,rfl⟩:=hlo
   cases hi' with
   | none=>simp only [LoV] at hhi;subst hhi;simp [Instr.sliceBounds,Instr.sliceBound,hp,e,asIntOf,hab]
   | some y=>obtain ⟨kd,rfl⟩:=hhi;simp [Instr.sliceBounds,Instr.sliceBound,hp,e,asIntOf,hb,hab]
theorem EX.zs2 {t:TypeId} {td:TypeDesc} {x:Operand} {u:Value} (ho:o.op = .makeInterface t x) (ht:C.P.underlying t=some td)
  (hc:(match td with | .interface _=>false|_=>true)=true) (hx:ev L x=some u):EX C n L w o (.iface t u) :=
 fun a ha=>by
  simp only [execOp,ho,ha.ev hx,Instr.makeInterface,Sem.run_bind,run_underlying ht,Result.andThen_ok]
  cases td<;>first|rfl|cases hc
theorem EX.extract {x:Operand} {i:Nat} {vs:Array Value} (ho:o.op = .extract x i) (hx:ev L x=some (.tuple vs)) (hv:vs[i]? = some v):EX C n L w o (v) :=
 fun a ha=>by simp [execOp,ho,ha.ev hx,Instr.extract,hv]
theorem OW.extract {x:Operand} {i:Nat} {vs:Array Value} (hg:o.guard=none) (hd:o.dst=some d) (hn:ya d n=true) (ho:o.op = .extract x i) (hx:ev L x=some (.tuple vs)) (hv:vs[i]? = some v) (h:OW C n ds ops rest k ((d,v)::L) w):OW C n ds ops (o::rest) k L w :=
 OW.val hg hd hn (EX.extract ho hx hv) h
theorem EX.nilCheck {x:Operand} {p:Addr} (ho:o.op = .nilCheck x) (hx:ev L x=some (.pointer (some p))):EX C n L w o (.pointer (some p)) :=
 fun a ha=>by simp [execOp,ho,ha.ev hx]
theorem OW.nilCheck {x:Operand} {p:Addr} (hg:o.guard=none) (hd:o.dst=some d) (hn:ya d n=true) (ho:o.op = .nilCheck x) (hx:ev L x=some (.pointer (some p))) (h:OW C n ds ops rest k ((d,.pointer (some p))::L) w):OW C n ds ops (o::rest) k L w :=
 OW.val hg hd hn (EX.nilCheck ho hx) h
theorem EX.zur {fn:Fn} {first cap:Array Operand} {vs us:List Value} (ho:o.op = .makeFunc fn first cap) (hf:evs L first.toList=some us) (hc:evs L cap.toList=some vs):EX C n L w o (.func fn us.toArray vs.toArray) :=
 fun a ha=>by
  have e1:first.map a.eval=us.toArray:=by apply yc.1;simpa using ha.evs hf
  have e2:cap.map a.eval=vs.toArray:=by apply yc.1;simpa using ha.evs hc
  simp [execOp,ho,Instr.makeFunc,e1,e2]
def built (P:Program) (T:TypeId) (parts:List (Nat × Value)):Option (List Value) :=
 match P.underlying T,zer P T with
 | some (.struct fs),some z =>
  match (fs.toList.mapM fun f=>(P.info? f.type).map fun i=>(f.offset,i.size)) with
  | some places=>(Instr.fill (places.toArray[·]?) z.cells parts).map (·.toList)
  | none=>none
 | _,_=>none
def evp (L:Env):List (Nat × Operand)→Option (List (Nat × Value))
 | []=>some []
 | (i,x)::xs=>match ev L x,evp L xs with
  | some v,some vs=>some ((i,v)::vs)
  | _,_=>none
theorem Has.evp {a:Act} (h:Has n L a):∀ {xs:List (Nat × Operand)} {vs:List (Nat × Value)},evp L xs=some vs→xs.map (fun p=>(p.1,a.eval p.2))=vs
 | [],vs,e=>by simp [Lk.evp] at e;subst e;rfl
 | (i,x)::xs,vs,e=>by
  simp only [Lk.evp] at e
  split at e
  ·rename_i v vs' h1 h2
   cases e
   simp [h.ev h1,h.evp h2]
  ·cases e
theorem z7j (P:Program) (w:World):∀ (fs:List Field) {places:List (Nat × Nat)},(fs.mapM fun f=>(P.info? f.type).map fun i=>(f.offset,i.size))=some places →
  (fs.mapM (fun f=>do pure (f.offset,←sizeOf f.type):Field→Sem (Nat × Nat))).run P w = .ok places w
 | [],places,h=>by simp at h;subst h;rfl
 | f::fs,places,h=>by
  simp only [List.mapM_cons,Option.bind_eq_bind] at h ⊢
  cases h1:P.info? f.type with
  | none=>simp [h1] at h
  | some i =>
   cases h2:(fs.mapM fun f=>(P.info? f.type).map fun i=>(f.offset,i.size)) with
   | none=>simp [h1,h2] at h
   | some ps =>
    simp [h1,h2] at h
    subst h
    have ih:=z7j P w fs h2
    simp only [Sem.run_bind,sizeOf,typeInfo,run_program,Result.andThen_ok,h1,Sem.run_pure] at ih ⊢
    rw [ih]
    rfl
theorem EX.build {T:TypeId} {parts:Array (Nat × Operand)} {vs:List (Nat × Value)} {cs:List Value} (ho:o.op = .build T parts) (hp:evp L parts.toList=some vs)
  (hb:built C.P T vs=some cs):EX C n L w o (.agg cs.toArray) :=
 fun a ha=>by
  have e:(parts.map fun (i,x)=>(i,a.eval x))=vs.toArray:=by apply yc.1;simpa using ha.evp hp
  unfold built zer at hb
  split at hb
  ·rename_i fs z h1 h2
   split at hb
   ·rename_i places h3
    simp only [Option.map_eq_some_iff] at hb
    obtain ⟨cs',h4,rfl⟩:=hb
    obtain ⟨i,h5,h6⟩:=Option.bind_eq_some_iff.1 h2
    have h7:=z7j C.P w fs.toList h3
    have h8:(fs.mapM (fun f=>do pure (f.offset,←sizeOf f.type):Field→Sem (Nat × Nat))).run C.P w = .ok places.toArray w:=by
     rw [Array.mapM_eq_mapM_toList,Sem.run_map,h7]
     rfl
    simp only [execOp,ho,e,Instr.build,Sem.run_bind,zeroValue,typeInfo,run_program,Result.andThen_ok,h5,Sem.run_pure,h6,run_underlying h1,h8,h4]
   ·cases hb
  ·cases hb
end
end Go.Lk
