import Derived.Test.YtfdoofnmjehecaaGreatDoorUPfN
import Derived.Lib.ValidLaws
import Derived.Lib.AtoiAll
import Derived.Lib.ItoaNum
import Derived.Lib.SlTrimSet
import Derived.Lib.Bytealg
import Derived.Lib.SlicesCompact
import Derived.Lib.IndexMore
import Derived.Lib.Join
import Derived.Lib.Split
import Derived.Lib.CountLaws
import Derived.Shelf.Strings.MapAny
import Derived.Shelf.GgClosure.StringsIndexFunc
import Derived.Lib.IndexAny
import Derived.Lib.Replace
set_option linter.all false
namespace Go.Sen
open IntKind renaming wrap → ya
open Go.Lk Go.Pe
structure q05 where
 zu:Z
 z1t:Z
def q05.enc:q05→List D
 | ⟨a0,a1⟩=>[D.str a0,D.str a1]
theorem q05.z2b:∀ x:q05,q05.enc x=[D.str x.zu,D.str x.z1t]
 | ⟨a0,a1⟩=>by first|rfl|simp [q05.enc]
@[reducible] def q05.v (x:q05):List PV:=[.str x.zu,.str x.z1t]
@[reducible] def q05.d (x:q05):List D:=[.str x.zu,.str x.z1t]
structure q03 where
 zx:Z
 z05:List Z
 z0p:List q05
 z0j:List q05
 zt:Z
@[reducible] def q03.v (x:q03):List PV:=[.str x.zx,.sl 9 1 (x.z05.map eS),.sl 72 2 (x.z0p.map q05.enc),.sl 72 2 (x.z0j.map q05.enc),.str x.zt]
@[reducible] def q03.d (x:q03):List D:=[.str x.zx,.sl 9 1 (x.z05.map eS),.sl 72 2 (x.z0p.map q05.enc),.sl 72 2 (x.z0j.map q05.enc),.str x.zt]
structure q01 where
 zfp:Z
 zfr:Z
 zfo:Z
 z00:Z
 zfq:Z
 z0f:Z
 zqc:Int
 zqb:Int
 z1n:Int
 z07:List Z
 zhy:List Z
@[reducible] def q01.v (x:q01):List PV:=[.str x.zfp,.str x.zfr,.str x.zfo,.str x.z00,.str x.zfq,.str x.z0f,.int .i64 x.zqc,.int .i64 x.zqb,.int .i64 x.z1n,.sl 9 1 (x.z07.map eS),.sl 9 1 (x.zhy.map eS)]
@[reducible] def q01.d (x:q01):List D:=[.str x.zfp,.str x.zfr,.str x.zfo,.str x.z00,.str x.zfq,.str x.z0f,.int .i64 x.zqc,.int .i64 x.zqb,.int .i64 x.z1n,.sl 9 1 (x.z07.map eS),.sl 9 1 (x.zhy.map eS)]
structure q02 where
 zu:Z
 z2d:List Z
def q02.enc:q02→List D
 | ⟨a0,a1⟩=>[D.str a0,D.sl 9 1 (a1.map eS)]
theorem q02.z2b:∀ x:q02,q02.enc x=[D.str x.zu,D.sl 9 1 (x.z2d.map eS)]
 | ⟨a0,a1⟩=>by first|rfl|simp [q02.enc]
@[reducible] def q02.v (x:q02):List PV:=[.str x.zu,.sl 9 1 (x.z2d.map eS)]
@[reducible] def q02.d (x:q02):List D:=[.str x.zu,.sl 9 1 (x.z2d.map eS)]
structure q07 where
 gId:Z
 zh:Z
 z5k:Z
 zi:List q02
def q07.enc:q07→List D
 | ⟨a0,a1,a2,a3⟩=>[D.str a0,D.str a1,D.str a2,D.sl 189 2 (a3.map q02.enc)]
theorem q07.z2b:∀ x:q07,q07.enc x=[D.str x.gId,D.str x.zh,D.str x.z5k,D.sl 189 2 (x.zi.map q02.enc)]
 | ⟨a0,a1,a2,a3⟩=>by first|rfl|simp [q07.enc]
structure q06 where
 z8c:Int
 z19:Int
 z09:Z
 z4i:Z
 z3e:Z
 z2c:Z
 gId:Z
 z06:Z
 z07:List Z
 z1q:Int
 z1n:Int
 z3q:Int
 z6d:Bool
 z0a:q01
 z4v:List q07
@[reducible] def q06.v (x:q06):List PV:=[.int .i64 x.z8c,.int .i64 x.z19,.str x.z09,.str x.z4i,.str x.z3e,.str x.z2c,.str x.gId,.str x.z06,.sl 9 1 (x.z07.map eS),.int .i64 x.z1q,.int .i64 x.z1n,.int .i64 x.z3q,.bool x.z6d,.str x.z0a.zfp,.str x.z0a.zfr,.str x.z0a.zfo,.str x.z0a.z00,.str x.z0a.zfq,.str x.z0a.z0f,.int .i64 x.z0a.zqc,.int .i64 x.z0a.zqb,.int .i64 x.z0a.z1n,.sl 9 1 (x.z0a.z07.map eS),.sl 9 1 (x.z0a.zhy.map eS),.sl 123 4 (x.z4v.map q07.enc)]
@[reducible] def q06.d (x:q06):List D:=[.int .i64 x.z8c,.int .i64 x.z19,.str x.z09,.str x.z4i,.str x.z3e,.str x.z2c,.str x.gId,.str x.z06,.sl 9 1 (x.z07.map eS),.int .i64 x.z1q,.int .i64 x.z1n,.int .i64 x.z3q,.bool x.z6d,.str x.z0a.zfp,.str x.z0a.zfr,.str x.z0a.zfo,.str x.z0a.z00,.str x.z0a.zfq,.str x.z0a.z0f,.int .i64 x.z0a.zqc,.int .i64 x.z0a.zqb,.int .i64 x.z0a.z1n,.sl 9 1 (x.z0a.z07.map eS),.sl 9 1 (x.z0a.zhy.map eS),.sl 123 4 (x.z4v.map q07.enc)]
structure q00 where
 zh:Int
 gOf:Z
 z2q:Z
 z2p:Z
 z09:Z
 z19:Z
 z1d:Z
 z1g:Z
 z00:Z
 z0o:Z
 z02:Z
 z07:Z
 z01:Z
 zv:Z
 z03:Z
 z0f:Z
 zu:Z
 z2z:Z
 zt:Z
 z6e:Z
 z5k:Z
 z0n:Z
 z1c:Z
 zi:List q02
 z2l:Int
 z11:Int
def q00.enc:q00→List D
 | ⟨a0,a1,a2,a3,a4,a5,a6,a7,a8,a9,a10,a11,a12,a13,a14,a15,a16,a17,a18,a19,a20,a21,a22,a23,a24,a25⟩=>[D.int .i64 a0,D.str a1,D.str a2,D.str a3,D.str a4,D.str a5,D.str a6,D.str a7,D.str a8,D.str a9,D.str a10,D.str a11,D.str a12,D.str a13,D.str a14,D.str a15,D.str a16,D.str a17,D.str a18,D.str a19,D.str a20,D.str a21,D.str a22,D.sl 189 2 (a23.map q02.enc),D.int .i64 a24,D.int .i64 a25]
theorem q00.z2b:∀ x:q00,q00.enc x=[D.int .i64 x.zh,D.str x.gOf,D.str x.z2q,D.str x.z2p,D.str x.z09,D.str x.z19,D.str x.z1d,D.str x.z1g,D.str x.z00,D.str x.z0o,D.str x.z02,D.str x.z07,D.str x.z01,D.str x.zv,D.str x.z03,D.str x.z0f,D.str x.zu,D.str x.z2z,D.str x.zt,D.str x.z6e,D.str x.z5k,D.str x.z0n,D.str x.z1c,D.sl 189 2 (x.zi.map q02.enc),D.int .i64 x.z2l,D.int .i64 x.z11]
 | ⟨a0,a1,a2,a3,a4,a5,a6,a7,a8,a9,a10,a11,a12,a13,a14,a15,a16,a17,a18,a19,a20,a21,a22,a23,a24,a25⟩=>by first|rfl|simp [q00.enc]
@[reducible] def q00.v (x:q00):List PV:=[.int .i64 x.zh,.str x.gOf,.str x.z2q,.str x.z2p,.str x.z09,.str x.z19,.str x.z1d,.str x.z1g,.str x.z00,.str x.z0o,.str x.z02,.str x.z07,.str x.z01,.str x.zv,.str x.z03,.str x.z0f,.str x.zu,.str x.z2z,.str x.zt,.str x.z6e,.str x.z5k,.str x.z0n,.str x.z1c,.sl 189 2 (x.zi.map q02.enc),.int .i64 x.z2l,.int .i64 x.z11]
@[reducible] def q00.d (x:q00):List D:=[.int .i64 x.zh,.str x.gOf,.str x.z2q,.str x.z2p,.str x.z09,.str x.z19,.str x.z1d,.str x.z1g,.str x.z00,.str x.z0o,.str x.z02,.str x.z07,.str x.z01,.str x.zv,.str x.z03,.str x.z0f,.str x.zu,.str x.z2z,.str x.zt,.str x.z6e,.str x.z5k,.str x.z0n,.str x.z1c,.sl 189 2 (x.zi.map q02.enc),.int .i64 x.z2l,.int .i64 x.z11]
def q00.zg6 (x:q00) (c:Nat):Option Z:=if c=1 then some x.gOf else if c=2 then some x.z2q else if c=3 then some x.z2p else if c=4 then some x.z09 else if c=5 then some x.z19 else if c=6 then some x.z1d else if c=7 then some x.z1g else if c=8 then some x.z00 else if c=9 then some x.z0o else if c=10 then some x.z02 else if c=11 then some x.z07 else if c=12 then some x.z01 else if c=13 then some x.zv else if c=14 then some x.z03 else if c=15 then some x.z0f else if c=16 then some x.zu else if c=17 then some x.z2z else if c=18 then some x.zt else if c=19 then some x.z6e else if c=20 then some x.z5k else if c=21 then some x.z0n else if c=22 then some x.z1c else none
def q00.setAt (x:q00) (c:Nat) (v:Z):Option q00:=if c=1 then some { x with gOf:=v } else if c=2 then some { x with z2q:=v } else if c=3 then some { x with z2p:=v } else if c=4 then some { x with z09:=v } else if c=5 then some { x with z19:=v } else if c=6 then some { x with z1d:=v } else if c=7 then some { x with z1g:=v } else if c=8 then some { x with z00:=v } else if c=9 then some { x with z0o:=v } else if c=10 then some { x with z02:=v } else if c=11 then some { x with z07:=v } else if c=12 then some { x with z01:=v } else if c=13 then some { x with zv:=v } else if c=14 then some { x with z03:=v } else if c=15 then some { x with z0f:=v } else if c=16 then some { x with zu:=v } else if c=17 then some { x with z2z:=v } else if c=18 then some { x with zt:=v } else if c=19 then some { x with z6e:=v } else if c=20 then some { x with z5k:=v } else if c=21 then some { x with z0n:=v } else if c=22 then some { x with z1c:=v } else none
theorem q00.zzv {α:Type} {p:Prop} [Decidable p] {a b:Option α} {s:α} (h:(if p then a else b)=some s):(p∧a=some s)∨(¬p∧b=some s):=by
 split at h
 ·exact .inl ⟨by assumption,h⟩
 ·exact .inr ⟨by assumption,h⟩
theorem q00.at_eq {x:q00} {c:Nat} {s:Z} (h:x.zg6 c=some s):z5z false 1 (List.take 1 (List.drop c x.v))=some (.str s):=by
 unfold q00.zg6 at h
 repeat (rcases q00.zzv h with ⟨rfl,h⟩|⟨-,h⟩; · cases h;rfl)
 cases h
theorem q00.zz00c {x x2:q00} {c:Nat} {v:Z} (h:x.setAt c v=some x2):stC x.v c 1 [.str v]=some x2.v:=by
 unfold q00.setAt at h
 repeat (rcases q00.zzv h with ⟨rfl,h⟩|⟨-,h⟩; · cases h;rfl)
 cases h
structure q04 where
 zh:Int
 z06:Z
 zk:List q04
 z08:List Z
mutual
def q04.enc:q04→List D
 | ⟨a0,a1,a2,a3⟩=>[D.int .i64 a0,D.str a1,D.sl 103 4 (q04.z45 a2),D.sl 9 1 (a3.map eS)]
def q04.z45:List q04→List (List D)
 | []=>[]
 | x::xs=>x.enc::q04.z45 xs
end
theorem q04.z1j:∀ l:List q04,q04.z45 l=l.map q04.enc
 | []=>rfl
 | x::xs=>by simp [q04.z45,q04.z1j xs]
theorem q04.z2b:∀ x:q04,q04.enc x=[D.int .i64 x.zh,D.str x.z06,D.sl 103 4 (q04.z45 x.zk),D.sl 9 1 (x.z08.map eS)]
 | ⟨a0,a1,a2,a3⟩=>by first|rfl|simp [q04.enc]
@[reducible] def q04.v (x:q04):List PV:=[.int .i64 x.zh,.str x.z06,.sl 103 4 (q04.z45 x.zk),.sl 9 1 (x.z08.map eS)]
@[reducible] def q04.d (x:q04):List D:=[.int .i64 x.zh,.str x.z06,.sl 103 4 (q04.z45 x.zk),.sl 9 1 (x.z08.map eS)]
structure q0b where
 zc4:Z
 z4e:Nat
 z9g:Z
 zi0:Bool
def q0b.enc:q0b→List D
 | ⟨a0,a1,a2,a3⟩=>[D.str a0,dfn a1,D.str a2,D.bool a3]
theorem q0b.z2b:∀ x:q0b,q0b.enc x=[D.str x.zc4,dfn x.z4e,D.str x.z9g,D.bool x.zi0]
 | ⟨a0,a1,a2,a3⟩=>by first|rfl|simp [q0b.enc]
@[reducible] def q0b.v (x:q0b):List PV:=[.str x.zc4,.fn x.z4e [] [],.str x.z9g,.bool x.zi0]
structure q0a where
 zhz:Int
 z5v:Z
 zc5:Z
 z63:Int
 z2o:Int
 z1h:List q0b
def q0a.enc:q0a→List D
 | ⟨a0,a1,a2,a3,a4,a5⟩=>[D.int .i64 a0,D.str a1,D.str a2,D.int .i64 a3,D.int .i64 a4,D.sl 179 4 (a5.map q0b.enc)]
theorem q0a.z2b:∀ x:q0a,q0a.enc x=[D.int .i64 x.zhz,D.str x.z5v,D.str x.zc5,D.int .i64 x.z63,D.int .i64 x.z2o,D.sl 179 4 (x.z1h.map q0b.enc)]
 | ⟨a0,a1,a2,a3,a4,a5⟩=>by first|rfl|simp [q0a.enc]
@[reducible] def q0a.v (x:q0a):List PV:=[.int .i64 x.zhz,.str x.z5v,.str x.zc5,.int .i64 x.z63,.int .i64 x.z2o,.sl 179 4 (x.z1h.map q0b.enc)]
@[reducible] def q0a.d (x:q0a):List D:=[.int .i64 x.zhz,.str x.z5v,.str x.zc5,.int .i64 x.z63,.int .i64 x.z2o,.sl 179 4 (x.z1h.map q0b.enc)]
structure q09 where
 gv:q04
@[reducible] def q09.v (x:q09):List PV:=[.int .i64 x.gv.zh,.str x.gv.z06,.sl 103 4 (q04.z45 x.gv.zk),.sl 9 1 (x.gv.z08.map eS)]
@[reducible] def q09.d (x:q09):List D:=[.int .i64 x.gv.zh,.str x.gv.z06,.sl 103 4 (q04.z45 x.gv.zk),.sl 9 1 (x.gv.z08.map eS)]
structure q08 where
 zo:q04
structure q0c where
 gs:Z
structure q0g where
 glo:Int
 ghi:Int
def q0g.enc:q0g→List D
 | ⟨a0,a1⟩=>[D.int .u8 a0,D.int .u8 a1]
@[reducible] def _root_.Go.Pe.PV.l3 (l:List Int):PV:=.sl 3 1 (l.map (eI .i64))
@[reducible] def _root_.Go.Pe.PV.l5 (l:List Int):PV:=.sl 5 1 (l.map (eI .u8))
@[reducible] def _root_.Go.Pe.PV.l9 (l:List Z):PV:=.sl 9 1 (l.map eS)
@[reducible] def _root_.Go.Pe.PV.l72 (l:List q05):PV:=.sl 72 2 (l.map q05.enc)
@[reducible] def _root_.Go.Pe.PV.zop (l:List q04):PV:=.sl 103 4 (q04.z45 l)
@[reducible] def _root_.Go.Pe.PV.zql (l:List q0a):PV:=.sl 112 6 (l.map q0a.enc)
@[reducible] def _root_.Go.Pe.PV.l123 (l:List q07):PV:=.sl 123 4 (l.map q07.enc)
@[reducible] def _root_.Go.Pe.PV.z8i (l:List q0b):PV:=.sl 179 4 (l.map q0b.enc)
@[reducible] def _root_.Go.Pe.PV.z34 (l:List q02):PV:=.sl 189 2 (l.map q02.enc)
@[reducible] def F.q2r:Nat:=155
@[reducible] def F.q1y:Nat:=156
@[reducible] def F.q1b:Nat:=157
@[reducible] def F.q1r:Nat:=158
@[reducible] def F.q1d:Nat:=160
@[reducible] def F.q12:Nat:=161
@[reducible] def F.q2l:Nat:=162
@[reducible] def F.q2o:Nat:=163
@[reducible] def F.q1a:Nat:=152
@[reducible] def F.q25:Nat:=164
@[reducible] def F.q2j:Nat:=165
@[reducible] def F.q16:Nat:=166
@[reducible] def F.q1s:Nat:=167
@[reducible] def F.q2t:Nat:=168
@[reducible] def F.q0z:Nat:=169
@[reducible] def F.q0y:Nat:=170
@[reducible] def F.q1g:Nat:=171
@[reducible] def F.q2k:Nat:=153
def utf8First:List Int:=(List.range 256).map fun c=>(Lib.firstT c:Int)
def ziu:List q0g:=(List.range 16).map fun i=>⟨(Lib.accLo i:Int),(Lib.accHi i:Int)⟩
def M.z3j (p0:List Int):Option Unit:=some ()
def M.z16 (p0:Z):Option Bool:=do
 let _←chk (decide (p0.length≤9223372036854775807))
 some (Lib.validD p0)
def M.zw (p0:List Int):Option Z:=do
 let _←chk (decide (unb (byt p0)=p0))
 some (byt p0)
def M.indexByte (p0:Z) (p1:Int):Option Int:=some (Lib.indexByte p0 p1.toNat.toUInt8)
def M.trimLeft (p0 p1:Z):Option Z:=do
 let _←chk (decide (p1.length<4294967281)&&p1.all fun b=>decide (b.toNat<128))
 some (Lib.trimLeftS p0 p1)
def M.trim (p0 p1:Z):Option Z:=do
 let _←chk (decide (p0.length≤9223372036854775807)&&(decide (p1.length<4294967281)&&p1.all fun b=>decide (b.toNat<128)))
 some (Lib.trimS p0 p1)
def M.atoi (p0:Z):Option (Int × Bool):=do
 let _←chk (decide (p0.length≤281474976710656))
 match Lib.atoiAll p0 with
 | .ok v=>some (v,true)
 | .range=>some (Lib.atoiSat p0,false)
 | _=>some (0,false)
def M.itoa (p0:Int):Option Z:=do
 let _←chk (decide (-9223372036854775808≤p0)&&decide (p0≤9223372036854775807))
 some (Lib.itoa p0)
def M.z4p (p0 p1:Z):Option Int:=do
 let _←chk (decide (p0.length<4294967281))
 some (Lib.index p0 p1)
def M.single (p0:List Z):Option Bool:=do
 let _←chk (decide (p0.length*16≤140737488355328))
 some (decide (((Lib.compact (p0.mergeSort fun x y=>decide (x≤y))).length:Int)=p0.length))
def M.join (p0:List Z) (p1:Z):Option Z:=do
 let _←chk (decide (p0.length≤140737488355328)&&decide ((Lib.join p0 p1).length≤140737488355328))
 some (Lib.join p0 p1)
def M.cut (p0 p1:Z):Option (Z × Z × Bool):=do
 let _←chk (decide (p0.length<4294967281))
 some (Lib.cut p0 p1)
def M.contains (p0 p1:Z):Option Bool:=do
 let _←chk (decide (p0.length<4294967281))
 some (Lib.contains p0 p1)
def zfa (s sep:Z):List Z:=(Lib.splitB ⟨sep.toArray⟩ 0 (Lib.countB ⟨s.toArray⟩ ⟨sep.toArray⟩) ⟨s.toArray⟩).map (·.data.toList)
def M.split (p0 p1:Z):Option (List Z):=do
 let _←chk (decide (p0.length<4294967281)&&decide (1≤p1.length))
 some (zfa p0 p1)
def M.containsAny (p0 p1:Z):Option Bool:=do
 let _←chk (decide (p0.length<4294967281)&&(p0.all (fun b=>decide (b.toNat<128))&&(decide (p1.length<4294967281)&&p1.all fun b=>decide (b.toNat<128))))
 some (Lib.containsAny p0 p1)
def M.replaceAll (p0 p1 p2:Z):Option Z:=do
 let _←chk (decide (p0.length<4294967281)&&(decide (p1.length=1)&&decide (p2.length=1)))
 some (Lib.replaceAll p0 p1 p2)
def zmv (c:Int):Int:=if 65≤c∧c≤90 then c+32 else c
def M.z4m (p1:Z):Option Z:=do
 let _←chk (decide (p1.length<35184372088832))
 some (Lib.mapD zmv p1)
def M.z0y (p0:Z) (p1:Int):Option Int:=some (Lib.idxFunc (fun r=>decide ((r:Int) % 256=p1)) true ⟨p0.toArray⟩)
def zz7 (n:Nat):Bool:=decide (n<33)||(decide (126<n)||(decide (n=34)||decide (n=92)))
def M.z2u (p0:Z):Option Bool:=some (decide (0≤Lib.idxFunc zz7 true ⟨p0.toArray⟩))
def M.q1f  (p0:Z):Option Int:=do
 let s1←sub p0 0 (minI (p0.length:Int) 8192)
 let a2←M.z4p s1 [13,10,13,10]
 if (decide (0≤a2)) then
  some (ya .i64 (a2+4))
 else
  some 0
def M.q1p  (p0:Bool) (p1:Int):Option (Rs Unit):=do
 if (!p0) then
  some (.pan p1)
 else
  some (.ok ())
def M.q1o  (p0:Z):Option Bool:=do
 let j6←(do
   if ((!decide (p0=[]))&&(decide ((p0.length:Int)≤8))) then
    let a7←M.trim p0 [65,66,67,68,69,70,71,72,73,74,75,76,77,78,79,80,81,82,83,84,85,86,87,88,89,90]
    some (decide (a7=[]))
   else
    some false:Option Bool)
 some j6
def M.q2z  (p0 p1:Z):Option Bool:=do
 let j3←(do
   if (decide ((p1.length:Int)≤(p0.length:Int))) then
    let s4←sub p0 0 (p1.length:Int)
    some (decide (s4=p1))
   else
    some false:Option Bool)
 some j3
def M.q73  (p0 p1:Z):Option Bool:=do
 let a1←M.q2z p0 p1
 some a1
def M.z3x (p0:Z) (p1:Int) (p2:Int) (x23:Int):Option (Jn Bool Unit):=do
 if (decide (x23<(p0.length:Int))) then
  let c29←ix p0 x23
  let j32←(do
    if (decide ((c29.toNat:Int)<p1)) then
     some true
    else
     let c33←ix p0 x23
     some (decide (p2<(c33.toNat:Int))):Option Bool)
  if j32 then
   some (.done false)
  else
   M.z3x p0 p1 p2 (ya .i64 (x23+1))
 else
  some (.go ())
 partial_fixpoint
def M.q1x  (p0:Z) (p1 p2:Int):Option Bool:=do
 let q17←(do
   M.z3x p0 p1 p2 0:Option (Jn Bool Unit))
 match q17 with
 | .done r=>some r
 | .go j17 =>
  some true
def M.q71  (p0:List Int) (p1:Z):Option (Int × (List Int)):=do
 let a1←M.z3j p0
 let l3←app 1 p0 (unb p1)
 some ((p1.length:Int),l3)
def M.q0o  (p0 p1:Z):Option (Int × Bool):=do
 if (decide ((p0.length:Int)<2)) then
  some (0,false)
 else
  let c1←ix p0 0
  let c2←ix p0 1
  let a3←M.z0y p1 (c1.toNat:Int)
  let a5←M.z0y p1 (c2.toNat:Int)
  some ((ya .u8 (orI .i64 (z5x .i64 (Int.tmod a3 16) 4) (Int.tmod a5 16))),((decide (0≤a3))&&(decide (0≤a5))))
def M.q70  (p0:List Int) (p1:Int):Option (List Int):=do
 let a1←M.z3j p0
 let l3←app 1 p0 [p1]
 some l3
def M.z1a (x22:Z) (x23:List Int):Option (Z × Int):=do
 let a45←M.cut x22 [37]
 let a47←M.q71 x23 a45.1
 if (!a45.2.2) then
  let a51←M.zw a47.2
  some (a51,0)
 else
  let a53←M.q0o a45.2.1 [48,49,50,51,52,53,54,55,56,57,97,98,99,100,101,102,95,95,95,95,95,95,95,95,95,95,65,66,67,68,69,70]
  let j59←(do
    if (!a53.2) then
     some true
    else
     let s60←sub a45.2.1 0 2
     let a61←M.containsAny s60 [95]
     some a61:Option Bool)
  if j59 then
   some ([],12)
  else
   let a63←M.q70 a47.2 a53.1
   let s65←sub a45.2.1 2 (a45.2.1.length:Int)
   M.z1a s65 a63
 partial_fixpoint
def M.q0l  (p0:Z):Option (Z × Int):=do
 M.z1a p0 ([]:List Int)
def M.z1l (a1:(List Z)) (x67:List q05) (x68:Int):Option (Jn ((List q05) × Int) (List q05)):=do
 if (decide (x68<(a1.length:Int))) then
  let x83←ix a1 x68
  if (decide (x83=[])) then
   some (.done ([],13))
  else
   let a84←M.replaceAll x83 [43] [32]
   let a86←M.cut a84 [61]
   let a88←M.q0l a86.1
   let a90←M.q0l a86.2.1
   if ((!decide (a88.2=0))||(!decide (a90.2=0))) then
    some (.done ([],12))
   else
    let l96←app 32 x67 [(q05.mk a88.1 a90.1)]
    M.z1l a1 l96 (ya .i64 (x68+1))
 else
  some (.go x67)
 partial_fixpoint
def M.q0k  (p0:Z):Option ((List q05) × Int):=do
 let a1←M.split p0 [38]
 if ((decide (8192<(p0.length:Int)))||(decide (64<(a1.length:Int)))) then
  some ([],14)
 else
  if (decide (p0=[])) then
   some ([],0)
  else
   let q52←(do
     M.z1l a1 [] 0:Option (Jn ((List q05) × Int) (List q05)))
   match q52 with
   | .done r=>some r
   | .go j52 =>
    some (j52,0)
def M.z30 (a71:(List Z)) (x81:Int) (x82:List Z):Option (Jn (Rs q03) (List Z)):=do
 if (decide (x81<(a71.length:Int))) then
  let x91←ix a71 x81
  let a92←M.q0l x91
  let a94←M.q1p (decide (a92.2=0)) 220
  match a94 with
  | .pan e97 =>
   some (.done (.pan e97))
  | .ok a96 =>
   let l98←app 16 x82 [a92.1]
   M.z30 a71 (ya .i64 (x81+1)) l98
 else
  some (.go x82)
 partial_fixpoint
def M.q2q  (p0:Z):Option (Rs q03):=do
 let a1←M.split p0 [32]
 let j7←(do
   if (decide ((a1.length:Int)=3)) then
    let x8←ix a1 0
    let a9←M.q1o x8
    some a9
   else
    some false:Option Bool)
 let j13←(do
   if j7 then
    let x14←ix a1 2
    some (decide (x14=[72,84,84,80,47,49,46,49]))
   else
    some false:Option Bool)
 let j19←(do
   if j13 then
    let x20←ix a1 1
    let a21←M.q73 x20 [47]
    some a21
   else
    some false:Option Bool)
 let j27←(do
   if j19 then
    let x28←ix a1 1
    let a29←M.q1x x28 33 126
    some a29
   else
    some false:Option Bool)
 let a31←M.q1p j27 220
 match a31 with
 | .pan e34 =>
  some (.pan e34)
 | .ok a33 =>
  let x35←ix a1 0
  let x36←ix a1 1
  let a37←M.cut x36 [63]
  let q69←(do
    let s70←sub a37.1 1 (a37.1.length:Int)
    let a71←M.split s70 [47]
    M.z30 a71 0 []:Option (Jn (Rs q03) (List Z)))
  match q69 with
  | .done r=>some r
  | .go j69 =>
   let a99←M.q0k a37.2.1
   let a103←M.q1p ((decide (a99.2=0))&&(decide ((j69.length:Int)≤64))) 220
   match a103 with
   | .pan e106 =>
    some (.pan e106)
   | .ok a105 =>
    some (.ok (q03.mk x35 j69 a99.1 ([]:List q05) []))
def M.q1q  (p0:Z):Option Bool:=do
 let j6←(do
   if ((!decide (p0=[]))&&(decide ((p0.length:Int)≤32))) then
    let a7←M.trim p0 [97,98,99,100,101,102,103,104,105,106,107,108,109,110,111,112,113,114,115,116,117,118,119,120,121,122,48,49,50,51,52,53,54,55,56,57,45]
    some (decide (a7=[]))
   else
    some false:Option Bool)
 some j6
def M.q2s  (p0:Z):Option Bool:=do
 let a1←M.q1x p0 32 126
 let j6←(do
   if a1 then
    let a7←M.trim p0 [32]
    some (decide (a7=p0))
   else
    some false:Option Bool)
 some j6
def M.q1t  (p0:Z) (p1:Int):Option (Int × Bool):=do
 let a1←M.atoi p0
 let j10←(do
   if ((a1.2&&(decide ((p0.length:Int)≤p1)))&&(decide (0≤a1.1))) then
    let a11←M.itoa a1.1
    some (decide (a11=p0))
   else
    some false:Option Bool)
 some (a1.1,j10)
def M.z1u (l145:List Z) (x184:Int) (x185:Int) (x186:List q05) (x187:List (Z × Bool)):Option (Jn (q03 × Int × Int) (Int × (List q05) × (List (Z × Bool)))):=do
 if (decide (x185<(l145.length:Int))) then
  let x226←ix l145 x185
  let a227←M.q1p (decide (x185<32)) 222
  match a227 with
  | .pan e230 =>
   some (.done ((q03.mk [] [] [] [] []),0,e230))
  | .ok a229 =>
   let a231←M.cut x226 [58]
   let a233←M.z4m a231.1
   let a235←M.trim a231.2.1 [32]
   let j240←(do
     if a231.2.2 then
      let a241←M.q1q a233
      some a241
     else
      some false:Option Bool)
   let j246←(do
     if j240 then
      let a247←M.q2s a235
      some a247
     else
      some false:Option Bool)
   let j250←(do
     if j246 then
      some (!(z62 x187 a233 false))
     else
      some false:Option Bool)
   let a251←M.q1p j250 220
   match a251 with
   | .pan e254 =>
    some (.done ((q03.mk [] [] [] [] []),0,e254))
   | .ok a253 =>
    let m255←some (z36 x187 a233 true)
    if (!decide (a233=[99,111,110,116,101,110,116,45,108,101,110,103,116,104])) then
     let l257←app 32 x186 [(q05.mk a233 a235)]
     M.z1u l145 x184 (ya .i64 (x185+1)) l257 m255
    else
     let a258←M.q1t a235 9
     let a260←M.q1p a258.2 220
     match a260 with
     | .pan e263 =>
      some (.done ((q03.mk [] [] [] [] []),0,e263))
     | .ok a262 =>
      M.z1u l145 a258.1 (ya .i64 (x185+1)) x186 m255
 else
  some (.go (x184,x186,x187))
 partial_fixpoint
def M.q0s  (p0:Z):Option (q03 × Int × Int):=do
 let a1←M.q1f p0
 let a5←M.q1p ((decide (0<a1))||(decide ((p0.length:Int)<8192))) 222
 match a5 with
 | .pan e8 =>
  some ((q03.mk [] [] [] [] []),0,e8)
 | .ok a7 =>
  let a9←M.q1p (decide (0<a1)) 223
  match a9 with
  | .pan e12 =>
   some ((q03.mk [] [] [] [] []),0,e12)
  | .ok a11 =>
   let s13←sub p0 0 (ya .i64 (a1 - 4))
   let a14←M.split s13 [13,10]
   let x16←ix a14 0
   let a17←M.q2q x16
   match a17 with
   | .pan e20 =>
    some ((q03.mk [] [] [] [] []),0,e20)
   | .ok a19 =>
    let m21←some (z36 ([]:List (Z × Bool)) [116,114,97,110,115,102,101,114,45,101,110,99,111,100,105,110,103] true)
    let q144←(do
      let l145←sub a14 1 (a14.length:Int)
      M.z1u l145 0 0 a19.z0j m21:Option (Jn (q03 × Int × Int) (Int × (List q05) × (List (Z × Bool)))))
    match q144 with
    | .done r=>some r
    | .go j144 =>
     let a264←M.q1p (z62 j144.2.2 [104,111,115,116] false) 220
     match a264 with
     | .pan e267 =>
      some ((q03.mk [] [] [] [] []),0,e267)
     | .ok a266 =>
      let a268←M.q1p (decide (j144.1≤16384)) 221
      match a268 with
      | .pan e271 =>
       some ((q03.mk [] [] [] [] []),0,e271)
      | .ok a270 =>
       let a272←M.q1p (decide (j144.1≤(ya .i64 ((p0.length:Int) - a1)))) 223
       match a272 with
       | .pan e275 =>
        some ((q03.mk [] [] [] [] []),0,e275)
       | .ok a274 =>
        let s276←sub p0 a1 (ya .i64 (a1+j144.1))
        some ((q03.mk a19.zx a19.z05 a19.z0p j144.2.1 s276),(ya .i64 (a1+j144.1)),0)
def M.q5s_k1 (p0:Z) (x23:Int):Option (Jn Int Unit):=do
 if ((decide (x23≤(p0.length:Int)))&&(decide (x23≤8192))) then
  let s33←sub p0 (ya .i64 (x23 - 4)) x23
  if (decide (s33=[13,10,13,10])) then
   some (.done x23)
  else
   M.q5s_k1 p0 (ya .i64 (x23+1))
 else
  some (.go ())
 partial_fixpoint
def M.q5s  (p0:Z):Option Int:=do
 let q17←(do
   M.q5s_k1 p0 4:Option (Jn Int Unit))
 match q17 with
 | .done r=>some r
 | .go j17 =>
  some 0
def M.q1w  (p0:Z) (p1:Nat):Option q0b:=do
 some (q0b.mk p0 p1 [] false)
def M.q2u  (p0:Z) (p1:Nat):Option q0b:=do
 some (q0b.mk p0 p1 [] true)
def M.q1i  (p0 p1:Z):Option q0b:=do
 some (q0b.mk p0 NF p1 false)
def M.q2f  (p0:Z) (p1:List q0b):Option (List q0b):=do
 let a1←M.q1w [99,108,105,101,110,116,95,105,100] F.q1a
 let a3←M.q1w [99,108,105,101,110,116,95,115,101,99,114,101,116] F.q2k
 if (!decide (p0=[])) then
  let a5←M.q1i [103,114,97,110,116,95,116,121,112,101] p0
  let l7←app 48 [a5] [a1,a3]
  let l8←app 48 l7 p1
  some l8
 else
  let l9←app 48 [a1,a3] p1
  some l9
def M.q2e  : Option (List q0a):=do
 let a1←M.q1w [117,115,101,114] F.q2r
 let a3←M.q1w [112,97,115,115] F.q1y
 let a5←M.q1w [99,111,100,101] F.q1b
 let a7←M.q1w [107,101,121] F.q1r
 let a9←M.q2u [100,97,116,97] F.q1d
 let a11←M.q2u [99,108,105,101,110,116] F.q12
 let a13←M.q2u [115,105,103] F.q2l
 let a15←M.q2u [100,97,116,97] F.q1d
 let a17←M.q1w [117,115,101,114] F.q2r
 let a19←M.q1w [116,111,107,101,110] F.q2o
 let a21←M.q1w [112,97,115,115] F.q1y
 let a23←M.q1i [114,101,115,112,111,110,115,101,95,116,121,112,101] [99,111,100,101]
 let a25←M.q1w [99,108,105,101,110,116,95,105,100] F.q1a
 let a27←M.q1w [114,101,100,105,114,101,99,116,95,117,114,105] F.q25
 let a29←M.q1w [115,99,111,112,101] F.q2j
 let a31←M.q1i [99,111,100,101,95,99,104,97,108,108,101,110,103,101,95,109,101,116,104,111,100] [83,50,53,54]
 let a33←M.q1w [99,111,100,101,95,99,104,97,108,108,101,110,103,101] F.q16
 let a35←M.q1w [110,111,110,99,101] F.q1s
 let a37←M.q1w [99,111,100,101] F.q1b
 let a39←M.q1w [114,101,100,105,114,101,99,116,95,117,114,105] F.q25
 let a41←M.q1w [99,111,100,101,95,118,101,114,105,102,105,101,114] F.q2t
 let a43←M.q2f [97,117,116,104,111,114,105,122,97,116,105,111,110,95,99,111,100,101] [a37,a39,a41]
 let a45←M.q1w [115,99,111,112,101] F.q2j
 let a47←M.q1w [97,117,100,105,101,110,99,101] F.q0z
 let a49←M.q2f [99,108,105,101,110,116,95,99,114,101,100,101,110,116,105,97,108,115] [a45,a47]
 let a51←M.q1w [114,101,102,114,101,115,104,95,116,111,107,101,110] F.q2o
 let a53←M.q1w [115,99,111,112,101] F.q2j
 let a55←M.q2f [114,101,102,114,101,115,104,95,116,111,107,101,110] [a51,a53]
 let a57←M.q1w [115,117,98,106,101,99,116,95,116,111,107,101,110] F.q2o
 let a59←M.q1w [97,99,116,111,114,95,116,111,107,101,110] F.q0y
 let a61←M.q1w [115,99,111,112,101] F.q2j
 let a63←M.q1w [97,117,100,105,101,110,99,101] F.q0z
 let a65←M.q2f [117,114,110,58,105,101,116,102,58,112,97,114,97,109,115,58,111,97,117,116,104,58,103,114,97,110,116,45,116,121,112,101,58,116,111,107,101,110,45,101,120,99,104,97,110,103,101] [a57,a59,a61,a63]
 let a67←M.q1w [116,111,107,101,110] F.q2o
 let a69←M.q2f [] [a67]
 let a71←M.q1w [116,111,107,101,110] F.q2o
 let a73←M.q2f [] [a71]
 let a75←M.q1w [102,105,108,116,101,114] F.q1g
 let a77←M.q1i [115,116,97,114,116,73,110,100,101,120] [78]
 let a79←M.q1i [99,111,117,110,116] [78]
 let a81←M.q1w [110,97,109,101] F.q1r
 let a83←M.q1w [112,97,115,115] F.q1y
 some [(q0a.mk 1 [80,79,83,84] [47,108,111,103,105,110] 0 1 [a1,a3]),(q0a.mk 2 [80,79,83,84] [47,108,111,103,105,110,47,99,111,100,101] 1 1 [a5]),(q0a.mk 3 [80,79,83,84] [47,108,111,103,105,110,47,107,101,121] 1 1 [a7,a9,a11,a13]),(q0a.mk 4 [80,79,83,84] [47,101,110,114,111,108,47,99,111,100,101] 1 1 []),(q0a.mk 5 [80,79,83,84] [47,101,110,114,111,108,47,107,101,121] 1 1 [a15]),(q0a.mk 6 [80,79,83,84] [47,99,104,97,108,108,101,110,103,101] 1 1 []),(q0a.mk 7 [80,79,83,84] [47,108,111,103,111,117,116] 1 1 []),(q0a.mk 8 [80,79,83,84] [47,102,111,114,103,111,116] 0 1 [a17]),(q0a.mk 9 [80,79,83,84] [47,114,101,115,101,116] 0 1 [a19,a21]),(q0a.mk 10 [71,69,84] [47,97,117,116,104,111,114,105,122,101] 1 2 [a23,a25,a27,a29,a31,a33,a35]),(q0a.mk 11 [80,79,83,84] [47,116,111,107,101,110] 0 1 a43),(q0a.mk 12 [80,79,83,84] [47,116,111,107,101,110] 0 1 a49),(q0a.mk 13 [80,79,83,84] [47,116,111,107,101,110] 0 1 a55),(q0a.mk 14 [80,79,83,84] [47,116,111,107,101,110] 0 1 a65),(q0a.mk 15 [80,79,83,84] [47,114,101,118,111,107,101] 0 1 a69),(q0a.mk 16 [80,79,83,84] [47,105,110,116,114,111,115,112,101,99,116] 0 1 a73),(q0a.mk 17 [71,69,84] [47,117,115,101,114,105,110,102,111] 2 0 []),(q0a.mk 18 [71,69,84] [47,107,101,121,115] 0 0 []),(q0a.mk 19 [71,69,84] [47,115,99,105,109,47,79,70] 2 2 [a75,a77,a79]),(q0a.mk 20 [71,69,84] [47,115,99,105,109,47,79,70,47,78,65,77,69] 2 0 []),(q0a.mk 21 [80,79,83,84] [47,115,99,105,109,47,79,70] 2 3 []),(q0a.mk 22 [80,65,84,67,72] [47,115,99,105,109,47,79,70,47,78,65,77,69] 6 4 []),(q0a.mk 23 [68,69,76,69,84,69] [47,115,99,105,109,47,79,70,47,78,65,77,69] 6 0 []),(q0a.mk 24 [80,79,83,84] [47,97,100,109,105,110,47,112,97,115,115,119,111,114,100] 2 1 [a81,a83]),(q0a.mk 25 [80,79,83,84] [47,97,100,109,105,110,47,116,117,114,110] 2 1 [])]
def M.z0w (p1:List Z) (a2:(List Z)) (p2:q00) (x50:Int) (x51:Z) (x52:Z):Option (Jn (Bool × q00) (Z × Z)):=do
 if (decide (x50<(p1.length:Int))) then
  let x63←ix p1 x50
  let x64←ix a2 x50
  if ((decide (x64=[79,70]))&&(!decide (x63=[]))) then
   M.z0w p1 a2 p2 (ya .i64 (x50+1)) x63 x52
  else
   let x67←ix a2 x50
   if (decide (x67=[78,65,77,69])) then
    M.z0w p1 a2 p2 (ya .i64 (x50+1)) x51 x63
   else
    let x68←ix a2 x50
    let j71←(do
      if (!decide (x68=x63)) then
       some true
      else
       let x72←ix a2 x50
       some (decide (x72=[79,70])):Option Bool)
    if j71 then
     some (.done (false,(q00.mk p2.zh x51 p2.z2q p2.z2p p2.z09 p2.z19 p2.z1d p2.z1g p2.z00 p2.z0o p2.z02 p2.z07 p2.z01 p2.zv p2.z03 p2.z0f x52 p2.z2z p2.zt p2.z6e p2.z5k p2.z0n p2.z1c p2.zi p2.z2l p2.z11)))
    else
     M.z0w p1 a2 p2 (ya .i64 (x50+1)) x51 x52
 else
  some (.go (x51,x52))
 partial_fixpoint
def M.q28  (p0:q0a) (p1:List Z) (p2:q00):Option (Bool × q00):=do
 let s1←sub p0.zc5 1 (p0.zc5.length:Int)
 let a2←M.split s1 [47]
 if (!decide ((a2.length:Int)=(p1.length:Int))) then
  some (false,p2)
 else
  let q39←(do
    M.z0w p1 a2 p2 0 p2.gOf p2.zu:Option (Jn (Bool × q00) (Z × Z)))
  match q39 with
  | .done r=>some r
  | .go j39 =>
   some (true,(q00.mk p2.zh j39.1 p2.z2q p2.z2p p2.z09 p2.z19 p2.z1d p2.z1g p2.z00 p2.z0o p2.z02 p2.z07 p2.z01 p2.zv p2.z03 p2.z0f j39.2 p2.z2z p2.zt p2.z6e p2.z5k p2.z0n p2.z1c p2.zi p2.z2l p2.z11))
def M.z2t (p0:List q05) (p1:Z) (x15:Z) (x16:Int) (x17:Int):Option (Z × Int):=do
 if (decide (0≤x17)) then
  let x20←ix p0 x17
  if (decide (x20.zu=p1)) then
   let x21←ix p0 x17
   M.z2t p0 p1 x21.z1t (ya .i64 (x16+1)) (ya .i64 (x17 - 1))
  else
   M.z2t p0 p1 x15 x16 (ya .i64 (x17 - 1))
 else
  some (x15,x16)
 partial_fixpoint
def M.q0m  (p0:List q05) (p1:Z):Option (Z × Int):=do
 let j12←(do
   M.z2t p0 p1 [] 0 (ya .i64 ((p0.length:Int) - 1)):Option (Z × Int))
 some (j12.1,j12.2)
def M.q1h  (p0:List q05) (p1:Z):Option (Z × Bool):=do
 let a1←M.q0m p0 p1
 some (a1.1,(decide (0<a1.2)))
def M.q2y  (p0 p1:Z):Option (Z × Bool):=do
 let a3←M.q2z p0 p1
 if (!a3) then
  some (p0,false)
 else
  let s5←sub p0 (p1.length:Int) (p0.length:Int)
  some (s5,true)
def M.q72  (p0 p1:Z):Option (Z × Bool):=do
 let a1←M.q2y p0 p1
 some (a1.1,a1.2)
def M.z2g (a22:(List Z)) (x29:Int):Option (Jn Z Unit):=do
 if (decide (x29<(a22.length:Int))) then
  let x35←ix a22 x29
  let a36←M.trim x35 [32]
  let a38←M.q72 a36 [115,101,115,115,105,111,110,61]
  if a38.2 then
   some (.done a38.1)
  else
   M.z2g a22 (ya .i64 (x29+1))
 else
  some (.go ())
 partial_fixpoint
def M.q1c  (p0:List q05):Option Z:=do
 let a1←M.q1h p0 [99,111,111,107,105,101]
 let q21←(do
   let a22←M.split a1.1 [59]
   M.z2g a22 0:Option (Jn Z Unit))
 match q21 with
 | .done r=>some r
 | .go j21 =>
  some []
def M.q2b  (p0:q0a) (p1:List q05) (p2:q00):Option (Rb q00 q00):=do
 let q18←(do
   if (!decide ((z7w .i64 p0.z63 1)=0)) then
    let a19←M.q1c p1
    let a21←M.trim a19 [65,66,67,68,69,70,71,72,73,74,75,76,77,78,79,80,81,82,83,84,85,86,87,88,89,90,97,98,99,100,101,102,103,104,105,106,107,108,109,110,111,112,113,114,115,116,117,118,119,120,121,122,48,49,50,51,52,53,54,55,56,57,45,95]
    let a23←M.q1p (decide (a21=[])) 227
    match a23 with
    | .pan e26 =>
     some (.done (.pan e26 (q00.mk p2.zh p2.gOf p2.z2q p2.z2p a19 p2.z19 p2.z1d p2.z1g p2.z00 p2.z0o p2.z02 p2.z07 p2.z01 p2.zv p2.z03 p2.z0f p2.zu p2.z2z p2.zt p2.z6e p2.z5k p2.z0n p2.z1c p2.zi p2.z2l p2.z11)))
    | .ok a25 =>
     some (.go a19)
   else
    some (.go p2.z09):Option (Jn (Rb q00 q00) Z))
 match q18 with
 | .done r=>some r
 | .go j18 =>
  let q60←(do
    let a61←M.q1h p1 [97,117,116,104,111,114,105,122,97,116,105,111,110]
    if (a61.2&&(!decide ((z7w .i64 p0.z63 2)=0))) then
     let a65←M.q72 a61.1 [66,101,97,114,101,114,32]
     let j70←(do
       if a65.2 then
        let a71←M.q1x a65.1 33 126
        some a71
       else
        some false:Option Bool)
     let a73←M.q1p j70 227
     match a73 with
     | .pan e76 =>
      some (.done (.pan e76 (q00.mk p2.zh p2.gOf p2.z2q p2.z2p j18 p2.z19 p2.z1d p2.z1g p2.z00 p2.z0o p2.z02 p2.z07 p2.z01 p2.zv p2.z03 p2.z0f p2.zu p2.z2z p2.zt p2.z6e p2.z5k p2.z0n p2.z1c p2.zi p2.z2l p2.z11)))
     | .ok a75 =>
      some (.go a65.1)
    else
     some (.go p2.z1d):Option (Jn (Rb q00 q00) Z))
  match q60 with
  | .done r=>some r
  | .go j60 =>
   let a77←M.q1h p1 [105,102,45,109,97,116,99,104]
   if (a77.2&&(!decide ((z7w .i64 p0.z63 4)=0))) then
    let j83←(do
      if (decide (2≤(a77.1.length:Int))) then
       let c84←ix a77.1 0
       some (decide ((c84.toNat:Int)=34))
      else
       some false:Option Bool)
    let j87←(do
      if j83 then
       let c88←ix a77.1 (ya .i64 ((a77.1.length:Int) - 1))
       some (decide ((c88.toNat:Int)=34))
      else
       some false:Option Bool)
    let a89←M.q1p j87 227
    match a89 with
    | .pan e92 =>
     some (.pan e92 (q00.mk p2.zh p2.gOf p2.z2q p2.z2p j18 p2.z19 j60 p2.z1g p2.z00 p2.z0o p2.z02 p2.z07 p2.z01 p2.zv p2.z03 p2.z0f p2.zu p2.z2z p2.zt p2.z6e p2.z5k p2.z0n p2.z1c p2.zi p2.z2l p2.z11))
    | .ok a91 =>
     let s93←sub a77.1 1 (ya .i64 ((a77.1.length:Int) - 1))
     let a94←M.q1x s93 33 126
     let j99←(do
       if a94 then
        let a100←M.contains s93 [34]
        some (!a100)
       else
        some false:Option Bool)
     let a102←M.q1p j99 227
     match a102 with
     | .pan e105 =>
      some (.pan e105 (q00.mk p2.zh p2.gOf p2.z2q p2.z2p j18 p2.z19 j60 p2.z1g p2.z00 p2.z0o p2.z02 p2.z07 p2.z01 p2.zv p2.z03 p2.z0f p2.zu p2.z2z p2.zt p2.z6e s93 p2.z0n p2.z1c p2.zi p2.z2l p2.z11))
     | .ok a104 =>
      some (.ok (q00.mk p2.zh p2.gOf p2.z2q p2.z2p j18 p2.z19 j60 p2.z1g p2.z00 p2.z0o p2.z02 p2.z07 p2.z01 p2.zv p2.z03 p2.z0f p2.zu p2.z2z p2.zt p2.z6e s93 p2.z0n p2.z1c p2.zi p2.z2l p2.z11))
   else
    some (.ok (q00.mk p2.zh p2.gOf p2.z2q p2.z2p j18 p2.z19 j60 p2.z1g p2.z00 p2.z0o p2.z02 p2.z07 p2.z01 p2.zv p2.z03 p2.z0f p2.zu p2.z2z p2.zt p2.z6e p2.z5k p2.z0n p2.z1c p2.zi p2.z2l p2.z11))
def M.q2a  (p0:q0b) (p1:q05):Option Bool:=do
 some (decide (p0.zc4=p1.zu))
def M.zg (p0:List q0b) (p1:q05) (x15:Int):Option (Jn Int Unit):=do
 if (decide (x15<(p0.length:Int))) then
  let x19←ix p0 x15
  let a20←M.q2a x19 p1
  if a20 then
   some (.done x15)
  else
   M.zg p0 p1 (ya .i64 (x15+1))
 else
  some (.go ())
 partial_fixpoint
def M.q6v  (p0:List q0b) (p1:q05):Option Int:=do
 let q11←(do
   M.zg p0 p1 0:Option (Jn Int Unit))
 match q11 with
 | .done r=>some r
 | .go j11 =>
  some (-1)
def M.q6q  (p0:List q0b) (p1:q05):Option Bool:=do
 let a1←M.q6v p0 p1
 some (decide (0≤a1))
def M.q2p  (p0:q0b) (p1:q00):Option Nat:=do
 if (!decide (p0.z9g=[78])) then
  some 1000000
 else
  if (decide (p0.zc4=[99,111,117,110,116])) then
   some 25
  else
   some 24
def M.z0u (p0:Z) (x25:List Int) (x26:Int) (x27:Int) (x28:Int):Option (Jn (Z × Int) ((List Int) × Int × Int)):=do
 if (decide (x28<((unb p0).length:Int))) then
  let x33←ix (unb p0) x28
  let a34←M.z0y [65,66,67,68,69,70,71,72,73,74,75,76,77,78,79,80,81,82,83,84,85,86,87,88,89,90,97,98,99,100,101,102,103,104,105,106,107,108,109,110,111,112,113,114,115,116,117,118,119,120,121,122,48,49,50,51,52,53,54,55,56,57,45,95] x33
  if (decide (a34<0)) then
   some (.done ([],11))
  else
   if (decide (8≤(ya .i64 (x27+6)))) then
    let _←chk (decide (0≤(ya .i64 ((ya .i64 (x27+6)) - 8))))
    let l36←app 1 x25 [(ya .u8 (zg5 .i64 (orI .i64 (z5x .i64 x26 6) a34) (ya .i64 ((ya .i64 (x27+6)) - 8))))]
    let _←chk (decide (0≤(ya .i64 ((ya .i64 (x27+6)) - 8))))
    M.z0u p0 l36 (z7w .i64 (orI .i64 (z5x .i64 x26 6) a34) (ya .i64 ((z5x .i64 1 (ya .i64 ((ya .i64 (x27+6)) - 8))) - 1))) (ya .i64 ((ya .i64 (x27+6)) - 8)) (ya .i64 (x28+1))
   else
    M.z0u p0 x25 (orI .i64 (z5x .i64 x26 6) a34) (ya .i64 (x27+6)) (ya .i64 (x28+1))
 else
  some (.go (x25,x26,x27))
 partial_fixpoint
def M.q0j  (p0:Z):Option (Z × Int):=do
 let q20←(do
   let _←chk (decide (p0.length≤9223372036854775807))
   M.z0u p0 [] 0 0 0:Option (Jn (Z × Int) ((List Int) × Int × Int)))
 match q20 with
 | .done r=>some r
 | .go j20 =>
  if ((decide (6≤j20.2.2))||(!decide (j20.2.1=0))) then
   some ([],11)
  else
   some ((byt j20.1),0)
def M.q2r  (p0:q00):Option Nat:=do
 some 2
def M.q1y  (p0:q00):Option Nat:=do
 some 3
def M.q1b  (p0:q00):Option Nat:=do
 some 5
def M.q1r  (p0:q00):Option Nat:=do
 some 16
def M.q1d  (p0:q00):Option Nat:=do
 some 17
def M.q12  (p0:q00):Option Nat:=do
 some 18
def M.q2l  (p0:q00):Option Nat:=do
 some 19
def M.q2o  (p0:q00):Option Nat:=do
 some 6
def M.q1a  (p0:q00):Option Nat:=do
 some 8
def M.q25  (p0:q00):Option Nat:=do
 some 10
def M.q2j  (p0:q00):Option Nat:=do
 some 11
def M.q16  (p0:q00):Option Nat:=do
 some 13
def M.q1s  (p0:q00):Option Nat:=do
 some 15
def M.q2t  (p0:q00):Option Nat:=do
 some 14
def M.q0z  (p0:q00):Option Nat:=do
 some 12
def M.q0y  (p0:q00):Option Nat:=do
 some 7
def M.q1g  (p0:q00):Option Nat:=do
 some 21
def M.q2k  (p0:q00):Option Nat:=do
 some 9
def M.q0q (p0:Nat) (p1:q00):Option Nat :=
 if p0=F.q2r then M.q2r p1
 else if p0=F.q1y then M.q1y p1
 else if p0=F.q1b then M.q1b p1
 else if p0=F.q1r then M.q1r p1
 else if p0=F.q1d then M.q1d p1
 else if p0=F.q12 then M.q12 p1
 else if p0=F.q2l then M.q2l p1
 else if p0=F.q2o then M.q2o p1
 else if p0=F.q1a then M.q1a p1
 else if p0=F.q25 then M.q25 p1
 else if p0=F.q2j then M.q2j p1
 else if p0=F.q16 then M.q16 p1
 else if p0=F.q1s then M.q1s p1
 else if p0=F.q2t then M.q2t p1
 else if p0=F.q0z then M.q0z p1
 else if p0=F.q0y then M.q0y p1
 else if p0=F.q1g then M.q1g p1
 else if p0=F.q2k then M.q2k p1
 else none
def M.z1s (p1:List q05) (p0:q0a) (p2:q00) (x55:Int):Option (Jn (Rb q00 q00) Unit):=do
 if (decide (x55<(p1.length:Int))) then
  let x69←ix p1 x55
  let a70←M.q0m p1 x69.zu
  let j75←(do
    if (decide (a70.2=1)) then
     let a76←M.q6q p0.z1h x69
     some a76
    else
     some false:Option Bool)
  let a78←M.q1p j75 227
  match a78 with
  | .pan e81 =>
   some (.done (.pan e81 p2))
  | .ok a80 =>
   M.z1s p1 p0 p2 (ya .i64 (x55+1))
 else
  some (.go ())
 partial_fixpoint
def M.z0i (p0:q0a) (p1:List q05) (x117:Int) (x118:q00):Option (Rb q00 q00):=do
 if (decide (x117<(p0.z1h.length:Int))) then
  let x154←ix p0.z1h x117
  let a155←M.q1h p1 x154.zc4
  let a157←M.q2p x154 x118
  if a157=24 then
   if (!decide (a155.1=[])) then
    let a159←M.q1t a155.1 9
    let a161←M.q1p a159.2 227
    match a161 with
    | .pan e164 =>
     some (.pan e164 (q00.mk x118.zh x118.gOf x118.z2q x118.z2p x118.z09 x118.z19 x118.z1d x118.z1g x118.z00 x118.z0o x118.z02 x118.z07 x118.z01 x118.zv x118.z03 x118.z0f x118.zu x118.z2z x118.zt x118.z6e x118.z5k x118.z0n x118.z1c x118.zi a159.1 x118.z11))
    | .ok a163 =>
     M.z0i p0 p1 (ya .i64 (x117+1)) (q00.mk x118.zh x118.gOf x118.z2q x118.z2p x118.z09 x118.z19 x118.z1d x118.z1g x118.z00 x118.z0o x118.z02 x118.z07 x118.z01 x118.zv x118.z03 x118.z0f x118.zu x118.z2z x118.zt x118.z6e x118.z5k x118.z0n x118.z1c x118.zi a159.1 x118.z11)
   else
    M.z0i p0 p1 (ya .i64 (x117+1)) x118
  else
   if a157=25 then
    if (!decide (a155.1=[])) then
     let a165←M.q1t a155.1 9
     let a167←M.q1p a165.2 227
     match a167 with
     | .pan e170 =>
      some (.pan e170 (q00.mk x118.zh x118.gOf x118.z2q x118.z2p x118.z09 x118.z19 x118.z1d x118.z1g x118.z00 x118.z0o x118.z02 x118.z07 x118.z01 x118.zv x118.z03 x118.z0f x118.zu x118.z2z x118.zt x118.z6e x118.z5k x118.z0n x118.z1c x118.zi x118.z2l a165.1))
     | .ok a169 =>
      M.z0i p0 p1 (ya .i64 (x117+1)) (q00.mk x118.zh x118.gOf x118.z2q x118.z2p x118.z09 x118.z19 x118.z1d x118.z1g x118.z00 x118.z0o x118.z02 x118.z07 x118.z01 x118.zv x118.z03 x118.z0f x118.zu x118.z2z x118.zt x118.z6e x118.z5k x118.z0n x118.z1c x118.zi x118.z2l a165.1)
    else
     M.z0i p0 p1 (ya .i64 (x117+1)) x118
   else
    if a157=1000000 then
     if (Nat.beq x154.z4e NF) then
      let a173←M.q1p (a155.2&&(decide (a155.1=x154.z9g))) 227
      match a173 with
      | .pan e176 =>
       some (.pan e176 x118)
      | .ok a175 =>
       M.z0i p0 p1 (ya .i64 (x117+1)) x118
     else
      if x154.zi0 then
       let a177←M.q0j a155.1
       let a179←M.q1p (decide (a177.2=0)) 227
       match a179 with
       | .pan e182 =>
        some (.pan e182 x118)
       | .ok a181 =>
        let a183←M.q0q x154.z4e x118
        let x185←q00.setAt x118 a183 a177.1
        M.z0i p0 p1 (ya .i64 (x117+1)) x185
      else
       let a186←M.q0q x154.z4e x118
       let x188←q00.setAt x118 a186 a155.1
       M.z0i p0 p1 (ya .i64 (x117+1)) x188
    else
     none
 else
  some (.ok x118)
 partial_fixpoint
def M.q29  (p0:q0a) (p1:List q05) (p2:q00):Option (Rb q00 q00):=do
 let q41←(do
   M.z1s p1 p0 p2 0:Option (Jn (Rb q00 q00) Unit))
 match q41 with
 | .done r=>some r
 | .go j41 =>
  M.z0i p0 p1 0 p2
def M.q3h  (p0:q0c):Option q0c:=do
 let a1←M.trimLeft p0.gs [32,9,10,13]
 some (q0c.mk a1)
def M.q3e  (p0:Bool) (p1:Int):Option (Rs Unit):=do
 if (!p0) then
  some (.pan p1)
 else
  some (.ok ())
def M.q3k  (p0:q0c) (p1:Z):Option (Bool × q0c):=do
 let a1←M.q72 p0.gs p1
 if a1.2 then
  let a3←M.q3h (q0c.mk a1.1)
  some (a1.2,a3)
 else
  some (a1.2,p0)
def M.q2x  (p0:Int):Option Int:=do
 some (orI .u8 p0 32)
def M.zl (j65:Z × Int) (p1:Int) (j106:Int) (j102:Int) (x301:Bool) (x302:Int) (x303:Int):Option (Jn (Int × Bool) (Bool × Int)):=do
 if (decide (x303<((unb j65.1).length:Int))) then
  let x351←ix (unb j65.1) x303
  let q381←(do
    if ((decide (x351=95))&&(decide (p1=0))) then
     (do
      M.zl j65 p1 j106 j102 true x302 (ya .i64 (x303+1))) >>= fun r=>some (.done r)
    else
     if ((decide (48≤x351))&&(decide (x351≤57))) then
      some (.go (ya .u8 (x351 - 48)))
     else
      let a386←M.q2x x351
      let j391←(do
        if (decide (97≤a386)) then
         let a392←M.q2x x351
         some (decide (a392≤122))
        else
         some false:Option Bool)
      if j391 then
       let a394←M.q2x x351
       some (.go (ya .u8 ((ya .u8 (a394 - 97))+10)))
      else
       some (.done (.done (0,false))):Option (Jn (Jn (Int × Bool) (Bool × Int)) Int))
  match q381 with
  | .done r=>some r
  | .go j381 =>
   if (decide ((ya .u8 j65.2)≤j381)) then
    some (.done (0,false))
   else
    if (decide (j106≤x302)) then
     some (.done ((ya .u64 ((z5x .u64 1 (ya .u64 j102)) - 1)),false))
    else
     if ((decide ((ya .u64 ((ya .u64 (x302*(ya .u64 j65.2)))+(ya .u64 j381)))<(ya .u64 (x302*(ya .u64 j65.2)))))||(decide ((ya .u64 ((z5x .u64 1 (ya .u64 j102)) - 1))<(ya .u64 ((ya .u64 (x302*(ya .u64 j65.2)))+(ya .u64 j381)))))) then
      some (.done ((ya .u64 ((z5x .u64 1 (ya .u64 j102)) - 1)),false))
     else
      M.zl j65 p1 j106 j102 x301 (ya .u64 ((ya .u64 (x302*(ya .u64 j65.2)))+(ya .u64 j381))) (ya .i64 (x303+1))
 else
  some (.go (x301,x302))
 partial_fixpoint
def M.q2w  (p0:Z) (p1 p2:Int):Option (Int × Bool):=do
 if (decide (p0=[])) then
  some (0,false)
 else
  let q65←(do
    if ((decide (2≤p1))&&(decide (p1≤36))) then
     some (.go (p0,p1))
    else
     if (decide (p1=0)) then
      let c68←ix p0 0
      if (decide ((c68.toNat:Int)=48)) then
       let j73←(do
         if (decide (3≤(p0.length:Int))) then
          let c74←ix p0 1
          let a75←M.q2x (c74.toNat:Int)
          some (decide (a75=98))
         else
          some false:Option Bool)
       if j73 then
        let s77←sub p0 2 (p0.length:Int)
        some (.go (s77,2))
       else
        let j82←(do
          if (decide (3≤(p0.length:Int))) then
           let c83←ix p0 1
           let a84←M.q2x (c83.toNat:Int)
           some (decide (a84=111))
          else
           some false:Option Bool)
        if j82 then
         let s86←sub p0 2 (p0.length:Int)
         some (.go (s86,8))
        else
         let j91←(do
           if (decide (3≤(p0.length:Int))) then
            let c92←ix p0 1
            let a93←M.q2x (c92.toNat:Int)
            some (decide (a93=120))
           else
            some false:Option Bool)
         if j91 then
          let s95←sub p0 2 (p0.length:Int)
          some (.go (s95,16))
         else
          let s96←sub p0 1 (p0.length:Int)
          some (.go (s96,8))
      else
       some (.go (p0,10))
     else
      some (.done (0,false)):Option (Jn (Int × Bool) (Z × Int)))
  match q65 with
  | .done r=>some r
  | .go j65 =>
   let q102←(do
     if (decide (p2=0)) then
      some (.go 64)
     else
      if ((decide (p2<0))||(decide (64<p2))) then
       some (.done (0,false))
      else
       some (.go p2):Option (Jn (Int × Bool) Int))
   match q102 with
   | .done r=>some r
   | .go j102 =>
    let j106←(do
      if (decide (j65.2=10)) then
       some 1844674407370955162
      else
       if (decide (j65.2=16)) then
        some 1152921504606846976
       else
        let _←chk (decide ((ya .u64 j65.2)≠0))
        some (ya .u64 ((ya .u64 (Int.tdiv 18446744073709551615 (ya .u64 j65.2)))+1)):Option Int)
    let _←chk (decide (0≤(ya .u64 j102)))
    let q253←(do
      let _←chk (decide (j65.1.length≤9223372036854775807))
      M.zl j65 p1 j106 j102 false 0 0:Option (Jn (Int × Bool) (Bool × Int)))
    match q253 with
    | .done r=>some r
    | .go j253 =>
     let j398←(do
       if j253.1 then
        none
       else
        some ():Option Unit)
     some (j253.2,true)
def M.q6y  (p0:Z) (p1 p2:Int):Option (Int × Bool):=do
 let a1←M.q2w p0 p1 p2
 if (!a1.2) then
  none
 else
  some (a1.1,true)
def M.q3m  (p0:q0c):Option (Rs (Int × q0c)):=do
 let a1←M.q72 p0.gs [92,117]
 let j9←(do
   if (a1.2&&(decide (4≤(a1.1.length:Int)))) then
    let s10←sub a1.1 0 4
    let a11←M.trim s10 [48,49,50,51,52,53,54,55,56,57,97,98,99,100,101,102,65,66,67,68,69,70]
    some (decide (a11=[]))
   else
    some false:Option Bool)
 let a13←M.q3e j9 20
 match a13 with
 | .pan e16 =>
  some (.pan e16)
 | .ok a15 =>
  let s17←sub a1.1 0 4
  let a18←M.q6y s17 16 16
  let a20←M.q3e a18.2 20
  match a20 with
  | .pan e23 =>
   some (.pan e23)
  | .ok a22 =>
   let s24←sub a1.1 4 (a1.1.length:Int)
   some (.ok ((ya .i32 a18.1),(q0c.mk s24)))
def M.q3i  (p0:q0c):Option (Rs (Z × q0c)):=do
 let a1←M.q3e (decide (2≤(p0.gs.length:Int))) 20
 match a1 with
 | .pan e4 =>
  some (.pan e4)
 | .ok a3 =>
  let c10←ix p0.gs 1
  let a11←M.indexByte [34,92,47,98,102,110,114,116] (c10.toNat:Int)
  if (decide (0≤a11)) then
   let s13←sub p0.gs 2 (p0.gs.length:Int)
   let s14←sub ([34,92,47,8,12,10,13,9]:Z) a11 (ya .i64 (a11+1))
   some (.ok (s14,(q0c.mk s13)))
  else
   let a15←M.q3m p0
   match a15 with
   | .pan e18 =>
    some (.pan e18)
   | .ok a17 =>
    let a21←M.q3e ((decide (a17.1<56320))||(decide (57343<a17.1))) 20
    match a21 with
    | .pan e24 =>
     some (.pan e24)
    | .ok a23 =>
     if ((decide (a17.1<55296))||(decide (57343<a17.1))) then
      some (.ok ((encS a17.1),a17.2))
     else
      let a29←M.q3m a17.2
      match a29 with
      | .pan e32 =>
       some (.pan e32)
      | .ok a31 =>
       let a35←M.q3e ((decide (56320≤a31.1))&&(decide (a31.1≤57343))) 20
       match a35 with
       | .pan e38 =>
        some (.pan e38)
       | .ok a37 =>
        some (.ok ((encS (ya .i32 ((ya .i32 ((ya .i32 (65536+(z5x .i32 (ya .i32 (a17.1 - 55296)) 10)))+a31.1)) - 56320))),a31.2))
def M.z1k (x37:Z) (x38:List Int):Option (Rs (Z × q0c)):=do
 let j71←(do
   if (!decide (x37=[])) then
    let c72←ix x37 0
    some (decide (32≤(c72.toNat:Int)))
   else
    some false:Option Bool)
 let a73←M.q3e j71 20
 match a73 with
 | .pan e76 =>
  some (.pan e76)
 | .ok a75 =>
  let c77←ix x37 0
  if (decide ((c77.toNat:Int)=34)) then
   let a78←M.zw x38
   let a80←M.z16 a78
   let a82←M.q3e a80 20
   match a82 with
   | .pan e85 =>
    some (.pan e85)
   | .ok a84 =>
    let a86←M.q3k (q0c.mk x37) [34]
    let a88←M.zw x38
    some (.ok (a88,a86.2))
  else
   if (decide ((c77.toNat:Int)=92)) then
    let a90←M.q3i (q0c.mk x37)
    match a90 with
    | .pan e93 =>
     some (.pan e93)
    | .ok a92 =>
     let a94←M.q71 x38 a92.1
     M.z1k a92.2.gs a94.2
   else
    let a96←M.q70 x38 (c77.toNat:Int)
    let s98←sub x37 1 (x37.length:Int)
    M.z1k s98 a96
 partial_fixpoint
def M.q3l  (p0:q0c):Option (Rs (Z × q0c)):=do
 let a1←M.q72 p0.gs [34]
 let a3←M.q3e a1.2 20
 match a3 with
 | .pan e6 =>
  some (.pan e6)
 | .ok a5 =>
  M.z1k a1.1 ([]:List Int)
def M.zf (p0:List Z) (p1:Z) (x7:Int):Option (Jn Int Unit):=do
 if (decide (x7<(p0.length:Int))) then
  let x9←ix p0 x7
  if (decide (p1=x9)) then
   some (.done x7)
  else
   M.zf p0 p1 (ya .i64 (x7+1))
 else
  some (.go ())
 partial_fixpoint
def M.q6x  (p0:List Z) (p1:Z):Option Int:=do
 let q5←(do
   M.zf p0 p1 0:Option (Jn Int Unit))
 match q5 with
 | .done r=>some r
 | .go j5 =>
  some (-1)
def M.q6s  (p0:List Z) (p1:Z):Option Bool:=do
 let a1←M.q6x p0 p1
 some (decide (0≤a1))
def M.q3c  (p0:Z):Option Int:=do
 let a1←M.trimLeft p0 [48,49,50,51,52,53,54,55,56,57]
 some (ya .i64 ((p0.length:Int) - (a1.length:Int)))
def M.q3f  (p0:Z):Option Int:=do
 let j6←(do
   let a7←M.q73 p0 [45]
   if a7 then
    some 1
   else
    some 0:Option Int)
 let s9←sub p0 j6 (p0.length:Int)
 let a10←M.q3c s9
 if (decide (a10=0)) then
  some 0
 else
  let j15←(do
    let c16←ix p0 j6
    if (decide ((c16.toNat:Int)=48)) then
     some 1
    else
     some a10:Option Int)
  let j30←(do
    let s31←sub p0 (ya .i64 (j6+j15)) (p0.length:Int)
    let a32←M.q73 s31 [46]
    if a32 then
     let s34←sub p0 (ya .i64 ((ya .i64 (j6+j15))+1)) (p0.length:Int)
     let a35←M.q3c s34
     if (decide (0<a35)) then
      some (ya .i64 ((ya .i64 (j6+j15))+(ya .i64 (1+a35))))
     else
      some (ya .i64 (j6+j15))
    else
     some (ya .i64 (j6+j15)):Option Int)
  let j40←(do
    if (decide (j30<(p0.length:Int))) then
     let c41←ix p0 j30
     if (decide ((c41.toNat:Int)=101)) then
      some true
     else
      let c42←ix p0 j30
      some (decide ((c42.toNat:Int)=69))
    else
     some false:Option Bool)
  if j40 then
   let j56←(do
     let j60←(do
       if (decide ((ya .i64 (j30+1))<(p0.length:Int))) then
        let c61←ix p0 (ya .i64 (j30+1))
        if (decide ((c61.toNat:Int)=43)) then
         some true
        else
         let c62←ix p0 (ya .i64 (j30+1))
         some (decide ((c62.toNat:Int)=45))
       else
        some false:Option Bool)
     if j60 then
      some (ya .i64 ((ya .i64 (j30+1))+1))
     else
      some (ya .i64 (j30+1)):Option Int)
   let s63←sub p0 j56 (p0.length:Int)
   let a64←M.q3c s63
   if (decide (0<a64)) then
    some (ya .i64 (j56+a64))
   else
    some j30
  else
   some j30
def M.z0s (x53:Int) (x54:Z):Option (Jn (Rs (q04 × q0c)) Z):=do
 if (decide (x53<([([110,117,108,108]:Z),[102,97,108,115,101],[116,114,117,101]].length:Int))) then
  let x58←ix [([110,117,108,108]:Z),[102,97,108,115,101],[116,114,117,101]] x53
  let a59←M.q3k (q0c.mk x54) x58
  if a59.1 then
   some (.done (.ok ((q04.mk x53 [] ([]:List q04) ([]:List Z)),a59.2)))
  else
   M.z0s (ya .i64 (x53+1)) a59.2.gs
 else
  some (.go x54)
 partial_fixpoint
def M.z13 (p1:Int) (self_q3n:q0c→Int→Option (Rs (q04 × q0c))) (p2:Int) (p3:Z) (x79:Z) (x80:List q04) (x81:List Z):Option (Rs (q04 × q0c)):=do
 let q190←(do
   if (decide (p1=6)) then
    let a191←M.q3l (q0c.mk x79)
    match a191 with
    | .pan e194 =>
     some (.done (.pan e194))
    | .ok a193 =>
     let a195←M.q6s x81 a193.1
     let j201←(do
       if (!a195) then
        let a202←M.q3k a193.2 [58]
        some (a202.1,a202.2.gs)
       else
        some (false,a193.2.gs):Option (Bool × Z))
     let a204←M.q3e j201.1 20
     match a204 with
     | .pan e207 =>
      some (.done (.pan e207))
     | .ok a206 =>
      let l208←app 16 x81 [a193.1]
      some (.go (j201.2,l208))
   else
    some (.go (x79,x81)):Option (Jn (Rs (q04 × q0c)) (Z × (List Z))))
 match q190 with
 | .done r=>some r
 | .go j190 =>
  let a209←self_q3n (q0c.mk j190.1) (ya .i64 (p2+1))
  match a209 with
  | .pan e212 =>
   some (.pan e212)
  | .ok a211 =>
   let l213←app 72 x80 [(q04.mk a211.1.zh a211.1.z06 a211.1.zk a211.1.z08)]
   let a214←M.q3k a211.2 p3
   if a214.1 then
    some (.ok ((q04.mk p1 [] l213 j190.2),a214.2))
   else
    let a216←M.q3k a214.2 [44]
    let a218←M.q3e a216.1 20
    match a218 with
    | .pan e221 =>
     some (.pan e221)
    | .ok a220 =>
     M.z13 p1 self_q3n p2 p3 a216.2.gs l213 j190.2
 partial_fixpoint
mutual
def M.q3n:Nat→q0c→Int→Option (Rs (q04 × q0c))
 | 0,_,_=>none
 | fuel+1,p0,p1=>do
  let a19←M.q73 p0.gs [34]
  if a19 then
   let a21←M.q3l p0
   match a21 with
   | .pan e24 =>
    some (.pan e24)
   | .ok a23 =>
    some (.ok ((q04.mk 4 a23.1 ([]:List q04) ([]:List Z)),a23.2))
  else
   let a25←M.q3k p0 [91]
   if a25.1 then
    let a27←(M.q3j fuel) a25.2 5 p1 [93]
    match a27 with
    | .pan e30 =>
     some (.pan e30)
    | .ok a29 =>
     some (.ok (a29.1,a29.2))
   else
    let a31←M.q3k a25.2 [123]
    if a31.1 then
     let a33←(M.q3j fuel) a31.2 6 p1 [125]
     match a33 with
     | .pan e36 =>
      some (.pan e36)
     | .ok a35 =>
      some (.ok (a35.1,a35.2))
    else
     let q49←(do
       M.z0s 0 a31.2.gs:Option (Jn (Rs (q04 × q0c)) Z))
     match q49 with
     | .done r=>some r
     | .go j49 =>
      let a61←M.q3f j49
      let a63←M.q3e (decide (0<a61)) 20
      match a63 with
      | .pan e66 =>
       some (.pan e66)
      | .ok a65 =>
       let s67←sub j49 0 a61
       let a68←M.q3k (q0c.mk j49) s67
       some (.ok ((q04.mk 3 s67 ([]:List q04) ([]:List Z)),a68.2))
def M.q3j:Nat→q0c→Int→Int→Z→Option (Rs (q04 × q0c))
 | 0,_,_,_,_=>none
 | fuel+1,p0,p1,p2,p3=>do
  let a1←M.q3e (decide (p2<16)) 21
  match a1 with
  | .pan e4 =>
   some (.pan e4)
  | .ok a3 =>
   let a7←M.q3k p0 p3
   if a7.1 then
    some (.ok ((q04.mk p1 [] ([]:List q04) ([]:List Z)),a7.2))
   else
    M.z13 p1 (M.q3n fuel) p2 p3 a7.2.gs [] []
end
def M.q35 (fuel:Nat) (p0:Z):Option (q04 × Int):=do
 if (decide (16384<(p0.length:Int))) then
  some ((q04.mk 0 [] ([]:List q04) ([]:List Z)),22)
 else
  let a1←M.q3h (q0c.mk p0)
  let a3←M.q3n fuel a1 0
  match a3 with
  | .pan e6 =>
   some ((q04.mk 0 [] ([]:List q04) ([]:List Z)),e6)
  | .ok a5 =>
   let a7←M.q3e (decide (a5.2.gs=[])) 20
   match a7 with
   | .pan e10 =>
    some ((q04.mk 0 [] ([]:List q04) ([]:List Z)),e10)
   | .ok a9 =>
    some (a5.1,0)
def M.q34  (p0:q04) (p1:Z):Option (q04 × Bool):=do
 let a1←M.q6x p0.z08 p1
 if (((decide (p0.zh=6))&&(decide (0≤a1)))&&(decide (a1<(p0.zk.length:Int)))) then
  let x7←ix p0.zk a1
  some (x7,true)
 else
  some ((q04.mk 0 [] [] []),false)
def M.z2y (p0:q04) (x13:List Z) (x14:Int):Option (Jn ((List Z) × Bool) (List Z)):=do
 if (decide (x14<(p0.zk.length:Int))) then
  let x17←ix p0.zk x14
  if (!decide (x17.zh=4)) then
   some (.done ([],false))
  else
   let l18←app 16 x13 [x17.z06]
   M.z2y p0 l18 (ya .i64 (x14+1))
 else
  some (.go x13)
 partial_fixpoint
def M.q37  (p0:q04):Option ((List Z) × Bool):=do
 if (!decide (p0.zh=5)) then
  some ([],false)
 else
  let q10←(do
    M.z2y p0 [] 0:Option (Jn ((List Z) × Bool) (List Z)))
  match q10 with
  | .done r=>some r
  | .go j10 =>
   some (j10,true)
def M.z2e (p0:q04) (x41:List q02) (x42:Int):Option (Jn ((List q02) × Bool) (List q02)):=do
 if (decide (x42<(p0.zk.length:Int))) then
  let x52←ix p0.zk x42
  let a53←M.q37 x52
  if ((!a53.2)||(!decide (p0.zh=6))) then
   some (.done ([],false))
  else
   let x59←ix p0.z08 x42
   let l60←app 40 x41 [(q02.mk x59 a53.1)]
   M.z2e p0 l60 (ya .i64 (x42+1))
 else
  some (.go x41)
 partial_fixpoint
def M.q1m  (p0:q04):Option ((List q02) × Bool):=do
 let q31←(do
   M.z2e p0 [] 0:Option (Jn ((List q02) × Bool) (List q02)))
 match q31 with
 | .done r=>some r
 | .go j31 =>
  some (j31,(decide (p0.zh=6)))
def M.q26 (fuel:Nat) (p0:q0a) (p1:q03):Option (q00 × Int):=do
 let a1←M.q28 p0 p1.z05 (q00.mk p0.zhz [] [] [] [] [] [] [] [] [] [] [] [] [] [] [] [] [] [] [] [] [] [] [] 0 0)
 let a3←M.q2b p0 p1.z0j a1.2
 match a3 with
 | .pan e6 p7 =>
  some (p7,e6)
 | .ok a5 =>
  let a10←M.q1p ((decide (p0.z2o=2))||(decide ((p1.z0p.length:Int)=0))) 227
  match a10 with
  | .pan e13 =>
   some (a5,e13)
  | .ok a12 =>
   if (decide (p0.z2o=0)) then
    let a14←M.q1p (decide (p1.zt=[])) 227
    match a14 with
    | .pan e17 =>
     some (a5,e17)
    | .ok a16 =>
     some (a5,0)
   else
    if (decide (p0.z2o=2)) then
     let a18←M.q1p (decide (p1.zt=[])) 227
     match a18 with
     | .pan e21 =>
      some (a5,e21)
     | .ok a20 =>
      let a22←M.q29 p0 p1.z0p a5
      match a22 with
      | .pan e25 p26 =>
       some (p26,e25)
      | .ok a24 =>
       some (a24,0)
    else
     if (decide (p0.z2o=1)) then
      let a27←M.q0k p1.zt
      let a29←M.q1p (decide (a27.2=0)) 227
      match a29 with
      | .pan e32 =>
       some (a5,e32)
      | .ok a31 =>
       let a33←M.q29 p0 a27.1 a5
       match a33 with
       | .pan e36 p37 =>
        some (p37,e36)
       | .ok a35 =>
        some (a35,0)
     else
      if (decide (p0.z2o=4)) then
       some ((q00.mk a5.zh a5.gOf a5.z2q a5.z2p a5.z09 a5.z19 a5.z1d a5.z1g a5.z00 a5.z0o a5.z02 a5.z07 a5.z01 a5.zv a5.z03 a5.z0f a5.zu a5.z2z a5.zt a5.z6e a5.z5k a5.z0n p1.zt a5.zi a5.z2l a5.z11),0)
      else
       if (decide (p0.z2o=3)) then
        let a38←M.q35 fuel p1.zt
        let a40←M.q34 a38.1 [105,100]
        let a42←M.q34 a38.1 [102,105,101,108,100,115]
        let a44←M.q1m a42.1
        let a56←M.q1p ((((((decide (a38.2=0))&&(decide ((a38.1.zk.length:Int)=2)))&&a40.2)&&a42.2)&&(decide (a40.1.zh=4)))&&a44.2) 227
        match a56 with
        | .pan e59 =>
         some (a5,e59)
        | .ok a58 =>
         some ((q00.mk a5.zh a5.gOf a5.z2q a5.z2p a5.z09 a5.z19 a5.z1d a5.z1g a5.z00 a5.z0o a5.z02 a5.z07 a5.z01 a5.zv a5.z03 a5.z0f a40.1.z06 a5.z2z a5.zt a5.z6e a5.z5k a5.z0n a5.z1c a44.1 a5.z2l a5.z11),0)
       else
        some (a5,0)
def M.z2m (a28:(List q0a)) (p0:q03) (fuel:Nat) (x37:Int) (x38:Int):Option (Jn (q00 × Int) Int):=do
 if (decide (x38<(a28.length:Int))) then
  let x46←ix a28 x38
  let a49←M.q28 x46 p0.z05 (q00.mk 0 [] [] [] [] [] [] [] [] [] [] [] [] [] [] [] [] [] [] [] [] [] [] [] 0 0)
  if (!a49.1) then
   M.z2m a28 p0 fuel x37 (ya .i64 (x38+1))
  else
   if (!decide (x46.z5v=p0.zx)) then
    if (decide (x37=225)) then
     M.z2m a28 p0 fuel 226 (ya .i64 (x38+1))
    else
     M.z2m a28 p0 fuel x37 (ya .i64 (x38+1))
   else
    let a51←M.q26 fuel x46 p0
    if (decide (a51.2=0)) then
     some (.done (a51.1,0))
    else
     M.z2m a28 p0 fuel a51.2 (ya .i64 (x38+1))
 else
  some (.go x37)
 partial_fixpoint
def M.q0r (fuel:Nat) (p0:q03):Option (q00 × Int):=do
 let q27←(do
   let a28←M.q2e
   M.z2m a28 p0 fuel 225 0:Option (Jn (q00 × Int) Int))
 match q27 with
 | .done r=>some r
 | .go j27 =>
  some ((q00.mk 0 [] [] [] [] [] [] [] [] [] [] [] [] [] [] [] [] [] [] [] [] [] [] [] 0 0),j27)
def M.q1v  : Option q08:=do
 some (q08.mk (q04.mk 6 [] ([]:List q04) ([]:List Z)))
def M.q1e  (p0:Int):Option q04:=do
 let a1←M.itoa p0
 some (q04.mk 3 a1 [] [])
def M.q1n  (p0:q08) (p1:Bool) (p2:Z) (p3:q04):Option q08:=do
 if p1 then
  let j5←(do
    let l6←app 16 p0.zo.z08 [p2]
    let l7←app 72 p0.zo.zk [(q04.mk p3.zh p3.z06 p3.zk p3.z08)]
    some (l7,l6):Option ((List q04) × (List Z)))
  some (q08.mk (q04.mk p0.zo.zh p0.zo.z06 j5.1 j5.2))
 else
  some p0
def M.q2m  (p0:Z):Option q04:=do
 some (q04.mk 4 p0 [] [])
def M.z0c (p0:List Z) (x21:Int) (x22:List q04):Option (List q04):=do
 if (decide (x21<(p0.length:Int))) then
  let x27←ix p0 x21
  let a28←M.q2m x27
  let l30←app 72 x22 [(q04.mk a28.zh a28.z06 a28.zk a28.z08)]
  M.z0c p0 (ya .i64 (x21+1)) l30
 else
  some x22
 partial_fixpoint
def M.q2n  (p0:List Z):Option q04:=do
 let j16←(do
   M.z0c p0 0 []:Option (List q04))
 some (q04.mk 5 [] j16 [])
def M.z0e (p0:q01) (x33:Int) (x34:Int) (x35:Z) (x36:List q04) (x37:List Z):Option (Int × Z × (List q04) × (List Z)):=do
 if (decide (x33<([(q05.mk [105,115,115] p0.zfp),(q05.mk [115,117,98] p0.zfr),(q05.mk [97,117,100] p0.zfo),(q05.mk [99,108,105,101,110,116,95,105,100] p0.z00),(q05.mk [106,116,105] p0.zfq),(q05.mk [110,111,110,99,101] p0.z0f)].length:Int))) then
  let x43←ix [(q05.mk [105,115,115] p0.zfp),(q05.mk [115,117,98] p0.zfr),(q05.mk [97,117,100] p0.zfo),(q05.mk [99,108,105,101,110,116,95,105,100] p0.z00),(q05.mk [106,116,105] p0.zfq),(q05.mk [110,111,110,99,101] p0.z0f)] x33
  let a44←M.q2m x43.z1t
  let a46←M.q1n (q08.mk (q04.mk x34 x35 x36 x37)) true x43.zu a44
  M.z0e p0 (ya .i64 (x33+1)) a46.zo.zh a46.zo.z06 a46.zo.zk a46.zo.z08
 else
  some (x34,x35,x36,x37)
 partial_fixpoint
def M.q19  (p0:q01):Option (q04 × Bool):=do
 let a1←M.q1v
 let j27←(do
   M.z0e p0 0 a1.zo.zh a1.zo.z06 a1.zo.zk a1.zo.z08:Option (Int × Z × (List q04) × (List Z)))
 let a48←M.q1e p0.zqc
 let a50←M.q1n (q08.mk (q04.mk j27.1 j27.2.1 j27.2.2.1 j27.2.2.2)) true [105,97,116] a48
 let a52←M.q1e p0.zqb
 let a54←M.q1n a50 true [101,120,112] a52
 let a56←M.q1e p0.z1n
 let a58←M.q1n a54 true [108,101,118,101,108] a56
 let a60←M.q2n p0.z07
 let a62←M.q1n a58 true [115,99,111,112,101] a60
 let a64←M.q2n p0.zhy
 let a66←M.q1n a62 true [97,99,116] a64
 let s68←cat p0.zfp p0.zfr
 let s69←cat s68 p0.zfo
 let s70←cat s69 p0.z00
 let s71←cat s70 p0.zfq
 let s72←cat s71 p0.z0f
 some (a66.zo,(!((((((decide (s72=[]))&&(decide (p0.zqc=0)))&&(decide (p0.zqb=0)))&&(decide (p0.z1n=0)))&&(decide ((p0.z07.length:Int)=0)))&&(decide ((p0.zhy.length:Int)=0)))))
def M.z2h (p0:List q02) (x27:Int) (x28:List q04) (x29:List Z):Option ((List q04) × (List Z)):=do
 if (decide (x27<(p0.length:Int))) then
  let x35←ix p0 x27
  let l36←app 16 x29 [x35.zu]
  let a37←M.q2n x35.z2d
  let l39←app 72 x28 [(q04.mk a37.zh a37.z06 a37.zk a37.z08)]
  M.z2h p0 (ya .i64 (x27+1)) l39 l36
 else
  some (x28,x29)
 partial_fixpoint
def M.q1u  (p0:List q02):Option q04:=do
 let j21←(do
   M.z2h p0 0 [] []:Option ((List q04) × (List Z)))
 some (q04.mk 6 [] j21.1 j21.2)
def M.z0z (p0:q06) (x37:Int) (x38:Int) (x39:Z) (x40:List q04) (x41:List Z):Option (Int × Z × (List q04) × (List Z)):=do
 if (decide (x37<([(q05.mk [103,114,97,110,116] p0.z4i),(q05.mk [97,99,99,101,115,115,95,116,111,107,101,110] p0.z3e),(q05.mk [114,101,102,114,101,115,104,95,116,111,107,101,110] p0.z2c),(q05.mk [105,100,95,116,111,107,101,110] p0.gId),(q05.mk [116,101,120,116] p0.z06)].length:Int))) then
  let x47←ix [(q05.mk [103,114,97,110,116] p0.z4i),(q05.mk [97,99,99,101,115,115,95,116,111,107,101,110] p0.z3e),(q05.mk [114,101,102,114,101,115,104,95,116,111,107,101,110] p0.z2c),(q05.mk [105,100,95,116,111,107,101,110] p0.gId),(q05.mk [116,101,120,116] p0.z06)] x37
  let a48←M.q2m x47.z1t
  let a50←M.q1n (q08.mk (q04.mk x38 x39 x40 x41)) (!decide (x47.z1t=[])) x47.zu a48
  M.z0z p0 (ya .i64 (x37+1)) a50.zo.zh a50.zo.z06 a50.zo.zk a50.zo.z08
 else
  some (x38,x39,x40,x41)
 partial_fixpoint
def M.z10 (p0:q06) (x158:Int) (x159:List q04):Option (List q04):=do
 if (decide (x158<(p0.z4v.length:Int))) then
  let x180←ix p0.z4v x158
  let a181←M.q1v
  let a183←M.q2m x180.gId
  let a185←M.q1n a181 true [105,100] a183
  let a187←M.q2m x180.zh
  let a189←M.q1n a185 true [107,105,110,100] a187
  let a191←M.q2m x180.z5k
  let a193←M.q1n a189 true [116,97,103] a191
  let a195←M.q1u x180.zi
  let a197←M.q1n a193 true [102,105,101,108,100,115] a195
  let l199←app 72 x159 [(q04.mk a197.zo.zh a197.zo.z06 a197.zo.zk a197.zo.z08)]
  M.z10 p0 (ya .i64 (x158+1)) l199
 else
  some x159
 partial_fixpoint
def M.q13  (p0:q06):Option q04:=do
 let a1←M.q1v
 let a3←M.q1e p0.z19
 let a5←M.q1n a1 (!decide (p0.z19=0)) [101,114,114,111,114] a3
 let j31←(do
   M.z0z p0 0 a5.zo.zh a5.zo.z06 a5.zo.zk a5.zo.z08:Option (Int × Z × (List q04) × (List Z)))
 let a52←M.q2n p0.z07
 let a54←M.q1n (q08.mk (q04.mk j31.1 j31.2.1 j31.2.2.1 j31.2.2.2)) (decide (0<(p0.z07.length:Int))) [115,99,111,112,101] a52
 let a56←M.q1e p0.z1q
 let a58←M.q1n a54 (!decide (p0.z1q=0)) [101,120,112,105,114,101,115,95,105,110] a56
 let a60←M.q1e p0.z1n
 let a62←M.q1n a58 (!decide (p0.z1n=0)) [108,101,118,101,108] a60
 let a64←M.q1e p0.z3q
 let a66←M.q1n a62 (!decide (p0.z3q=0)) [116,111,116,97,108] a64
 let a68←M.q1n a66 p0.z6d [97,99,116,105,118,101] (q04.mk 2 [] [] [])
 let a70←M.q19 p0.z0a
 let a72←M.q1n a68 a70.2 [99,108,97,105,109,115] a70.1
 let j137←(do
   M.z10 p0 0 []:Option (List q04))
 let a200←M.q1n a72 (decide (0<(j137.length:Int))) [116,104,105,110,103,115] (q04.mk 5 [] j137 [])
 some a200.zo
def M.q3b  (p0:Z):Option Bool:=do
 let a1←M.z16 p0
 some (!a1)
def M.zj (p0:List Z) (x15:Int):Option (Jn Int Unit):=do
 if (decide (x15<(p0.length:Int))) then
  let x19←ix p0 x15
  let a20←M.q3b x19
  if a20 then
   some (.done x15)
  else
   M.zj p0 (ya .i64 (x15+1))
 else
  some (.go ())
 partial_fixpoint
def M.q6w  (p0:List Z):Option Int:=do
 let q11←(do
   M.zj p0 0:Option (Jn Int Unit))
 match q11 with
 | .done r=>some r
 | .go j11 =>
  some (-1)
def M.q6r  (p0:List Z):Option Bool:=do
 let a1←M.q6w p0
 some (decide (0≤a1))
def M.z1z (p0:q04) (self_q3a:q04→Int→Option (Rs Unit)) (p1:Int) (x108:Int):Option (Rs Unit):=do
 if (decide (x108<(p0.zk.length:Int))) then
  let x114←ix p0.zk x108
  let a115←self_q3a x114 (ya .i64 (p1+1))
  match a115 with
  | .pan e118 =>
   some (.pan e118)
  | .ok a117 =>
   M.z1z p0 self_q3a p1 (ya .i64 (x108+1))
 else
  some (.ok ())
 partial_fixpoint
def M.q3a:Nat→q04→Int→Option (Rs Unit)
 | 0,_,_=>none
 | fuel+1,p0,p1=>do
  let a5←M.q3e ((!((decide (p0.zh=5))||(decide (p0.zh=6))))||(decide (p1<16))) 21
  match a5 with
  | .pan e8 =>
   some (.pan e8)
  | .ok a7 =>
   let a11←M.q3e ((decide (0≤p0.zh))&&(decide (p0.zh<7))) 23
   match a11 with
   | .pan e14 =>
    some (.pan e14)
   | .ok a13 =>
    let a17←M.q3e (((decide (p0.zh=5))||(decide (p0.zh=6)))||(decide ((p0.zk.length:Int)=0))) 23
    match a17 with
    | .pan e20 =>
     some (.pan e20)
    | .ok a19 =>
     let a26←M.q3e (((decide (p0.zh=6))&&(decide ((p0.z08.length:Int)=(p0.zk.length:Int))))||((decide ((p0.z08.length:Int)=0))&&(!decide (p0.zh=6)))) 23
     match a26 with
     | .pan e29 =>
      some (.pan e29)
     | .ok a28 =>
      let a30←M.q6r p0.z08
      let j35←(do
        if (!a30) then
         let a36←M.single p0.z08
         some a36
        else
         some false:Option Bool)
      let a38←M.q3e j35 23
      match a38 with
      | .pan e41 =>
       some (.pan e41)
      | .ok a40 =>
       let q82←(do
         if (decide (p0.zh=3)) then
          let j86←(do
            if (!decide (p0.z06=[])) then
             let a87←M.q3f p0.z06
             some (decide (a87=(p0.z06.length:Int)))
            else
             some false:Option Bool)
          let a89←M.q3e j86 23
          match a89 with
          | .pan e92 =>
           some (.done (.pan e92))
          | .ok a91 =>
           some (.go ())
         else
          if (decide (p0.zh=4)) then
           let a93←M.z16 p0.z06
           let a95←M.q3e a93 23
           match a95 with
           | .pan e98 =>
            some (.done (.pan e98))
           | .ok a97 =>
            some (.go ())
          else
           let a99←M.q3e (decide (p0.z06=[])) 23
           match a99 with
           | .pan e102 =>
            some (.done (.pan e102))
           | .ok a101 =>
            some (.go ()):Option (Jn (Rs Unit) Unit))
       match q82 with
       | .done r=>some r
       | .go j82 =>
        M.z1z p0 (M.q3a fuel) p1 0
def M.q32 (fuel:Nat) (p0:q04):Option Int:=do
 let a1←M.q3a fuel p0 0
 match a1 with
 | .pan e4 =>
  some e4
 | .ok a3 =>
  some 0
def M.z1i (p1:Z) (x67:Int) (x68:List Int):Option (List Int):=do
 if (decide (x67<((unb p1).length:Int))) then
  let x84←ix (unb p1) x67
  let a85←M.indexByte [34,92,8,9,10,12,13] x84
  if (decide (0≤a85)) then
   let s87←sub ([34,92,98,116,110,102,114]:Z) a85 (ya .i64 (a85+1))
   let s88←cat [92] s87
   let a89←M.q71 x68 s88
   M.z1i p1 (ya .i64 (x67+1)) a89.2
  else
   if (decide (x84<32)) then
    let s91←sub ([48,49]:Z) (zg5 .u8 x84 4) (ya .u8 ((zg5 .u8 x84 4)+1))
    let s92←cat [92,117,48,48] s91
    let s93←sub ([48,49,50,51,52,53,54,55,56,57,97,98,99,100,101,102]:Z) (z7w .u8 x84 15) (ya .u8 ((z7w .u8 x84 15)+1))
    let s94←cat s92 s93
    let a95←M.q71 x68 s94
    M.z1i p1 (ya .i64 (x67+1)) a95.2
   else
    let a97←M.q70 x68 x84
    M.z1i p1 (ya .i64 (x67+1)) a97
 else
  some x68
 partial_fixpoint
def M.q3g  (p0:List Int) (p1:Z):Option (List Int):=do
 let a1←M.q70 p0 34
 let j51←(do
   let _←chk (decide (p1.length≤9223372036854775807))
   M.z1i p1 0 a1:Option (List Int))
 let a99←M.q70 j51 34
 some a99
def M.z2i (p1:q04) (self_q3d:(List Int)→q04→Option (List Int)) (x92:Int) (x93:List Int):Option (List Int):=do
 if (decide (x92<(p1.zk.length:Int))) then
  let x112←ix p1.zk x92
  let j118←(do
    if (decide (0<x92)) then
     let a119←M.q70 x93 44
     some a119
    else
     some x93:Option (List Int))
  if (decide (p1.zh=6)) then
   let x121←ix p1.z08 x92
   let a122←M.q3g j118 x121
   let a124←M.q70 a122 58
   let a126←self_q3d a124 x112
   M.z2i p1 self_q3d (ya .i64 (x92+1)) a126
  else
   let a128←self_q3d j118 x112
   M.z2i p1 self_q3d (ya .i64 (x92+1)) a128
 else
  some x93
 partial_fixpoint
def M.q3d:Nat→(List Int)→q04→Option (List Int)
 | 0,_,_=>none
 | fuel+1,p0,p1=>do
  if (decide (p1.zh=0)) then
   let a1←M.q71 p0 [110,117,108,108]
   some a1.2
  else
   if (decide (p1.zh=1)) then
    let a3←M.q71 p0 [102,97,108,115,101]
    some a3.2
   else
    if (decide (p1.zh=2)) then
     let a5←M.q71 p0 [116,114,117,101]
     some a5.2
    else
     if (decide (p1.zh=3)) then
      let a7←M.q71 p0 p1.z06
      some a7.2
     else
      if (decide (p1.zh=4)) then
       let a9←M.q3g p0 p1.z06
       some a9
      else
       let j12←(do
         if (decide (p1.zh=6)) then
          some [123,125]
         else
          some [91,93]:Option Z)
       let c13←ix j12 0
       let a14←M.q70 p0 (c13.toNat:Int)
       let j73←(do
         M.z2i p1 (M.q3d fuel) 0 a14:Option (List Int))
       let c130←ix j12 1
       let a131←M.q70 j73 (c130.toNat:Int)
       some a131
def M.q6z  (p0:List Int):Option Int:=do
 some (p0.length:Int)
def M.q36 (fuel:Nat) (p0:q04):Option (Z × Int):=do
 let a3←M.q32 fuel p0
 if (!decide (a3=0)) then
  some ([],a3)
 else
  let a5←M.q3d fuel ([]:List Int) p0
  let a7←M.q6z a5
  if (decide (16384<a7)) then
   some ([],22)
  else
   let a9←M.zw a5
   some (a9,0)
def M.q2v  (p0:Int):Option Z:=do
 let m1←some (z36 ([]:List (Int × Z)) 200 [79,75])
 let m2←some (z36 m1 201 [67,114,101,97,116,101,100])
 let m3←some (z36 m2 400 [66,97,100,32,82,101,113,117,101,115,116])
 let m4←some (z36 m3 401 [85,110,97,117,116,104,111,114,105,122,101,100])
 let m5←some (z36 m4 403 [70,111,114,98,105,100,100,101,110])
 let m6←some (z36 m5 404 [78,111,116,32,70,111,117,110,100])
 let m7←some (z36 m6 405 [77,101,116,104,111,100,32,78,111,116,32,65,108,108,111,119,101,100])
 let m8←some (z36 m7 409 [67,111,110,102,108,105,99,116])
 let m9←some (z36 m8 412 [80,114,101,99,111,110,100,105,116,105,111,110,32,70,97,105,108,101,100])
 let m10←some (z36 m9 413 [67,111,110,116,101,110,116,32,84,111,111,32,76,97,114,103,101])
 let m11←some (z36 m10 429 [84,111,111,32,77,97,110,121,32,82,101,113,117,101,115,116,115])
 let m12←some (z36 m11 431 [82,101,113,117,101,115,116,32,72,101,97,100,101,114,32,70,105,101,108,100,115,32,84,111,111,32,76,97,114,103,101])
 let m13←some (z36 m12 500 [73,110,116,101,114,110,97,108,32,83,101,114,118,101,114,32,69,114,114,111,114])
 let m14←some (z36 m13 503 [83,101,114,118,105,99,101,32,85,110,97,118,97,105,108,97,98,108,101])
 let m15←some (z36 m14 507 [73,110,115,117,102,102,105,99,105,101,110,116,32,83,116,111,114,97,103,101])
 some (z62 m15 p0 [])
def M.q76  (p0:Z):Option Bool:=do
 let j4←(do
   if (decide ((p0.length:Int)≤128)) then
    let a5←M.z16 p0
    some a5
   else
    some false:Option Bool)
 some j4
def M.q77  (p0:Int):Option Bool:=do
 some ((decide (0≤p0))&&(decide (p0≤1099511627776)))
def M.q78  (p0:Z):Option Bool:=do
 let j6←(do
   if ((!decide (p0=[]))&&(decide ((p0.length:Int)≤32))) then
    let a7←M.z2u p0
    some (!a7)
   else
    some false:Option Bool)
 some j6
def M.z0l (l16:List Z) (x21:Int):Option (Jn Int Unit):=do
 if (decide (x21<(l16.length:Int))) then
  let x26←ix l16 x21
  let x27←ix l16 x21
  let a28←M.q76 x27
  if (!a28) then
   some (.done 142)
  else
   M.z0l l16 (ya .i64 (x21+1))
 else
  some (.go ())
 partial_fixpoint
def M.z0m (p0:q01) (x104:Int):Option (Jn Int Unit):=do
 if (decide (x104<(p0.z07.length:Int))) then
  let x112←ix p0.z07 x104
  let a113←M.q78 x112
  let j117←(do
    if (!a113) then
     some true
    else
     if (decide (0<x104)) then
      let x118←ix p0.z07 (ya .i64 (x104 - 1))
      some (!slt x118 x112)
     else
      some false:Option Bool)
  if j117 then
   some (.done 142)
  else
   M.z0m p0 (ya .i64 (x104+1))
 else
  some (.go ())
 partial_fixpoint
def M.q75  (p0:q01):Option Int:=do
 let q15←(do
   let l16←app 16 [p0.zfp,p0.zfr,p0.zfo,p0.z00,p0.zfq,p0.z0f] p0.zhy
   M.z0l l16 0:Option (Jn Int Unit))
 match q15 with
 | .done r=>some r
 | .go j15 =>
  let a52←M.q77 p0.zqc
  let j57←(do
    if (!a52) then
     some true
    else
     let a58←M.q77 p0.zqb
     some (!a58):Option Bool)
  let j71←(do
    if ((((j57||(decide (p0.z1n<0)))||(decide (9<p0.z1n)))||(decide (16<(p0.z07.length:Int))))||(decide (4<(p0.zhy.length:Int)))) then
     some true
    else
     let a72←M.q6s p0.zhy []
     some a72:Option Bool)
  if j71 then
   some 142
  else
   let q96←(do
     M.z0m p0 0:Option (Jn Int Unit))
   match q96 with
   | .done r=>some r
   | .go j96 =>
    some 0
def M.q1j  (p0:Int) (p1:Z) (p2:Int):Option Z:=do
 let a1←M.itoa p0
 let s3←cat [72,84,84,80,47,49,46,49,32] a1
 let s4←cat s3 [32]
 let a5←M.q2v p0
 let s7←cat s4 a5
 let s8←cat s7 [13,10]
 let s9←cat s8 [99,111,110,116,101,110,116,45,116,121,112,101,58,32,97,112,112,108,105,99,97,116,105,111,110,47,106,115,111,110]
 let s10←cat s9 [13,10]
 let j20←(do
   if (!decide (p1=[])) then
    let s21←cat [115,101,116,45,99,111,111,107,105,101,58,32,115,101,115,115,105,111,110,61] p1
    let s22←cat s21 [59,32,80,97,116,104,61,47,59,32,72,116,116,112,79,110,108,121]
    let s23←cat s22 [13,10]
    let s24←cat s10 s23
    some s24
   else
    some s10:Option Z)
 let s25←cat j20 [99,111,110,116,101,110,116,45,108,101,110,103,116,104,58,32]
 let a26←M.itoa p2
 let s28←cat s25 a26
 let s29←cat s28 [13,10]
 let s30←cat s29 [13,10]
 some s30
def M.z0q (p0:q06) (x15:Int):Option (Jn (Z × Int) Unit):=do
 if (decide (x15<([p0.z19,p0.z1q,p0.z1n,p0.z3q].length:Int))) then
  let x19←ix [p0.z19,p0.z1q,p0.z1n,p0.z3q] x15
  if ((decide (x19<0))||(decide (1000000000000000≤x19))) then
   some (.done ([],224))
  else
   M.z0q p0 (ya .i64 (x15+1))
 else
  some (.go ())
 partial_fixpoint
def M.q0v (fuel:Nat) (p0:q06):Option (Z × Int):=do
 let q11←(do
   M.z0q p0 0:Option (Jn (Z × Int) Unit))
 match q11 with
 | .done r=>some r
 | .go j11 =>
  let a22←M.q13 p0
  let a24←M.q36 fuel a22
  let j47←(do
    if (!decide (a24.2=0)) then
     some true
    else
     let a48←M.q2v p0.z8c
     some (decide (a48=[])):Option Bool)
  let j53←(do
    if j47 then
     some true
    else
     let a54←M.trim p0.z09 [65,66,67,68,69,70,71,72,73,74,75,76,77,78,79,80,81,82,83,84,85,86,87,88,89,90,97,98,99,100,101,102,103,104,105,106,107,108,109,110,111,112,113,114,115,116,117,118,119,120,121,122,48,49,50,51,52,53,54,55,56,57,45,95]
     some (!decide (a54=[])):Option Bool)
  let j59←(do
    if j53 then
     some true
    else
     let a60←M.q75 p0.z0a
     some (!decide (a60=0)):Option Bool)
  if j59 then
   some ([],224)
  else
   let a62←M.q1j p0.z8c p0.z09 (a24.1.length:Int)
   if (decide (8192<(a62.length:Int))) then
    some ([],224)
   else
    let s64←cat a62 a24.1
    some (s64,0)
def M.q30  (p0 p1:Z):Option Z:=do
 let a1←M.q2z p0 p1
 if a1 then
  let s3←sub p0 (p1.length:Int) (p0.length:Int)
  some s3
 else
  some p0
def M.q74  (p0 p1:Z):Option Z:=do
 let a1←M.q30 p0 p1
 some a1
def M.q1z  (p0:q09) (p1:Z):Option q09:=do
 let a1←M.q34 p0.gv p1
 some (q09.mk a1.1)
def M.q33  (p0:q04):Option (Int × Bool):=do
 let a1←M.q74 p0.z06 [45]
 let a3←M.atoi p0.z06
 let j12←(do
   if (((!decide (p0.zh=3))||(!a3.2))||(decide (15<(a1.length:Int)))) then
    some true
   else
    let a13←M.itoa a3.1
    some (!decide (a13=p0.z06)):Option Bool)
 if j12 then
  some (0,false)
 else
  some (a3.1,true)
def M.q22  (p0:q09) (p1:Z):Option Int:=do
 let a1←M.q1z p0 p1
 let a3←M.q33 a1.gv
 some a3.1
def M.q23  (p0:q09) (p1:Z):Option Z:=do
 let a1←M.q1z p0 p1
 if (decide (a1.gv.zh=4)) then
  some a1.gv.z06
 else
  some []
def M.q24  (p0:q09) (p1:Z):Option (List Z):=do
 let a1←M.q1z p0 p1
 let a3←M.q37 a1.gv
 some a3.1
def M.z0r (a89:q09) (x103:Int) (x104:List q07):Option (List q07):=do
 if (decide (x103<(a89.gv.zk.length:Int))) then
  let x117←ix a89.gv.zk x103
  let a118←M.q1z (q09.mk x117) [102,105,101,108,100,115]
  let a120←M.q1m a118.gv
  let a122←M.q23 (q09.mk x117) [105,100]
  let a124←M.q23 (q09.mk x117) [107,105,110,100]
  let a126←M.q23 (q09.mk x117) [116,97,103]
  let l128←app 72 x104 [(q07.mk a122 a124 a126 a120.1)]
  M.z0r a89 (ya .i64 (x103+1)) l128
 else
  some x104
 partial_fixpoint
def M.q1l  (p0:q09):Option q06:=do
 let a1←M.q22 p0 [101,114,114,111,114]
 let a3←M.q23 p0 [103,114,97,110,116]
 let a5←M.q23 p0 [97,99,99,101,115,115,95,116,111,107,101,110]
 let a7←M.q23 p0 [114,101,102,114,101,115,104,95,116,111,107,101,110]
 let a9←M.q23 p0 [105,100,95,116,111,107,101,110]
 let a11←M.q23 p0 [116,101,120,116]
 let a13←M.q24 p0 [115,99,111,112,101]
 let a15←M.q22 p0 [101,120,112,105,114,101,115,95,105,110]
 let a17←M.q22 p0 [108,101,118,101,108]
 let a19←M.q22 p0 [116,111,116,97,108]
 let a21←M.q1z p0 [97,99,116,105,118,101]
 let a23←M.q1z p0 [99,108,97,105,109,115]
 let a25←M.q23 a23 [105,115,115]
 let a27←M.q23 a23 [115,117,98]
 let a29←M.q23 a23 [97,117,100]
 let a31←M.q23 a23 [99,108,105,101,110,116,95,105,100]
 let a33←M.q23 a23 [106,116,105]
 let a35←M.q23 a23 [110,111,110,99,101]
 let a37←M.q22 a23 [105,97,116]
 let a39←M.q22 a23 [101,120,112]
 let a41←M.q22 a23 [108,101,118,101,108]
 let a43←M.q24 a23 [115,99,111,112,101]
 let a45←M.q24 a23 [97,99,116]
 let j88←(do
   let a89←M.q1z p0 [116,104,105,110,103,115]
   M.z0r a89 0 []:Option (List q07))
 some (q06.mk 0 a1 [] a3 a5 a7 a9 a11 a13 a15 a17 a19 (decide (a21.gv.zh=2)) (q01.mk a25 a27 a29 a31 a33 a35 a37 a39 a41 a43 a45) j88)
def M.q0t (fuel:Nat) (p0:Z):Option (q06 × Int × Int):=do
 let a1←M.q1f p0
 let a5←M.q1p ((decide (0<a1))||(decide ((p0.length:Int)<8192))) 220
 match a5 with
 | .pan e8 =>
  some ((q06.mk 0 0 [] [] [] [] [] [] [] 0 0 0 false (q01.mk [] [] [] [] [] [] 0 0 0 [] []) []),0,e8)
 | .ok a7 =>
  let a9←M.q1p (decide (0<a1)) 223
  match a9 with
  | .pan e12 =>
   some ((q06.mk 0 0 [] [] [] [] [] [] [] 0 0 0 false (q01.mk [] [] [] [] [] [] 0 0 0 [] []) []),0,e12)
  | .ok a11 =>
   let s13←sub p0 0 (ya .i64 (a1 - 4))
   let a14←M.split s13 [13,10]
   let j18←(do
     if (decide (3≤(a14.length:Int))) then
      let x19←ix a14 0
      some (decide (12<(x19.length:Int)))
     else
      some false:Option Bool)
   let a20←M.q1p j18 220
   match a20 with
   | .pan e23 =>
    some ((q06.mk 0 0 [] [] [] [] [] [] [] 0 0 0 false (q01.mk [] [] [] [] [] [] 0 0 0 [] []) []),0,e23)
   | .ok a22 =>
    let x24←ix a14 0
    let s25←sub x24 9 12
    let a26←M.q1t s25 3
    let j31←(do
      if a26.2 then
       let a32←M.q2v a26.1
       some (!decide (a32=[]))
      else
       some false:Option Bool)
    let a34←M.q1p j31 220
    match a34 with
    | .pan e37 =>
     some ((q06.mk 0 0 [] [] [] [] [] [] [] 0 0 0 false (q01.mk [] [] [] [] [] [] 0 0 0 [] []) []),0,e37)
    | .ok a36 =>
     let j49←(do
       if (decide ((a14.length:Int)=4)) then
        let x50←ix a14 2
        let a51←M.q74 x50 [115,101,116,45,99,111,111,107,105,101,58,32,115,101,115,115,105,111,110,61]
        let a53←M.cut a51 [59]
        some a53.1
       else
        some []:Option Z)
     let a55←M.trim j49 [65,66,67,68,69,70,71,72,73,74,75,76,77,78,79,80,81,82,83,84,85,86,87,88,89,90,97,98,99,100,101,102,103,104,105,106,107,108,109,110,111,112,113,114,115,116,117,118,119,120,121,122,48,49,50,51,52,53,54,55,56,57,45,95]
     let a57←M.q1p (decide (a55=[])) 220
     match a57 with
     | .pan e60 =>
      some ((q06.mk 0 0 [] [] [] [] [] [] [] 0 0 0 false (q01.mk [] [] [] [] [] [] 0 0 0 [] []) []),0,e60)
     | .ok a59 =>
      let x61←ix a14 (ya .i64 ((a14.length:Int) - 1))
      let a62←M.q74 x61 [99,111,110,116,101,110,116,45,108,101,110,103,116,104,58,32]
      let a64←M.q1t a62 5
      let q96←(do
        if a64.2 then
         if (decide (a64.1≤16384)) then
          let s97←sub p0 0 a1
          let a98←M.q1j a26.1 j49 a64.1
          let a100←M.q1p (decide (a98=s97)) 220
          match a100 with
          | .pan e103 =>
           some (.done ((q06.mk 0 0 [] [] [] [] [] [] [] 0 0 0 false (q01.mk [] [] [] [] [] [] 0 0 0 [] []) []),0,e103))
          | .ok a102 =>
           some (.go ())
         else
          let a104←M.q1p false 220
          match a104 with
          | .pan e107 =>
           some (.done ((q06.mk 0 0 [] [] [] [] [] [] [] 0 0 0 false (q01.mk [] [] [] [] [] [] 0 0 0 [] []) []),0,e107))
          | .ok a106 =>
           some (.go ())
        else
         let a108←M.q1p false 220
         match a108 with
         | .pan e111 =>
          some (.done ((q06.mk 0 0 [] [] [] [] [] [] [] 0 0 0 false (q01.mk [] [] [] [] [] [] 0 0 0 [] []) []),0,e111))
         | .ok a110 =>
          some (.go ()):Option (Jn (q06 × Int × Int) Unit))
      match q96 with
      | .done r=>some r
      | .go j96 =>
       let a112←M.q1p (decide (a64.1≤(ya .i64 ((p0.length:Int) - a1)))) 223
       match a112 with
       | .pan e115 =>
        some ((q06.mk 0 0 [] [] [] [] [] [] [] 0 0 0 false (q01.mk [] [] [] [] [] [] 0 0 0 [] []) []),0,e115)
       | .ok a114 =>
        let s116←sub p0 a1 (ya .i64 (a1+a64.1))
        let a117←M.q35 fuel s116
        let a119←M.q1p (decide (a117.2=0)) 220
        match a119 with
        | .pan e122 =>
         some ((q06.mk 0 0 [] [] [] [] [] [] [] 0 0 0 false (q01.mk [] [] [] [] [] [] 0 0 0 [] []) []),0,e122)
        | .ok a121 =>
         let a123←M.q1l (q09.mk a117.1)
         let a125←M.q0v fuel (q06.mk a26.1 a123.z19 j49 a123.z4i a123.z3e a123.z2c a123.gId a123.z06 a123.z07 a123.z1q a123.z1n a123.z3q a123.z6d a123.z0a a123.z4v)
         let j129←(do
           if (decide (a125.2=0)) then
            let s130←sub p0 0 (ya .i64 (a1+a64.1))
            some (decide (a125.1=s130))
           else
            some false:Option Bool)
         let a131←M.q1p j129 220
         match a131 with
         | .pan e134 =>
          some ((q06.mk 0 0 [] [] [] [] [] [] [] 0 0 0 false (q01.mk [] [] [] [] [] [] 0 0 0 [] []) []),0,e134)
         | .ok a133 =>
          some ((q06.mk a26.1 a123.z19 j49 a123.z4i a123.z3e a123.z2c a123.gId a123.z06 a123.z07 a123.z1q a123.z1n a123.z3q a123.z6d a123.z0a a123.z4v),(ya .i64 (a1+a64.1)),0)
def M.q2d  (p0:Int) (p1 p2 p3:Z) (p4:q0a) (p5:q03):Option q03:=do
 if ((!decide ((z7w .i64 p4.z63 p0)=0))&&(!decide (p1=[]))) then
  let l3←app 32 p5.z0j [(q05.mk p2 p3)]
  some (q03.mk p5.zx p5.z05 [] l3 p5.zt)
 else
  some (q03.mk p5.zx p5.z05 [] p5.z0j p5.zt)
def M.z2k (x233:Int) (x323:Int) (x341:Int) (x342:List Int):Option (Int × (List Int)):=do
 if (decide (6≤x341)) then
  let _←chk (decide (0≤(ya .i64 (x341 - 6))))
  let c346←ix ([65,66,67,68,69,70,71,72,73,74,75,76,77,78,79,80,81,82,83,84,85,86,87,88,89,90,97,98,99,100,101,102,103,104,105,106,107,108,109,110,111,112,113,114,115,116,117,118,119,120,121,122,48,49,50,51,52,53,54,55,56,57,45,95]:Z) (z7w .i64 (zg5 .i64 (orI .i64 (z5x .i64 x233 8) (ya .i64 x323)) (ya .i64 (x341 - 6))) 63)
  let a347←M.q70 x342 (c346.toNat:Int)
  M.z2k x233 x323 (ya .i64 (x341 - 6)) a347
 else
  some (x341,x342)
 partial_fixpoint
def M.z1y (p0:Z) (x233:Int) (x234:Int) (x235:Int) (x236:List Int):Option (Int × Int × (List Int)):=do
 if (decide (x235<((unb p0).length:Int))) then
  let j322←(do
    let x323←ix (unb p0) x235
    let j337←(do
      M.z2k x233 x323 (ya .i64 (x234+8)) x236:Option (Int × (List Int)))
    let _←chk (decide (0≤j337.1))
    some ((z7w .i64 (orI .i64 (z5x .i64 x233 8) (ya .i64 x323)) (ya .i64 ((z5x .i64 1 j337.1) - 1))),j337.1,j337.2):Option (Int × Int × (List Int)))
  M.z1y p0 j322.1 j322.2.1 (ya .i64 (x235+1)) j322.2.2
 else
  some (x233,x234,x236)
 partial_fixpoint
def M.q0h  (p0:Z):Option Z:=do
 let j176←(do
   let _←chk (decide (p0.length≤9223372036854775807))
   M.z1y p0 0 0 0 ([]:List Int):Option (Int × Int × (List Int)))
 if (decide (0<j176.2.1)) then
  let _←chk (decide (0≤(ya .i64 (6 - j176.2.1))))
  let c349←ix ([65,66,67,68,69,70,71,72,73,74,75,76,77,78,79,80,81,82,83,84,85,86,87,88,89,90,97,98,99,100,101,102,103,104,105,106,107,108,109,110,111,112,113,114,115,116,117,118,119,120,121,122,48,49,50,51,52,53,54,55,56,57,45,95]:Z) (z7w .i64 (z5x .i64 j176.1 (ya .i64 (6 - j176.2.1))) 63)
  let a350←M.q70 j176.2.2 (c349.toNat:Int)
  let a352←M.zw a350
  some a352
 else
  let a354←M.zw j176.2.2
  some a354
def M.zq (p0:Z) (p1:Z) (x105:Int) (x106:List Int):Option (List Int):=do
 if (decide (x105<((unb p0).length:Int))) then
  let x132←ix (unb p0) x105
  let j144←(do
    if ((((decide (65≤x132))&&(decide (x132≤90)))||((decide (97≤x132))&&(decide (x132≤122))))||((decide (48≤x132))&&(decide (x132≤57)))) then
     some true
    else
     let a145←M.z0y [45,46,95,126] x132
     some (decide (0≤a145)):Option Bool)
  if j144 then
   let a147←M.q70 x106 x132
   M.zq p0 p1 (ya .i64 (x105+1)) a147
  else
   if (decide (x132=32)) then
    let a149←M.q71 x106 p1
    M.zq p0 p1 (ya .i64 (x105+1)) a149.2
   else
    let s151←sub ([48,49,50,51,52,53,54,55,56,57,65,66,67,68,69,70]:Z) (zg5 .u8 x132 4) (ya .u8 ((zg5 .u8 x132 4)+1))
    let s152←cat [37] s151
    let s153←sub ([48,49,50,51,52,53,54,55,56,57,65,66,67,68,69,70]:Z) (z7w .u8 x132 15) (ya .u8 ((z7w .u8 x132 15)+1))
    let s154←cat s152 s153
    let a155←M.q71 x106 s154
    M.zq p0 p1 (ya .i64 (x105+1)) a155.2
 else
  some x106
 partial_fixpoint
def M.q0p  (p0 p1:Z):Option Z:=do
 let j79←(do
   let _←chk (decide (p0.length≤9223372036854775807))
   M.zq p0 p1 0 ([]:List Int):Option (List Int))
 let a157←M.zw j79
 some a157
def M.z0b (p0:List q05) (x37:List Z) (x38:Int):Option (List Z):=do
 if (decide (x38<(p0.length:Int))) then
  let x47←ix p0 x38
  let a48←M.q0p x47.zu [43]
  let s50←cat a48 [61]
  let a51←M.q0p x47.z1t [43]
  let s53←cat s50 a51
  let l54←app 16 x37 [s53]
  M.z0b p0 l54 (ya .i64 (x38+1))
 else
  some x37
 partial_fixpoint
def M.q0i  (p0:List q05):Option (Z × Int):=do
 if (decide (64<(p0.length:Int))) then
  some ([],14)
 else
  let j28←(do
    M.z0b p0 [] 0:Option (List Z))
  let a55←M.join j28 [38]
  if (decide (8192<(a55.length:Int))) then
   some ([],14)
  else
   some (a55,0)
def M.zp (a21:(List Z)) (p1:q00) (x27:Int) (x28:List Z):Option (List Z):=do
 if (decide (x27<(a21.length:Int))) then
  let x33←ix a21 x27
  let j35←(do
    if (decide (x33=[79,70])) then
     some p1.gOf
    else
     if (decide (x33=[78,65,77,69])) then
      some p1.zu
     else
      some x33:Option Z)
  let l36←app 16 x28 [j35]
  M.zp a21 p1 (ya .i64 (x27+1)) l36
 else
  some x28
 partial_fixpoint
def M.zn (p0:q0a) (p1:q00) (x235:List q05) (x236:Int):Option (List q05):=do
 if (decide (x236<(p0.z1h.length:Int))) then
  let x283←ix p0.z1h x236
  let j313←(do
    let a314←M.q2p x283 p1
    if a314=24 then
     if (decide (p1.z2l=0)) then
      some []
     else
      let a316←M.itoa p1.z2l
      some a316
    else
     if a314=25 then
      if (decide (p1.z11=0)) then
       some []
      else
       let a318←M.itoa p1.z11
       some a318
     else
      if a314=1000000 then
       if x283.zi0 then
        let a320←M.q0q x283.z4e p1
        let s322←q00.zg6 p1 a320
        let a323←M.q0h s322
        some a323
       else
        if (!Nat.beq x283.z4e NF) then
         let a325←M.q0q x283.z4e p1
         let s327←q00.zg6 p1 a325
         some s327
        else
         some x283.z9g
      else
       none:Option Z)
  if (!decide (j313=[])) then
   let l328←app 32 x235 [(q05.mk x283.zc4 j313)]
   M.zn p0 p1 l328 (ya .i64 (x236+1))
  else
   M.zn p0 p1 x235 (ya .i64 (x236+1))
 else
  some x235
 partial_fixpoint
def M.q2c (fuel:Nat) (p0:q0a) (p1:q00):Option (q03 × Int):=do
 let j19←(do
   let s20←sub p0.zc5 1 (p0.zc5.length:Int)
   let a21←M.split s20 [47]
   M.zp a21 p1 0 []:Option (List Z))
 let s37←cat [115,101,115,115,105,111,110,61] p1.z09
 let a38←M.q2d 1 p1.z09 [99,111,111,107,105,101] s37 p0 (q03.mk p0.z5v j19 [] [(q05.mk [104,111,115,116] [105,100,112])] [])
 let s40←cat [66,101,97,114,101,114,32] p1.z1d
 let a41←M.q2d 2 p1.z1d [97,117,116,104,111,114,105,122,97,116,105,111,110] s40 p0 (q03.mk a38.zx a38.z05 [] a38.z0j a38.zt)
 let s43←cat [34] p1.z5k
 let s44←cat s43 [34]
 let a45←M.q2d 4 p1.z5k [105,102,45,109,97,116,99,104] s44 p0 (q03.mk a41.zx a41.z05 [] a41.z0j a41.zt)
 let j188←(do
   M.zn p0 p1 [] 0:Option (List q05))
 if (decide (p0.z2o=2)) then
  some ((q03.mk a45.zx a45.z05 j188 a45.z0j a45.zt),0)
 else
  if (decide (p0.z2o=1)) then
   let a329←M.q0i j188
   some ((q03.mk a45.zx a45.z05 [] a45.z0j a329.1),a329.2)
  else
   if (decide (p0.z2o=4)) then
    some ((q03.mk a45.zx a45.z05 [] a45.z0j p1.z1c),0)
   else
    if (decide (p0.z2o=3)) then
     let a331←M.q1v
     let a333←M.q2m p1.zu
     let a335←M.q1n a331 true [105,100] a333
     let a337←M.q1u p1.zi
     let a339←M.q1n a335 true [102,105,101,108,100,115] a337
     let a341←M.q36 fuel a339.zo
     some ((q03.mk a45.zx a45.z05 [] a45.z0j a341.1),a341.2)
    else
     some ((q03.mk a45.zx a45.z05 [] a45.z0j a45.zt),0)
def M.z1v (p0:List q05) (x55:Int) (x56:List (Z × Bool)):Option (Jn Bool (List (Z × Bool))):=do
 if (decide (x55<(p0.length:Int))) then
  let x69←ix p0 x55
  let a70←M.q1q x69.zu
  let j75←(do
    if (!a70) then
     some true
    else
     let a76←M.q2s x69.z1t
     some (!a76):Option Bool)
  let j79←(do
    if j75 then
     some true
    else
     some (z62 x56 x69.zu false):Option Bool)
  if j79 then
   some (.done false)
  else
   let m80←some (z36 x56 x69.zu true)
   M.z1v p0 (ya .i64 (x55+1)) m80
 else
  some (.go x56)
 partial_fixpoint
def M.q1k  (p0:List q05):Option Bool:=do
 let m1←some (z36 ([]:List (Z × Bool)) [99,111,110,116,101,110,116,45,108,101,110,103,116,104] true)
 let m2←some (z36 m1 [116,114,97,110,115,102,101,114,45,101,110,99,111,100,105,110,103] true)
 let q42←(do
   M.z1v p0 0 m2:Option (Jn Bool (List (Z × Bool))))
 match q42 with
 | .done r=>some r
 | .go j42 =>
  let j82←(do
    if (decide ((p0.length:Int)≤32)) then
     some (z62 j42 [104,111,115,116] false)
    else
     some false:Option Bool)
  some j82
def M.q0n  (p0:Z):Option Z:=do
 let a1←M.q0p p0 [37,50,48]
 some a1
def M.z2w (p0:q03) (x76:Int) (x77:List Int):Option (List Int):=do
 if (decide (x76<(p0.z05.length:Int))) then
  let x84←ix p0.z05 x76
  let a85←M.q0n x84
  let s87←cat [47] a85
  let a88←M.q71 x77 s87
  M.z2w p0 (ya .i64 (x76+1)) a88.2
 else
  some x77
 partial_fixpoint
def M.z2x (p0:q03) (x131:Int) (x132:List Int):Option (List Int):=do
 if (decide (x131<(p0.z0j.length:Int))) then
  let x139←ix p0.z0j x131
  let s140←cat x139.zu [58,32]
  let s141←cat s140 x139.z1t
  let s142←cat s141 [13,10]
  let a143←M.q71 x132 s142
  M.z2x p0 (ya .i64 (x131+1)) a143.2
 else
  some x132
 partial_fixpoint
def M.q0u  (p0:q03):Option (Z × Int):=do
 let a1←M.q0i p0.z0p
 let j27←(do
   if (!decide (a1.2=0)) then
    some true
   else
    let a28←M.q1o p0.zx
    some (!a28):Option Bool)
 let j37←(do
   if ((j27||(decide ((p0.z05.length:Int)=0)))||(decide (64<(p0.z05.length:Int)))) then
    some true
   else
    let a38←M.q1k p0.z0j
    some (!a38):Option Bool)
 if ((j37||((decide ((p0.z0j.length:Int)=32))&&(!decide (p0.zt=[]))))||(decide (16384<(p0.zt.length:Int)))) then
  some ([],224)
 else
  let s45←cat p0.zx [32]
  let a46←M.q71 ([]:List Int) s45
  let j69←(do
    M.z2w p0 0 a46.2:Option (List Int))
  let j97←(do
    if (!decide (a1.1=[])) then
     let s98←cat [63] a1.1
     let a99←M.q71 j69 s98
     some a99.2
    else
     some j69:Option (List Int))
  let a101←M.q71 j97 [32,72,84,84,80,47,49,46,49,13,10]
  let j124←(do
    M.z2x p0 0 a101.2:Option (List Int))
  let j158←(do
    if (!decide (p0.zt=[])) then
     let a159←M.itoa (p0.zt.length:Int)
     let s161←cat [99,111,110,116,101,110,116,45,108,101,110,103,116,104,58,32] a159
     let s162←cat s161 [13,10]
     let a163←M.q71 j124 s162
     some a163.2
    else
     some j124:Option (List Int))
  let a165←M.q71 j158 [13,10]
  let a169←M.q6z a165.2
  if (decide (8192<a169)) then
   some ([],224)
  else
   let a171←M.zw a165.2
   let s173←cat a171 p0.zt
   some (s173,0)
def M.z0d (p0:List Z) (p1:List Z) (x11:Int):Option (Jn Bool Unit):=do
 if (decide (x11<(p0.length:Int))) then
  let x14←ix p0 x11
  let x15←ix p1 x11
  if (!decide (x14=x15)) then
   some (.done false)
  else
   M.z0d p0 p1 (ya .i64 (x11+1))
 else
  some (.go ())
 partial_fixpoint
def M.q6u  (p0 p1:List Z):Option Bool:=do
 if (!decide ((p0.length:Int)=(p1.length:Int))) then
  some false
 else
  let q8←(do
    M.z0d p0 p1 0:Option (Jn Bool Unit))
  match q8 with
  | .done r=>some r
  | .go j8 =>
   some true
def M.q2h  (p0 p1:q02):Option Bool:=do
 let j4←(do
   if (decide (p0.zu=p1.zu)) then
    let a5←M.q6u p0.z2d p1.z2d
    some a5
   else
    some false:Option Bool)
 some j4
def M.za (p0:List q02) (p1:List q02) (x19:Int):Option (Jn Bool Unit):=do
 if (decide (x19<(p0.length:Int))) then
  let x24←ix p0 x19
  let x25←ix p1 x19
  let a26←M.q2h x24 x25
  if (!a26) then
   some (.done false)
  else
   M.za p0 p1 (ya .i64 (x19+1))
 else
  some (.go ())
 partial_fixpoint
def M.q6t  (p0 p1:List q02):Option Bool:=do
 if (!decide ((p0.length:Int)=(p1.length:Int))) then
  some false
 else
  let q14←(do
    M.za p0 p1 0:Option (Jn Bool Unit))
  match q14 with
  | .done r=>some r
  | .go j14 =>
   some true
def M.q2i  (p0:q00):Option (List Z):=do
 some [p0.gOf,p0.z2q,p0.z2p,p0.z09,p0.z19,p0.z1d,p0.z1g,p0.z00,p0.z0o,p0.z02,p0.z07,p0.z01,p0.zv,p0.z03,p0.z0f,p0.zu,p0.z2z,p0.zt,p0.z6e,p0.z5k,p0.z0n,p0.z1c]
def M.q2g  (p0 p1:q00):Option Bool:=do
 let a3←M.q6t p0.zi p1.zi
 if (!a3) then
  some false
 else
  let a5←M.q2i p0
  let a7←M.q2i p1
  some ((((decide ((a5.getD 0 [])=(a7.getD 0 []))&&(decide ((a5.getD 1 [])=(a7.getD 1 []))&&(decide ((a5.getD 2 [])=(a7.getD 2 []))&&(decide ((a5.getD 3 [])=(a7.getD 3 []))&&(decide ((a5.getD 4 [])=(a7.getD 4 []))&&(decide ((a5.getD 5 [])=(a7.getD 5 []))&&(decide ((a5.getD 6 [])=(a7.getD 6 []))&&(decide ((a5.getD 7 [])=(a7.getD 7 []))&&(decide ((a5.getD 8 [])=(a7.getD 8 []))&&(decide ((a5.getD 9 [])=(a7.getD 9 []))&&(decide ((a5.getD 10 [])=(a7.getD 10 []))&&(decide ((a5.getD 11 [])=(a7.getD 11 []))&&(decide ((a5.getD 12 [])=(a7.getD 12 []))&&(decide ((a5.getD 13 [])=(a7.getD 13 []))&&(decide ((a5.getD 14 [])=(a7.getD 14 []))&&(decide ((a5.getD 15 [])=(a7.getD 15 []))&&(decide ((a5.getD 16 [])=(a7.getD 16 []))&&(decide ((a5.getD 17 [])=(a7.getD 17 []))&&(decide ((a5.getD 18 [])=(a7.getD 18 []))&&(decide ((a5.getD 19 [])=(a7.getD 19 []))&&(decide ((a5.getD 20 [])=(a7.getD 20 []))&&(decide ((a5.getD 21 [])=(a7.getD 21 []))&&true))))))))))))))))))))))&&(decide (p0.zh=p1.zh)))&&(decide (p0.z2l=p1.z2l)))&&(decide (p0.z11=p1.z11)))
def M.z04 (a56:(List q0a)) (p0:q00) (fuel:Nat) (x75:Int):Option (Jn (q03 × Int) Unit):=do
 if (decide (x75<(a56.length:Int))) then
  let x93←ix a56 x75
  if (!decide (x93.zhz=p0.zh)) then
   M.z04 a56 p0 fuel (ya .i64 (x75+1))
  else
   let a94←M.q2c fuel x93 p0
   let a96←M.q0u a94.1
   let a98←M.q0r fuel a94.1
   let j107←(do
     if (((decide (a94.2=0))&&(decide (a96.2=0)))&&(decide (a98.2=0))) then
      let a108←M.q2g p0 a98.1
      some a108
     else
      some false:Option Bool)
   if j107 then
    some (.done (a94.1,0))
   else
    M.z04 a56 p0 fuel (ya .i64 (x75+1))
 else
  some (.go ())
 partial_fixpoint
def M.q0w (fuel:Nat) (p0:q00):Option (q03 × Int):=do
 let q55←(do
   let a56←M.q2e
   M.z04 a56 p0 fuel 0:Option (Jn (q03 × Int) Unit))
 match q55 with
 | .done r=>some r
 | .go j55 =>
  some ((q03.mk [] [] [] [] []),224)
def M.q0x  (p0:Int):Option Int:=do
 if (decide (p0=221)) then
  some 413
 else
  if (decide (p0=222)) then
   some 431
  else
   if (decide (p0=225)) then
    some 404
   else
    if (decide (p0=226)) then
     some 405
    else
     some 400
def M.q3x (fuel:Nat):Option Bool:=do
 let a1←M.q0s [80,79,83,84,32,47,108,111,103,105,110,32,72,84,84,80,47,49,46,49,13,10,72,111,115,116,58,32,120,13,10,67,111,110,116,101,110,116,45,76,101,110,103,116,104,58,32,49,53,13,10,13,10,117,115,101,114,61,97,110,110,38,112,97,115,115,61,112,109,111,114,101]
 let a3←M.q0r fuel a1.1
 let s5←sub ([80,79,83,84,32,47,108,111,103,105,110,32,72,84,84,80,47,49,46,49,13,10,72,111,115,116,58,32,120,13,10,67,111,110,116,101,110,116,45,76,101,110,103,116,104,58,32,49,53,13,10,13,10,117,115,101,114,61,97,110,110,38,112,97,115,115,61,112]:Z) 0 60
 let a6←M.q0s s5
 let a8←M.q0s [71,69,84,32,47,32,72,84,84,80,47,49,46,48,13,10,104,111,115,116,58,120,13,10,13,10]
 let a10←M.q0r fuel (q03.mk [71,69,84] [([108,111,103,105,110]:Z)] [] [] [])
 let a12←M.q0r fuel (q03.mk [71,69,84] [([120]:Z)] [] [] [])
 let a14←M.q0v fuel (q06.mk 401 171 [] [] [] [] [] [] [] 0 0 0 false (q01.mk [] [] [] [] [] [] 0 0 0 [] []) [])
 let a16←M.q0t fuel a14.1
 let a18←M.q0w fuel (q00.mk 1 [] [97,110,110] [112] [] [] [] [] [] [] [] [] [] [] [] [] [] [] [] [] [] [] [] [] 0 0)
 let a20←M.q0u a18.1
 let j61←(do
   if (((((((((((((((((((decide (a1.2.2=0))&&(decide (a1.2.1=68)))&&(decide (a3.2=0)))&&(decide (a3.1.zh=1)))&&(decide (a3.1.z2q=[97,110,110])))&&(decide (a3.1.z2p=[112])))&&(decide (a6.2.2=223)))&&(decide (a8.2.2=220)))&&(decide (a10.2=226)))&&(decide (a12.2=225)))&&(decide (a14.2=0)))&&(decide (a14.1=[72,84,84,80,47,49,46,49,32,52,48,49,32,85,110,97,117,116,104,111,114,105,122,101,100,13,10,99,111,110,116,101,110,116,45,116,121,112,101,58,32,97,112,112,108,105,99,97,116,105,111,110,47,106,115,111,110,13,10,99,111,110,116,101,110,116,45,108,101,110,103,116,104,58,32,49,51,13,10,13,10,123,34,101,114,114,111,114,34,58,49,55,49,125])))&&(decide (a16.2.2=0)))&&(decide (a16.2.1=(a14.1.length:Int))))&&(decide (a16.1.z19=171)))&&(decide (a16.1.z8c=401)))&&(decide (a18.2=0)))&&(decide (a20.2=0)))&&(decide (a20.1=[80,79,83,84,32,47,108,111,103,105,110,32,72,84,84,80,47,49,46,49,13,10,104,111,115,116,58,32,105,100,112,13,10,99,111,110,116,101,110,116,45,108,101,110,103,116,104,58,32,49,53,13,10,13,10,117,115,101,114,61,97,110,110,38,112,97,115,115,61,112]))) then
    let a62←M.q0x 221
    some (decide (a62=413))
   else
    some false:Option Bool)
 some (((((((j61&&true)&&true)&&true)&&true)&&true)&&true)&&true)
def M.z0x (p0:List Z) (p1:List Z) (x11:Int):Option (Jn Bool Unit):=do
 if (decide (x11<(p0.length:Int))) then
  let x14←ix p0 x11
  let x15←ix p1 x11
  if (!decide (x14=x15)) then
   some (.done false)
  else
   M.z0x p0 p1 (ya .i64 (x11+1))
 else
  some (.go ())
 partial_fixpoint
def M.q4k  (p0 p1:List Z):Option Bool:=do
 if (!decide ((p0.length:Int)=(p1.length:Int))) then
  some false
 else
  let q8←(do
    M.z0x p0 p1 0:Option (Jn Bool Unit))
  match q8 with
  | .done r=>some r
  | .go j8 =>
   some true
def M.z3z (p0:List q05) (p1:List q05) (x11:Int):Option (Jn Bool Unit):=do
 if (decide (x11<(p0.length:Int))) then
  let x14←ix p0 x11
  let x15←ix p1 x11
  if (!(decide (x14.zu=x15.zu)&&(decide (x14.z1t=x15.z1t)&&true))) then
   some (.done false)
  else
   M.z3z p0 p1 (ya .i64 (x11+1))
 else
  some (.go ())
 partial_fixpoint
def M.q47  (p0 p1:List q05):Option Bool:=do
 if (!decide ((p0.length:Int)=(p1.length:Int))) then
  some false
 else
  let q8←(do
    M.z3z p0 p1 0:Option (Jn Bool Unit))
  match q8 with
  | .done r=>some r
  | .go j8 =>
   some true
def M.q5i  (p0 p1:q03):Option Bool:=do
 let j4←(do
   if (decide (p0.zx=p1.zx)) then
    let a5←M.q4k p0.z05 p1.z05
    some a5
   else
    some false:Option Bool)
 let j10←(do
   if j4 then
    let a11←M.q47 p0.z0p p1.z0p
    some a11
   else
    some false:Option Bool)
 let j16←(do
   if j10 then
    let a17←M.q47 p0.z0j p1.z0j
    some a17
   else
    some false:Option Bool)
 some (j16&&(decide (p0.zt=p1.zt)))
def M.z1o (p0:List q02) (p1:List q02) (x51:Int):Option (Jn Bool Unit):=do
 if (decide (x51<(p0.length:Int))) then
  let x64←ix p0 x51
  let x65←ix p1 x51
  let j71←(do
    if (!decide (x64.zu=x65.zu)) then
     some true
    else
     let x72←ix p0 x51
     let x73←ix p1 x51
     let a74←M.q4k x72.z2d x73.z2d
     some (!a74):Option Bool)
  if j71 then
   some (.done false)
  else
   M.z1o p0 p1 (ya .i64 (x51+1))
 else
  some (.go ())
 partial_fixpoint
def M.q5h  (p0 p1:List q02):Option Bool:=do
 if (!decide ((p0.length:Int)=(p1.length:Int))) then
  some false
 else
  let q38←(do
    M.z1o p0 p1 0:Option (Jn Bool Unit))
  match q38 with
  | .done r=>some r
  | .go j38 =>
   some true
def M.q5g  (p0 p1:q00):Option Bool:=do
 let j52←(do
   if (((((((((((((((((((((((((decide (p0.zh=p1.zh))&&(decide (p0.gOf=p1.gOf)))&&(decide (p0.z2q=p1.z2q)))&&(decide (p0.z2p=p1.z2p)))&&(decide (p0.z09=p1.z09)))&&(decide (p0.z19=p1.z19)))&&(decide (p0.z1d=p1.z1d)))&&(decide (p0.z1g=p1.z1g)))&&(decide (p0.z00=p1.z00)))&&(decide (p0.z0o=p1.z0o)))&&(decide (p0.z02=p1.z02)))&&(decide (p0.z07=p1.z07)))&&(decide (p0.z01=p1.z01)))&&(decide (p0.zv=p1.zv)))&&(decide (p0.z03=p1.z03)))&&(decide (p0.z0f=p1.z0f)))&&(decide (p0.zu=p1.zu)))&&(decide (p0.z2z=p1.z2z)))&&(decide (p0.zt=p1.zt)))&&(decide (p0.z6e=p1.z6e)))&&(decide (p0.z5k=p1.z5k)))&&(decide (p0.z0n=p1.z0n)))&&(decide (p0.z1c=p1.z1c)))&&(decide (p0.z2l=p1.z2l)))&&(decide (p0.z11=p1.z11))) then
    let a53←M.q5h p0.zi p1.zi
    some a53
   else
    some false:Option Bool)
 some j52
def M.q3w (fuel:Nat) (p0 p1:q00) (p2:Z):Option Bool:=do
 let a1←M.q0w fuel p0
 let a5←M.q3x fuel
 if (!a5) then
  some false
 else
  if (!decide (a1.2=0)) then
   let j16←(do
     if (decide (a1.2=224)) then
      let a17←M.q5i a1.1 (q03.mk [] [] [] [] [])
      some a17
     else
      some false:Option Bool)
   some j16
  else
   let a19←M.q0u a1.1
   let s21←cat a19.1 p2
   let a22←M.q0s s21
   let a24←M.q0r fuel a22.1
   let j47←(do
     if ((((!decide (a19.2=0))||(!decide (a22.2.2=0)))||(!decide (a24.2=0)))||(!decide (a22.2.1=(a19.1.length:Int)))) then
      some true
     else
      let a48←M.q5g a24.1 p0
      some (!a48):Option Bool)
   if j47 then
    some false
   else
    let a50←M.q0w fuel p1
    let a52←M.q0u a50.1
    let j57←(do
      if (!decide (a50.2=0)) then
       some true
      else
       if (decide (a52.2=0)) then
        let a58←M.q5g p0 p1
        some ((decide (a19.1=a52.1))==a58)
       else
        some false:Option Bool)
    some j57
end Go.Sen
