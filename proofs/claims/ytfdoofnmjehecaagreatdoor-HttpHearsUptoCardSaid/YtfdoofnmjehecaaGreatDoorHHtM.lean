import Derived.Test.YtfdoofnmjehecaaGreatDoorHPfX
import Derived.Lib.ValidLaws
import Derived.Lib.AtoiAll
import Derived.Lib.ItoaNum
import Derived.Lib.SlTrimSet
import Derived.Lib.Bytealg
import Derived.Lib.SlicesCompact
import Derived.Lib.IndexMore
import Derived.Lib.Join
import Derived.Lib.Split
import Derived.Lib.CountLaws
import Derived.Shelf.Strings.MapAny
import Derived.Shelf.GgClosure.StringsIndexFunc
import Derived.Lib.IndexAny
import Derived.Lib.Replace
set_option linter.all false
namespace Go.Sen
open _root_.Int renaming tmod → ya
open IntKind renaming wrap → yb
open Go.Lk Go.Pe
abbrev B1:List UInt8:=[65,66,67,68,69,70,71,72,73,74,75,76,77,78,79,80,81,82,83,84,85,86,87,88,89,90,97,98,99,100,101,102,103,104,105,106,107,108,109,110,111,112,113,114,115,116,117,118,119,120,121,122,48,49,50,51,52,53,54,55,56,57,45,95]
abbrev B2:List UInt8:=[114,101,102,114,101,115,104,95,116,111,107,101,110]
abbrev B3:List UInt8:=[99,108,105,101,110,116,95,105,100]
abbrev B4:List UInt8:=[72,84,84,80,47,49,46,49,32,52,48,49,32,85,110,97,117,116,104,111,114,105,122,101,100,13,10,99,111,110,116,101,110,116,45,116,121,112,101,58,32,97,112,112,108,105,99,97,116,105,111,110,47,106,115,111,110,13,10,99,111,110,116,101,110,116,45,108,101,110,103,116,104,58,32,49,51,13,10,13,10,123,34,101,114,114,111,114,34,58,49,55,49,125]
abbrev B5:List UInt8:=[99,111,110,116,101,110,116,45,108,101,110,103,116,104,58,32]
abbrev B6:List UInt8:=[115,101,116,45,99,111,111,107,105,101,58,32,115,101,115,115,105,111,110,61]
abbrev B7:List UInt8:=[97,99,99,101,115,115,95,116,111,107,101,110]
abbrev B8:List UInt8:=[80,79,83,84,32,47,108,111,103,105,110,32,72,84,84,80,47,49,46,49,13,10,72,111,115,116,58,32,120,13,10,67,111,110,116,101,110,116,45,76,101,110,103,116,104,58,32,49,53,13,10,13,10,117,115,101,114,61,97,110,110,38,112,97,115,115,61,112,109,111,114,101]
abbrev B9:List UInt8:=[80,79,83,84,32,47,108,111,103,105,110,32,72,84,84,80,47,49,46,49,13,10,104,111,115,116,58,32,105,100,112,13,10,99,111,110,116,101,110,116,45,108,101,110,103,116,104,58,32,49,53,13,10,13,10,117,115,101,114,61,97,110,110,38,112,97,115,115,61,112]
abbrev B10:List UInt8:=[115,99,111,112,101]
abbrev B11:List UInt8:=[80,79,83,84,32,47,108,111,103,105,110,32,72,84,84,80,47,49,46,49,13,10,72,111,115,116,58,32,120,13,10,67,111,110,116,101,110,116,45,76,101,110,103,116,104,58,32,49,53,13,10,13,10,117,115,101,114,61,97,110,110,38,112,97,115,115,61,112]
abbrev B12:List UInt8:=[80,79,83,84]
abbrev B13:List UInt8:=[105,100,95,116,111,107,101,110]
abbrev B14:List UInt8:=[101,120,112,105,114,101,115,95,105,110]
abbrev B15:List UInt8:=[102,97,108,115,101]
abbrev B16:List UInt8:=[117,114,110,58,105,101,116,102,58,112,97,114,97,109,115,58,111,97,117,116,104,58,103,114,97,110,116,45,116,121,112,101,58,116,111,107,101,110,45,101,120,99,104,97,110,103,101]
abbrev B17:List UInt8:=[99,108,105,101,110,116,95,115,101,99,114,101,116]
abbrev B18:List UInt8:=[82,101,113,117,101,115,116,32,72,101,97,100,101,114,32,70,105,101,108,100,115,32,84,111,111,32,76,97,114,103,101]
abbrev B19:List UInt8:=[108,101,118,101,108]
abbrev B20:List UInt8:=[110,117,108,108]
abbrev B21:List UInt8:=[116,114,117,101]
abbrev B22:List UInt8:=[110,111,110,99,101]
abbrev B23:List UInt8:=[99,111,110,116,101,110,116,45,108,101,110,103,116,104]
abbrev B24:List UInt8:=[116,114,97,110,115,102,101,114,45,101,110,99,111,100,105,110,103]
abbrev B25:List UInt8:=[34,92,47,98,102,110,114,116]
abbrev B26:List UInt8:=[103,114,97,110,116]
abbrev B27:List UInt8:=[116,104,105,110,103,115]
abbrev B28:List UInt8:=[73,110,116,101,114,110,97,108,32,83,101,114,118,101,114,32,69,114,114,111,114]
abbrev B29:List UInt8:=[97,99,116,105,118,101]
abbrev B30:List UInt8:=[99,108,97,105,109,115]
abbrev B31:List UInt8:=[73,110,115,117,102,102,105,99,105,101,110,116,32,83,116,111,114,97,103,101]
abbrev B32:List UInt8:=[99,111,110,116,101,110,116,45,116,121,112,101,58,32,97,112,112,108,105,99,97,116,105,111,110,47,106,115,111,110]
abbrev B33:List UInt8:=[102,105,101,108,100,115]
abbrev B34:List UInt8:=[116,101,120,116]
abbrev B35:List UInt8:=[80,114,101,99,111,110,100,105,116,105,111,110,32,70,97,105,108,101,100]
abbrev B36:List UInt8:=[116,111,107,101,110]
abbrev B37:List UInt8:=[101,114,114,111,114]
abbrev B38:List UInt8:=[83,101,114,118,105,99,101,32,85,110,97,118,97,105,108,97,98,108,101]
abbrev B39:List UInt8:=[97,117,116,104,111,114,105,122,97,116,105,111,110]
abbrev B40:List UInt8:=[77,101,116,104,111,100,32,78,111,116,32,65,108,108,111,119,101,100]
abbrev B41:List UInt8:=[116,111,116,97,108]
abbrev B42:List UInt8:=[103,114,97,110,116,95,116,121,112,101]
abbrev B43:List UInt8:=[67,111,110,116,101,110,116,32,84,111,111,32,76,97,114,103,101]
abbrev B44:List UInt8:=[84,111,111,32,77,97,110,121,32,82,101,113,117,101,115,116,115]
abbrev B45:List UInt8:=[114,101,100,105,114,101,99,116,95,117,114,105]
abbrev B46:List UInt8:=[99,111,100,101,95,99,104,97,108,108,101,110,103,101,95,109,101,116,104,111,100]
abbrev B47:List UInt8:=[104,111,115,116]
abbrev B48:List UInt8:=[85,110,97,117,116,104,111,114,105,122,101,100]
abbrev B49:List UInt8:=[97,117,116,104,111,114,105,122,97,116,105,111,110,95,99,111,100,101]
abbrev B50:List UInt8:=[99,108,105,101,110,116,95,99,114,101,100,101,110,116,105,97,108,115]
abbrev B51:List UInt8:=[47,115,99,105,109,47,79,70,47,78,65,77,69]
abbrev B52:List UInt8:=[99,111,100,101]
abbrev B53:List UInt8:=[115,101,115,115,105,111,110,61]
abbrev B54:List UInt8:=[59,32,80,97,116,104,61,47,59,32,72,116,116,112,79,110,108,121]
abbrev B55:List UInt8:=[97,117,100,105,101,110,99,101]
abbrev B56:List UInt8:=[66,97,100,32,82,101,113,117,101,115,116]
abbrev B57:List UInt8:=[105,102,45,109,97,116,99,104]
abbrev B58:List UInt8:=[32,80,97,116,104,61,47,59,32,72,116,116,112,79,110,108,121]
abbrev B59:List UInt8:=[99,111,100,101,95,99,104,97,108,108,101,110,103,101]
abbrev B60:List UInt8:=[70,111,114,98,105,100,100,101,110]
abbrev B61:List UInt8:=[108,111,103,105,110]
abbrev B62:List UInt8:=[114,101,115,112,111,110,115,101,95,116,121,112,101]
abbrev B63:List UInt8:=[66,101,97,114,101,114,32]
abbrev B64:List UInt8:=[99,111,100,101,95,118,101,114,105,102,105,101,114]
abbrev B65:List UInt8:=[78,111,116,32,70,111,117,110,100]
abbrev B66:List UInt8:=[115,117,98,106,101,99,116,95,116,111,107,101,110]
abbrev B67:List UInt8:=[99,111,117,110,116]
abbrev B68:List UInt8:=[112,97,115,115]
abbrev B69:List UInt8:=[47,116,111,107,101,110]
abbrev B70:List UInt8:=[99,111,111,107,105,101]
abbrev B71:List UInt8:=[67,111,110,102,108,105,99,116]
abbrev B72:List UInt8:=[78,65,77,69]
abbrev B73:List UInt8:=[97,99,116,111,114,95,116,111,107,101,110]
abbrev B74:List UInt8:=[67,114,101,97,116,101,100]
abbrev B75:List UInt8:=[115,99,105,109]
abbrev B76:List UInt8:=[115,116,97,114,116,73,110,100,101,120]
abbrev B77:List UInt8:=[117,115,101,114]
abbrev B78:List UInt8:=[107,105,110,100]
abbrev B79:List UInt8:=[100,97,116,97]
structure q05 where
 z05:Z
 z2f:Z
def q05.enc:q05→List D|⟨a,b⟩=>[D.str a,D.str b]
theorem q05.z14:∀x:q05,q05.enc x=[D.str x.z05,D.str x.z2f]|⟨a,b⟩=>by first|rfl|simp[q05.enc]
@[reducible]def q05.v(x:q05):List PV:=[.str x.z05,.str x.z2f]
structure q03 where
 z0k:Z
 z0o:List Z
 z1o:List q05
 z1r:List q05
 z0l:Z
@[reducible]def q03.v(x:q03):List PV:=[.str x.z0k,.sl 9 1 (x.z0o.map eS),.sl 72 2 (x.z1o.map q05.enc),.sl 72 2 (x.z1r.map q05.enc),.str x.z0l]
structure q01 where
 zff:Z
 zfh:Z
 zfe:Z
 z0e:Z
 zfg:Z
 z13:Z
 zeq:Int
 zep:Int
 z03:Int
 zj:List Z
 z5j:List Z
@[reducible]def q01.v(x:q01):List PV:=[.str x.zff,.str x.zfh,.str x.zfe,.str x.z0e,.str x.zfg,.str x.z13,.int .i64 x.zeq,.int .i64 x.zep,.int .i64 x.z03,.sl 9 1 (x.zj.map eS),.sl 9 1 (x.z5j.map eS)]
structure q02 where
 z05:Z
 z3t:List Z
def q02.enc:q02→List D|⟨a,b⟩=>[D.str a,D.sl 9 1 (b.map eS)]
theorem q02.z14:∀x:q02,q02.enc x=[D.str x.z05,D.sl 9 1 (x.z3t.map eS)]|⟨a,b⟩=>by first|rfl|simp[q02.enc]
@[reducible]def q02.v(x:q02):List PV:=[.str x.z05,.sl 9 1 (x.z3t.map eS)]
structure q07 where
 gId:Z
 zh:Z
 zca:Z
 z0y:List q02
def q07.enc:q07→List D|⟨a,b,c,d⟩=>[D.str a,D.str b,D.str c,D.sl 189 2 (d.map q02.enc)]
theorem q07.z14:∀x:q07,q07.enc x=[D.str x.gId,D.str x.zh,D.str x.zca,D.sl 189 2 (x.z0y.map q02.enc)]|⟨a,b,c,d⟩=>by first|rfl|simp[q07.enc]
structure q06 where
 z2m:Int
 z1i:Int
 z09:Z
 z3r:Z
 z25:Z
 z18:Z
 gId:Z
 zq:Z
 zj:List Z
 z0d:Int
 z03:Int
 z1q:Int
 z4d:Bool
 zk:q01
 zy:List q07
@[reducible]def q06.v(x:q06):List PV:=[.int .i64 x.z2m,.int .i64 x.z1i,.str x.z09,.str x.z3r,.str x.z25,.str x.z18,.str x.gId,.str x.zq,.sl 9 1 (x.zj.map eS),.int .i64 x.z0d,.int .i64 x.z03,.int .i64 x.z1q,.bool x.z4d,.str x.zk.zff,.str x.zk.zfh,.str x.zk.zfe,.str x.zk.z0e,.str x.zk.zfg,.str x.zk.z13,.int .i64 x.zk.zeq,.int .i64 x.zk.zep,.int .i64 x.zk.z03,.sl 9 1 (x.zk.zj.map eS),.sl 9 1 (x.zk.z5j.map eS),.sl 123 4 (x.zy.map q07.enc)]
structure q00 where
 zh:Int
 gOf:Z
 z7l:Z
 z7k:Z
 z09:Z
 z1i:Z
 z5g:Z
 z5f:Z
 z0e:Z
 z36:Z
 z1c:Z
 zj:Z
 z1b:Z
 z0v:Z
 z1d:Z
 z13:Z
 z05:Z
 z8e:Z
 z0l:Z
 zj7:Z
 zca:Z
 z34:Z
 z4w:Z
 z0y:List q02
 z7j:Int
 z4s:Int
@[reducible]def q00.v(x:q00):List PV:=[.int .i64 x.zh,.str x.gOf,.str x.z7l,.str x.z7k,.str x.z09,.str x.z1i,.str x.z5g,.str x.z5f,.str x.z0e,.str x.z36,.str x.z1c,.str x.zj,.str x.z1b,.str x.z0v,.str x.z1d,.str x.z13,.str x.z05,.str x.z8e,.str x.z0l,.str x.zj7,.str x.zca,.str x.z34,.str x.z4w,.sl 189 2 (x.z0y.map q02.enc),.int .i64 x.z7j,.int .i64 x.z4s]
def q00.zzw(x:q00)(c:Nat):Option Z:=if c=1 then some x.gOf else if c=2 then some x.z7l else if c=3 then some x.z7k else if c=4 then some x.z09 else if c=5 then some x.z1i else if c=6 then some x.z5g else if c=7 then some x.z5f else if c=8 then some x.z0e else if c=9 then some x.z36 else if c=10 then some x.z1c else if c=11 then some x.zj else if c=12 then some x.z1b else if c=13 then some x.z0v else if c=14 then some x.z1d else if c=15 then some x.z13 else if c=16 then some x.z05 else if c=17 then some x.z8e else if c=18 then some x.z0l else if c=19 then some x.zj7 else if c=20 then some x.zca else if c=21 then some x.z34 else if c=22 then some x.z4w else none
def q00.setAt(x:q00)(c:Nat)(v:Z):Option q00:=if c=1 then some {x with gOf:=v}else if c=2 then some {x with z7l:=v}else if c=3 then some {x with z7k:=v}else if c=4 then some {x with z09:=v}else if c=5 then some {x with z1i:=v}else if c=6 then some {x with z5g:=v}else if c=7 then some {x with z5f:=v}else if c=8 then some {x with z0e:=v}else if c=9 then some {x with z36:=v}else if c=10 then some {x with z1c:=v}else if c=11 then some {x with zj:=v}else if c=12 then some {x with z1b:=v}else if c=13 then some {x with z0v:=v}else if c=14 then some {x with z1d:=v}else if c=15 then some {x with z13:=v}else if c=16 then some {x with z05:=v}else if c=17 then some {x with z8e:=v}else if c=18 then some {x with z0l:=v}else if c=19 then some {x with zj7:=v}else if c=20 then some {x with zca:=v}else if c=21 then some {x with z34:=v}else if c=22 then some {x with z4w:=v}else none
theorem q00.zz04d{α:Type}{p:Prop}[Decidable p]{a b:Option α}{s:α}(h:(if p then a else b)=some s):p∧a=some s∨¬p∧b=some s:=by
 split at h;·exact .inl ⟨by assumption,h⟩
 ·exact .inr ⟨by assumption,h⟩
theorem q00.at_eq{x:q00}{c:Nat}{s:Z}(h:x.zzw c=some s):z8c false 1 (List.take 1 (List.drop c x.v))=some (.str s):=by
 unfold q00.zzw at h;repeat(rcases q00.zz04d h with⟨rfl,h⟩|⟨-,h⟩;·cases h;rfl)
 cases h
theorem q00.zz04z{x a:q00}{c:Nat}{v:Z}(h:x.setAt c v=some a):stC x.v c 1 [.str v]=some a.v:=by
 unfold q00.setAt at h;repeat(rcases q00.zz04d h with⟨rfl,h⟩|⟨-,h⟩;·cases h;rfl)
 cases h
structure q04 where
 zh:Int
 zq:Z
 zg:List q04
 zn:List Z
mutual
def q04.enc:q04→List D
 | ⟨a,b,c,d⟩=>[D.int .i64 a,D.str b,D.sl 103 4 (q04.z6n c),D.sl 9 1 (d.map eS)]
def q04.z6n:List q04→List (List D)
 | []=>[]
 | x::xs=>x.enc::q04.z6n xs
end
theorem q04.z01:∀l:List q04,q04.z6n l=l.map q04.enc|[]=>rfl|x::xs=>by simp[q04.z6n,q04.z01 xs]
theorem q04.z14:∀x:q04,q04.enc x=[D.int .i64 x.zh,D.str x.zq,D.sl 103 4 (q04.z6n x.zg),D.sl 9 1 (x.zn.map eS)]|⟨a,b,c,d⟩=>by first|rfl|simp[q04.enc]
@[reducible]def q04.v(x:q04):List PV:=[.int .i64 x.zh,.str x.zq,.sl 103 4 (q04.z6n x.zg),.sl 9 1 (x.zn.map eS)]
@[reducible]def q04.d(x:q04):List D:=[.int .i64 x.zh,.str x.zq,.sl 103 4 (q04.z6n x.zg),.sl 9 1 (x.zn.map eS)]
structure q0b where
 zhn:Z
 z90:Nat
 zhm:Z
 zuh:Bool
def q0b.enc:q0b→List D|⟨a,b,c,d⟩=>[D.str a,dfn b,D.str c,D.bool d]
theorem q0b.z14:∀x:q0b,q0b.enc x=[D.str x.zhn,dfn x.z90,D.str x.zhm,D.bool x.zuh]|⟨a,b,c,d⟩=>by first|rfl|simp[q0b.enc]
@[reducible]def q0b.v(x:q0b):List PV:=[.str x.zhn,.fn x.z90 [] [],.str x.zhm,.bool x.zuh]
structure q0a where
 zug:Int
 z9p:Z
 zje:Z
 zdn:Int
 z5o:Int
 z92:List q0b
def q0a.enc:q0a→List D|⟨a,b,c,d,e,f⟩=>[D.int .i64 a,D.str b,D.str c,D.int .i64 d,D.int .i64 e,D.sl 179 4 (f.map q0b.enc)]
theorem q0a.z14:∀x:q0a,q0a.enc x=[D.int .i64 x.zug,D.str x.z9p,D.str x.zje,D.int .i64 x.zdn,D.int .i64 x.z5o,D.sl 179 4 (x.z92.map q0b.enc)]|⟨a,b,c,d,e,f⟩=>by first|rfl|simp[q0a.enc]
@[reducible]def q0a.v(x:q0a):List PV:=[.int .i64 x.zug,.str x.z9p,.str x.zje,.int .i64 x.zdn,.int .i64 x.z5o,.sl 179 4 (x.z92.map q0b.enc)]
structure q09 where gv:q04
@[reducible]def q09.v(x:q09):List PV:=[.int .i64 x.gv.zh,.str x.gv.zq,.sl 103 4 (q04.z6n x.gv.zg),.sl 9 1 (x.gv.zn.map eS)]
@[reducible]def q09.d(x:q09):List D:=[.int .i64 x.gv.zh,.str x.gv.zq,.sl 103 4 (q04.z6n x.gv.zg),.sl 9 1 (x.gv.zn.map eS)]
structure q08 where z1g:q04
structure q0c where gs:Z
structure q0d where
 gs:Z
 gi:Int
 ge:Int
@[reducible]def q0d.v(x:q0d):List PV:=[.str x.gs,.int .i64 x.gi,.int .i64 x.ge]
structure q0g where
 glo:Int
 ghi:Int
def q0g.enc:q0g→List D|⟨a,b⟩=>[D.int .u8 a,D.int .u8 b]
theorem q0g.z14:∀x:q0g,q0g.enc x=[D.int .u8 x.glo,D.int .u8 x.ghi]|⟨a,b⟩=>by first|rfl|simp[q0g.enc]
@[reducible]def _root_.Go.Pe.PV.l5(l:List Int):PV:=.sl 5 1 (l.map (eI .u8))
@[reducible]def _root_.Go.Pe.PV.l9(l:List Z):PV:=.sl 9 1 (l.map eS)
@[reducible]def _root_.Go.Pe.PV.l72(l:List q05):PV:=.sl 72 2 (l.map q05.enc)
@[reducible]def _root_.Go.Pe.PV.l103(l:List q04):PV:=.sl 103 4 (q04.z6n l)
@[reducible]def _root_.Go.Pe.PV.l112(l:List q0a):PV:=.sl 112 6 (l.map q0a.enc)
@[reducible]def _root_.Go.Pe.PV.l179(l:List q0b):PV:=.sl 179 4 (l.map q0b.enc)
@[reducible]def _root_.Go.Pe.PV.zvt(l:List q02):PV:=.sl 189 2 (l.map q02.enc)
@[reducible]def F.q2w:Nat:=155
@[reducible]def F.q24:Nat:=156
@[reducible]def F.q1d:Nat:=157
@[reducible]def F.q1u:Nat:=158
@[reducible]def F.q1f:Nat:=160
@[reducible]def F.q12:Nat:=161
@[reducible]def F.q2q:Nat:=162
@[reducible]def F.q2t:Nat:=163
@[reducible]def F.q1c:Nat:=152
@[reducible]def F.q2b:Nat:=164
@[reducible]def F.q2o:Nat:=165
@[reducible]def F.q1a:Nat:=166
@[reducible]def F.q1v:Nat:=167
@[reducible]def F.q2y:Nat:=168
@[reducible]def F.q0z:Nat:=169
@[reducible]def F.q0y:Nat:=170
@[reducible]def F.q1j:Nat:=171
@[reducible]def F.q2p:Nat:=153
def utf8First:List Int:=(List.range 256).map fun c=>(Lib.firstT c:Int)
def zd4:List q0g:=(List.range 16).map fun i=>⟨(Lib.accLo i:Int),(Lib.accHi i:Int)⟩
def M.z4n(a:List Int):Option Unit:=some ()
def M.z0h(a:Z):Option Bool:=do let _←chk (decide (a.length≤9223372036854775807))some (Lib.validD a)
def M.zt(a:List Int):Option Z:=do let _←chk (decide (unb (byt a)=a))some (byt a)
def M.indexByte(a:Z)(b:Int):Option Int:=some (Lib.indexByte a b.toNat.toUInt8)
def M.trimLeft(c a:Z):Option Z:=do let _←chk (decide (a.length<4294967281)&&a.all fun b=>decide (b.toNat<128))some (Lib.trimLeftS c a)
def M.trim(c a:Z):Option Z:=do let _←chk (decide (c.length≤9223372036854775807)&&(decide (a.length<4294967281)&&a.all fun b=>decide (b.toNat<128)))some (Lib.trimS c a)
def M.atoi(a:Z):Option (Int×Bool):=do let _←chk (decide (a.length≤281474976710656))match Lib.atoiAll a with|.ok v=>some (v,true)|.range=>some (Lib.atoiSat a,false)|_=>some (0,false)
def M.itoa(a:Int):Option Z:=do let _←chk (decide (-9223372036854775808≤a)&&decide (a≤9223372036854775807))some (Lib.itoa a)
def M.z6h(a b:Z):Option Int:=do let _←chk (decide (a.length<4294967281))some (Lib.index a b)
def M.single(a:List Z):Option Bool:=do let _←chk (decide (a.length*16≤140737488355328))some (decide (((Lib.compact (a.mergeSort fun x y=>decide (x≤y))).length:Int)=a.length))
def M.join(a:List Z)(b:Z):Option Z:=do let _←chk (decide (a.length≤140737488355328)&&decide ((Lib.join a b).length≤140737488355328))some (Lib.join a b)
def M.cut(a b:Z):Option (Z×Z×Bool):=do let _←chk (decide (a.length<4294967281))some (Lib.cut a b)
def M.contains(a b:Z):Option Bool:=do let _←chk (decide (a.length<4294967281))some (Lib.contains a b)
def zit(s sep:Z):List Z:=(Lib.splitB ⟨sep.toArray⟩ 0 (Lib.countB ⟨s.toArray⟩ ⟨sep.toArray⟩) ⟨s.toArray⟩).map (·.data.toList)
def M.split(a b:Z):Option (List Z):=do let _←chk (decide (a.length<4294967281)&&decide (1≤b.length))some (zit a b)
def M.containsAny(a c:Z):Option Bool:=do let _←chk (decide (a.length<4294967281)&&(a.all (fun b=>decide (b.toNat<128))&&(decide (c.length<4294967281)&&c.all fun b=>decide (b.toNat<128))))some (Lib.containsAny a c)
def M.replaceAll(a b c:Z):Option Z:=do let _←chk (decide (a.length<4294967281)&&(decide (b.length=1)&&decide (c.length=1)))some (Lib.replaceAll a b c)
def zqi(c:Int):Int:=if 65≤c∧c≤90 then c+32 else c
def M.z6d(a:Z):Option Z:=do let _←chk (decide (a.length<35184372088832))some (Lib.mapD zqi a)
def M.z16(a:Z)(b:Int):Option Int:=some (Lib.idxFunc (fun r=>decide ((r:Int)%256=b)) true ⟨a.toArray⟩)
def zp8(n:Nat):Bool:=decide (n<33)||(decide (126<n)||(decide (n=34)||decide (n=92)))
def M.z2e(a:Z):Option Bool:=some (decide (0≤Lib.idxFunc zp8 true ⟨a.toArray⟩))
def M.q1h  (b:Z):Option Int:=do let c←sub b 0 (minI (b.length:Int) 8192)let a←M.z6h c [13,10,13,10]if decide (0≤a)then some (yb .i64 (a+4))else some 0
def M.q1s  (a:Bool)(b:Int):Option (Rs Unit):=do if !a then some (.pan b)else some (.ok ())
def M.q1r  (a:Z):Option Bool:=do let c←(do if !decide (a=[])&&decide ((a.length:Int)≤8)then let b←M.trim a [65,66,67,68,69,70,71,72,73,74,75,76,77,78,79,80,81,82,83,84,85,86,87,88,89,90]some (decide (b=[]))else some false:Option Bool)some c
def M.q35  (b a:Z):Option Bool:=do let c←(do if decide ((a.length:Int)≤(b.length:Int))then let d←sub b 0 (a.length:Int)some (decide (d=a))else some false:Option Bool)some c
def M.q7a  (b c:Z):Option Bool:=do let a←M.q35 b c;some a
def M.z4x(b:Z)(f:Int)(g:Int)(a:Int):Option (Jn Bool Unit):=do if decide (a<(b.length:Int))then let c←ix b a;let e←(do if decide ((c.toNat:Int)<f)then some true;else let d←ix b a;some (decide (g<(d.toNat:Int))):Option Bool)if e then some (.done false)else M.z4x b f g (yb .i64 (a+1))else some (.go ())partial_fixpoint
def M.q22  (c:Z)(d e:Int):Option Bool:=do let a←(do M.z4x c d e 0:Option (Jn Bool Unit))match a with|.done r=>some r|.go b=>some true
def M.q78  (a:List Int)(b:Z):Option (Int×List Int):=do let d←M.z4n a;let c←app 1 a (unb b)some ((b.length:Int),c)
def M.q0o  (a d:Z):Option (Int×Bool):=do if decide ((a.length:Int)<2)then some (0,false)else let c1←ix a 0;let e←ix a 1;let b←M.z16 d (c1.toNat:Int)let c←M.z16 d (e.toNat:Int)some (yb .u8 (orI .i64 (z7r .i64 (ya b 16) 4) (ya c 16)),decide (0≤b)&&decide (0≤c))
def M.q77  (a:List Int)(c:Int):Option (List Int):=do let d←M.z4n a;let b←app 1 a [c]some b
def M.z1f(j:Z)(k:List Int):Option (Z×Int):=do let a←M.cut j [37]let b←M.q78 k a.1;if !a.2.2 then let d←M.zt b.2;some (d,0)else let c←M.q0o a.2.1 [48,49,50,51,52,53,54,55,56,57,97,98,99,100,101,102,95,95,95,95,95,95,95,95,95,95,65,66,67,68,69,70]let g←(do if !c.2 then some true;else let h←sub a.2.1 0 2;let e←M.containsAny h [95]some e:Option Bool)if g then some ([],12)else let f←M.q77 b.2 c.1;let i←sub a.2.1 2 (a.2.1.length:Int)M.z1f i f;partial_fixpoint
def M.q0l  (a:Z):Option (Z×Int):=do M.z1f a ([]:List Int)
def M.z1m(g:List Z)(e:List q05)(a:Int):Option (Jn (List q05×Int) (List q05)):=do if decide (a<(g.length:Int))then let f←ix g a;if decide (f=[])then some (.done ([],13))else let h←M.replaceAll f [43] [32]let b←M.cut h [61]let c←M.q0l b.1;let d←M.q0l b.2.1;if !decide (c.2=0)||!decide (d.2=0)then some (.done ([],12))else let i←app 32 e [q05.mk c.1 d.1]M.z1m g i (yb .i64 (a+1))else some (.go e)partial_fixpoint
def M.q0k  (b:Z):Option (List q05×Int):=do let d←M.split b [38]if decide (8192<(b.length:Int))||decide (64<(d.length:Int))then some ([],14)else
  if decide (b=[])then some ([],0)else let c←(do M.z1m d [] 0:Option (Jn (List q05×Int) (List q05)))match c with|.done r=>some r|.go a=>some (a,0)
def M.z3o(a:List Z)(b:Int)(d:List Z):Option (Jn (Rs q03) (List Z)):=do if decide (b<(a.length:Int))then let h←ix a b;let c←M.q0l h;let e←M.q1s (decide (c.2=0)) 220;match e with|.pan f=>some (.done (.pan f))|.ok i=>let g←app 16 d [c.1]M.z3o a (yb .i64 (b+1)) g;else some (.go d)partial_fixpoint
def M.q2v  (A:Z):Option (Rs q03):=do let a←M.split A [32]let z←(do if decide ((a.length:Int)=3)then let B←ix a 0;let y←M.q1r B;some y;else some false:Option Bool)let l←(do if z then let q←ix a 2;some (decide (q=[72,84,84,80,47,49,46,49]))else some false:Option Bool)let m←(do if l then let s←ix a 1;let g←M.q7a s [47]some g;else some false:Option Bool)let n←(do if m then let t←ix a 1;let h←M.q22 t 33 126;some h;else some false:Option Bool)let i←M.q1s n 220;match i with|.pan k=>some (.pan k)|.ok x=>let u←ix a 0;let v←ix a 1;let b←M.cut v [63]let o←(do let p←sub b.1 1 (b.1.length:Int)let j←M.split p [47]M.z3o j 0 []:Option (Jn (Rs q03) (List Z)))match o with|.done r=>some r|.go f=>let d←M.q0k b.2.1;let c←M.q1s (decide (d.2=0)&&decide ((f.length:Int)≤64)) 220;match c with|.pan e=>some (.pan e)|.ok w=>some (.ok (q03.mk u f d.1 ([]:List q05) []))
def M.q1t  (a:Z):Option Bool:=do let c←(do if !decide (a=[])&&decide ((a.length:Int)≤32)then let b←M.trim a [97,98,99,100,101,102,103,104,105,106,107,108,109,110,111,112,113,114,115,116,117,118,119,120,121,122,48,49,50,51,52,53,54,55,56,57,45]some (decide (b=[]))else some false:Option Bool)some c
def M.q2x  (a:Z):Option Bool:=do let b←M.q22 a 32 126;let d←(do if b then let c←M.trim a [32]some (decide (c=a))else some false:Option Bool)some d
def M.q1w  (d:Z)(e:Int):Option (Int×Bool):=do let a←M.atoi d;let c←(do if a.2&&decide ((d.length:Int)≤e)&&decide (0≤a.1)then let b←M.itoa a.1;some (decide (b=d))else some false:Option Bool)some (a.1,c)
def M.z2a(c:List Z)(j:Int)(b:Int)(f:List q05)(g:List (Z×Bool)):Option (Jn (q03×Int×Int) (Int×List q05×List (Z×Bool))):=do if decide (b<(c.length:Int))then let w←ix c b;let k←M.q1s (decide (b<32)) 222;match k with|.pan p=>some (.done (q03.mk [] [] [] [] [],0,p))|.ok x=>let d←M.cut w [58]let a←M.z6d d.1;let e←M.trim d.2.1 [32]let s←(do if d.2.2 then let l←M.q1t a;some l;else some false:Option Bool)let t←(do if s then let m←M.q2x e;some m;else some false:Option Bool)let u←(do if t then some ! z6r g a false else some false:Option Bool)let n←M.q1s u 220;match n with|.pan q=>some (.done (q03.mk [] [] [] [] [],0,q))|.ok y=>let i←some (z3p g a true)if !decide (a=B23)then let v←app 32 f [q05.mk a e]M.z2a c j (yb .i64 (b+1)) v i;else let h←M.q1w e 9;let o←M.q1s h.2 220;match o with|.pan r=>some (.done (q03.mk [] [] [] [] [],0,r))|.ok z=>M.z2a c h.1 (yb .i64 (b+1)) f i;else some (.go (j,f,g))partial_fixpoint
def M.q0s  (l:Z):Option (q03×Int×Int):=do let c←M.q1h l;let z←M.q1s (decide (0<c)||decide ((l.length:Int)<8192)) 222;match z with|.pan B=>some (q03.mk [] [] [] [] [],0,B)|.ok C=>let A←M.q1s (decide (0<c)) 223;match A with|.pan p=>some (q03.mk [] [] [] [] [],0,p)|.ok y=>let t←sub l 0 (yb .i64 (c-4))let d←M.split t [13,10]let u←ix d 0;let o←M.q2v u;match o with|.pan q=>some (q03.mk [] [] [] [] [],0,q)|.ok b=>let s←some (z3p ([]:List (Z×Bool)) B24 true)let m←(do let k←sub d 1 (d.length:Int)M.z2a k 0 0 b.z1r s:Option (Jn (q03×Int×Int) (Int×List q05×List (Z×Bool))))match m with|.done r=>some r|.go a=>let e←M.q1s (z6r a.2.2 B47 false) 220;match e with|.pan h=>some (q03.mk [] [] [] [] [],0,h)|.ok v=>let f←M.q1s (decide (a.1≤16384)) 221;match f with|.pan i=>some (q03.mk [] [] [] [] [],0,i)|.ok w=>let g←M.q1s (decide (a.1≤yb .i64 ((l.length:Int)-c))) 223;match g with|.pan j=>some (q03.mk [] [] [] [] [],0,j)|.ok x=>let n←sub l c (yb .i64 (c+a.1))some (q03.mk b.z0k b.z0o b.z1o a.2.1 n,yb .i64 (c+a.1),0)
def M.z3w(b:Z)(a:Int):Option (Jn Int Unit):=do if decide (a≤(b.length:Int))&&decide (a≤8192)then let c←sub b (yb .i64 (a-4)) a;if decide (c=[13,10,13,10])then some (.done a)else M.z3w b (yb .i64 (a+1))else some (.go ())partial_fixpoint
def M.q5z  (c:Z):Option Int:=do let a←(do M.z3w c 4:Option (Jn Int Unit))match a with|.done r=>some r|.go b=>some 0
def M.z4p(c:Z)(h:Int)(b:List Z)(d:Int)(a:Int):Option (List Z):=do if decide (a≤(c.length:Int))then let f←(do if decide (a=(c.length:Int))then some true;else let e←ix c a;some (decide ((e.toNat:Int)=h)):Option Bool)if f then let i←sub c d a;let g←app 16 b [i]M.z4p c h g (yb .i64 (a+1)) (yb .i64 (a+1))else M.z4p c h b d (yb .i64 (a+1))else some b;partial_fixpoint
def M.q5x  (b:Z)(c:Int):Option (List Z):=do let a←(do M.z4p b c ([]:List Z) 0 0:Option (List Z))some a
def M.z4a(b:Z)(f:Int)(a:Int):Option (Jn (Z×Z×Bool) Unit):=do if decide (a<(b.length:Int))then let c←ix b a;if decide ((c.toNat:Int)=f)then let d←sub b 0 a;let e←sub b (yb .i64 (a+1)) (b.length:Int)some (.done (d,e,true))else M.z4a b f (yb .i64 (a+1))else some (.go ())partial_fixpoint
def M.q64  (b:Z)(d:Int):Option (Z×Z×Bool):=do let a←(do M.z4a b d 0:Option (Jn (Z×Z×Bool) Unit))match a with|.done r=>some r|.go c=>some (b,[],false)
def M.z48(b:Z)(c:Int)(a:Int):Option (Jn Int Int):=do if decide (a<(b.length:Int))then let d←ix b a;let g←(do if decide ((d.toNat:Int)<48)then some true;else let e←ix b a;some (decide (57<(e.toNat:Int))):Option Bool)if g then some (.done (-1))else let f←ix b a;M.z48 b (yb .i64 (yb .i64 (10*c)+yb .i64 (yb .u8 ((f.toNat:Int)-48)))) (yb .i64 (a+1))else some (.go c)partial_fixpoint
def M.q5w  (a:Z)(f:Int):Option Int:=do let c←(do if decide (a=[])||decide (f<(a.length:Int))then some true;else let b←ix a 0;if decide ((b.toNat:Int)=48)then some !decide (a=[48])else some false:Option Bool)if c then some (-1)else let e←(do M.z48 a 0 0:Option (Jn Int Int))match e with|.done r=>some r|.go d=>some d
def M.q1z  (a:Z)(b:Nat):Option q0b:=do some (q0b.mk a b [] false)
def M.q2z  (a:Z)(b:Nat):Option q0b:=do some (q0b.mk a b [] true)
def M.q1l  (a b:Z):Option q0b:=do some (q0b.mk a NF b false)
def M.q2k  (c:Z)(d:List q0b):Option (List q0b):=do let a←M.q1z B3 F.q1c;let b←M.q1z B17 F.q2p;if !decide (c=[])then let e←M.q1l B42 c;let f←app 48 [e] [a,b]let g←app 48 f d;some g;else let l9←app 48 [a,b] d;some l9
def M.q2j  :Option (List q0a):=do let N←M.q1z B77 F.q2w;let O←M.q1z B68 F.q24;let P←M.q1z B52 F.q1d;let Q←M.q1z [107,101,121] F.q1u;let R←M.q2z B79 F.q1f;let a←M.q2z [99,108,105,101,110,116] F.q12;let b←M.q2z [115,105,103] F.q2q;let c←M.q2z B79 F.q1f;let d←M.q1z B77 F.q2w;let e←M.q1z B36 F.q2t;let f←M.q1z B68 F.q24;let g←M.q1l B62 B52;let h←M.q1z B3 F.q1c;let i←M.q1z B45 F.q2b;let j←M.q1z B10 F.q2o;let k←M.q1l B46 [83,50,53,54]let l←M.q1z B59 F.q1a;let m←M.q1z B22 F.q1v;let n←M.q1z B52 F.q1d;let o←M.q1z B45 F.q2b;let p←M.q1z B64 F.q2y;let q←M.q2k B49 [n,o,p]let r←M.q1z B10 F.q2o;let s←M.q1z B55 F.q0z;let t←M.q2k B50 [r,s]let u←M.q1z B2 F.q2t;let v←M.q1z B10 F.q2o;let w←M.q2k B2 [u,v]let x←M.q1z B66 F.q2t;let y←M.q1z B73 F.q0y;let z←M.q1z B10 F.q2o;let A←M.q1z B55 F.q0z;let B←M.q2k B16 [x,y,z,A]let C←M.q1z B36 F.q2t;let D←M.q2k [] [C]let E←M.q1z B36 F.q2t;let G←M.q2k [] [E]let H←M.q1z [102,105,108,116,101,114] F.q1j;let I←M.q1l B76 [78]let J←M.q1l B67 [78]let K←M.q1z [110,97,109,101] F.q1u;let L←M.q1z B68 F.q24;some [q0a.mk 1 B12 [47,108,111,103,105,110] 0 1 [N,O],q0a.mk 2 B12 [47,108,111,103,105,110,47,99,111,100,101] 1 1 [P],q0a.mk 3 B12 [47,108,111,103,105,110,47,107,101,121] 1 1 [Q,R,a,b],q0a.mk 4 B12 [47,101,110,114,111,108,47,99,111,100,101] 1 1 [],q0a.mk 5 B12 [47,101,110,114,111,108,47,107,101,121] 1 1 [c],q0a.mk 6 B12 [47,99,104,97,108,108,101,110,103,101] 1 1 [],q0a.mk 7 B12 [47,108,111,103,111,117,116] 1 1 [],q0a.mk 8 B12 [47,102,111,114,103,111,116] 0 1 [d],q0a.mk 9 B12 [47,114,101,115,101,116] 0 1 [e,f],q0a.mk 10 [71,69,84] [47,97,117,116,104,111,114,105,122,101] 1 2 [g,h,i,j,k,l,m],q0a.mk 11 B12 B69 0 1 q,q0a.mk 12 B12 B69 0 1 t,q0a.mk 13 B12 B69 0 1 w,q0a.mk 14 B12 B69 0 1 B,q0a.mk 15 B12 [47,114,101,118,111,107,101] 0 1 D,q0a.mk 16 B12 [47,105,110,116,114,111,115,112,101,99,116] 0 1 G,q0a.mk 17 [71,69,84] [47,117,115,101,114,105,110,102,111] 2 0 [],q0a.mk 18 [71,69,84] [47,107,101,121,115] 0 0 [],q0a.mk 19 [71,69,84] [47,115,99,105,109,47,79,70] 2 2 [H,I,J],q0a.mk 20 [71,69,84] B51 2 0 [],q0a.mk 21 B12 [47,115,99,105,109,47,79,70] 2 3 [],q0a.mk 22 [80,65,84,67,72] B51 6 4 [],q0a.mk 23 [68,69,76,69,84,69] B51 6 0 [],q0a.mk 24 B12 [47,97,100,109,105,110,47,112,97,115,115,119,111,114,100] 2 1 [K,L],q0a.mk 25 B12 [47,97,100,109,105,110,47,116,117,114,110] 2 1 []]
def M.z0z(g:List Z)(f:List Z)(a:q00)(b:Int)(c:Z)(d:Z):Option (Jn (Bool×q00) (Z×Z)):=do if decide (b<(g.length:Int))then let e←ix g b;let i←ix f b;if decide (i=[79,70])&&!decide (e=[])then M.z0z g f a (yb .i64 (b+1)) e d;else let j←ix f b;if decide (j=B72)then M.z0z g f a (yb .i64 (b+1)) c e;else let k←ix f b;let h←(do if !decide (k=e)then some true;else let l←ix f b;some (decide (l=[79,70])):Option Bool)if h then some (.done (false,q00.mk a.zh c a.z7l a.z7k a.z09 a.z1i a.z5g a.z5f a.z0e a.z36 a.z1c a.zj a.z1b a.z0v a.z1d a.z13 d a.z8e a.z0l a.zj7 a.zca a.z34 a.z4w a.z0y a.z7j a.z4s))else M.z0z g f a (yb .i64 (b+1)) c d;else some (.go (c,d))partial_fixpoint
def M.q2d  (e:q0a)(f:List Z)(a:q00):Option (Bool×q00):=do let g←sub e.zje 1 (e.zje.length:Int)let d←M.split g [47]if !decide ((d.length:Int)=(f.length:Int))then some (false,a)else let c←(do M.z0z f d a 0 a.gOf a.z05:Option (Jn (Bool×q00) (Z×Z)))match c with|.done r=>some r|.go b=>some (true,q00.mk a.zh b.1 a.z7l a.z7k a.z09 a.z1i a.z5g a.z5f a.z0e a.z36 a.z1c a.zj a.z1b a.z0v a.z1d a.z13 b.2 a.z8e a.z0l a.zj7 a.zca a.z34 a.z4w a.z0y a.z7j a.z4s)
def M.z3b(d:List q05)(e:Z)(c:Z)(b:Int)(a:Int):Option (Z×Int):=do if decide (0≤a)then let f←ix d a;if decide (f.z05=e)then let g←ix d a;M.z3b d e g.z2f (yb .i64 (b+1)) (yb .i64 (a-1))else M.z3b d e c b (yb .i64 (a-1))else some (c,b)partial_fixpoint
def M.q0m  (b:List q05)(c:Z):Option (Z×Int):=do let a←(do M.z3b b c [] 0 (yb .i64 ((b.length:Int)-1)):Option (Z×Int))some (a.1,a.2)
def M.q1k  (b:List q05)(c:Z):Option (Z×Bool):=do let a←M.q0m b c;some (a.1,decide (0<a.2))
def M.q34  (a b:Z):Option (Z×Bool):=do let c←M.q35 a b;if !c then some (a,false)else let d←sub a (b.length:Int) (a.length:Int)some (d,true)
def M.q79  (b c:Z):Option (Z×Bool):=do let a←M.q34 b c;some (a.1,a.2)
def M.z2o(a:List Z)(b:Int):Option (Jn Z Unit):=do if decide (b<(a.length:Int))then let e←ix a b;let d←M.trim e [32]let c←M.q79 d B53;if c.2 then some (.done c.1)else M.z2o a (yb .i64 (b+1))else some (.go ())partial_fixpoint
def M.q1e  (e:List q05):Option Z:=do let c←M.q1k e B70;let b←(do let a←M.split c.1 [59]M.z2o a 0:Option (Jn Z Unit))match b with|.done r=>some r|.go d=>some []
def M.q2g  (B:q0a)(C:List q05)(a:q00):Option (Rb q00 q00):=do let D←(do if !decide (z9d .i64 B.zdn 1=0)then let f←M.q1e C;let l←M.trim f B1;let m←M.q1s (decide (l=[])) 227;match m with|.pan u=>some (.done (.pan u (q00.mk a.zh a.gOf a.z7l a.z7k f a.z1i a.z5g a.z5f a.z0e a.z36 a.z1c a.zj a.z1b a.z0v a.z1d a.z13 a.z05 a.z8e a.z0l a.zj7 a.zca a.z34 a.z4w a.z0y a.z7j a.z4s)))|.ok G=>some (.go f)else some (.go a.z09):Option (Jn (Rb q00 q00) Z))match D with|.done r=>some r|.go c=>let E←(do let j←M.q1k C B39;if j.2&&!decide (z9d .i64 B.zdn 2=0)then let g←M.q79 j.1 B63;let x←(do if g.2 then let n←M.q22 g.1 33 126;some n;else some false:Option Bool)let o←M.q1s x 227;match o with|.pan v=>some (.done (.pan v (q00.mk a.zh a.gOf a.z7l a.z7k c a.z1i a.z5g a.z5f a.z0e a.z36 a.z1c a.zj a.z1b a.z0v a.z1d a.z13 a.z05 a.z8e a.z0l a.zj7 a.zca a.z34 a.z4w a.z0y a.z7j a.z4s)))|.ok H=>some (.go g.1)else some (.go a.z5g):Option (Jn (Rb q00 q00) Z))match E with|.done r=>some r|.go d=>let b←M.q1k C B57;if b.2&&!decide (z9d .i64 B.zdn 4=0)then let y←(do if decide (2≤(b.1.length:Int))then let s←ix b.1 0;some (decide ((s.toNat:Int)=34))else some false:Option Bool)let z←(do if y then let t←ix b.1 (yb .i64 ((b.1.length:Int)-1))some (decide ((t.toNat:Int)=34))else some false:Option Bool)let p←M.q1s z 227;match p with|.pan w=>some (.pan w (q00.mk a.zh a.gOf a.z7l a.z7k c a.z1i d a.z5f a.z0e a.z36 a.z1c a.zj a.z1b a.z0v a.z1d a.z13 a.z05 a.z8e a.z0l a.zj7 a.zca a.z34 a.z4w a.z0y a.z7j a.z4s))|.ok I=>let e←sub b.1 1 (yb .i64 ((b.1.length:Int)-1))let q←M.q22 e 33 126;let A←(do if q then let h←M.contains e [34]some !h else some false:Option Bool)let i←M.q1s A 227;match i with|.pan k=>some (.pan k (q00.mk a.zh a.gOf a.z7l a.z7k c a.z1i d a.z5f a.z0e a.z36 a.z1c a.zj a.z1b a.z0v a.z1d a.z13 a.z05 a.z8e a.z0l a.zj7 e a.z34 a.z4w a.z0y a.z7j a.z4s))|.ok F=>some (.ok (q00.mk a.zh a.gOf a.z7l a.z7k c a.z1i d a.z5f a.z0e a.z36 a.z1c a.zj a.z1b a.z0v a.z1d a.z13 a.z05 a.z8e a.z0l a.zj7 e a.z34 a.z4w a.z0y a.z7j a.z4s))else some (.ok (q00.mk a.zh a.gOf a.z7l a.z7k c a.z1i d a.z5f a.z0e a.z36 a.z1c a.zj a.z1b a.z0v a.z1d a.z13 a.z05 a.z8e a.z0l a.zj7 a.zca a.z34 a.z4w a.z0y a.z7j a.z4s))
def M.q2f  (a:q0b)(b:q05):Option Bool:=do some (decide (a.zhn=b.z05))
def M.zi(c:List q0b)(e:q05)(a:Int):Option (Jn Int Unit):=do if decide (a<(c.length:Int))then let d←ix c a;let b←M.q2f d e;if b then some (.done a)else M.zi c e (yb .i64 (a+1))else some (.go ())partial_fixpoint
def M.q72  (c:List q0b)(d:q05):Option Int:=do let a←(do M.zi c d 0:Option (Jn Int Unit))match a with|.done r=>some r|.go b=>some (-1)
def M.q6x  (b:List q0b)(c:q05):Option Bool:=do let a←M.q72 b c;some (decide (0≤a))
def M.q2u  (a:q0b)(b:q00):Option Nat:=do if !decide (a.zhm=[78])then some 1000000;else
  if decide (a.zhn=B67)then some 25;else some 24
def M.z0w(f:Z)(e:List Int)(c:Int)(a:Int)(d:Int):Option (Jn (Z×Int) (List Int×Int×Int)):=do if decide (d<((unb f).length:Int))then let h←ix (unb f) d;let b←M.z16 B1 h;if decide (b<0)then some (.done ([],11))else
   if decide (8≤yb .i64 (a+6))then let _←chk (decide (0≤yb .i64 (yb .i64 (a+6)-8)))let g←app 1 e [yb .u8 (zir .i64 (orI .i64 (z7r .i64 c 6) b) (yb .i64 (yb .i64 (a+6)-8)))]let _←chk (decide (0≤yb .i64 (yb .i64 (a+6)-8)))M.z0w f g (z9d .i64 (orI .i64 (z7r .i64 c 6) b) (yb .i64 (z7r .i64 1 (yb .i64 (yb .i64 (a+6)-8))-1))) (yb .i64 (yb .i64 (a+6)-8)) (yb .i64 (d+1))else M.z0w f e (orI .i64 (z7r .i64 c 6) b) (yb .i64 (a+6)) (yb .i64 (d+1))else some (.go (e,c,a))partial_fixpoint
def M.q0j  (c:Z):Option (Z×Int):=do let b←(do let _←chk (decide (c.length≤9223372036854775807))M.z0w c [] 0 0 0:Option (Jn (Z×Int) (List Int×Int×Int)))match b with|.done r=>some r|.go a=>if decide (6≤a.2.2)||!decide (a.2.1=0)then some ([],11)else some (byt a.1,0)
def M.q2w  (a:q00):Option Nat:=do some 2
def M.q24  (a:q00):Option Nat:=do some 3
def M.q1d  (a:q00):Option Nat:=do some 5
def M.q1u  (a:q00):Option Nat:=do some 16
def M.q1f  (a:q00):Option Nat:=do some 17
def M.q12  (a:q00):Option Nat:=do some 18
def M.q2q  (a:q00):Option Nat:=do some 19
def M.q2t  (a:q00):Option Nat:=do some 6
def M.q1c  (a:q00):Option Nat:=do some 8
def M.q2b  (a:q00):Option Nat:=do some 10
def M.q2o  (a:q00):Option Nat:=do some 11
def M.q1a  (a:q00):Option Nat:=do some 13
def M.q1v  (a:q00):Option Nat:=do some 15
def M.q2y  (a:q00):Option Nat:=do some 14
def M.q0z  (a:q00):Option Nat:=do some 12
def M.q0y  (a:q00):Option Nat:=do some 7
def M.q1j  (a:q00):Option Nat:=do some 21
def M.q2p  (a:q00):Option Nat:=do some 9
def M.q0q(a:Nat)(b:q00):Option Nat:=if a=F.q2w then M.q2w b else if a=F.q24 then M.q24 b else if a=F.q1d then M.q1d b else if a=F.q1u then M.q1u b else if a=F.q1f then M.q1f b else if a=F.q12 then M.q12 b else if a=F.q2q then M.q2q b else if a=F.q2t then M.q2t b else if a=F.q1c then M.q1c b else if a=F.q2b then M.q2b b else if a=F.q2o then M.q2o b else if a=F.q1a then M.q1a b else if a=F.q1v then M.q1v b else if a=F.q2y then M.q2y b else if a=F.q0z then M.q0z b else if a=F.q0y then M.q0y b else if a=F.q1j then M.q1j b else if a=F.q2p then M.q2p b else none
def M.z1w(c:List q05)(i:q0a)(j:q00)(a:Int):Option (Jn (Rb q00 q00) Unit):=do if decide (a<(c.length:Int))then let b←ix c a;let d←M.q0m c b.z05;let h←(do if decide (d.2=1)then let e←M.q6x i.z92 b;some e;else some false:Option Bool)let f←M.q1s h 227;match f with|.pan g=>some (.done (.pan g j))|.ok k=>M.z1w c i j (yb .i64 (a+1))else some (.go ())partial_fixpoint
def M.z0f(h:q0a)(j:List q05)(b:Int)(a:q00):Option (Rb q00 q00):=do if decide (b<(h.z92.length:Int))then let d←ix h.z92 b;let c←M.q1k j d.zhn;let e←M.q2u d a;if e=24 then if !decide (c.1=[])then let f←M.q1w c.1 9;let k←M.q1s f.2 227;match k with|.pan q=>some (.pan q (q00.mk a.zh a.gOf a.z7l a.z7k a.z09 a.z1i a.z5g a.z5f a.z0e a.z36 a.z1c a.zj a.z1b a.z0v a.z1d a.z13 a.z05 a.z8e a.z0l a.zj7 a.zca a.z34 a.z4w a.z0y f.1 a.z4s))|.ok w=>M.z0f h j (yb .i64 (b+1)) (q00.mk a.zh a.gOf a.z7l a.z7k a.z09 a.z1i a.z5g a.z5f a.z0e a.z36 a.z1c a.zj a.z1b a.z0v a.z1d a.z13 a.z05 a.z8e a.z0l a.zj7 a.zca a.z34 a.z4w a.z0y f.1 a.z4s)else M.z0f h j (yb .i64 (b+1)) a;else
   if e=25 then if !decide (c.1=[])then let g←M.q1w c.1 9;let l←M.q1s g.2 227;match l with|.pan r=>some (.pan r (q00.mk a.zh a.gOf a.z7l a.z7k a.z09 a.z1i a.z5g a.z5f a.z0e a.z36 a.z1c a.zj a.z1b a.z0v a.z1d a.z13 a.z05 a.z8e a.z0l a.zj7 a.zca a.z34 a.z4w a.z0y a.z7j g.1))|.ok x=>M.z0f h j (yb .i64 (b+1)) (q00.mk a.zh a.gOf a.z7l a.z7k a.z09 a.z1i a.z5g a.z5f a.z0e a.z36 a.z1c a.zj a.z1b a.z0v a.z1d a.z13 a.z05 a.z8e a.z0l a.zj7 a.zca a.z34 a.z4w a.z0y a.z7j g.1)else M.z0f h j (yb .i64 (b+1)) a;else
    if e=1000000 then if Nat.beq d.z90 NF then let m←M.q1s (c.2&&decide (c.1=d.zhm)) 227;match m with|.pan s=>some (.pan s a)|.ok y=>M.z0f h j (yb .i64 (b+1)) a;else
      if d.zuh then let i←M.q0j c.1;let n←M.q1s (decide (i.2=0)) 227;match n with|.pan t=>some (.pan t a)|.ok z=>let o←M.q0q d.z90 a;let u←q00.setAt a o i.1;M.z0f h j (yb .i64 (b+1)) u;else let p←M.q0q d.z90 a;let v←q00.setAt a p c.1;M.z0f h j (yb .i64 (b+1)) v;else none;else some (.ok a)partial_fixpoint
def M.q2e  (b:q0a)(c:List q05)(d:q00):Option (Rb q00 q00):=do let a←(do M.z1w c b d 0:Option (Jn (Rb q00 q00) Unit))match a with|.done r=>some r|.go e=>M.z0f b c 0 d
def M.q3m  (b:q0c):Option q0c:=do let a←M.trimLeft b.gs [32,9,10,13]some (q0c.mk a)
def M.q3j  (a:Bool)(b:Int):Option (Rs Unit):=do if !a then some (.pan b)else some (.ok ())
def M.q3p  (b:q0c)(d:Z):Option (Bool×q0c):=do let a←M.q79 b.gs d;if a.2 then let c←M.q3m (q0c.mk a.1)some (a.2,c)else some (a.2,b)
def M.q33  (a:Int):Option Int:=do some (orI .u8 a 32)
def M.zl(c:Z×Int)(n:Int)(g:Int)(d:Int)(h:Bool)(a:Int)(f:Int):Option (Jn (Int×Bool) (Bool×Int)):=do if decide (f<((unb c.1).length:Int))then let b←ix (unb c.1) f;let m←(do if decide (b=95)&&decide (n=0)then(do M.zl c n g d true a (yb .i64 (f+1)))>>=fun r=>some (.done r)else
     if decide (48≤b)&&decide (b≤57)then some (.go (yb .u8 (b-48)))else let i←M.q33 b;let l←(do if decide (97≤i)then let j←M.q33 b;some (decide (j≤122))else some false:Option Bool)if l then let k←M.q33 b;some (.go (yb .u8 (yb .u8 (k-97)+10)))else some (.done (.done (0,false))):Option (Jn (Jn (Int×Bool) (Bool×Int)) Int))match m with|.done r=>some r|.go e=>if decide (yb .u8 c.2≤e)then some (.done (0,false))else
    if decide (g≤a)then some (.done (yb .u64 (z7r .u64 1 (yb .u64 d)-1),false))else
     if decide (yb .u64 (yb .u64 (a*yb .u64 c.2)+yb .u64 e)<yb .u64 (a*yb .u64 c.2))||decide (yb .u64 (z7r .u64 1 (yb .u64 d)-1)<yb .u64 (yb .u64 (a*yb .u64 c.2)+yb .u64 e))then some (.done (yb .u64 (z7r .u64 1 (yb .u64 d)-1),false))else M.zl c n g d h (yb .u64 (yb .u64 (a*yb .u64 c.2)+yb .u64 e)) (yb .i64 (f+1))else some (.go (h,a))partial_fixpoint
def M.q32  (a:Z)(f i:Int):Option (Int×Bool):=do
 if decide (a=[])then some (0,false)else let u←(do if decide (2≤f)&&decide (f≤36)then some (.go (a,f))else
     if decide (f=0)then let m←ix a 0;if decide ((m.toNat:Int)=48)then let q←(do if decide (3≤(a.length:Int))then let n←ix a 1;let j←M.q33 (n.toNat:Int)some (decide (j=98))else some false:Option Bool)if q then let v←sub a 2 (a.length:Int)some (.go (v,2))else let s←(do if decide (3≤(a.length:Int))then let o←ix a 1;let k←M.q33 (o.toNat:Int)some (decide (k=111))else some false:Option Bool)if s then let w←sub a 2 (a.length:Int)some (.go (w,8))else let t←(do if decide (3≤(a.length:Int))then let p←ix a 1;let l←M.q33 (p.toNat:Int)some (decide (l=120))else some false:Option Bool)if t then let x←sub a 2 (a.length:Int)some (.go (x,16))else let y←sub a 1 (a.length:Int)some (.go (y,8))else some (.go (a,10))
     else some (.done (0,false)):Option (Jn (Int×Bool) (Z×Int)))match u with|.done r=>some r|.go b=>let g←(do if decide (i=0)then some (.go 64)else
      if decide (i<0)||decide (64<i)then some (.done (0,false))else some (.go i):Option (Jn (Int×Bool) Int))match g with|.done r=>some r|.go c=>let e←(do if decide (b.2=10)then some 1844674407370955162;else
       if decide (b.2=16)then some 1152921504606846976;else let _←chk (decide (yb .u64 b.2≠0))some (yb .u64 (yb .u64 (Int.tdiv 18446744073709551615 (yb .u64 b.2))+1)):Option Int)let _←chk (decide (0≤yb .u64 c))let h←(do let _←chk (decide (b.1.length≤9223372036854775807))M.zl b f e c false 0 0:Option (Jn (Int×Bool) (Bool×Int)))match h with|.done r=>some r|.go d=>let z←(do if d.1 then none;else some ():Option Unit)some (d.2,true)
def M.q75  (b:Z)(c d:Int):Option (Int×Bool):=do let a←M.q32 b c d;if !a.2 then none;else some (a.1,true)
def M.q3r  (n:q0c):Option (Rs (Int×q0c)):=do let a←M.q79 n.gs [92,117]let m←(do if a.2&&decide (4≤(a.1.length:Int))then let h←sub a.1 0 4;let c←M.trim h [48,49,50,51,52,53,54,55,56,57,97,98,99,100,101,102,65,66,67,68,69,70]some (decide (c=[]))else some false:Option Bool)let d←M.q3j m 20;match d with|.pan f=>some (.pan f)|.ok k=>let i←sub a.1 0 4;let b←M.q75 i 16 16;let e←M.q3j b.2 20;match e with|.pan g=>some (.pan g)|.ok l=>let j←sub a.1 4 (a.1.length:Int)some (.ok (yb .i32 b.1,q0c.mk j))
def M.q3n  (d:q0c):Option (Rs (Z×q0c)):=do let p←M.q3j (decide (2≤(d.gs.length:Int))) 20;match p with|.pan s=>some (.pan s)|.ok t=>let i←ix d.gs 1;let c←M.indexByte B25 (i.toNat:Int)if decide (0≤c)then let n←sub d.gs 2 (d.gs.length:Int)let o←sub ([34,92,47,8,12,10,13,9]:Z) c (yb .i64 (c+1))some (.ok (o,q0c.mk n))else let e←M.q3r d;match e with|.pan j=>some (.pan j)|.ok a=>let f←M.q3j (decide (a.1<56320)||decide (57343<a.1)) 20;match f with|.pan k=>some (.pan k)|.ok q=>if decide (a.1<55296)||decide (57343<a.1)then some (.ok (encS a.1,a.2))else let g←M.q3r a.2;match g with|.pan l=>some (.pan l)|.ok b=>let h←M.q3j (decide (56320≤b.1)&&decide (b.1≤57343)) 20;match h with|.pan m=>some (.pan m)|.ok r=>some (.ok (encS (yb .i32 (yb .i32 (yb .i32 (65536+z7r .i32 (yb .i32 (a.1-55296)) 10)+b.1)-56320)),b.2))
def M.z1l(a:Z)(b:List Int):Option (Rs (Z×q0c)):=do let r←(do if !decide (a=[])then let n←ix a 0;some (decide (32≤(n.toNat:Int)))else some false:Option Bool)let e←M.q3j r 20;match e with|.pan o=>some (.pan o)|.ok t=>let c←ix a 0;if decide ((c.toNat:Int)=34)then let f←M.zt b;let g←M.z0h f;let h←M.q3j g 20;match h with|.pan p=>some (.pan p)|.ok u=>let i←M.q3p (q0c.mk a) [34]let j←M.zt b;some (.ok (j,i.2))else
   if decide ((c.toNat:Int)=92)then let k←M.q3n (q0c.mk a)match k with|.pan q=>some (.pan q)|.ok d=>let l←M.q78 b d.1;M.z1l d.2.gs l.2;else let m←M.q77 b (c.toNat:Int)let s←sub a 1 (a.length:Int)M.z1l s m;partial_fixpoint
def M.q3q  (d:q0c):Option (Rs (Z×q0c)):=do let a←M.q79 d.gs [34]let b←M.q3j a.2 20;match b with|.pan c=>some (.pan c)|.ok e=>M.z1l a.1 ([]:List Int)
def M.zf(b:List Z)(c:Z)(a:Int):Option (Jn Int Unit):=do if decide (a<(b.length:Int))then let d←ix b a;if decide (c=d)then some (.done a)else M.zf b c (yb .i64 (a+1))else some (.go ())partial_fixpoint
def M.q74  (a:List Z)(b:Z):Option Int:=do let c←(do M.zf a b 0:Option (Jn Int Unit))match c with|.done r=>some r|.go d=>some (-1)
def M.q6z  (b:List Z)(c:Z):Option Bool:=do let a←M.q74 b c;some (decide (0≤a))
def M.q3h  (a:Z):Option Int:=do let b←M.trimLeft a [48,49,50,51,52,53,54,55,56,57]some (yb .i64 ((a.length:Int)-(b.length:Int)))
def M.q3k  (b:Z):Option Int:=do let d←(do let t←M.q7a b [45]if t then some 1;else some 0:Option Int)let u←sub b d (b.length:Int)let e←M.q3h u;if decide (e=0)then some 0;else let c←(do let j←ix b d;if decide ((j.toNat:Int)=48)then some 1;else some e:Option Int)let a←(do let q←sub b (yb .i64 (d+c)) (b.length:Int)let i←M.q7a q [46]if i then let r←sub b (yb .i64 (yb .i64 (d+c)+1)) (b.length:Int)let f←M.q3h r;if decide (0<f)then some (yb .i64 (yb .i64 (d+c)+yb .i64 (1+f)))else some (yb .i64 (d+c))else some (yb .i64 (d+c)):Option Int)let o←(do if decide (a<(b.length:Int))then let k←ix b a;if decide ((k.toNat:Int)=101)then some true;else let l←ix b a;some (decide ((l.toNat:Int)=69))else some false:Option Bool)if o then let h←(do let p←(do if decide (yb .i64 (a+1)<(b.length:Int))then let m←ix b (yb .i64 (a+1))if decide ((m.toNat:Int)=43)then some true;else let n←ix b (yb .i64 (a+1))some (decide ((n.toNat:Int)=45))else some false:Option Bool)if p then some (yb .i64 (yb .i64 (a+1)+1))else some (yb .i64 (a+1)):Option Int)let s←sub b h (b.length:Int)let g←M.q3h s;if decide (0<g)then some (yb .i64 (h+g))else some a;else some a
def M.z0r(a:Int)(c:Z):Option (Jn (Rs (q04×q0c)) Z):=do if decide (a<([(B20:Z),B15,B21].length:Int))then let d←ix [(B20:Z),B15,B21] a;let b←M.q3p (q0c.mk c) d;if b.1 then some (.done (.ok (q04.mk a [] ([]:List q04) ([]:List Z),b.2)))else M.z0r (yb .i64 (a+1)) b.2.gs;else some (.go c)partial_fixpoint
def M.z19(w:Int)(self_q3s:q0c→Int→Option (Rs (q04×q0c)))(A:Int)(B:Z)(v:Z)(x:List q04)(i:List Z):Option (Rs (q04×q0c)):=do let u←(do if decide (w=6)then let j←M.q3q (q0c.mk v)match j with|.pan o=>some (.done (.pan o))|.ok b=>let k←M.q6z i b.1;let g←(do if !k then let e←M.q3p b.2 [58]some (e.1,e.2.gs)else some (false,b.2.gs):Option (Bool×Z))let l←M.q3j g.1 20;match l with|.pan p=>some (.done (.pan p))|.ok y=>let t←app 16 i [b.1]some (.go (g.2,t))else some (.go (v,i)):Option (Jn (Rs (q04×q0c)) (Z×List Z)))match u with|.done r=>some r|.go d=>let m←self_q3s (q0c.mk d.1) (yb .i64 (A+1))match m with|.pan q=>some (.pan q)|.ok a=>let h←app 72 x [q04.mk a.1.zh a.1.zq a.1.zg a.1.zn]let c←M.q3p a.2 B;if c.1 then some (.ok (q04.mk w [] h d.2,c.2))else let f←M.q3p c.2 [44]let n←M.q3j f.1 20;match n with|.pan s=>some (.pan s)|.ok z=>M.z19 w self_q3s A B f.2.gs h d.2;partial_fixpoint
mutual
def M.q3s:Nat→q0c→Int→Option (Rs (q04 × q0c))
 | 0,_,_=>none
 | fuel+1,h,i=>do
  let k←M.q7a h.gs [34]
  if k then
   let l←M.q3q h
   match l with
   | .pan s =>
    some (.pan s)
   | .ok d =>
    some (.ok ((q04.mk 4 d.1 ([]:List q04) ([]:List Z)),d.2))
  else
   let a←M.q3p h [91]
   if a.1 then
    let m←(M.q3o fuel) a.2 5 i [93]
    match m with
    | .pan t =>
     some (.pan t)
    | .ok e =>
     some (.ok (e.1,e.2))
   else
    let b←M.q3p a.2 [123]
    if b.1 then
     let n←(M.q3o fuel) b.2 6 i [125]
     match n with
     | .pan u =>
      some (.pan u)
     | .ok f =>
      some (.ok (f.1,f.2))
    else
     let w←(do
       M.z0r 0 b.2.gs:Option (Jn (Rs (q04 × q0c)) Z))
     match w with
     | .done r=>some r
     | .go c =>
      let g←M.q3k c
      let o←M.q3j (decide (0<g)) 20
      match o with
      | .pan v =>
       some (.pan v)
      | .ok A =>
       let j←sub c 0 g
       let p←M.q3p (q0c.mk c) j
       some (.ok ((q04.mk 3 j ([]:List q04) ([]:List Z)),p.2))
def M.q3o:Nat→q0c→Int→Int→Z→Option (Rs (q04 × q0c))
 | 0,_,_,_,_=>none
 | fuel+1,h,i,x,y=>do
  let z←M.q3j (decide (x<16)) 21
  match z with
  | .pan B =>
   some (.pan B)
  | .ok C =>
   let q←M.q3p h y
   if q.1 then
    some (.ok ((q04.mk i [] ([]:List q04) ([]:List Z)),q.2))
   else
    M.z19 i (M.q3s fuel) x y q.2.gs [] []
end
def M.q3c(fuel:Nat)(c:Z):Option (q04×Int):=do if decide (16384<(c.length:Int))then some (q04.mk 0 [] ([]:List q04) ([]:List Z),22)else let d←M.q3m (q0c.mk c)let e←M.q3s fuel d 0;match e with|.pan g=>some (q04.mk 0 [] ([]:List q04) ([]:List Z),g)|.ok b=>let f←M.q3j (decide (b.2.gs=[])) 20;match f with|.pan a=>some (q04.mk 0 [] ([]:List q04) ([]:List Z),a)|.ok h=>some (b.1,0)
def M.q3b  (a:q04)(c:Z):Option (q04×Bool):=do let b←M.q74 a.zn c;if decide (a.zh=6)&&decide (0≤b)&&decide (b<(a.zg.length:Int))then let d←ix a.zg b;some (d,true)else some (q04.mk 0 [] [] [],false)
def M.z4e(e:q04)(b:List Z)(a:Int):Option (Jn (List Z×Bool) (List Z)):=do if decide (a<(e.zg.length:Int))then let c←ix e.zg a;if !decide (c.zh=4)then some (.done ([],false))else let d←app 16 b [c.zq]M.z4e e d (yb .i64 (a+1))else some (.go b)partial_fixpoint
def M.q3e  (c:q04):Option (List Z×Bool):=do if !decide (c.zh=5)then some ([],false)else let b←(do M.z4e c [] 0:Option (Jn (List Z×Bool) (List Z)))match b with|.done r=>some r|.go a=>some (a,true)
def M.z3f(c:q04)(d:List q02)(a:Int):Option (Jn (List q02×Bool) (List q02)):=do if decide (a<(c.zg.length:Int))then let f←ix c.zg a;let b←M.q3e f;if !b.2||!decide (c.zh=6)then some (.done ([],false))else let g←ix c.zn a;let e←app 40 d [q02.mk g b.1]M.z3f c e (yb .i64 (a+1))else some (.go d)partial_fixpoint
def M.q1p  (c:q04):Option (List q02×Bool):=do let b←(do M.z3f c [] 0:Option (Jn (List q02×Bool) (List q02)))match b with|.done r=>some r|.go a=>some (a,decide (c.zh=6))
def M.q2c(fuel:Nat)(b:q0a)(d:q03):Option (q00×Int):=do let A←M.q2d b d.z0o (q00.mk b.zug [] [] [] [] [] [] [] [] [] [] [] [] [] [] [] [] [] [] [] [] [] [] [] 0 0)let E←M.q2g b d.z1r A.2;match E with|.pan H I=>some (I,H)|.ok a=>let i←M.q1s (decide (b.z5o=2)||decide ((d.z1o.length:Int)=0)) 227;match i with|.pan r=>some (a,r)|.ok B=>if decide (b.z5o=0)then let j←M.q1s (decide (d.z0l=[])) 227;match j with|.pan s=>some (a,s)|.ok C=>some (a,0)else
    if decide (b.z5o=2)then let k←M.q1s (decide (d.z0l=[])) 227;match k with|.pan t=>some (a,t)|.ok D=>let l←M.q2e b d.z1o a;match l with|.pan u y=>some (y,u)|.ok m=>some (m,0)else
     if decide (b.z5o=1)then let f←M.q0k d.z0l;let n←M.q1s (decide (f.2=0)) 227;match n with|.pan v=>some (a,v)|.ok F=>let o←M.q2e b f.1 a;match o with|.pan w z=>some (z,w)|.ok p=>some (p,0)else
      if decide (b.z5o=4)then some (q00.mk a.zh a.gOf a.z7l a.z7k a.z09 a.z1i a.z5g a.z5f a.z0e a.z36 a.z1c a.zj a.z1b a.z0v a.z1d a.z13 a.z05 a.z8e a.z0l a.zj7 a.zca a.z34 d.z0l a.z0y a.z7j a.z4s,0)else
       if decide (b.z5o=3)then let c←M.q3c fuel d.z0l;let e←M.q3b c.1 [105,100]let g←M.q3b c.1 B33;let h←M.q1p g.1;let q←M.q1s (decide (c.2=0)&&decide ((c.1.zg.length:Int)=2)&&e.2&&g.2&&decide (e.1.zh=4)&&h.2) 227;match q with|.pan x=>some (a,x)|.ok G=>some (q00.mk a.zh a.gOf a.z7l a.z7k a.z09 a.z1i a.z5g a.z5f a.z0e a.z36 a.z1c a.zj a.z1b a.z0v a.z1d a.z13 e.1.zq a.z8e a.z0l a.zj7 a.zca a.z34 a.z4w h.1 a.z7j a.z4s,0)else some (a,0)
def M.z2w(a:List q0a)(e:q03)(fuel:Nat)(c:Int)(b:Int):Option (Jn (q00×Int) Int):=do if decide (b<(a.length:Int))then let f←ix a b;let g←M.q2d f e.z0o (q00.mk 0 [] [] [] [] [] [] [] [] [] [] [] [] [] [] [] [] [] [] [] [] [] [] [] 0 0)if !g.1 then M.z2w a e fuel c (yb .i64 (b+1))else
   if !decide (f.z9p=e.z0k)then if decide (c=225)then M.z2w a e fuel 226 (yb .i64 (b+1))else M.z2w a e fuel c (yb .i64 (b+1))else let d←M.q2c fuel f e;if decide (d.2=0)then some (.done (d.1,0))else M.z2w a e fuel d.2 (yb .i64 (b+1))else some (.go c)partial_fixpoint
def M.q0r(fuel:Nat)(d:q03):Option (q00×Int):=do let c←(do let a←M.q2j;M.z2w a d fuel 225 0:Option (Jn (q00×Int) Int))match c with|.done r=>some r|.go b=>some (q00.mk 0 [] [] [] [] [] [] [] [] [] [] [] [] [] [] [] [] [] [] [] [] [] [] [] 0 0,b)
def M.q1y  :Option q08:=do some (q08.mk (q04.mk 6 [] ([]:List q04) ([]:List Z)))
def M.q1g  (b:Int):Option q04:=do let a←M.itoa b;some (q04.mk 3 a [] [])
def M.q1q  (a:q08)(f:Bool)(g:Z)(b:q04):Option q08:=do if f then let c←(do let d←app 16 a.z1g.zn [g]let e←app 72 a.z1g.zg [q04.mk b.zh b.zq b.zg b.zn]some (e,d):Option (List q04×List Z))some (q08.mk (q04.mk a.z1g.zh a.z1g.zq c.1 c.2))else some a
def M.q2r  (a:Z):Option q04:=do some (q04.mk 4 a [] [])
def M.z0c(e:List Z)(b:Int)(c:List q04):Option (List q04):=do if decide (b<(e.length:Int))then let f←ix e b;let a←M.q2r f;let d←app 72 c [q04.mk a.zh a.zq a.zg a.zn]M.z0c e (yb .i64 (b+1)) d;else some c;partial_fixpoint
def M.q2s  (b:List Z):Option q04:=do let a←(do M.z0c b 0 []:Option (List q04))some (q04.mk 5 [] a [])
def M.z00(a:q01)(c:Int)(d:Int)(e:Z)(f:List q04)(g:List Z):Option (Int×Z×List q04×List Z):=do if decide (c<([q05.mk [105,115,115] a.zff,q05.mk [115,117,98] a.zfh,q05.mk [97,117,100] a.zfe,q05.mk B3 a.z0e,q05.mk [106,116,105] a.zfg,q05.mk B22 a.z13].length:Int))then let h←ix [q05.mk [105,115,115] a.zff,q05.mk [115,117,98] a.zfh,q05.mk [97,117,100] a.zfe,q05.mk B3 a.z0e,q05.mk [106,116,105] a.zfg,q05.mk B22 a.z13] c;let i←M.q2r h.z2f;let b←M.q1q (q08.mk (q04.mk d e f g)) true h.z05 i;M.z00 a (yb .i64 (c+1)) b.z1g.zh b.z1g.zq b.z1g.zg b.z1g.zn;else some (d,e,f,g)partial_fixpoint
def M.q1b  (a:q01):Option (q04×Bool):=do let c←M.q1y;let b←(do M.z00 a 0 c.z1g.zh c.z1g.zq c.z1g.zg c.z1g.zn:Option (Int×Z×List q04×List Z))let d←M.q1g a.zeq;let e←M.q1q (q08.mk (q04.mk b.1 b.2.1 b.2.2.1 b.2.2.2)) true [105,97,116] d;let f←M.q1g a.zep;let g←M.q1q e true [101,120,112] f;let h←M.q1g a.z03;let i←M.q1q g true B19 h;let j←M.q2s a.zj;let k←M.q1q i true B10 j;let l←M.q2s a.z5j;let m←M.q1q k true [97,99,116] l;let n←cat a.zff a.zfh;let o←cat n a.zfe;let p←cat o a.z0e;let q←cat p a.zfg;let r←cat q a.z13;some (m.z1g,!(decide (r=[])&&decide (a.zeq=0)&&decide (a.zep=0)&&decide (a.z03=0)&&decide ((a.zj.length:Int)=0)&&decide ((a.z5j.length:Int)=0)))
def M.z2p(h:List q02)(b:Int)(c:List q04)(d:List Z):Option (List q04×List Z):=do if decide (b<(h.length:Int))then let e←ix h b;let f←app 16 d [e.z05]let a←M.q2s e.z3t;let g←app 72 c [q04.mk a.zh a.zq a.zg a.zn]M.z2p h (yb .i64 (b+1)) g f;else some (c,d)partial_fixpoint
def M.q1x  (b:List q02):Option q04:=do let a←(do M.z2p b 0 [] []:Option (List q04×List Z))some (q04.mk 6 [] a.1 a.2)
def M.z0i(a:q06)(c:Int)(e:Int)(f:Z)(g:List q04)(h:List Z):Option (Int×Z×List q04×List Z):=do if decide (c<([q05.mk B26 a.z3r,q05.mk B7 a.z25,q05.mk B2 a.z18,q05.mk B13 a.gId,q05.mk B34 a.zq].length:Int))then let d←ix [q05.mk B26 a.z3r,q05.mk B7 a.z25,q05.mk B2 a.z18,q05.mk B13 a.gId,q05.mk B34 a.zq] c;let i←M.q2r d.z2f;let b←M.q1q (q08.mk (q04.mk e f g h)) (!decide (d.z2f=[])) d.z05 i;M.z0i a (yb .i64 (c+1)) b.z1g.zh b.z1g.zq b.z1g.zg b.z1g.zn;else some (e,f,g,h)partial_fixpoint
def M.z0j(n:q06)(c:Int)(d:List q04):Option (List q04):=do if decide (c<(n.zy.length:Int))then let b←ix n.zy c;let e←M.q1y;let f←M.q2r b.gId;let g←M.q1q e true [105,100] f;let h←M.q2r b.zh;let i←M.q1q g true B78 h;let j←M.q2r b.zca;let k←M.q1q i true [116,97,103] j;let l←M.q1x b.z0y;let a←M.q1q k true B33 l;let m←app 72 d [q04.mk a.z1g.zh a.z1g.zq a.z1g.zg a.z1g.zn]M.z0j n (yb .i64 (c+1)) m;else some d;partial_fixpoint
def M.q13  (a:q06):Option q04:=do let q←M.q1y;let r←M.q1g a.z1i;let f←M.q1q q (!decide (a.z1i=0)) B37 r;let b←(do M.z0i a 0 f.z1g.zh f.z1g.zq f.z1g.zg f.z1g.zn:Option (Int×Z×List q04×List Z))let g←M.q2s a.zj;let h←M.q1q (q08.mk (q04.mk b.1 b.2.1 b.2.2.1 b.2.2.2)) (decide (0<(a.zj.length:Int))) B10 g;let i←M.q1g a.z0d;let j←M.q1q h (!decide (a.z0d=0)) B14 i;let k←M.q1g a.z03;let l←M.q1q j (!decide (a.z03=0)) B19 k;let m←M.q1g a.z1q;let n←M.q1q l (!decide (a.z1q=0)) B41 m;let o←M.q1q n a.z4d B29 (q04.mk 2 [] [] [])let e←M.q1b a.zk;let p←M.q1q o e.2 B30 e.1;let c←(do M.z0j a 0 []:Option (List q04))let d←M.q1q p (decide (0<(c.length:Int))) B27 (q04.mk 5 [] c [])some d.z1g
def M.q3g  (b:Z):Option Bool:=do let a←M.z0h b;some !a
def M.zm(c:List Z)(a:Int):Option (Jn Int Unit):=do if decide (a<(c.length:Int))then let d←ix c a;let b←M.q3g d;if b then some (.done a)else M.zm c (yb .i64 (a+1))else some (.go ())partial_fixpoint
def M.q73  (c:List Z):Option Int:=do let a←(do M.zm c 0:Option (Jn Int Unit))match a with|.done r=>some r|.go b=>some (-1)
def M.q6y  (b:List Z):Option Bool:=do let a←M.q73 b;some (decide (0≤a))
def M.z2g(e:q04)(self_q3f:q04→Int→Option (Rs Unit))(g:Int)(a:Int):Option (Rs Unit):=do if decide (a<(e.zg.length:Int))then let d←ix e.zg a;let b←self_q3f d (yb .i64 (g+1))match b with|.pan c=>some (.pan c)|.ok f=>M.z2g e self_q3f g (yb .i64 (a+1))else some (.ok ())partial_fixpoint
def M.q3f:Nat→q04→Int→Option (Rs Unit)|0,_,_=>none|fuel+1,a,y=>do let D←M.q3j (!(decide (a.zh=5)||decide (a.zh=6))||decide (y<16)) 21;match D with|.pan G=>some (.pan G)|.ok I=>let c←M.q3j (decide (0≤a.zh)&&decide (a.zh<7)) 23;match c with|.pan n=>some (.pan n)|.ok z=>let d←M.q3j (decide (a.zh=5)||decide (a.zh=6)||decide ((a.zg.length:Int)=0)) 23;match d with
    |.pan o=>some (.pan o)|.ok A=>
     let e←M.q3j (decide (a.zh=6)&&decide ((a.zn.length:Int)=(a.zg.length:Int))||decide ((a.zn.length:Int)=0)&&!decide (a.zh=6)) 23
     match e with|.pan p=>some (.pan p)|.ok B=>let f←M.q6y a.zn;let u←(do if !f then let g←M.single a.zn;some g;else some false:Option Bool)let h←M.q3j u 23;match h with|.pan q=>some (.pan q)|.ok C=>let w←(do if decide (a.zh=3)then let v←(do if !decide (a.zq=[])then let i←M.q3k a.zq;some (decide (i=(a.zq.length:Int)))else some false:Option Bool)let j←M.q3j v 23;match j with|.pan s=>some (.done (.pan s))|.ok E=>some (.go ())else
          if decide (a.zh=4)then let k←M.z0h a.zq;let l←M.q3j k 23;match l with|.pan t=>some (.done (.pan t))|.ok F=>some (.go ())else let m←M.q3j (decide (a.zq=[])) 23;match m with|.pan b=>some (.done (.pan b))|.ok x=>some (.go ()):Option (Jn (Rs Unit) Unit))match w with|.done r=>some r|.go H=>M.z2g a (M.q3f fuel) y 0
def M.q37(fuel:Nat)(c:q04):Option Int:=do let a←M.q3f fuel c 0;match a with|.pan b=>some b|.ok d=>some 0
def M.z1j(e:Z)(b:Int)(c:List Int):Option (List Int):=do if decide (b<((unb e).length:Int))then let a←ix (unb e) b;let d←M.indexByte [34,92,8,9,10,12,13] a;if decide (0≤d)then let i←sub ([34,92,98,116,110,102,114]:Z) d (yb .i64 (d+1))let j←cat [92] i;let f←M.q78 c j;M.z1j e (yb .i64 (b+1)) f.2;else
   if decide (a<32)then let k←sub ([48,49]:Z) (zir .u8 a 4) (yb .u8 (zir .u8 a 4+1))let l←cat [92,117,48,48] k;let m←sub ([48,49,50,51,52,53,54,55,56,57,97,98,99,100,101,102]:Z) (z9d .u8 a 15) (yb .u8 (z9d .u8 a 15+1))let n←cat l m;let g←M.q78 c n;M.z1j e (yb .i64 (b+1)) g.2;else let h←M.q77 c a;M.z1j e (yb .i64 (b+1)) h;else some c;partial_fixpoint
def M.q3l  (e:List Int)(c:Z):Option (List Int):=do let d←M.q77 e 34;let b←(do let _←chk (decide (c.length≤9223372036854775807))M.z1j c 0 d:Option (List Int))let a←M.q77 b 34;some a
def M.z2q(e:q04)(self_q3i:List Int→q04→Option (List Int))(a:Int)(d:List Int):Option (List Int):=do if decide (a<(e.zg.length:Int))then let c←ix e.zg a;let b←(do if decide (0<a)then let f←M.q77 d 44;some f;else some d:Option (List Int))if decide (e.zh=6)then let k←ix e.zn a;let g←M.q3l b k;let h←M.q77 g 58;let i←self_q3i h c;M.z2q e self_q3i (yb .i64 (a+1)) i;else let j←self_q3i b c;M.z2q e self_q3i (yb .i64 (a+1)) j;else some d;partial_fixpoint
def M.q3i:Nat→List Int→q04→Option (List Int)|0,_,_=>none|fuel+1,b,a=>do if decide (a.zh=0)then let i←M.q78 b B20;some i.2;else
   if decide (a.zh=1)then let j←M.q78 b B15;some j.2;else
    if decide (a.zh=2)then let k←M.q78 b B21;some k.2;else
     if decide (a.zh=3)then let l←M.q78 b a.zq;some l.2;else
      if decide (a.zh=4)then let m←M.q3l b a.zq;some m;else let e←(do if decide (a.zh=6)then some [123,125]else some [91,93]:Option Z)let g←ix e 0;let f←M.q77 b (g.toNat:Int)let h←(do M.z2q a (M.q3i fuel) 0 f:Option (List Int))let d←ix e 1;let c←M.q77 h (d.toNat:Int)some c
def M.q76  (a:List Int):Option Int:=do some (a.length:Int)
def M.q3d(fuel:Nat)(c:q04):Option (Z×Int):=do let a←M.q37 fuel c;if !decide (a=0)then some ([],a)else let b←M.q3i fuel ([]:List Int) c;let d←M.q76 b;if decide (16384<d)then some ([],22)else let e←M.zt b;some (e,0)
def M.q30  (p:Int):Option Z:=do let g←some (z3p ([]:List (Int×Z)) 200 [79,75])let h←some (z3p g 201 B74)let i←some (z3p h 400 B56)let j←some (z3p i 401 B48)let k←some (z3p j 403 B60)let l←some (z3p k 404 B65)let m←some (z3p l 405 B40)let n←some (z3p m 409 B71)let o←some (z3p n 412 B35)let a←some (z3p o 413 B43)let b←some (z3p a 429 B44)let c←some (z3p b 431 B18)let d←some (z3p c 500 B28)let e←some (z3p d 503 B38)let f←some (z3p e 507 B31)some (z6r f p [])
def M.q7d  (a:Z):Option Bool:=do let c←(do if decide ((a.length:Int)≤128)then let b←M.z0h a;some b;else some false:Option Bool)some c
def M.q7e  (a:Int):Option Bool:=do some (decide (0≤a)&&decide (a≤1099511627776))
def M.q7f  (a:Z):Option Bool:=do let c←(do if !decide (a=[])&&decide ((a.length:Int)≤32)then let b←M.z2e a;some !b else some false:Option Bool)some c
def M.z06(a:List Z)(b:Int):Option (Jn Int Unit):=do if decide (b<(a.length:Int))then let e←ix a b;let d←ix a b;let c←M.q7d d;if !c then some (.done 142)else M.z06 a (yb .i64 (b+1))else some (.go ())partial_fixpoint
def M.z04(f:q01)(a:Int):Option (Jn Int Unit):=do if decide (a<(f.zj.length:Int))then let b←ix f.zj a;let c←M.q7f b;let d←(do if !c then some true;else
     if decide (0<a)then let e←ix f.zj (yb .i64 (a-1))some !slt e b else some false:Option Bool)if d then some (.done 142)else M.z04 f (yb .i64 (a+1))else some (.go ())partial_fixpoint
def M.q7c  (a:q01):Option Int:=do let h←(do let g←app 16 [a.zff,a.zfh,a.zfe,a.z0e,a.zfg,a.z13] a.z5j;M.z06 g 0:Option (Jn Int Unit))match h with|.done r=>some r|.go j=>let b←M.q7e a.zeq;let e←(do if !b then some true;else let c←M.q7e a.zep;some !c:Option Bool)let f←(do if e||decide (a.z03<0)||decide (9<a.z03)||decide (16<(a.zj.length:Int))||decide (4<(a.z5j.length:Int))then some true;else let d←M.q6z a.z5j []some d:Option Bool)if f then some 142;else let i←(do M.z04 a 0:Option (Jn Int Unit))match i with|.done r=>some r|.go k=>some 0
def M.q1m  (l:Int)(m:Z)(p:Int):Option Z:=do let n←M.itoa l;let q←cat [72,84,84,80,47,49,46,49,32] n;let r←cat q [32]let o←M.q30 l;let s←cat r o;let t←cat s [13,10]let u←cat t B32;let a←cat u [13,10]let c←(do if !decide (m=[])then let d←cat B6 m;let e←cat d B54;let f←cat e [13,10]let g←cat a f;some g;else some a:Option Z)let h←cat c B5;let b←M.itoa p;let i←cat h b;let j←cat i [13,10]let k←cat j [13,10]some k
def M.z02(a:q06)(b:Int):Option (Jn (Z×Int) Unit):=do if decide (b<([a.z1i,a.z0d,a.z03,a.z1q].length:Int))then let c←ix [a.z1i,a.z0d,a.z03,a.z1q] b;if decide (c<0)||decide (1000000000000000≤c)then some (.done ([],224))else M.z02 a (yb .i64 (b+1))else some (.go ())partial_fixpoint
def M.q0v(fuel:Nat)(b:q06):Option (Z×Int):=do let k←(do M.z02 b 0:Option (Jn (Z×Int) Unit))match k with|.done r=>some r|.go m=>let d←M.q13 b;let a←M.q3d fuel d;let h←(do if !decide (a.2=0)then some true;else let e←M.q30 b.z2m;some (decide (e=[])):Option Bool)let i←(do if h then some true;else let f←M.trim b.z09 B1;some !decide (f=[]):Option Bool)let j←(do if i then some true;else let g←M.q7c b.zk;some !decide (g=0):Option Bool)if j then some ([],224)else let c←M.q1m b.z2m b.z09 (a.1.length:Int)if decide (8192<(c.length:Int))then some ([],224)else let l←cat c a.1;some (l,0)
def M.q36  (a b:Z):Option Z:=do let c←M.q35 a b;if c then let d←sub a (b.length:Int) (a.length:Int)some d;else some a
def M.q7b  (b c:Z):Option Z:=do let a←M.q36 b c;some a
def M.q25  (b:q09)(c:Z):Option q09:=do let a←M.q3b b.gv c;some (q09.mk a.1)
def M.q3a  (a:q04):Option (Int×Bool):=do let e←M.q7b a.zq [45]let c←M.atoi a.zq;let d←(do if !decide (a.zh=3)||!c.2||decide (15<(e.length:Int))then some true;else let b←M.itoa c.1;some !decide (b=a.zq):Option Bool)if d then some (0,false)else some (c.1,true)
def M.q26  (c:q09)(d:Z):Option Int:=do let a←M.q25 c d;let b←M.q3a a.gv;some b.1
def M.q28  (b:q09)(c:Z):Option Z:=do let a←M.q25 b c;if decide (a.gv.zh=4)then some a.gv.zq;else some []
def M.q2a  (c:q09)(d:Z):Option (List Z):=do let a←M.q25 c d;let b←M.q3e a.gv;some b.1
def M.z0b(d:q09)(b:Int)(c:List q07):Option (List q07):=do if decide (b<(d.gv.zg.length:Int))then let a←ix d.gv.zg b;let e←M.q25 (q09.mk a) B33;let f←M.q1p e.gv;let g←M.q28 (q09.mk a) [105,100]let h←M.q28 (q09.mk a) B78;let i←M.q28 (q09.mk a) [116,97,103]let j←app 72 c [q07.mk g h i f.1]M.z0b d (yb .i64 (b+1)) j;else some c;partial_fixpoint
def M.q1o  (b:q09):Option q06:=do let v←M.q26 b B37;let w←M.q28 b B26;let x←M.q28 b B7;let y←M.q28 b B2;let z←M.q28 b B13;let c←M.q28 b B34;let d←M.q2a b B10;let e←M.q26 b B14;let f←M.q26 b B19;let g←M.q26 b B41;let h←M.q25 b B29;let a←M.q25 b B30;let i←M.q28 a [105,115,115]let j←M.q28 a [115,117,98]let k←M.q28 a [97,117,100]let l←M.q28 a B3;let m←M.q28 a [106,116,105]let n←M.q28 a B22;let o←M.q26 a [105,97,116]let p←M.q26 a [101,120,112]let q←M.q26 a B19;let r←M.q2a a B10;let s←M.q2a a [97,99,116]let u←(do let t←M.q25 b B27;M.z0b t 0 []:Option (List q07))some (q06.mk 0 v [] w x y z c d e f g (decide (h.gv.zh=2)) (q01.mk i j k l m n o p q r s) u)
def M.q0t(fuel:Nat)(i:Z):Option (q06×Int×Int):=do let e←M.q1h i;let a5←M.q1s (decide (0<e)||decide ((i.length:Int)<8192)) 220;match a5 with|.pan e8=>some (q06.mk 0 0 [] [] [] [] [] [] [] 0 0 0 false (q01.mk [] [] [] [] [] [] 0 0 0 [] []) [],0,e8)|.ok a7=>let a9←M.q1s (decide (0<e)) 223;match a9 with|.pan I=>some (q06.mk 0 0 [] [] [] [] [] [] [] 0 0 0 false (q01.mk [] [] [] [] [] [] 0 0 0 [] []) [],0,I)|.ok a6=>let Q←sub i 0 (yb .i64 (e-4))let b←M.split Q [13,10]let N←(do if decide (3≤(b.length:Int))then let T←ix b 0;some (decide (12<(T.length:Int)))else some false:Option Bool)let z←M.q1s N 220;match z with|.pan J=>some (q06.mk 0 0 [] [] [] [] [] [] [] 0 0 0 false (q01.mk [] [] [] [] [] [] 0 0 0 [] []) [],0,J)|.ok a8=>let U←ix b 0;let R←sub U 9 12;let d←M.q1w R 3;let O←(do if d.2 then let A←M.q30 d.1;some !decide (A=[])else some false:Option Bool)let B←M.q1s O 220;match B with|.pan K=>some (q06.mk 0 0 [] [] [] [] [] [] [] 0 0 0 false (q01.mk [] [] [] [] [] [] 0 0 0 [] []) [],0,K)|.ok b0=>let f←(do if decide ((b.length:Int)=4)then let V←ix b 2;let C←M.q7b V B6;let D←M.cut C [59]some D.1;else some []:Option Z)let E←M.trim f B1;let F←M.q1s (decide (E=[])) 220;match F with|.pan L=>some (q06.mk 0 0 [] [] [] [] [] [] [] 0 0 0 false (q01.mk [] [] [] [] [] [] 0 0 0 [] []) [],0,L)|.ok b1=>let W←ix b (yb .i64 ((b.length:Int)-1))let G←M.q7b W B5;let c←M.q1w G 5;let P←(do if c.2 then if decide (c.1≤16384)then let S←sub i 0 e;let H←M.q1m d.1 f c.1;let j←M.q1s (decide (H=S)) 220;match j with|.pan p=>some (.done (q06.mk 0 0 [] [] [] [] [] [] [] 0 0 0 false (q01.mk [] [] [] [] [] [] 0 0 0 [] []) [],0,p))|.ok X=>some (.go ())else let k←M.q1s false 220;match k with|.pan q=>some (.done (q06.mk 0 0 [] [] [] [] [] [] [] 0 0 0 false (q01.mk [] [] [] [] [] [] 0 0 0 [] []) [],0,q))|.ok Y=>some (.go ())else let l←M.q1s false 220;match l with|.pan s=>some (.done (q06.mk 0 0 [] [] [] [] [] [] [] 0 0 0 false (q01.mk [] [] [] [] [] [] 0 0 0 [] []) [],0,s))|.ok a0=>some (.go ()):Option (Jn (q06×Int×Int) Unit))match P with|.done r=>some r|.go b2=>let m←M.q1s (decide (c.1≤yb .i64 ((i.length:Int)-e))) 223;match m with|.pan t=>some (q06.mk 0 0 [] [] [] [] [] [] [] 0 0 0 false (q01.mk [] [] [] [] [] [] 0 0 0 [] []) [],0,t)|.ok a2=>let x←sub i e (yb .i64 (e+c.1))let g←M.q3c fuel x;let n←M.q1s (decide (g.2=0)) 220;match n with|.pan u=>some (q06.mk 0 0 [] [] [] [] [] [] [] 0 0 0 false (q01.mk [] [] [] [] [] [] 0 0 0 [] []) [],0,u)|.ok a3=>let a←M.q1o (q09.mk g.1)let h←M.q0v fuel (q06.mk d.1 a.z1i f a.z3r a.z25 a.z18 a.gId a.zq a.zj a.z0d a.z03 a.z1q a.z4d a.zk a.zy)let w←(do if decide (h.2=0)then let y←sub i 0 (yb .i64 (e+c.1))some (decide (h.1=y))else some false:Option Bool)let o←M.q1s w 220;match o with|.pan v=>some (q06.mk 0 0 [] [] [] [] [] [] [] 0 0 0 false (q01.mk [] [] [] [] [] [] 0 0 0 [] []) [],0,v)|.ok a4=>some (q06.mk d.1 a.z1i f a.z3r a.z25 a.z18 a.gId a.zq a.zj a.z0d a.z03 a.z1q a.z4d a.zk a.zy,yb .i64 (e+c.1),0)
def M.q2i  (c:Int)(d e f:Z)(g:q0a)(a:q03):Option q03:=do if !decide (z9d .i64 g.zdn c=0)&&!decide (d=[])then let b←app 32 a.z1r [q05.mk e f]some (q03.mk a.z0k a.z0o [] b a.z0l)else some (q03.mk a.z0k a.z0o [] a.z1r a.z0l)
def M.z69(b:Int)(c:Int)(a:Int)(d:List Int):Option (Int×List Int):=do if decide (6≤a)then let _←chk (decide (0≤yb .i64 (a-6)))let f←ix (B1:Z) (z9d .i64 (zir .i64 (orI .i64 (z7r .i64 b 8) (yb .i64 c)) (yb .i64 (a-6))) 63)let e←M.q77 d (f.toNat:Int)M.z69 b c (yb .i64 (a-6)) e;else some (a,d)partial_fixpoint
def M.z68(h:Z)(c:Int)(e:Int)(d:Int)(f:List Int):Option (Int×Int×List Int):=do if decide (d<((unb h).length:Int))then let b←(do let g←ix (unb h) d;let a←(do M.z69 c g (yb .i64 (e+8)) f:Option (Int×List Int))let _←chk (decide (0≤a.1))some (z9d .i64 (orI .i64 (z7r .i64 c 8) (yb .i64 g)) (yb .i64 (z7r .i64 1 a.1-1)),a.1,a.2):Option (Int×Int×List Int))M.z68 h b.1 b.2.1 (yb .i64 (d+1)) b.2.2;else some (c,e,f)partial_fixpoint
def M.q0h  (f:Z):Option Z:=do let a←(do let _←chk (decide (f.length≤9223372036854775807))M.z68 f 0 0 0 ([]:List Int):Option (Int×Int×List Int))if decide (0<a.2.1)then let _←chk (decide (0≤yb .i64 (6-a.2.1)))let e←ix (B1:Z) (z9d .i64 (z7r .i64 a.1 (yb .i64 (6-a.2.1))) 63)let b←M.q77 a.2.2 (e.toNat:Int)let c←M.zt b;some c;else let d←M.zt a.2.2;some d
def M.zp(i:Z)(n:Z)(b:Int)(c:List Int):Option (List Int):=do if decide (b<((unb i).length:Int))then let a←ix (unb i) b;let h←(do if decide (65≤a)&&decide (a≤90)||decide (97≤a)&&decide (a≤122)||decide (48≤a)&&decide (a≤57)then some true;else let d←M.z16 [45,46,95,126] a;some (decide (0≤d)):Option Bool)if h then let e←M.q77 c a;M.zp i n (yb .i64 (b+1)) e;else
   if decide (a=32)then let f←M.q78 c n;M.zp i n (yb .i64 (b+1)) f.2;else let j←sub ([48,49,50,51,52,53,54,55,56,57,65,66,67,68,69,70]:Z) (zir .u8 a 4) (yb .u8 (zir .u8 a 4+1))let k←cat [37] j;let l←sub ([48,49,50,51,52,53,54,55,56,57,65,66,67,68,69,70]:Z) (z9d .u8 a 15) (yb .u8 (z9d .u8 a 15+1))let m←cat k l;let g←M.q78 c m;M.zp i n (yb .i64 (b+1)) g.2;else some c;partial_fixpoint
def M.q0p  (c d:Z):Option Z:=do let b←(do let _←chk (decide (c.length≤9223372036854775807))M.zp c d 0 ([]:List Int):Option (List Int))let a←M.zt b;some a
def M.z0a(g:List q05)(b:List Z)(a:Int):Option (List Z):=do if decide (a<(g.length:Int))then let c←ix g a;let d←M.q0p c.z05 [43]let h←cat d [61]let e←M.q0p c.z2f [43]let i←cat h e;let f←app 16 b [i]M.z0a g f (yb .i64 (a+1))else some b;partial_fixpoint
def M.q0i  (c:List q05):Option (Z×Int):=do if decide (64<(c.length:Int))then some ([],14)else let b←(do M.z0a c [] 0:Option (List Z))let a←M.join b [38]if decide (8192<(a.length:Int))then some ([],14)else some (a,0)
def M.zw(a:List Z)(g:q00)(b:Int)(d:List Z):Option (List Z):=do
 if decide (b<(a.length:Int))then let c←ix a b;let e←(do if decide (c=[79,70])then some g.gOf;else
     if decide (c=B72)then some g.z05;else some c:Option Z)let f←app 16 d [e]M.zw a g (yb .i64 (b+1)) f;else some d;partial_fixpoint
def M.zu(o:q0a)(d:q00)(e:List q05)(b:Int):Option (List q05):=do if decide (b<(o.z92.length:Int))then let a←ix o.z92 b;let f←(do let c←M.q2u a d;if c=24 then if decide (d.z7j=0)then some []else let g←M.itoa d.z7j;some g;else
     if c=25 then if decide (d.z4s=0)then some []else let h←M.itoa d.z4s;some h;else
      if c=1000000 then if a.zuh then let i←M.q0q a.z90 d;let m←q00.zzw d i;let j←M.q0h m;some j;else
        if !Nat.beq a.z90 NF then let k←M.q0q a.z90 d;let n←q00.zzw d k;some n;else some a.zhm;else none:Option Z)if !decide (f=[])then let l←app 32 e [q05.mk a.zhn f]M.zu o d l (yb .i64 (b+1))else M.zu o d e (yb .i64 (b+1))else some e;partial_fixpoint
def M.q2h(fuel:Nat)(b:q0a)(c:q00):Option (q03×Int):=do let o←(do let p←sub b.zje 1 (b.zje.length:Int)let n←M.split p [47]M.zw n c 0 []:Option (List Z))let q←cat B53 c.z09;let d←M.q2i 1 c.z09 B70 q b (q03.mk b.z9p o [] [q05.mk B47 [105,100,112]] [])let r←cat B63 c.z5g;let e←M.q2i 2 c.z5g B39 r b (q03.mk d.z0k d.z0o [] d.z1r d.z0l)let s←cat [34] c.zca;let t←cat s [34]let a←M.q2i 4 c.zca B57 t b (q03.mk e.z0k e.z0o [] e.z1r e.z0l)let h←(do M.zu b c [] 0:Option (List q05))if decide (b.z5o=2)then some (q03.mk a.z0k a.z0o h a.z1r a.z0l,0)else
  if decide (b.z5o=1)then let f←M.q0i h;some (q03.mk a.z0k a.z0o [] a.z1r f.1,f.2)else
   if decide (b.z5o=4)then some (q03.mk a.z0k a.z0o [] a.z1r c.z4w,0)else
    if decide (b.z5o=3)then let i←M.q1y;let j←M.q2r c.z05;let k←M.q1q i true [105,100] j;let l←M.q1x c.z0y;let m←M.q1q k true B33 l;let g←M.q3d fuel m.z1g;some (q03.mk a.z0k a.z0o [] a.z1r g.1,g.2)else some (q03.mk a.z0k a.z0o [] a.z1r a.z0l,0)
def M.z2b(i:List q05)(b:Int)(c:List (Z×Bool)):Option (Jn Bool (List (Z×Bool))):=do if decide (b<(i.length:Int))then let a←ix i b;let d←M.q1t a.z05;let f←(do if !d then some true;else let e←M.q2x a.z2f;some !e:Option Bool)let g←(do if f then some true;else some (z6r c a.z05 false):Option Bool)if g then some (.done false)else let h←some (z3p c a.z05 true)M.z2b i (yb .i64 (b+1)) h;else some (.go c)partial_fixpoint
def M.q1n  (d:List q05):Option Bool:=do let e←some (z3p ([]:List (Z×Bool)) B23 true)let f←some (z3p e B24 true)let c←(do M.z2b d 0 f:Option (Jn Bool (List (Z×Bool))))match c with|.done r=>some r|.go a=>let b←(do if decide ((d.length:Int)≤32)then some (z6r a B47 false)else some false:Option Bool)some b
def M.q0n  (b:Z):Option Z:=do let a←M.q0p b [37,50,48]some a
def M.z3d(e:q03)(a:Int)(b:List Int):Option (List Int):=do if decide (a<(e.z0o.length:Int))then let g←ix e.z0o a;let c←M.q0n g;let f←cat [47] c;let d←M.q78 b f;M.z3d e (yb .i64 (a+1)) d.2;else some b;partial_fixpoint
def M.z3e(h:q03)(a:Int)(b:List Int):Option (List Int):=do if decide (a<(h.z1r.length:Int))then let c←ix h.z1r a;let e←cat c.z05 [58,32]let f←cat e c.z2f;let g←cat f [13,10]let d←M.q78 b g;M.z3e h (yb .i64 (a+1)) d.2;else some b;partial_fixpoint
def M.q0u  (a:q03):Option (Z×Int):=do let n←M.q0i a.z1o;let s←(do if !decide (n.2=0)then some true;else let o←M.q1r a.z0k;some !o:Option Bool)let t←(do if s||decide ((a.z0o.length:Int)=0)||decide (64<(a.z0o.length:Int))then some true;else let p←M.q1n a.z1r;some !p:Option Bool)if t||decide ((a.z1r.length:Int)=32)&&!decide (a.z0l=[])||decide (16384<(a.z0l.length:Int))then some ([],224)else let v←cat a.z0k [32]let q←M.q78 ([]:List Int) v;let j←(do M.z3d a 0 q.2:Option (List Int))let u←(do if !decide (n.1=[])then let w←cat [63] n.1;let r←M.q78 j w;some r.2;else some j:Option (List Int))let d←M.q78 u [32,72,84,84,80,47,49,46,49,13,10]let c←(do M.z3e a 0 d.2:Option (List Int))let i←(do if !decide (a.z0l=[])then let e←M.itoa (a.z0l.length:Int)let k←cat B5 e;let l←cat k [13,10]let f←M.q78 c l;some f.2;else some c:Option (List Int))let b←M.q78 i [13,10]let g←M.q76 b.2;if decide (8192<g)then some ([],224)else let h←M.zt b.2;let m←cat h a.z0l;some (m,0)
def M.z1k(b:List Z)(e:List Z)(a:Int):Option (Jn Bool Unit):=do if decide (a<(b.length:Int))then let c←ix b a;let d←ix e a;if !decide (c=d)then some (.done false)else M.z1k b e (yb .i64 (a+1))else some (.go ())partial_fixpoint
def M.q71  (a b:List Z):Option Bool:=do if !decide ((a.length:Int)=(b.length:Int))then some false;else let c←(do M.z1k a b 0:Option (Jn Bool Unit))match c with|.done r=>some r|.go d=>some true
def M.q2m  (a b:q02):Option Bool:=do let d←(do if decide (a.z05=b.z05)then let c←M.q71 a.z3t b.z3t;some c;else some false:Option Bool)some d
def M.zb(c:List q02)(f:List q02)(a:Int):Option (Jn Bool Unit):=do if decide (a<(c.length:Int))then let d←ix c a;let e←ix f a;let b←M.q2m d e;if !b then some (.done false)else M.zb c f (yb .i64 (a+1))else some (.go ())partial_fixpoint
def M.q70  (b c:List q02):Option Bool:=do if !decide ((b.length:Int)=(c.length:Int))then some false;else let a←(do M.zb b c 0:Option (Jn Bool Unit))match a with|.done r=>some r|.go d=>some true
def M.q2n  (a:q00):Option (List Z):=do some [a.gOf,a.z7l,a.z7k,a.z09,a.z1i,a.z5g,a.z5f,a.z0e,a.z36,a.z1c,a.zj,a.z1b,a.z0v,a.z1d,a.z13,a.z05,a.z8e,a.z0l,a.zj7,a.zca,a.z34,a.z4w]
def M.q2l  (c d:q00):Option Bool:=do let e←M.q70 c.z0y d.z0y;if !e then some false;else let a←M.q2n c;let b←M.q2n d;some (decide (a.getD 0 []=b.getD 0 [])&&(decide (a.getD 1 []=b.getD 1 [])&&(decide (a.getD 2 []=b.getD 2 [])&&(decide (a.getD 3 []=b.getD 3 [])&&(decide (a.getD 4 []=b.getD 4 [])&&(decide (a.getD 5 []=b.getD 5 [])&&(decide (a.getD 6 []=b.getD 6 [])&&(decide (a.getD 7 []=b.getD 7 [])&&(decide (a.getD 8 []=b.getD 8 [])&&(decide (a.getD 9 []=b.getD 9 [])&&(decide (a.getD 10 []=b.getD 10 [])&&(decide (a.getD 11 []=b.getD 11 [])&&(decide (a.getD 12 []=b.getD 12 [])&&(decide (a.getD 13 []=b.getD 13 [])&&(decide (a.getD 14 []=b.getD 14 [])&&(decide (a.getD 15 []=b.getD 15 [])&&(decide (a.getD 16 []=b.getD 16 [])&&(decide (a.getD 17 []=b.getD 17 [])&&(decide (a.getD 18 []=b.getD 18 [])&&(decide (a.getD 19 []=b.getD 19 [])&&(decide (a.getD 20 []=b.getD 20 [])&&(decide (a.getD 21 []=b.getD 21 [])&&true)))))))))))))))))))))&&decide (c.zh=d.zh)&&decide (c.z7j=d.z7j)&&decide (c.z4s=d.z4s))
def M.z07(a:List q0a)(g:q00)(fuel:Nat)(c:Int):Option (Jn (q03×Int) Unit):=do if decide (c<(a.length:Int))then let h←ix a c;if !decide (h.zug=g.zh)then M.z07 a g fuel (yb .i64 (c+1))else let b←M.q2h fuel h g;let i←M.q0u b.1;let e←M.q0r fuel b.1;let f←(do if decide (b.2=0)&&decide (i.2=0)&&decide (e.2=0)then let d←M.q2l g e.1;some d;else some false:Option Bool)if f then some (.done (b.1,0))else M.z07 a g fuel (yb .i64 (c+1))else some (.go ())partial_fixpoint
def M.q0w(fuel:Nat)(d:q00):Option (q03×Int):=do let b←(do let a←M.q2j;M.z07 a d fuel 0:Option (Jn (q03×Int) Unit))match b with|.done r=>some r|.go c=>some (q03.mk [] [] [] [] [],224)
def M.q0x  (a:Int):Option Int:=do if decide (a=221)then some 413;else
  if decide (a=222)then some 431;else
   if decide (a=225)then some 404;else
    if decide (a=226)then some 405;else some 400
def M.q44(fuel:Nat):Option Bool:=do let f←M.q0s B8;let e←M.q0r fuel f.1;let m←sub (B11:Z) 0 60;let k←M.q0s m;let l←M.q0s [71,69,84,32,47,32,72,84,84,80,47,49,46,48,13,10,104,111,115,116,58,120,13,10,13,10]let g←M.q0r fuel (q03.mk [71,69,84] [(B61:Z)] [] [] [])let h←M.q0r fuel (q03.mk [71,69,84] [([120]:Z)] [] [] [])let a←M.q0v fuel (q06.mk 401 171 [] [] [] [] [] [] [] 0 0 0 false (q01.mk [] [] [] [] [] [] 0 0 0 [] []) [])let b←M.q0t fuel a.1;let c←M.q0w fuel (q00.mk 1 [] [97,110,110] [112] [] [] [] [] [] [] [] [] [] [] [] [] [] [] [] [] [] [] [] [] 0 0)let d←M.q0u c.1;let j←(do if decide (f.2.2=0)&&decide (f.2.1=68)&&decide (e.2=0)&&decide (e.1.zh=1)&&decide (e.1.z7l=[97,110,110])&&decide (e.1.z7k=[112])&&decide (k.2.2=223)&&decide (l.2.2=220)&&decide (g.2=226)&&decide (h.2=225)&&decide (a.2=0)&&decide (a.1=B4)&&decide (b.2.2=0)&&decide (b.2.1=(a.1.length:Int))&&decide (b.1.z1i=171)&&decide (b.1.z2m=401)&&decide (c.2=0)&&decide (d.2=0)&&decide (d.1=B9)then let i←M.q0x 221;some (decide (i=413))else some false:Option Bool)some (j&&true&&true&&true&&true&&true&&true&&true)
def M.z1x(b:List Z)(e:List Z)(a:Int):Option (Jn Bool Unit):=do if decide (a<(b.length:Int))then let c←ix b a;let d←ix e a;if !decide (c=d)then some (.done false)else M.z1x b e (yb .i64 (a+1))else some (.go ())partial_fixpoint
def M.q4r  (a b:List Z):Option Bool:=do if !decide ((a.length:Int)=(b.length:Int))then some false;else let c←(do M.z1x a b 0:Option (Jn Bool Unit))match c with|.done r=>some r|.go d=>some true
def M.z2c(a:Z)(b:Int):Option Z:=do if decide (0<b)||decide (a=[])then let c←cat (byt [yb .u8 (yb .i64 (48+ya b 10))]) a;M.z2c c (yb .i64 (Int.tdiv b 10))else some a;partial_fixpoint
def M.q6d  (b:Int):Option Z:=do let a←(do M.z2c [] b:Option Z)some a
def M.q6w  (a:Int):Option Z:=do if decide (a=200)then some [79,75]else
  if decide (a=201)then some B74;else
   if decide (a=400)then some B56;else
    if decide (a=401)then some B48;else
     if decide (a=403)then some B60;else
      if decide (a=404)then some B65;else
       if decide (a=405)then some B40;else
        if decide (a=409)then some B71;else
         if decide (a=412)then some B35;else
          if decide (a=413)then some B43;else
           if decide (a=429)then some B44;else
            if decide (a=431)then some B18;else
             if decide (a=500)then some B28;else
              if decide (a=503)then some B38;else
               if decide (a=507)then some B31;else some []
def M.z55(c:Z)(b:Int):Option (Jn Bool Unit):=do if decide (b<(c.length:Int))then let a←ix c b;if !(decide (65≤(a.toNat:Int))&&decide ((a.toNat:Int)≤90)||decide (97≤(a.toNat:Int))&&decide ((a.toNat:Int)≤122)||decide (48≤(a.toNat:Int))&&decide ((a.toNat:Int)≤57)||decide ((a.toNat:Int)=45)||decide ((a.toNat:Int)=95))then some (.done false)else M.z55 c (yb .i64 (b+1))else some (.go ())partial_fixpoint
def M.q6i  (c:Z):Option Bool:=do let a←(do M.z55 c 0:Option (Jn Bool Unit))match a with|.done r=>some r|.go b=>some true
def M.q63  (a:Int):Option Bool:=do some (decide (0≤a)&&decide (a<1000000000000000))
def M.q5c  (a:Z):Option Bool:=do let c←(do if decide ((a.length:Int)≤128)then let b←M.z0h a;some b;else some false:Option Bool)some c
def M.z5w(c:Z)(b:Int):Option (Jn Bool Unit):=do if decide (b<(c.length:Int))then let a←ix c b;if decide ((a.toNat:Int)<33)||decide ((a.toNat:Int)=34)||decide ((a.toNat:Int)=92)||decide (126<(a.toNat:Int))then some (.done false)else M.z5w c (yb .i64 (b+1))else some (.go ())partial_fixpoint
def M.q5b  (a:Z):Option Bool:=do let b←(do M.z5w a 0:Option (Jn Bool Unit))match b with|.done r=>some r|.go c=>some (decide (1≤(a.length:Int))&&decide ((a.length:Int)≤32))
def M.z2r(f:q01)(b:Bool)(a:Int):Option Bool:=do if decide (a<(f.zj.length:Int))then let d←(do if b then let g←ix f.zj a;let c←M.q5b g;some c;else some false:Option Bool)let e←(do if d then if decide (a=0)then some true;else let h←ix f.zj (yb .i64 (a-1))let i←ix f.zj a;some (slt h i)else some false:Option Bool)M.z2r f e (yb .i64 (a+1))else some b;partial_fixpoint
def M.z3j(h:q01)(b:Bool)(a:Int):Option Bool:=do if decide (a<(h.z5j.length:Int))then let d←(do if b then let f←ix h.z5j a;let c←M.q5c f;some c;else some false:Option Bool)let e←(do if d then let g←ix h.z5j a;some !decide (g=[])else some false:Option Bool)M.z3j h e (yb .i64 (a+1))else some b;partial_fixpoint
def M.q59  (a:q01):Option Int:=do let l←M.q5c a.zff;let n←(do if l then let m←M.q5c a.zfh;some m;else some false:Option Bool)let g←(do if n then let c←M.q5c a.zfe;some c;else some false:Option Bool)let h←(do if g then let d←M.q5c a.z0e;some d;else some false:Option Bool)let i←(do if h then let e←M.q5c a.zfg;some e;else some false:Option Bool)let j←(do if i then let f←M.q5c a.z13;some f;else some false:Option Bool)let k←(do M.z2r a (j&&decide (0≤a.zeq)&&decide (a.zeq≤1099511627776)&&decide (0≤a.zep)&&decide (a.zep≤1099511627776)&&decide (0≤a.z03)&&decide (a.z03≤9)&&decide ((a.zj.length:Int)≤16)&&decide ((a.z5j.length:Int)≤4)) 0:Option Bool)let b←(do M.z3j a k 0:Option Bool)if !b then some 142;else some 0
def M.q5y  (b:Int):Option q04:=do let a←M.q6d b;some (q04.mk 3 a [] [])
def M.q6v  (b:q04)(f:Z)(a:q04):Option q04:=do let c←app 16 ([]:List Z) b.zn;let l2←app 16 c [f]let d←app 72 ([]:List q04) b.zg;let e←app 72 d [q04.mk a.zh a.zq a.zg a.zn]some (q04.mk 6 [] e l2)
def M.q6e  (a:q04)(e:Z)(b:Int):Option q04:=do if decide (b=0)then some a;else let c←M.q5y b;let d←M.q6v a e c;some d
def M.q6q  (a:Z):Option q04:=do some (q04.mk 4 a [] [])
def M.q6l  (a:q04)(e b:Z):Option q04:=do if decide (b=[])then some a;else let c←M.q6q b;let d←M.q6v a e c;some d
def M.z4b(e:List Z)(b:Int)(c:List q04):Option (List q04):=do if decide (b<(e.length:Int))then let f←ix e b;let a←M.q6q f;let d←app 72 c [q04.mk a.zh a.zq a.zg a.zn]M.z4b e (yb .i64 (b+1)) d;else some c;partial_fixpoint
def M.q6r  (b:List Z):Option q04:=do let a←(do M.z4b b 0 []:Option (List q04))some (q04.mk 5 [] a [])
def M.q5a  (a b:q01):Option Bool:=do let e←(do if decide (a.zff=b.zff)&&decide (a.zfh=b.zfh)&&decide (a.zfe=b.zfe)&&decide (a.z0e=b.z0e)&&decide (a.zfg=b.zfg)&&decide (a.z13=b.z13)&&decide (a.zeq=b.zeq)&&decide (a.zep=b.zep)&&decide (a.z03=b.z03)then let c←M.q4r a.zj b.zj;some c;else some false:Option Bool)let f←(do if e then let d←M.q4r a.z5j b.z5j;some d;else some false:Option Bool)some f
def M.q5v  (a:q01):Option q04:=do let F←M.q6q a.zff;let G←M.q6v (q04.mk 0 [] [] []) [105,115,115] F;let w←(do let e←M.q6q a.zfh;let f←M.q6v G [115,117,98] e;some f:Option q04)let x←(do let g←M.q6q a.zfe;let h←M.q6v w [97,117,100] g;some h:Option q04)let y←(do let i←M.q6q a.z0e;let j←M.q6v x B3 i;some j:Option q04)let z←(do let k←M.q6q a.zfg;let l←M.q6v y [106,116,105] k;some l:Option q04)let A←(do let m←M.q6q a.z13;let n←M.q6v z B22 m;some n:Option q04)let B←(do let o←M.q5y a.zeq;let p←M.q6v A [105,97,116] o;some p:Option q04)let C←(do let q←M.q5y a.zep;let r←M.q6v B [101,120,112] q;some r:Option q04)let D←(do let s←M.q5y a.z03;let t←M.q6v C B19 s;some t:Option q04)let E←(do let u←M.q6r a.zj;let v←M.q6v D B10 u;some v:Option q04)let d←(do let b←M.q6r a.z5j;let c←M.q6v E [97,99,116] b;some c:Option q04)some d
def M.z3l(e:List q02)(b:Int)(c:List q04)(d:List Z):Option (List q04×List Z):=do if decide (b<(e.length:Int))then let h←ix e b;let f←app 16 d [h.z05]let i←ix e b;let a←M.q6r i.z3t;let g←app 72 c [q04.mk a.zh a.zq a.zg a.zn]M.z3l e (yb .i64 (b+1)) g f;else some (c,d)partial_fixpoint
def M.q6f  (b:List q02):Option q04:=do let a←(do M.z3l b 0 [] []:Option (List q04×List Z))some (q04.mk 6 [] a.1 a.2)
def M.z50(p:q06)(c:Int)(d:List q04):Option (List q04):=do if decide (c<(p.zy.length:Int))then let b←ix p.zy c;let e←M.q6q b.gId;let f←M.q6v (q04.mk 0 [] [] []) [105,100] e;let l←(do let g←M.q6q b.zh;let h←M.q6v f B78 g;some h:Option q04)let m←(do let i←M.q6q b.zca;let j←M.q6v l [116,97,103] i;some j:Option q04)let n←(do let k←M.q6f b.z0y;let a←M.q6v m B33 k;let o←app 72 d [q04.mk a.zh a.zq a.zg a.zn]some o:Option (List q04))M.z50 p (yb .i64 (c+1)) n;else some d;partial_fixpoint
def M.q5f  (a:q06):Option q04:=do let t←M.q6e (q04.mk 6 [] [] []) B37 a.z1i;let u←M.q6l t B26 a.z3r;let v←M.q6l u B7 a.z25;let w←M.q6l v B2 a.z18;let x←M.q6l w B13 a.gId;let b←M.q6l x B34 a.zq;let q←(do if decide (0<(a.zj.length:Int))then let r←(do let i←M.q6r a.zj;let j←M.q6v b B10 i;some j:Option q04)some r;else some b:Option q04)let k←M.q6e q B14 a.z0d;let l←M.q6e k B19 a.z03;let c←M.q6e l B41 a.z1q;let g←(do if a.z4d then let m←M.q6v c B29 (q04.mk 2 [] [] [])some m;else some c:Option q04)let h←(do let n←M.q5a a.zk (q01.mk [] [] [] [] [] [] 0 0 0 [] [])if !n then let s←(do let o←M.q5v a.zk;let p←M.q6v g B30 o;some p:Option q04)some s;else some g:Option q04)let e←(do if decide (0<(a.zy.length:Int))then let f←(do M.z50 a 0 []:Option (List q04))let d←M.q6v h B27 (q04.mk 5 [] f [])some d;else some h:Option q04)some e
def M.q4v  (a:Int):Option Bool:=do some (decide (48≤a)&&decide (a≤57))
def M.z1t(c:Z)(b:Int)(a:Int):Option Int:=do let g←(do if decide (a<(c.length:Int))then let e←ix c a;let d←M.q4v (e.toNat:Int)some d;else some false:Option Bool)let h←(do if g then if decide (a=b)then some true;else let f←ix c b;some !decide ((f.toNat:Int)=48)else some false:Option Bool)if h then M.z1t c b (yb .i64 (a+1))else some a;partial_fixpoint
def M.z3h(e:Z)(a:Int):Option Int:=do let d←(do if decide (a<(e.length:Int))then let c←ix e a;let b←M.q4v (c.toNat:Int)some b;else some false:Option Bool)if d then M.z3h e (yb .i64 (a+1))else some a;partial_fixpoint
def M.z4m(e:Z)(a:Int):Option Int:=do let d←(do if decide (a<(e.length:Int))then let c←ix e a;let b←M.q4v (c.toNat:Int)some b;else some false:Option Bool)if d then M.z4m e (yb .i64 (a+1))else some a;partial_fixpoint
def M.q4x  (b:Z):Option Int:=do let f←(do let t←(do if decide (0<(b.length:Int))then let s←ix b 0;some (decide ((s.toNat:Int)=45))else some false:Option Bool)if t then some (yb .i64 (0+1))else some 0:Option Int)let c←(do M.z1t b f f:Option Int)if decide (c=f)then some 0;else let a←(do let n←(do if decide (yb .i64 (c+1)<(b.length:Int))then let h←ix b c;some (decide ((h.toNat:Int)=46))else some false:Option Bool)let o←(do if n then let i←ix b (yb .i64 (c+1))let g←M.q4v (i.toNat:Int)some g;else some false:Option Bool)if o then M.z3h b (yb .i64 (c+1))else some c:Option Int)let p←(do let q←(do if decide (a<(b.length:Int))then let j←ix b a;if decide ((j.toNat:Int)=101)then some true;else let k←ix b a;some (decide ((k.toNat:Int)=69))else some false:Option Bool)if q then let d←(do let r←(do if decide (yb .i64 (a+1)<(b.length:Int))then let l←ix b (yb .i64 (a+1))if decide ((l.toNat:Int)=43)then some true;else let m←ix b (yb .i64 (a+1))some (decide ((m.toNat:Int)=45))else some false:Option Bool)if r then some (yb .i64 (yb .i64 (a+1)+1))else some (yb .i64 (a+1)):Option Int)let e←(do M.z4m b d:Option Int)if decide (d<e)then some e;else some a;else some a:Option Int)some p
def M.z47(a:Int)(c:List Z)(b:Int):Option (Jn (Jn Bool Unit) Unit):=do if decide (b<a)then let d←ix c a;let e←ix c b;if decide (d=e)then some (.done (.done true))else M.z47 a c (yb .i64 (b+1))else some (.go ())partial_fixpoint
def M.z45(b:List Z)(a:Int):Option (Jn Bool Unit):=do if decide (a<(b.length:Int))then let c←(do M.z47 a b 0:Option (Jn (Jn Bool Unit) Unit))match c with|.done r=>some r|.go d=>M.z45 b (yb .i64 (a+1))else some (.go ())partial_fixpoint
def M.q58  (c:List Z):Option Bool:=do let a←(do M.z45 c 0:Option (Jn Bool Unit))match a with|.done r=>some r|.go b=>some false
def M.z4z(c:q04)(a:Int):Option (Jn Bool Unit):=do if decide (a<(c.zn.length:Int))then let d←ix c.zn a;let b←M.z0h d;if !b then some (.done false)else M.z4z c (yb .i64 (a+1))else some (.go ())partial_fixpoint
def M.q4w  (a:q04):Option Bool:=do
 let h←(do M.z4z a 0:Option (Jn Bool Unit))match h with|.done r=>some r|.go i=>let e←(do if decide (a.zh=0)then some (decide (a.zh=0))else
     if decide (a.zh=1)then some (decide (a.zh=1))else some (decide (a.zh=2)):Option Bool)if e then some (decide (a.zq=[])&&decide ((a.zg.length:Int)=0)&&decide ((a.zn.length:Int)=0))else
   if decide (a.zh=3)then let f←(do if !decide (a.zq=[])then let b←M.q4x a.zq;some (decide (b=(a.zq.length:Int)))else some false:Option Bool)some (f&&decide ((a.zg.length:Int)=0)&&decide ((a.zn.length:Int)=0))else
    if decide (a.zh=4)then let c←M.z0h a.zq;some (c&&decide ((a.zg.length:Int)=0)&&decide ((a.zn.length:Int)=0))else
     if decide (a.zh=5)then some (decide (a.zq=[])&&decide ((a.zn.length:Int)=0))else
      if decide (a.zh=6)then let g←(do if decide (a.zq=[])&&decide ((a.zn.length:Int)=(a.zg.length:Int))then let d←M.q58 a.zn;some !d else some false:Option Bool)some g;else some false
def M.z42(c:q04)(self_q4u:q04→Int→Option Int)(e:Int)(a:Int):Option (Jn Int Unit):=do if decide (a<(c.zg.length:Int))then let d←ix c.zg a;let b←self_q4u d (yb .i64 (e+1))if !decide (b=0)then some (.done b)else M.z42 c self_q4u e (yb .i64 (a+1))else some (.go ())partial_fixpoint
def M.q4u:Nat→q04→Int→Option Int|0,_,_=>none|fuel+1,a,d=>do if(decide (a.zh=5)||decide (a.zh=6))&&decide (16≤d)then some 21;else let b←M.q4w a;if !b then some 23;else let c←(do M.z42 a (M.q4u fuel) d 0:Option (Jn Int Unit))match c with|.done r=>some r|.go e=>some 0
def M.q4l(fuel:Nat)(b:q04):Option Int:=do let a←M.q4u fuel b 0;some a
def M.z1h(d:Z)(c:List Int)(b:Int):Option (List Int):=do if decide (b<(d.length:Int))then let a←ix d b;if decide ((a.toNat:Int)=34)||decide ((a.toNat:Int)=92)then let g←app 1 c [92,(a.toNat:Int)]M.z1h d g (yb .i64 (b+1))else
   if decide ((a.toNat:Int)=8)then let h←app 1 c (unb [92,98])M.z1h d h (yb .i64 (b+1))else
    if decide ((a.toNat:Int)=9)then let i←app 1 c (unb [92,116])M.z1h d i (yb .i64 (b+1))else
     if decide ((a.toNat:Int)=10)then let j←app 1 c (unb [92,110])M.z1h d j (yb .i64 (b+1))else
      if decide ((a.toNat:Int)=12)then let k←app 1 c (unb [92,102])M.z1h d k (yb .i64 (b+1))else
       if decide ((a.toNat:Int)=13)then let l←app 1 c (unb [92,114])M.z1h d l (yb .i64 (b+1))else
        if decide ((a.toNat:Int)<32)then let e←ix ([48,49,50,51,52,53,54,55,56,57,97,98,99,100,101,102]:Z) (yb .u8 (Int.tdiv (a.toNat:Int) 16))let f←ix ([48,49,50,51,52,53,54,55,56,57,97,98,99,100,101,102]:Z) (ya (a.toNat:Int) 16)let m←app 1 c [92,117,48,48,(e.toNat:Int),(f.toNat:Int)]M.z1h d m (yb .i64 (b+1))else let n←app 1 c [(a.toNat:Int)]M.z1h d n (yb .i64 (b+1))else some c;partial_fixpoint
def M.q4s  (c:Z):Option (List Int):=do let a←(do M.z1h c [34] 0:Option (List Int))let b←app 1 a [34]some b
def M.z4k(k:q04)(self_q4m:q04→Option (List Int))(b:List Int)(a:Int):Option (List Int):=do if decide (a<(k.zg.length:Int))then let c←(do if decide (0<a)then let g←app 1 b [44]some g;else some b:Option (List Int))let f←(do if decide (k.zh=6)then let l←ix k.zn a;let d←M.q4s l;let h←app 1 c d;let i←app 1 h [58]some i;else some c:Option (List Int))let m←ix k.zg a;let e←self_q4m m;let j←app 1 f e;M.z4k k self_q4m j (yb .i64 (a+1))else some b;partial_fixpoint
def M.q4m:Nat→q04→Option (List Int)|0,_=>none|fuel+1,a=>do if decide (a.zh=0)then let g←app 1 ([]:List Int) (unb B20)some g;else
   if decide (a.zh=1)then let h←app 1 ([]:List Int) (unb B15)some h;else
    if decide (a.zh=2)then let l9←app 1 ([]:List Int) (unb B21)some l9;else
     if decide (a.zh=3)then let e←app 1 ([]:List Int) (unb a.zq)some e;else
      if decide (a.zh=4)then let c←M.q4s a.zq;some c;else let b←(do if decide (a.zh=6)then some (123,125)else some (91,93):Option (Int×Int))let f←app 1 ([]:List Int) [b.1]let d←(do M.z4k a (M.q4m fuel) f 0:Option (List Int))let l179←app 1 d [b.2]some l179
def M.q4q(fuel:Nat)(c:q04):Option (Z×Int):=do let a←M.q4l fuel c;if !decide (a=0)then some ([],a)else let b←M.q4m fuel c;if decide (16384<((byt b).length:Int))then some ([],22)else some (byt b,0)
def M.q5e  (l:Int)(m:Z)(p:Int):Option Z:=do let n←M.q6d l;let q←cat [72,84,84,80,47,49,46,49,32] n;let r←cat q [32]let o←M.q6w l;let s←cat r o;let t←cat s [13,10]let u←cat t B32;let a←cat u [13,10]let c←(do if !decide (m=[])then let d←cat B6 m;let e←cat d B54;let f←cat e [13,10]let g←cat a f;some g;else some a:Option Z)let h←cat c B5;let b←M.q6d p;let i←cat h b;let j←cat i [13,10]let k←cat j [13,10]some k
def M.q5j(fuel:Nat)(a:q06):Option (Z×Int):=do let d←M.q6w a.z2m;let l←(do if decide (d=[])then some true;else let e←M.q6i a.z09;some !e:Option Bool)let m←(do if l then some true;else let f←M.q63 a.z1i;some !f:Option Bool)let n←(do if m then some true;else let g←M.q63 a.z0d;some !g:Option Bool)let o←(do if n then some true;else let h←M.q63 a.z03;some !h:Option Bool)let p←(do if o then some true;else let i←M.q63 a.z1q;some !i:Option Bool)let q←(do if p then some true;else let j←M.q59 a.zk;some !decide (j=0):Option Bool)if q then some ([],224)else let k←M.q5f a;let b←M.q4q fuel k;let c←M.q5e a.z2m a.z09 (b.1.length:Int)if !decide (b.2=0)||decide (8192<(c.length:Int))then some ([],224)else let r←cat c b.1;some (r,0)
def M.z1p(b:List q02)(e:List q02)(a:Int):Option (Jn Bool Unit):=do if decide (a<(b.length:Int))then let f←ix b a;let g←ix e a;let d←(do if !decide (f.z05=g.z05)then some true;else let h←ix b a;let i←ix e a;let c←M.q4r h.z3t i.z3t;some !c:Option Bool)if d then some (.done false)else M.z1p b e (yb .i64 (a+1))else some (.go ())partial_fixpoint
def M.q5o  (b c:List q02):Option Bool:=do if !decide ((b.length:Int)=(c.length:Int))then some false;else let a←(do M.z1p b c 0:Option (Jn Bool Unit))match a with|.done r=>some r|.go d=>some true
def M.z1y(b:q06)(g:q06)(a:Int):Option (Jn Bool Unit):=do if decide (a<(b.zy.length:Int))then let h←ix b.zy a;let i←ix g.zy a;let d←(do if !decide (h.gId=i.gId)then some true;else let j←ix b.zy a;let k←ix g.zy a;some !decide (j.zh=k.zh):Option Bool)let e←(do if d then some true;else let l←ix b.zy a;let m←ix g.zy a;some !decide (l.zca=m.zca):Option Bool)let f←(do if e then some true;else let n←ix b.zy a;let o←ix g.zy a;let c←M.q5o n.z0y o.z0y;some !c:Option Bool)if f then some (.done false)else M.z1y b g (yb .i64 (a+1))else some (.go ())partial_fixpoint
def M.q5q  (a b:q06):Option Bool:=do let f←(do if !decide (a.z2m=b.z2m)||!decide (a.z1i=b.z1i)||!decide (a.z09=b.z09)||!decide (a.z3r=b.z3r)||!decide (a.z25=b.z25)||!decide (a.z18=b.z18)||!decide (a.gId=b.gId)||!decide (a.zq=b.zq)then some true;else let d←M.q4r a.zj b.zj;some !d:Option Bool)let g←(do if f||!decide (a.z0d=b.z0d)||!decide (a.z03=b.z03)||!decide (a.z1q=b.z1q)||! a.z4d==b.z4d then some true;else let e←M.q5a a.zk b.zk;some !e:Option Bool)if g||!decide ((a.zy.length:Int)=(b.zy.length:Int))then some false;else let c←(do M.z1y a b 0:Option (Jn Bool Unit))match c with|.done r=>some r|.go h=>some true
def M.z11(b:q0d)(a:Int):Option q0d:=do let g←(do if decide (a<(b.gs.length:Int))then let c←ix b.gs a;if decide ((c.toNat:Int)=32)then some true;else let d←ix b.gs a;if decide ((d.toNat:Int)=9)then some true;else let e←ix b.gs a;if decide ((e.toNat:Int)=10)then some true;else let f←ix b.gs a;some (decide ((f.toNat:Int)=13))else some false:Option Bool)if g then M.z11 b (yb .i64 (a+1))else some (q0d.mk b.gs a b.ge)partial_fixpoint
def M.q4z  (a:q0d):Option q0d:=do M.z11 a a.gi
def M.q4y  (a:q0d):Option Int:=do if decide (a.gi<(a.gs.length:Int))then let c1←ix a.gs a.gi;some (c1.toNat:Int)else some 0
def M.q57  (a:q0d)(b:Int):Option q0d:=do if decide (a.ge=0)then some (q0d.mk a.gs a.gi b)else some a
def M.word  (a:List Int):Option Int:=do let b←ix a 0;let c←ix a 1;let d←ix a 2;let e←ix a 3;let f←ix a 4;let g←ix a 5;let h←ix a 6;let i←ix a 7;some (orI .u64 (orI .u64 (orI .u64 (orI .u64 (orI .u64 (orI .u64 (orI .u64 (yb .u64 b) (z7r .u64 (yb .u64 c) 8)) (z7r .u64 (yb .u64 d) 16)) (z7r .u64 (yb .u64 e) 24)) (z7r .u64 (yb .u64 f) 32)) (z7r .u64 (yb .u64 g) 40)) (z7r .u64 (yb .u64 h) 48)) (z7r .u64 (yb .u64 i) 56))
def M.za7(a:List Int):Option (List Int):=do let f←(do if decide (32<(a.length:Int))then let g←sub a 8 (a.length:Int)let h←sub a 16 (a.length:Int)let i←sub a 24 (a.length:Int)let b←M.word a;let c←M.word g;let d←M.word h;let e←M.word i;some (decide (z9d .u64 (orI .u64 (orI .u64 b c) (orI .u64 d e)) 9259542123273814144=0))else some false:Option Bool)if f then let j←sub a 32 (a.length:Int)M.za7 j;else some a;partial_fixpoint
def M.z6i(a:List Int):Option (Jn Bool Unit):=do if decide (0<(a.length:Int))then let f←ix a 0;let E←(do if decide (f<128)then let d←sub a 1 (a.length:Int)let j←(do let k←(do if decide (8<(d.length:Int))then let g←M.word d;some (decide (z9d .u64 g 9259542123273814144=0))else some false:Option Bool)if k then let b←sub d 8 (d.length:Int)let l←(do if decide (16<(b.length:Int))then let z←sub b 8 (b.length:Int)let h←M.word b;let i←M.word z;some (decide (z9d .u64 (orI .u64 h i) 9259542123273814144=0))else some false:Option Bool)if l then let A←sub b 16 (b.length:Int)M.za7 A;else some b;else some d:Option (List Int))(do M.z6i j)>>=fun r=>some (.done r)else some (.go ()):Option (Jn (Jn Bool Unit) Unit))match E with|.done r=>some r|.go S=>let e←ix utf8First f;let c←ix zd4 (zir .u8 e 4)if decide (yb .i64 (z9d .u8 e 7)=2)then let m←(do if decide ((a.length:Int)<2)then some true;else let F←ix a 1;some (decide (F<c.glo)):Option Bool)let n←(do if m then some true;else let G←ix a 1;some (decide (c.ghi<G)):Option Bool)if n then some (.done false)else let B←sub a 2 (a.length:Int)M.z6i B;else
    if decide (yb .i64 (z9d .u8 e 7)=3)then let o←(do if decide ((a.length:Int)<3)then some true;else let H←ix a 1;some (decide (H<c.glo)):Option Bool)let p←(do if o then some true;else let I←ix a 1;some (decide (c.ghi<I)):Option Bool)let q←(do if p then some true;else let J←ix a 2;some (decide (J<128)):Option Bool)let s←(do if q then some true;else let K←ix a 2;some (decide (191<K)):Option Bool)if s then some (.done false)else let C←sub a 3 (a.length:Int)M.z6i C;else
     if decide (yb .i64 (z9d .u8 e 7)=4)then let t←(do if decide ((a.length:Int)<4)then some true;else let L←ix a 1;some (decide (L<c.glo)):Option Bool)let u←(do if t then some true;else let N←ix a 1;some (decide (c.ghi<N)):Option Bool)let v←(do if u then some true;else let O←ix a 2;some (decide (O<128)):Option Bool)let w←(do if v then some true;else let P←ix a 2;some (decide (191<P)):Option Bool)let x←(do if w then some true;else let Q←ix a 3;some (decide (Q<128)):Option Bool)let y←(do if x then some true;else let R←ix a 3;some (decide (191<R)):Option Bool)if y then some (.done false)else let D←sub a 4 (a.length:Int)M.z6i D;else some (.done false)else some (.go ())partial_fixpoint
def M.valid  (b:List Int):Option Bool:=do let _←chk (decide ((b.length:Int)≤(b.length:Int))&&decide ((b.length:Int)≤(b.length:Int)))let d←sub b 0 (b.length:Int)let a←(do M.z6i d:Option (Jn Bool Unit))match a with|.done r=>some r|.go c=>some true
def M.z0m(e:Int)(d:q0d)(c:Int)(b:Int):Option (Jn Int Int):=do if decide (b<yb .i64 (e+6))then let a←ix d.gs b;let f←M.q4v (a.toNat:Int)if f then M.z0m e d (yb .i64 (yb .i64 (16*c)+yb .i64 (yb .u8 ((a.toNat:Int)-48)))) (yb .i64 (b+1))else
   if decide (97≤(a.toNat:Int))&&decide ((a.toNat:Int)≤102)then M.z0m e d (yb .i64 (yb .i64 (yb .i64 (16*c)+yb .i64 (yb .u8 ((a.toNat:Int)-97)))+10)) (yb .i64 (b+1))else
    if decide (65≤(a.toNat:Int))&&decide ((a.toNat:Int)≤70)then M.z0m e d (yb .i64 (yb .i64 (yb .i64 (16*c)+yb .i64 (yb .u8 ((a.toNat:Int)-65)))+10)) (yb .i64 (b+1))else some (.done (-1))else some (.go c)partial_fixpoint
def M.q51  (b:q0d)(a:Int):Option Int:=do let e←(do if decide ((b.gs.length:Int)<yb .i64 (a+6))then some true;else let c←ix b.gs a;some !decide ((c.toNat:Int)=92):Option Bool)let f←(do if e then some true;else let d←ix b.gs (yb .i64 (a+1))some !decide ((d.toNat:Int)=117):Option Bool)if f then some (-1)else let h←(do M.z0m a b 0 (yb .i64 (a+2)):Option (Jn Int Int))match h with|.done r=>some r|.go g=>some g
def M.z08(b:q0d)(a:Int):Option (Jn (Z×q0d) Unit):=do if decide (a<((B25:Z).length:Int))then let c←ix b.gs (yb .i64 (b.gi+1))let d←ix (B25:Z) a;if decide ((c.toNat:Int)=(d.toNat:Int))then let e←sub ([34,92,47,8,12,10,13,9]:Z) a (yb .i64 (a+1))some (.done (e,q0d.mk b.gs (yb .i64 (b.gi+2)) b.ge))else M.z08 b (yb .i64 (a+1))else some (.go ())partial_fixpoint
def M.q50  (a:q0d):Option (Z×q0d):=do let f←(do if decide (yb .i64 (a.gi+1)<(a.gs.length:Int))then M.z08 a 0;else some (.go ()):Option (Jn (Z×q0d) Unit))match f with|.done r=>some r|.go g=>let b←M.q51 a a.gi;if decide (b<0)||decide (56320≤b)&&decide (b≤57343)then let d←M.q57 a 20;some ([],d)else
   if decide (b<55296)||decide (56319<b)then some (encS (yb .i32 b),q0d.mk a.gs (yb .i64 (a.gi+6)) a.ge)else let c←M.q51 (q0d.mk a.gs (yb .i64 (a.gi+6)) a.ge) (yb .i64 (a.gi+6))if decide (c<56320)||decide (57343<c)then let e←M.q57 (q0d.mk a.gs (yb .i64 (a.gi+6)) a.ge) 20;some ([],e)else some (encS (yb .i32 (yb .i64 (yb .i64 (yb .i64 (65536+yb .i64 (1024*yb .i64 (b-55296)))+c)-56320))),q0d.mk a.gs (yb .i64 (yb .i64 (a.gi+6)+6)) a.ge)
def M.z0t(b:List Int)(a:q0d):Option (Jn (Z×q0d) q0d):=do if decide (a.ge=0)then let c←M.q4y a;if decide (c=34)then let e←M.valid b;if !e then let f←M.q57 (q0d.mk a.gs (yb .i64 (a.gi+1)) a.ge) 20;some (.done (byt b,f))else some (.done (byt b,q0d.mk a.gs (yb .i64 (a.gi+1)) a.ge))else
   if decide (c<32)then let g←M.q57 a 20;M.z0t b g;else
    if decide (c=92)then let d←M.q50 a;let h←app 1 b (unb d.1)M.z0t h d.2;else let i←app 1 b [c]M.z0t i (q0d.mk a.gs (yb .i64 (a.gi+1)) a.ge)else some (.go a)partial_fixpoint
def M.q53  (a:q0d):Option (Z×q0d):=do let d←M.q4y a;if !decide (d=34)then let e←M.q57 a 20;some ([],e)else let c←(do M.z0t ([]:List Int) (q0d.mk a.gs (yb .i64 (a.gi+1)) a.ge):Option (Jn (Z×q0d) q0d))match c with|.done r=>some r|.go b=>some ([],b)
def M.z0n(a:q0d)(b:Int):Option (Jn (q04×q0d) Unit):=do if decide (b<3)then let c←ix [(B20:Z),B15,B21] b;let d←(do if decide ((c.length:Int)≤yb .i64 ((a.gs.length:Int)-a.gi))then let e←sub a.gs a.gi (yb .i64 (a.gi+(c.length:Int)))some (decide (e=c))else some false:Option Bool)if d then some (.done (q04.mk b [] [] [],q0d.mk a.gs (yb .i64 (a.gi+(c.length:Int))) a.ge))else M.z0n a (yb .i64 (b+1))else some (.go ())partial_fixpoint
def M.q56  (b:q0d):Option (q04×q0d):=do let d←(do M.z0n b 0:Option (Jn (q04×q0d) Unit))match d with|.done r=>some r|.go g=>let e←sub b.gs b.gi (b.gs.length:Int)let a←M.q4x e;if decide (a=0)then let c←M.q57 b 20;some (q04.mk 0 [] [] [],c)else let f←sub b.gs (yb .i64 (yb .i64 (b.gi+a)-a)) (yb .i64 (b.gi+a))some (q04.mk 3 f [] [],q0d.mk b.gs (yb .i64 (b.gi+a)) b.ge)
def M.zx(v:Int)(self_q54:q0d→Int→Option (q04×q0d))(w:Int)(u:Bool)(e:q0d)(i:List q04)(j:List Z):Option (q0d×List q04×List Z):=do let q←(do if u then some (decide (e.ge=0))else some false:Option Bool)if q then let c←(do if decide (v=123)then let l←M.q4z e;let d←M.q53 l;let k←app 16 j [d.1]let r←(do let s←(do if decide (d.2.ge=0)then let m←M.q58 k;some m;else some false:Option Bool)if s then let n←M.q57 d.2 20;some n;else some d.2:Option q0d)let f←M.q4z r;let h←(do let o←M.q4y f;if !decide (o=58)then let p←M.q57 f 20;some p;else some f:Option q0d)some (q0d.mk h.gs (yb .i64 (h.gi+1)) h.ge,k)else some (e,j):Option (q0d×List Z))let a←(do if decide (c.1.ge=0)then let b←self_q54 c.1 (yb .i64 (w+1))let t←app 72 i [q04.mk b.1.zh b.1.zq b.1.zg b.1.zn]some (b.2,t)else some (c.1,i):Option (q0d×List q04))let g←M.q4y a.1;if decide (g=44)then M.zx v self_q54 w (decide (g=44)) (q0d.mk a.1.gs (yb .i64 (a.1.gi+1)) a.1.ge) a.2 c.2;else M.zx v self_q54 w (decide (g=44)) a.1 a.2 c.2;else some (e,i,j)partial_fixpoint
def M.q54:Nat→q0d→Int→Option (q04×q0d)|0,_,_=>none|fuel+1,s,q=>do let h←M.q4z s;let p←M.q4y h;let o←(do if decide (p=34)then let f←M.q53 h;some (.go (f.2,4,f.1,[],[]))else let n←(do if decide (p=91)then some (decide (p=91))else some (decide (p=123)):Option Bool)if n then if decide (16≤q)then let i←M.q57 h 21;some (.done (q04.mk 0 [] [] [],i))else let d←(do if decide (p=123)then some (125,6)else some (93,5):Option (Int×Int))let g←M.q4z (q0d.mk h.gs (yb .i64 (h.gi+1)) h.ge)let c←(do let j←M.q4y g;M.zx p (M.q54 fuel) q (!decide (j=d.1)) g [] []:Option (q0d×List q04×List Z))let e←(do let k←M.q4y c.1;if !decide (k=d.1)then let l←M.q57 c.1 20;some l;else some c.1:Option q0d)some (.go (q0d.mk e.gs (yb .i64 (e.gi+1)) e.ge,d.2,[],c.2.1,c.2.2))else let b←M.q56 h;some (.go (b.2,b.1.zh,b.1.zq,b.1.zg,b.1.zn)):Option (Jn (q04×q0d) (q0d×Int×Z×List q04×List Z)))match o with|.done r=>some r|.go a=>if decide (a.1.ge=0)then let m←M.q4z a.1;some (q04.mk a.2.1 a.2.2.1 a.2.2.2.1 a.2.2.2.2,m)else some (q04.mk a.2.1 a.2.2.1 a.2.2.2.1 a.2.2.2.2,a.1)
def M.q4p(fuel:Nat)(b:Z):Option (q04×Int):=do if decide (16384<(b.length:Int))then some (q04.mk 0 [] [] [],22)else let a←M.q54 fuel (q0d.mk b 0 0) 0;let c←(do if decide (a.2.gi<(b.length:Int))then let d←M.q57 a.2 20;some d;else some a.2:Option q0d)if !decide (c.ge=0)then some (q04.mk 0 [] [] [],c.ge)else some (a.1,0)
def M.z3g(b:q04)(e:Z)(a:Int):Option (Jn (q04×Bool) Unit):=do if decide (a<(b.zn.length:Int))&&decide (a<(b.zg.length:Int))then let c←ix b.zn a;if decide (c=e)then let d←ix b.zg a;some (.done (d,true))else M.z3g b e (yb .i64 (a+1))else some (.go ())partial_fixpoint
def M.q4o  (b:q04)(d:Z):Option (q04×Bool):=do if !decide (b.zh=6)then some (q04.mk 0 [] [] [],false)else let a←(do M.z3g b d 0:Option (Jn (q04×Bool) Unit))match a with|.done r=>some r|.go c=>some (q04.mk 0 [] [] [],false)
def M.z4y(c:q04)(b:List Z)(a:Int):Option (Jn (List Z×Bool) (List Z)):=do if decide (a<(c.zg.length:Int))then let e←ix c.zg a;if !decide (e.zh=4)then some (.done ([],false))else let f←ix c.zg a;let d←app 16 b [f.zq]M.z4y c d (yb .i64 (a+1))else some (.go b)partial_fixpoint
def M.q4t  (c:q04):Option (List Z×Bool):=do if !decide (c.zh=5)then some ([],false)else let b←(do M.z4y c ([]:List Z) 0:Option (Jn (List Z×Bool) (List Z)))match b with|.done r=>some r|.go a=>some (a,true)
def M.z3k(d:q04)(c:List q02)(a:Int):Option (Jn (List q02×Bool) (List q02)):=do if decide (a<(d.zg.length:Int))then let f←ix d.zg a;let b←M.q4t f;if !b.2 then some (.done ([],false))else let g←ix d.zn a;let e←app 40 c [q02.mk g b.1]M.z3k d e (yb .i64 (a+1))else some (.go c)partial_fixpoint
def M.q62  (c:q04):Option (List q02×Bool):=do if !decide (c.zh=6)then some ([],false)else let b←(do M.z3k c ([]:List q02) 0:Option (Jn (List q02×Bool) (List q02)))match b with|.done r=>some r|.go a=>some (a,true)
def M.z61(a:Z×Int)(c:Int)(b:Int):Option (Jn (Int×Bool) Int):=do if decide (b<(a.1.length:Int))then let e←ix a.1 b;let d←M.q4v (e.toNat:Int)if !d||decide (15≤b)then some (.done (0,false))else let f←ix a.1 b;M.z61 a (yb .i64 (yb .i64 (10*c)+yb .i64 (a.2*yb .i64 (yb .u8 ((f.toNat:Int)-48))))) (yb .i64 (b+1))else some (.go c)partial_fixpoint
def M.q4n  (b:q04):Option (Int×Bool):=do if !decide (b.zh=3)then some (0,false)else let a←(do let e←(do if !decide (b.zq=[])then let c←ix b.zq 0;some (decide ((c.toNat:Int)=45))else some false:Option Bool)if e then let i←sub b.zq 1 (b.zq.length:Int)some (i,-1)else some (b.zq,1):Option (Z×Int))let h←(do M.z61 a 0 0:Option (Jn (Int×Bool) Int))match h with|.done r=>some r|.go f=>let g←(do if decide (a.1=[])then some true;else let d←ix a.1 0;if decide ((d.toNat:Int)=48)then if decide (1<(a.1.length:Int))then some true;else some (decide (a.2<0))else some false:Option Bool)if g then some (0,false)else some (f,true)
def M.q6u  (c:q04)(d:Z):Option Int:=do let a←M.q4o c d;let b←M.q4n a.1;some b.1
def M.q6a  (b:q04)(c:Z):Option Z:=do let a←M.q4o b c;if !decide (a.1.zh=4)then some []else some a.1.zq
def M.q68  (c:q04)(d:Z):Option (List Z):=do let a←M.q4o c d;let b←M.q4t a.1;some b.1
def M.z52(d:q04×Bool)(b:Int)(c:List q07):Option (List q07):=do if decide (b<(d.1.zg.length:Int))then let a←ix d.1.zg b;let e←M.q4o a B33;let f←M.q62 e.1;let g←M.q6a a [105,100]let h←M.q6a a B78;let i←M.q6a a [116,97,103]let j←app 72 c [q07.mk g h i f.1]M.z52 d (yb .i64 (b+1)) j;else some c;partial_fixpoint
def M.q5m  (B:Int)(C:Z)(c:q04):Option q06:=do let w←M.q6u c B37;let x←M.q6a c B26;let y←M.q6a c B7;let z←M.q6a c B2;let A←M.q6a c B13;let d←M.q6a c B34;let e←M.q68 c B10;let f←M.q6u c B14;let g←M.q6u c B19;let h←M.q6u c B41;let i←M.q4o c B29;let b←M.q4o c B30;let a←(do if b.2 then let k←M.q6a b.1 [105,115,115]let l←M.q6a b.1 [115,117,98]let m←M.q6a b.1 [97,117,100]let n←M.q6a b.1 B3;let o←M.q6a b.1 [106,116,105]let p←M.q6a b.1 B22;let q←M.q6u b.1 [105,97,116]let r←M.q6u b.1 [101,120,112]let s←M.q6u b.1 B19;let t←M.q68 b.1 B10;let u←M.q68 b.1 [97,99,116]some (q06.mk B w C x y z A d e f g h (decide (i.1.zh=2)) (q01.mk k l m n o p q r s t u) [])else some (q06.mk B w C x y z A d e f g h (decide (i.1.zh=2)) (q01.mk [] [] [] [] [] [] 0 0 0 [] []) []):Option q06)let v←M.q4o c B27;let j←(do M.z52 v 0 []:Option (List q07))some (q06.mk a.z2m a.z1i a.z09 a.z3r a.z25 a.z18 a.gId a.zq a.zj a.z0d a.z03 a.z1q a.z4d a.zk j)
def M.z10(c:List Z)(e:Z)(f:Int)(b:Int):Option (Z×Int):=do if decide (b<(c.length:Int))then let a←ix c b;let d←(do let i←(do if decide (20<(a.length:Int))then let k←sub a 0 20;some (decide (k=B6))else some false:Option Bool)if i then let l←sub a 20 (a.length:Int)let g←M.q64 l 59;some g.1;else some e:Option Z)let j←(do if decide (16<(a.length:Int))then let m←sub a 0 16;some (decide (m=B5))else some false:Option Bool)if j then let n←sub a 16 (yb .i64 ((a.length:Int)-1))let h←M.q5w n 5;M.z10 c d h (yb .i64 (b+1))else M.z10 c d f (yb .i64 (b+1))else some (e,f)partial_fixpoint
def M.q5h(fuel:Nat)(f:Z):Option (q06×Int×Int):=do let b←M.q5z f;if decide (b=0)then if decide (8192≤(f.length:Int))then some (q06.mk 0 0 [] [] [] [] [] [] [] 0 0 0 false (q01.mk [] [] [] [] [] [] 0 0 0 [] []) [],0,220)else some (q06.mk 0 0 [] [] [] [] [] [] [] 0 0 0 false (q01.mk [] [] [] [] [] [] 0 0 0 [] []) [],0,223)else let g←(do if decide (12<b)then let t←sub f 9 12;let r←M.q5w t 3;some r;else some 0:Option Int)let u←sub f 0 b;let s←M.q5x u 10;let a←(do M.z10 s [] (-1) 0:Option (Z×Int))let k←(do if decide (a.2<0)||decide (16384<a.2)then some true;else let h←M.q6w g;some (decide (h=[])):Option Bool)let l←(do if k then some true;else let i←M.q6i a.1;some !i:Option Bool)let m←(do if l then some true;else let o←sub f 0 b;let j←M.q5e g a.1 a.2;some !decide (j=o):Option Bool)if m then some (q06.mk 0 0 [] [] [] [] [] [] [] 0 0 0 false (q01.mk [] [] [] [] [] [] 0 0 0 [] []) [],0,220)else
   if decide (yb .i64 ((f.length:Int)-b)<a.2)then some (q06.mk 0 0 [] [] [] [] [] [] [] 0 0 0 false (q01.mk [] [] [] [] [] [] 0 0 0 [] []) [],0,223)else let p←sub f b (yb .i64 (b+a.2))let c←M.q4p fuel p;if !decide (c.2=0)then some (q06.mk 0 0 [] [] [] [] [] [] [] 0 0 0 false (q01.mk [] [] [] [] [] [] 0 0 0 [] []) [],0,220)else let d←M.q5m g a.1 c.1;let e←M.q5j fuel d;let n←(do if !decide (e.2=0)then some true;else let q←sub f 0 (yb .i64 (b+a.2))some !decide (e.1=q):Option Bool)if n then some (q06.mk 0 0 [] [] [] [] [] [] [] 0 0 0 false (q01.mk [] [] [] [] [] [] 0 0 0 [] []) [],0,220)else some (d,yb .i64 (b+a.2),0)
def M.q3v(fuel:Nat)(e:Z):Option Bool:=do let a←M.q0t fuel e;let c←M.q5h fuel e;let f←M.q44 fuel;let d←(do if f&&decide (a.2.2=c.2.2)&&decide (a.2.1=c.2.1)then let b←M.q5q a.1 c.1;some b;else some false:Option Bool)some d
end Go.Sen
