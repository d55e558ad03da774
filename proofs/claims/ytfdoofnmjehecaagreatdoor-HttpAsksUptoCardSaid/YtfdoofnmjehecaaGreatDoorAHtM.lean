import Derived.Test.YtfdoofnmjehecaaGreatDoorAPfX
import Derived.Lib.ValidLaws
import Derived.Lib.AtoiAll
import Derived.Lib.ItoaNum
import Derived.Lib.SlTrimSet
import Derived.Lib.Bytealg
import Derived.Lib.SlicesCompact
import Derived.Lib.IndexMore
import Derived.Lib.Join
import Derived.Lib.Split
import Derived.Lib.CountLaws
import Derived.Shelf.Strings.MapAny
import Derived.Shelf.GgClosure.StringsIndexFunc
import Derived.Lib.IndexAny
import Derived.Lib.Replace
set_option linter.all false
namespace Go.Sen
open _root_.Int renaming tmod → ya
open IntKind renaming wrap → yb
open Go.Lk Go.Pe
abbrev B1:List UInt8:=[65,66,67,68,69,70,71,72,73,74,75,76,77,78,79,80,81,82,83,84,85,86,87,88,89,90,97,98,99,100,101,102,103,104,105,106,107,108,109,110,111,112,113,114,115,116,117,118,119,120,121,122,48,49,50,51,52,53,54,55,56,57,45,95]
abbrev B2:List UInt8:=[103,114,97,110,116,95,116,121,112,101,61,117,114,110,58,105,101,116,102,58,112,97,114,97,109,115,58,111,97,117,116,104,58,103,114,97,110,116,45,116,121,112,101,58,116,111,107,101,110,45,101,120,99,104,97,110,103,101,44,32,99,108,105,101,110,116,95,105,100,32,67,108,105,101,110,116,44,32,99,108,105,101,110,116,95,115,101,99,114,101,116,32,83,101,99,114,101,116,44,32,115,117,98,106,101,99,116,95,116,111,107,101,110,32,84,111,107,101,110,44,32,97,99,116,111,114,95,116,111,107,101,110,32,65,99,116,111,114,44,32,115,99,111,112,101,32,83,99,111,112,101,44,32,97,117,100,105,101,110,99,101,32,65,117,100,105,101,110,99,101]
abbrev B3:List UInt8:=[114,101,115,112,111,110,115,101,95,116,121,112,101,61,99,111,100,101,44,32,99,108,105,101,110,116,95,105,100,32,67,108,105,101,110,116,44,32,114,101,100,105,114,101,99,116,95,117,114,105,32,82,101,100,105,114,101,99,116,44,32,115,99,111,112,101,32,83,99,111,112,101,44,32,99,111,100,101,95,99,104,97,108,108,101,110,103,101,95,109,101,116,104,111,100,61,83,50,53,54,44,32,99,111,100,101,95,99,104,97,108,108,101,110,103,101,32,67,104,97,108,108,101,110,103,101,44,32,110,111,110,99,101,32,78,111,110,99,101]
abbrev B4:List UInt8:=[103,114,97,110,116,95,116,121,112,101,61,97,117,116,104,111,114,105,122,97,116,105,111,110,95,99,111,100,101,44,32,99,108,105,101,110,116,95,105,100,32,67,108,105,101,110,116,44,32,99,108,105,101,110,116,95,115,101,99,114,101,116,32,83,101,99,114,101,116,44,32,99,111,100,101,32,67,111,100,101,44,32,114,101,100,105,114,101,99,116,95,117,114,105,32,82,101,100,105,114,101,99,116,44,32,99,111,100,101,95,118,101,114,105,102,105,101,114,32,86,101,114,105,102,105,101,114]
abbrev B5:List UInt8:=[80,79,83,84]
abbrev B6:List UInt8:=[99,108,105,101,110,116,95,105,100,32,67,108,105,101,110,116,44,32,99,108,105,101,110,116,95,115,101,99,114,101,116,32,83,101,99,114,101,116,44,32,116,111,107,101,110,32,84,111,107,101,110]
abbrev B7:List UInt8:=[103,114,97,110,116,95,116,121,112,101,61,99,108,105,101,110,116,95,99,114,101,100,101,110,116,105,97,108,115,44,32,99,108,105,101,110,116,95,105,100,32,67,108,105,101,110,116,44,32,99,108,105,101,110,116,95,115,101,99,114,101,116,32,83,101,99,114,101,116,44,32,115,99,111,112,101,32,83,99,111,112,101,44,32,97,117,100,105,101,110,99,101,32,65,117,100,105,101,110,99,101]
abbrev B8:List UInt8:=[103,114,97,110,116,95,116,121,112,101,61,114,101,102,114,101,115,104,95,116,111,107,101,110,44,32,99,108,105,101,110,116,95,105,100,32,67,108,105,101,110,116,44,32,99,108,105,101,110,116,95,115,101,99,114,101,116,32,83,101,99,114,101,116,44,32,114,101,102,114,101,115,104,95,116,111,107,101,110,32,84,111,107,101,110,44,32,115,99,111,112,101,32,83,99,111,112,101]
abbrev B9:List UInt8:=[72,84,84,80,47,49,46,49,32,52,48,49,32,85,110,97,117,116,104,111,114,105,122,101,100,13,10,99,111,110,116,101,110,116,45,116,121,112,101,58,32,97,112,112,108,105,99,97,116,105,111,110,47,106,115,111,110,13,10,99,111,110,116,101,110,116,45,108,101,110,103,116,104,58,32,49,51,13,10,13,10,123,34,101,114,114,111,114,34,58,49,55,49,125]
abbrev B10:List UInt8:=[102,111,114,109]
abbrev B11:List UInt8:=[114,101,102,114,101,115,104,95,116,111,107,101,110]
abbrev B12:List UInt8:=[99,108,105,101,110,116,95,105,100]
abbrev B13:List UInt8:=[80,79,83,84,32,47,108,111,103,105,110,32,72,84,84,80,47,49,46,49,13,10,72,111,115,116,58,32,120,13,10,67,111,110,116,101,110,116,45,76,101,110,103,116,104,58,32,49,53,13,10,13,10,117,115,101,114,61,97,110,110,38,112,97,115,115,61,112,109,111,114,101]
abbrev B14:List UInt8:=[80,79,83,84,32,47,108,111,103,105,110,32,72,84,84,80,47,49,46,49,13,10,104,111,115,116,58,32,105,100,112,13,10,99,111,110,116,101,110,116,45,108,101,110,103,116,104,58,32,49,53,13,10,13,10,117,115,101,114,61,97,110,110,38,112,97,115,115,61,112]
abbrev B15:List UInt8:=[80,79,83,84,32,47,108,111,103,105,110,32,72,84,84,80,47,49,46,49,13,10,72,111,115,116,58,32,120,13,10,67,111,110,116,101,110,116,45,76,101,110,103,116,104,58,32,49,53,13,10,13,10,117,115,101,114,61,97,110,110,38,112,97,115,115,61,112]
abbrev B16:List UInt8:=[47,115,99,105,109,47,79,70,47,78,65,77,69]
abbrev B17:List UInt8:=[107,101,121,32,78,97,109,101,44,32,100,97,116,97,32,68,97,116,97,32,98,54,52,44,32,99,108,105,101,110,116,32,66,111,100,121,32,98,54,52,44,32,115,105,103,32,83,105,103,32,98,54,52]
abbrev B18:List UInt8:=[117,114,110,58,105,101,116,102,58,112,97,114,97,109,115,58,111,97,117,116,104,58,103,114,97,110,116,45,116,121,112,101,58,116,111,107,101,110,45,101,120,99,104,97,110,103,101]
abbrev B19:List UInt8:=[99,108,105,101,110,116,95,115,101,99,114,101,116]
abbrev B20:List UInt8:=[115,99,111,112,101]
abbrev B21:List UInt8:=[102,97,108,115,101]
abbrev B22:List UInt8:=[102,105,108,116,101,114,32,70,105,108,116,101,114,44,32,115,116,97,114,116,73,110,100,101,120,32,70,114,111,109,44,32,99,111,117,110,116,32,67,111,117,110,116]
abbrev B23:List UInt8:=[97,99,99,101,115,115,95,116,111,107,101,110]
abbrev B24:List UInt8:=[97,117,116,104,111,114,105,122,97,116,105,111,110]
abbrev B25:List UInt8:=[99,111,110,116,101,110,116,45,108,101,110,103,116,104,58,32]
abbrev B26:List UInt8:=[47,116,111,107,101,110]
abbrev B27:List UInt8:=[99,111,110,116,101,110,116,45,108,101,110,103,116,104]
abbrev B28:List UInt8:=[110,117,108,108]
abbrev B29:List UInt8:=[116,114,117,101]
abbrev B30:List UInt8:=[116,114,97,110,115,102,101,114,45,101,110,99,111,100,105,110,103]
abbrev B31:List UInt8:=[34,92,47,98,102,110,114,116]
abbrev B32:List UInt8:=[113,117,101,114,121]
abbrev B33:List UInt8:=[102,105,101,108,100,115]
abbrev B34:List UInt8:=[105,100,95,116,111,107,101,110]
abbrev B35:List UInt8:=[116,111,107,101,110]
abbrev B36:List UInt8:=[103,114,97,110,116,95,116,121,112,101]
abbrev B37:List UInt8:=[114,101,100,105,114,101,99,116,95,117,114,105]
abbrev B38:List UInt8:=[110,111,110,99,101]
abbrev B39:List UInt8:=[105,102,45,109,97,116,99,104]
abbrev B40:List UInt8:=[47,97,100,109,105,110,47,112,97,115,115,119,111,114,100]
abbrev B41:List UInt8:=[47,115,99,105,109,47,79,70]
abbrev B42:List UInt8:=[108,101,118,101,108]
abbrev B43:List UInt8:=[116,111,107,101,110,32,84,111,107,101,110,44,32,112,97,115,115,32,80,97,115,115]
abbrev B44:List UInt8:=[99,111,100,101,95,99,104,97,108,108,101,110,103,101,95,109,101,116,104,111,100]
abbrev B45:List UInt8:=[101,120,112,105,114,101,115,95,105,110]
abbrev B46:List UInt8:=[66,101,97,114,101,114,32]
abbrev B47:List UInt8:=[104,111,115,116]
abbrev B48:List UInt8:=[115,101,116,45,99,111,111,107,105,101,58,32,115,101,115,115,105,111,110,61]
abbrev B49:List UInt8:=[117,115,101,114,32,85,115,101,114,44,32,112,97,115,115,32,80,97,115,115]
abbrev B50:List UInt8:=[99,111,111,107,105,101]
abbrev B51:List UInt8:=[110,97,109,101,32,78,97,109,101,44,32,112,97,115,115,32,80,97,115,115]
abbrev B52:List UInt8:=[103,114,97,110,116]
abbrev B53:List UInt8:=[97,117,116,104,111,114,105,122,97,116,105,111,110,95,99,111,100,101]
abbrev B54:List UInt8:=[99,108,105,101,110,116,95,99,114,101,100,101,110,116,105,97,108,115]
abbrev B55:List UInt8:=[47,105,110,116,114,111,115,112,101,99,116]
abbrev B56:List UInt8:=[99,111,100,101]
abbrev B57:List UInt8:=[115,101,115,115,105,111,110,61]
abbrev B58:List UInt8:=[47,108,111,103,105,110,47,99,111,100,101]
abbrev B59:List UInt8:=[47,101,110,114,111,108,47,99,111,100,101]
abbrev B60:List UInt8:=[47,97,100,109,105,110,47,116,117,114,110]
abbrev B61:List UInt8:=[97,117,100,105,101,110,99,101]
abbrev B62:List UInt8:=[67,111,117,110,116]
abbrev B63:List UInt8:=[116,101,120,116]
abbrev B64:List UInt8:=[47,108,111,103,105,110,47,107,101,121]
abbrev B65:List UInt8:=[47,101,110,114,111,108,47,107,101,121]
abbrev B66:List UInt8:=[47,97,117,116,104,111,114,105,122,101]
abbrev B67:List UInt8:=[78,65,77,69]
abbrev B68:List UInt8:=[47,99,104,97,108,108,101,110,103,101]
abbrev B69:List UInt8:=[112,97,116,99,104]
abbrev B70:List UInt8:=[47,117,115,101,114,105,110,102,111]
abbrev B71:List UInt8:=[99,111,100,101,95,99,104,97,108,108,101,110,103,101]
abbrev B72:List UInt8:=[108,111,103,105,110]
abbrev B73:List UInt8:=[114,101,115,112,111,110,115,101,95,116,121,112,101]
abbrev B74:List UInt8:=[99,111,100,101,95,118,101,114,105,102,105,101,114]
abbrev B75:List UInt8:=[106,115,111,110]
abbrev B76:List UInt8:=[115,117,98,106,101,99,116,95,116,111,107,101,110]
abbrev B77:List UInt8:=[99,111,117,110,116]
abbrev B78:List UInt8:=[116,104,105,110,103,115]
abbrev B79:List UInt8:=[112,97,115,115]
abbrev B80:List UInt8:=[70,114,111,109]
abbrev B81:List UInt8:=[97,99,116,105,118,101]
abbrev B82:List UInt8:=[99,108,97,105,109,115]
abbrev B83:List UInt8:=[100,97,116,97,32,68,97,116,97,32,98,54,52]
abbrev B84:List UInt8:=[97,99,116,111,114,95,116,111,107,101,110]
abbrev B85:List UInt8:=[47,108,111,103,111,117,116]
abbrev B86:List UInt8:=[47,102,111,114,103,111,116]
abbrev B87:List UInt8:=[47,114,101,118,111,107,101]
abbrev B88:List UInt8:=[101,114,114,111,114]
abbrev B89:List UInt8:=[116,111,116,97,108]
abbrev B90:List UInt8:=[115,99,105,109]
abbrev B91:List UInt8:=[115,116,97,114,116,73,110,100,101,120]
abbrev B92:List UInt8:=[68,69,76,69,84,69]
abbrev B93:List UInt8:=[47,108,111,103,105,110]
abbrev B94:List UInt8:=[47,114,101,115,101,116]
abbrev B95:List UInt8:=[117,115,101,114,32,85,115,101,114]
abbrev B96:List UInt8:=[67,104,97,108,108,101,110,103,101]
abbrev B97:List UInt8:=[117,115,101,114]
abbrev B98:List UInt8:=[99,111,100,101,32,67,111,100,101]
abbrev B99:List UInt8:=[80,65,84,67,72]
abbrev B100:List UInt8:=[86,101,114,105,102,105,101,114]
abbrev B101:List UInt8:=[100,97,116,97]
abbrev B102:List UInt8:=[47,107,101,121,115]
structure q05 where
 zo:Z
 z3g:Z
def q05.enc:q05→List D
 | ⟨a0,a1⟩=>[D.str a0,D.str a1]
theorem q05.z1i:∀ x:q05,q05.enc x=[D.str x.zo,D.str x.z3g]
 | ⟨a0,a1⟩=>by first|rfl|simp [q05.enc]
@[reducible] def q05.v (x:q05):List PV:=[.str x.zo,.str x.z3g]
structure q03 where
 z02:Z
 z09:List Z
 z0r:List q05
 z0h:List q05
 z01:Z
def q03.enc:q03→List D
 | ⟨a0,a1,a2,a3,a4⟩=>[D.str a0,D.sl 9 1 (a1.map eS),D.sl 72 2 (a2.map q05.enc),D.sl 72 2 (a3.map q05.enc),D.str a4]
theorem q03.z1i:∀ x:q03,q03.enc x=[D.str x.z02,D.sl 9 1 (x.z09.map eS),D.sl 72 2 (x.z0r.map q05.enc),D.sl 72 2 (x.z0h.map q05.enc),D.str x.z01]
 | ⟨a0,a1,a2,a3,a4⟩=>by first|rfl|simp [q03.enc]
@[reducible] def q03.v (x:q03):List PV:=[.str x.z02,.sl 9 1 (x.z09.map eS),.sl 72 2 (x.z0r.map q05.enc),.sl 72 2 (x.z0h.map q05.enc),.str x.z01]
structure q01 where
 ztl:Z
 ztn:Z
 ztk:Z
 z03:Z
 ztm:Z
 z0q:Z
 zzc:Int
 zzb:Int
 z3v:Int
 z0a:List Z
 znz:List Z
@[reducible] def q01.v (x:q01):List PV:=[.str x.ztl,.str x.ztn,.str x.ztk,.str x.z03,.str x.ztm,.str x.z0q,.int .i64 x.zzc,.int .i64 x.zzb,.int .i64 x.z3v,.sl 9 1 (x.z0a.map eS),.sl 9 1 (x.znz.map eS)]
structure q02 where
 zo:Z
 z7m:List Z
def q02.enc:q02→List D
 | ⟨a0,a1⟩=>[D.str a0,D.sl 9 1 (a1.map eS)]
theorem q02.z1i:∀ x:q02,q02.enc x=[D.str x.zo,D.sl 9 1 (x.z7m.map eS)]
 | ⟨a0,a1⟩=>by first|rfl|simp [q02.enc]
@[reducible] def q02.v (x:q02):List PV:=[.str x.zo,.sl 9 1 (x.z7m.map eS)]
structure q07 where
 gId:Z
 zh:Z
 z5v:Z
 zt:List q02
def q07.enc:q07→List D
 | ⟨a0,a1,a2,a3⟩=>[D.str a0,D.str a1,D.str a2,D.sl 189 2 (a3.map q02.enc)]
theorem q07.z1i:∀ x:q07,q07.enc x=[D.str x.gId,D.str x.zh,D.str x.z5v,D.sl 189 2 (x.zt.map q02.enc)]
 | ⟨a0,a1,a2,a3⟩=>by first|rfl|simp [q07.enc]
structure q06 where
 zbk:Int
 z22:Int
 zq:Z
 zay:Z
 z7k:Z
 z5z:Z
 gId:Z
 z0i:Z
 z0a:List Z
 z4p:Int
 z3v:Int
 z7d:Int
 zbi:Bool
 z47:q01
 z9o:List q07
@[reducible] def q06.v (x:q06):List PV:=[.int .i64 x.zbk,.int .i64 x.z22,.str x.zq,.str x.zay,.str x.z7k,.str x.z5z,.str x.gId,.str x.z0i,.sl 9 1 (x.z0a.map eS),.int .i64 x.z4p,.int .i64 x.z3v,.int .i64 x.z7d,.bool x.zbi,.str x.z47.ztl,.str x.z47.ztn,.str x.z47.ztk,.str x.z47.z03,.str x.z47.ztm,.str x.z47.z0q,.int .i64 x.z47.zzc,.int .i64 x.z47.zzb,.int .i64 x.z47.z3v,.sl 9 1 (x.z47.z0a.map eS),.sl 9 1 (x.z47.znz.map eS),.sl 123 4 (x.z9o.map q07.enc)]
structure q00 where
 zh:Int
 gOf:Z
 z39:Z
 z38:Z
 zq:Z
 z22:Z
 z1p:Z
 z1o:Z
 z03:Z
 z0n:Z
 zy:Z
 z0a:Z
 zx:Z
 zm:Z
 z00:Z
 z0q:Z
 zo:Z
 z3s:Z
 z01:Z
 z7l:Z
 z5v:Z
 z0m:Z
 z1j:Z
 zt:List q02
 z2y:Int
 z1d:Int
@[reducible] def q00.v (x:q00):List PV:=[.int .i64 x.zh,.str x.gOf,.str x.z39,.str x.z38,.str x.zq,.str x.z22,.str x.z1p,.str x.z1o,.str x.z03,.str x.z0n,.str x.zy,.str x.z0a,.str x.zx,.str x.zm,.str x.z00,.str x.z0q,.str x.zo,.str x.z3s,.str x.z01,.str x.z7l,.str x.z5v,.str x.z0m,.str x.z1j,.sl 189 2 (x.zt.map q02.enc),.int .i64 x.z2y,.int .i64 x.z1d]
def q00.zxs (x:q00) (c:Nat):Option Z:=if c=1 then some x.gOf else if c=2 then some x.z39 else if c=3 then some x.z38 else if c=4 then some x.zq else if c=5 then some x.z22 else if c=6 then some x.z1p else if c=7 then some x.z1o else if c=8 then some x.z03 else if c=9 then some x.z0n else if c=10 then some x.zy else if c=11 then some x.z0a else if c=12 then some x.zx else if c=13 then some x.zm else if c=14 then some x.z00 else if c=15 then some x.z0q else if c=16 then some x.zo else if c=17 then some x.z3s else if c=18 then some x.z01 else if c=19 then some x.z7l else if c=20 then some x.z5v else if c=21 then some x.z0m else if c=22 then some x.z1j else none
def q00.setAt (x:q00) (c:Nat) (v:Z):Option q00:=if c=1 then some { x with gOf:=v } else if c=2 then some { x with z39:=v } else if c=3 then some { x with z38:=v } else if c=4 then some { x with zq:=v } else if c=5 then some { x with z22:=v } else if c=6 then some { x with z1p:=v } else if c=7 then some { x with z1o:=v } else if c=8 then some { x with z03:=v } else if c=9 then some { x with z0n:=v } else if c=10 then some { x with zy:=v } else if c=11 then some { x with z0a:=v } else if c=12 then some { x with zx:=v } else if c=13 then some { x with zm:=v } else if c=14 then some { x with z00:=v } else if c=15 then some { x with z0q:=v } else if c=16 then some { x with zo:=v } else if c=17 then some { x with z3s:=v } else if c=18 then some { x with z01:=v } else if c=19 then some { x with z7l:=v } else if c=20 then some { x with z5v:=v } else if c=21 then some { x with z0m:=v } else if c=22 then some { x with z1j:=v } else none
theorem q00.zz01x {α:Type} {p:Prop} [Decidable p] {a b:Option α} {s:α} (h:(if p then a else b)=some s):(p∧a=some s)∨(¬p∧b=some s):=by
 split at h
 ·exact .inl ⟨by assumption,h⟩
 ·exact .inr ⟨by assumption,h⟩
theorem q00.at_eq {x:q00} {c:Nat} {s:Z} (h:x.zxs c=some s):z73 false 1 (List.take 1 (List.drop c x.v))=some (.str s):=by
 unfold q00.zxs at h
 repeat (rcases q00.zz01x h with ⟨rfl,h⟩|⟨-,h⟩; · cases h;rfl)
 cases h
theorem q00.zz02i {x x2:q00} {c:Nat} {v:Z} (h:x.setAt c v=some x2):stC x.v c 1 [.str v]=some x2.v:=by
 unfold q00.setAt at h
 repeat (rcases q00.zz01x h with ⟨rfl,h⟩|⟨-,h⟩; · cases h;rfl)
 cases h
structure q04 where
 zh:Int
 z0i:Z
 zk:List q04
 z08:List Z
mutual
def q04.enc:q04→List D
 | ⟨a0,a1,a2,a3⟩=>[D.int .i64 a0,D.str a1,D.sl 103 4 (q04.z8c a2),D.sl 9 1 (a3.map eS)]
def q04.z8c:List q04→List (List D)
 | []=>[]
 | x::xs=>x.enc::q04.z8c xs
end
theorem q04.z0w:∀ l:List q04,q04.z8c l=l.map q04.enc
 | []=>rfl
 | x::xs=>by simp [q04.z8c,q04.z0w xs]
theorem q04.z1i:∀ x:q04,q04.enc x=[D.int .i64 x.zh,D.str x.z0i,D.sl 103 4 (q04.z8c x.zk),D.sl 9 1 (x.z08.map eS)]
 | ⟨a0,a1,a2,a3⟩=>by first|rfl|simp [q04.enc]
@[reducible] def q04.v (x:q04):List PV:=[.int .i64 x.zh,.str x.z0i,.sl 103 4 (q04.z8c x.zk),.sl 9 1 (x.z08.map eS)]
structure q0b where
 zfu:Z
 z83:Nat
 zft:Z
 zsf:Bool
def q0b.enc:q0b→List D
 | ⟨a0,a1,a2,a3⟩=>[D.str a0,dfn a1,D.str a2,D.bool a3]
theorem q0b.z1i:∀ x:q0b,q0b.enc x=[D.str x.zfu,dfn x.z83,D.str x.zft,D.bool x.zsf]
 | ⟨a0,a1,a2,a3⟩=>by first|rfl|simp [q0b.enc]
@[reducible] def q0b.v (x:q0b):List PV:=[.str x.zfu,.fn x.z83 [] [],.str x.zft,.bool x.zsf]
structure q0a where
 zse:Int
 z8r:Z
 zhb:Z
 zcg:Int
 z5b:Int
 z84:List q0b
def q0a.enc:q0a→List D
 | ⟨a0,a1,a2,a3,a4,a5⟩=>[D.int .i64 a0,D.str a1,D.str a2,D.int .i64 a3,D.int .i64 a4,D.sl 179 4 (a5.map q0b.enc)]
theorem q0a.z1i:∀ x:q0a,q0a.enc x=[D.int .i64 x.zse,D.str x.z8r,D.str x.zhb,D.int .i64 x.zcg,D.int .i64 x.z5b,D.sl 179 4 (x.z84.map q0b.enc)]
 | ⟨a0,a1,a2,a3,a4,a5⟩=>by first|rfl|simp [q0a.enc]
@[reducible] def q0a.v (x:q0a):List PV:=[.int .i64 x.zse,.str x.z8r,.str x.zhb,.int .i64 x.zcg,.int .i64 x.z5b,.sl 179 4 (x.z84.map q0b.enc)]
structure q09 where
 gv:q04
@[reducible] def q09.v (x:q09):List PV:=[.int .i64 x.gv.zh,.str x.gv.z0i,.sl 103 4 (q04.z8c x.gv.zk),.sl 9 1 (x.gv.z08.map eS)]
@[reducible] def q09.d (x:q09):List D:=[.int .i64 x.gv.zh,.str x.gv.z0i,.sl 103 4 (q04.z8c x.gv.zk),.sl 9 1 (x.gv.z08.map eS)]
structure q0f where
 zo:Z
 zi6:Z
 zvb:Z
 zzd:Bool
def q0f.enc:q0f→List D
 | ⟨a0,a1,a2,a3⟩=>[D.str a0,D.str a1,D.str a2,D.bool a3]
theorem q0f.z1i:∀ x:q0f,q0f.enc x=[D.str x.zo,D.str x.zi6,D.str x.zvb,D.bool x.zzd]
 | ⟨a0,a1,a2,a3⟩=>by first|rfl|simp [q0f.enc]
structure q0e where
 zh:Int
 z02:Z
 z09:Z
 z5k:Z
 zq:Bool
 zbj:Bool
 z5v:Bool
 z6d:List q0f
def q0e.enc:q0e→List D
 | ⟨a0,a1,a2,a3,a4,a5,a6,a7⟩=>[D.int .i64 a0,D.str a1,D.str a2,D.str a3,D.bool a4,D.bool a5,D.bool a6,D.sl 208 4 (a7.map q0f.enc)]
theorem q0e.z1i:∀ x:q0e,q0e.enc x=[D.int .i64 x.zh,D.str x.z02,D.str x.z09,D.str x.z5k,D.bool x.zq,D.bool x.zbj,D.bool x.z5v,D.sl 208 4 (x.z6d.map q0f.enc)]
 | ⟨a0,a1,a2,a3,a4,a5,a6,a7⟩=>by first|rfl|simp [q0e.enc]
@[reducible] def q0e.v (x:q0e):List PV:=[.int .i64 x.zh,.str x.z02,.str x.z09,.str x.z5k,.bool x.zq,.bool x.zbj,.bool x.z5v,.sl 208 4 (x.z6d.map q0f.enc)]
structure q08 where
 z1n:q04
structure q0c where
 gs:Z
structure q0d where
 gs:Z
 gi:Int
 ge:Int
@[reducible] def q0d.v (x:q0d):List PV:=[.str x.gs,.int .i64 x.gi,.int .i64 x.ge]
structure q0g where
 glo:Int
 ghi:Int
def q0g.enc:q0g→List D
 | ⟨a0,a1⟩=>[D.int .u8 a0,D.int .u8 a1]
theorem q0g.z1i:∀ x:q0g,q0g.enc x=[D.int .u8 x.glo,D.int .u8 x.ghi]
 | ⟨a0,a1⟩=>by first|rfl|simp [q0g.enc]
@[reducible] def _root_.Go.Pe.PV.l5 (l:List Int):PV:=.sl 5 1 (l.map (eI .u8))
@[reducible] def _root_.Go.Pe.PV.l9 (l:List Z):PV:=.sl 9 1 (l.map eS)
@[reducible] def _root_.Go.Pe.PV.l72 (l:List q05):PV:=.sl 72 2 (l.map q05.enc)
@[reducible] def _root_.Go.Pe.PV.l103 (l:List q04):PV:=.sl 103 4 (q04.z8c l)
@[reducible] def _root_.Go.Pe.PV.l112 (l:List q0a):PV:=.sl 112 6 (l.map q0a.enc)
@[reducible] def _root_.Go.Pe.PV.l129 (l:List q0e):PV:=.sl 129 8 (l.map q0e.enc)
@[reducible] def _root_.Go.Pe.PV.l179 (l:List q0b):PV:=.sl 179 4 (l.map q0b.enc)
@[reducible] def _root_.Go.Pe.PV.zvu (l:List q02):PV:=.sl 189 2 (l.map q02.enc)
@[reducible] def _root_.Go.Pe.PV.l208 (l:List q0f):PV:=.sl 208 4 (l.map q0f.enc)
@[reducible] def F.q2w:Nat:=155
@[reducible] def F.q23:Nat:=156
@[reducible] def F.q1d:Nat:=157
@[reducible] def F.q1u:Nat:=158
@[reducible] def F.q1f:Nat:=160
@[reducible] def F.q12:Nat:=161
@[reducible] def F.q2q:Nat:=162
@[reducible] def F.q2t:Nat:=163
@[reducible] def F.q1c:Nat:=152
@[reducible] def F.q2b:Nat:=164
@[reducible] def F.q2o:Nat:=165
@[reducible] def F.q1a:Nat:=166
@[reducible] def F.q1v:Nat:=167
@[reducible] def F.q2y:Nat:=168
@[reducible] def F.q0z:Nat:=169
@[reducible] def F.q0y:Nat:=170
@[reducible] def F.q1j:Nat:=171
@[reducible] def F.q2p:Nat:=153
def utf8First:List Int:=(List.range 256).map fun c=>(Lib.firstT c:Int)
def zbu:List q0g:=(List.range 16).map fun i=>⟨(Lib.accLo i:Int),(Lib.accHi i:Int)⟩
def M.z4g (p0:List Int):Option Unit:=some ()
def M.z1f (p0:Z):Option Bool:=do
 let _←chk (decide (p0.length≤9223372036854775807))
 some (Lib.validD p0)
def M.zn (p0:List Int):Option Z:=do
 let _←chk (decide (unb (byt p0)=p0))
 some (byt p0)
def M.indexByte (p0:Z) (p1:Int):Option Int:=some (Lib.indexByte p0 p1.toNat.toUInt8)
def M.trimLeft (p0 p1:Z):Option Z:=do
 let _←chk (decide (p1.length<4294967281)&&p1.all fun b=>decide (b.toNat<128))
 some (Lib.trimLeftS p0 p1)
def M.trim (p0 p1:Z):Option Z:=do
 let _←chk (decide (p0.length≤9223372036854775807)&&(decide (p1.length<4294967281)&&p1.all fun b=>decide (b.toNat<128)))
 some (Lib.trimS p0 p1)
def M.atoi (p0:Z):Option (Int × Bool):=do
 let _←chk (decide (p0.length≤281474976710656))
 match Lib.atoiAll p0 with
 | .ok v=>some (v,true)
 | .range=>some (Lib.atoiSat p0,false)
 | _=>some (0,false)
def M.itoa (p0:Int):Option Z:=do
 let _←chk (decide (-9223372036854775808≤p0)&&decide (p0≤9223372036854775807))
 some (Lib.itoa p0)
def M.z5q (p0 p1:Z):Option Int:=do
 let _←chk (decide (p0.length<4294967281))
 some (Lib.index p0 p1)
def M.single (p0:List Z):Option Bool:=do
 let _←chk (decide (p0.length*16≤140737488355328))
 some (decide (((Lib.compact (p0.mergeSort fun x y=>decide (x≤y))).length:Int)=p0.length))
def M.join (p0:List Z) (p1:Z):Option Z:=do
 let _←chk (decide (p0.length≤140737488355328)&&decide ((Lib.join p0 p1).length≤140737488355328))
 some (Lib.join p0 p1)
def M.cut (p0 p1:Z):Option (Z × Z × Bool):=do
 let _←chk (decide (p0.length<4294967281))
 some (Lib.cut p0 p1)
def M.contains (p0 p1:Z):Option Bool:=do
 let _←chk (decide (p0.length<4294967281))
 some (Lib.contains p0 p1)
def zgt (s sep:Z):List Z:=(Lib.splitB ⟨sep.toArray⟩ 0 (Lib.countB ⟨s.toArray⟩ ⟨sep.toArray⟩) ⟨s.toArray⟩).map (·.data.toList)
def M.split (p0 p1:Z):Option (List Z):=do
 let _←chk (decide (p0.length<4294967281)&&decide (1≤p1.length))
 some (zgt p0 p1)
def M.containsAny (p0 p1:Z):Option Bool:=do
 let _←chk (decide (p0.length<4294967281)&&(p0.all (fun b=>decide (b.toNat<128))&&(decide (p1.length<4294967281)&&p1.all fun b=>decide (b.toNat<128))))
 some (Lib.containsAny p0 p1)
def M.replaceAll (p0 p1 p2:Z):Option Z:=do
 let _←chk (decide (p0.length<4294967281)&&(decide (p1.length=1)&&decide (p2.length=1)))
 some (Lib.replaceAll p0 p1 p2)
def zoj (c:Int):Int:=if 65≤c∧c≤90 then c+32 else c
def M.z5m (p1:Z):Option Z:=do
 let _←chk (decide (p1.length<35184372088832))
 some (Lib.mapD zoj p1)
def M.z1b (p0:Z) (p1:Int):Option Int:=some (Lib.idxFunc (fun r=>decide ((r:Int) % 256=p1)) true ⟨p0.toArray⟩)
def wordP (n:Nat):Bool:=decide (n<33)||(decide (126<n)||(decide (n=34)||decide (n=92)))
def M.z3d (p0:Z):Option Bool:=some (decide (0≤Lib.idxFunc wordP true ⟨p0.toArray⟩))
def M.q1h  (p0:Z):Option Int:=do
 let s1←sub p0 0 (minI (p0.length:Int) 8192)
 let a2←M.z5q s1 [13,10,13,10]
 if (decide (0≤a2)) then
  some (yb .i64 (a2+4))
 else
  some 0
def M.q1s  (p0:Bool) (p1:Int):Option (Rs Unit):=do
 if (!p0) then
  some (.pan p1)
 else
  some (.ok ())
def M.q1r  (p0:Z):Option Bool:=do
 let j6←(do
   if ((!decide (p0=[]))&&(decide ((p0.length:Int)≤8))) then
    let a7←M.trim p0 [65,66,67,68,69,70,71,72,73,74,75,76,77,78,79,80,81,82,83,84,85,86,87,88,89,90]
    some (decide (a7=[]))
   else
    some false:Option Bool)
 some j6
def M.q36  (p0 p1:Z):Option Bool:=do
 let j3←(do
   if (decide ((p1.length:Int)≤(p0.length:Int))) then
    let s4←sub p0 0 (p1.length:Int)
    some (decide (s4=p1))
   else
    some false:Option Bool)
 some j3
def M.q7d  (p0 p1:Z):Option Bool:=do
 let a1←M.q36 p0 p1
 some a1
def M.z4s (p0:Z) (p1:Int) (p2:Int) (x23:Int):Option (Jn Bool Unit):=do
 if (decide (x23<(p0.length:Int))) then
  let c29←ix p0 x23
  let j32←(do
    if (decide ((c29.toNat:Int)<p1)) then
     some true
    else
     let c33←ix p0 x23
     some (decide (p2<(c33.toNat:Int))):Option Bool)
  if j32 then
   some (.done false)
  else
   M.z4s p0 p1 p2 (yb .i64 (x23+1))
 else
  some (.go ())
 partial_fixpoint
def M.q22  (p0:Z) (p1 p2:Int):Option Bool:=do
 let q17←(do
   M.z4s p0 p1 p2 0:Option (Jn Bool Unit))
 match q17 with
 | .done r=>some r
 | .go j17 =>
  some true
def M.q7b  (p0:List Int) (p1:Z):Option (Int × (List Int)):=do
 let a1←M.z4g p0
 let l3←app 1 p0 (unb p1)
 some ((p1.length:Int),l3)
def M.q0o  (p0 p1:Z):Option (Int × Bool):=do
 if (decide ((p0.length:Int)<2)) then
  some (0,false)
 else
  let c1←ix p0 0
  let c2←ix p0 1
  let a3←M.z1b p1 (c1.toNat:Int)
  let a5←M.z1b p1 (c2.toNat:Int)
  some ((yb .u8 (orI .i64 (z6p .i64 (ya a3 16) 4) (ya a5 16))),((decide (0≤a3))&&(decide (0≤a5))))
def M.q7a  (p0:List Int) (p1:Int):Option (List Int):=do
 let a1←M.z4g p0
 let l3←app 1 p0 [p1]
 some l3
def M.z1m (x22:Z) (x23:List Int):Option (Z × Int):=do
 let a45←M.cut x22 [37]
 let a47←M.q7b x23 a45.1
 if (!a45.2.2) then
  let a51←M.zn a47.2
  some (a51,0)
 else
  let a53←M.q0o a45.2.1 [48,49,50,51,52,53,54,55,56,57,97,98,99,100,101,102,95,95,95,95,95,95,95,95,95,95,65,66,67,68,69,70]
  let j59←(do
    if (!a53.2) then
     some true
    else
     let s60←sub a45.2.1 0 2
     let a61←M.containsAny s60 [95]
     some a61:Option Bool)
  if j59 then
   some ([],12)
  else
   let a63←M.q7a a47.2 a53.1
   let s65←sub a45.2.1 2 (a45.2.1.length:Int)
   M.z1m s65 a63
 partial_fixpoint
def M.q0l  (p0:Z):Option (Z × Int):=do
 M.z1m p0 ([]:List Int)
def M.z1t (a1:(List Z)) (x67:List q05) (x68:Int):Option (Jn ((List q05) × Int) (List q05)):=do
 if (decide (x68<(a1.length:Int))) then
  let x83←ix a1 x68
  if (decide (x83=[])) then
   some (.done ([],13))
  else
   let a84←M.replaceAll x83 [43] [32]
   let a86←M.cut a84 [61]
   let a88←M.q0l a86.1
   let a90←M.q0l a86.2.1
   if ((!decide (a88.2=0))||(!decide (a90.2=0))) then
    some (.done ([],12))
   else
    let l96←app 32 x67 [(q05.mk a88.1 a90.1)]
    M.z1t a1 l96 (yb .i64 (x68+1))
 else
  some (.go x67)
 partial_fixpoint
def M.q0k  (p0:Z):Option ((List q05) × Int):=do
 let a1←M.split p0 [38]
 if ((decide (8192<(p0.length:Int)))||(decide (64<(a1.length:Int)))) then
  some ([],14)
 else
  if (decide (p0=[])) then
   some ([],0)
  else
   let q52←(do
     M.z1t a1 [] 0:Option (Jn ((List q05) × Int) (List q05)))
   match q52 with
   | .done r=>some r
   | .go j52 =>
    some (j52,0)
def M.z3t (a71:(List Z)) (x81:Int) (x82:List Z):Option (Jn (Rs q03) (List Z)):=do
 if (decide (x81<(a71.length:Int))) then
  let x91←ix a71 x81
  let a92←M.q0l x91
  let a94←M.q1s (decide (a92.2=0)) 220
  match a94 with
  | .pan e97 =>
   some (.done (.pan e97))
  | .ok a96 =>
   let l98←app 16 x82 [a92.1]
   M.z3t a71 (yb .i64 (x81+1)) l98
 else
  some (.go x82)
 partial_fixpoint
def M.q2v  (p0:Z):Option (Rs q03):=do
 let a1←M.split p0 [32]
 let j7←(do
   if (decide ((a1.length:Int)=3)) then
    let x8←ix a1 0
    let a9←M.q1r x8
    some a9
   else
    some false:Option Bool)
 let j13←(do
   if j7 then
    let x14←ix a1 2
    some (decide (x14=[72,84,84,80,47,49,46,49]))
   else
    some false:Option Bool)
 let j19←(do
   if j13 then
    let x20←ix a1 1
    let a21←M.q7d x20 [47]
    some a21
   else
    some false:Option Bool)
 let j27←(do
   if j19 then
    let x28←ix a1 1
    let a29←M.q22 x28 33 126
    some a29
   else
    some false:Option Bool)
 let a31←M.q1s j27 220
 match a31 with
 | .pan e34 =>
  some (.pan e34)
 | .ok a33 =>
  let x35←ix a1 0
  let x36←ix a1 1
  let a37←M.cut x36 [63]
  let q69←(do
    let s70←sub a37.1 1 (a37.1.length:Int)
    let a71←M.split s70 [47]
    M.z3t a71 0 []:Option (Jn (Rs q03) (List Z)))
  match q69 with
  | .done r=>some r
  | .go j69 =>
   let a99←M.q0k a37.2.1
   let a103←M.q1s ((decide (a99.2=0))&&(decide ((j69.length:Int)≤64))) 220
   match a103 with
   | .pan e106 =>
    some (.pan e106)
   | .ok a105 =>
    some (.ok (q03.mk x35 j69 a99.1 ([]:List q05) []))
def M.q1t  (p0:Z):Option Bool:=do
 let j6←(do
   if ((!decide (p0=[]))&&(decide ((p0.length:Int)≤32))) then
    let a7←M.trim p0 [97,98,99,100,101,102,103,104,105,106,107,108,109,110,111,112,113,114,115,116,117,118,119,120,121,122,48,49,50,51,52,53,54,55,56,57,45]
    some (decide (a7=[]))
   else
    some false:Option Bool)
 some j6
def M.q2x  (p0:Z):Option Bool:=do
 let a1←M.q22 p0 32 126
 let j6←(do
   if a1 then
    let a7←M.trim p0 [32]
    some (decide (a7=p0))
   else
    some false:Option Bool)
 some j6
def M.q1w  (p0:Z) (p1:Int):Option (Int × Bool):=do
 let a1←M.atoi p0
 let j10←(do
   if ((a1.2&&(decide ((p0.length:Int)≤p1)))&&(decide (0≤a1.1))) then
    let a11←M.itoa a1.1
    some (decide (a11=p0))
   else
    some false:Option Bool)
 some (a1.1,j10)
def M.z2f (l145:List Z) (x184:Int) (x185:Int) (x186:List q05) (x187:List (Z × Bool)):Option (Jn (q03 × Int × Int) (Int × (List q05) × (List (Z × Bool)))):=do
 if (decide (x185<(l145.length:Int))) then
  let x226←ix l145 x185
  let a227←M.q1s (decide (x185<32)) 222
  match a227 with
  | .pan e230 =>
   some (.done ((q03.mk [] [] [] [] []),0,e230))
  | .ok a229 =>
   let a231←M.cut x226 [58]
   let a233←M.z5m a231.1
   let a235←M.trim a231.2.1 [32]
   let j240←(do
     if a231.2.2 then
      let a241←M.q1t a233
      some a241
     else
      some false:Option Bool)
   let j246←(do
     if j240 then
      let a247←M.q2x a235
      some a247
     else
      some false:Option Bool)
   let j250←(do
     if j246 then
      some (!(z7q x187 a233 false))
     else
      some false:Option Bool)
   let a251←M.q1s j250 220
   match a251 with
   | .pan e254 =>
    some (.done ((q03.mk [] [] [] [] []),0,e254))
   | .ok a253 =>
    let m255←some (z3u x187 a233 true)
    if (!decide (a233=B27)) then
     let l257←app 32 x186 [(q05.mk a233 a235)]
     M.z2f l145 x184 (yb .i64 (x185+1)) l257 m255
    else
     let a258←M.q1w a235 9
     let a260←M.q1s a258.2 220
     match a260 with
     | .pan e263 =>
      some (.done ((q03.mk [] [] [] [] []),0,e263))
     | .ok a262 =>
      M.z2f l145 a258.1 (yb .i64 (x185+1)) x186 m255
 else
  some (.go (x184,x186,x187))
 partial_fixpoint
def M.q0s  (p0:Z):Option (q03 × Int × Int):=do
 let a1←M.q1h p0
 let a5←M.q1s ((decide (0<a1))||(decide ((p0.length:Int)<8192))) 222
 match a5 with
 | .pan e8 =>
  some ((q03.mk [] [] [] [] []),0,e8)
 | .ok a7 =>
  let a9←M.q1s (decide (0<a1)) 223
  match a9 with
  | .pan e12 =>
   some ((q03.mk [] [] [] [] []),0,e12)
  | .ok a11 =>
   let s13←sub p0 0 (yb .i64 (a1 - 4))
   let a14←M.split s13 [13,10]
   let x16←ix a14 0
   let a17←M.q2v x16
   match a17 with
   | .pan e20 =>
    some ((q03.mk [] [] [] [] []),0,e20)
   | .ok a19 =>
    let m21←some (z3u ([]:List (Z × Bool)) B30 true)
    let q144←(do
      let l145←sub a14 1 (a14.length:Int)
      M.z2f l145 0 0 a19.z0h m21:Option (Jn (q03 × Int × Int) (Int × (List q05) × (List (Z × Bool)))))
    match q144 with
    | .done r=>some r
    | .go j144 =>
     let a264←M.q1s (z7q j144.2.2 B47 false) 220
     match a264 with
     | .pan e267 =>
      some ((q03.mk [] [] [] [] []),0,e267)
     | .ok a266 =>
      let a268←M.q1s (decide (j144.1≤16384)) 221
      match a268 with
      | .pan e271 =>
       some ((q03.mk [] [] [] [] []),0,e271)
      | .ok a270 =>
       let a272←M.q1s (decide (j144.1≤(yb .i64 ((p0.length:Int) - a1)))) 223
       match a272 with
       | .pan e275 =>
        some ((q03.mk [] [] [] [] []),0,e275)
       | .ok a274 =>
        let s276←sub p0 a1 (yb .i64 (a1+j144.1))
        some ((q03.mk a19.z02 a19.z09 a19.z0r j144.2.1 s276),(yb .i64 (a1+j144.1)),0)
def M.q62_k1 (p0:Z) (x23:Int):Option (Jn Int Unit):=do
 if ((decide (x23≤(p0.length:Int)))&&(decide (x23≤8192))) then
  let s33←sub p0 (yb .i64 (x23 - 4)) x23
  if (decide (s33=[13,10,13,10])) then
   some (.done x23)
  else
   M.q62_k1 p0 (yb .i64 (x23+1))
 else
  some (.go ())
 partial_fixpoint
def M.q62  (p0:Z):Option Int:=do
 let q17←(do
   M.q62_k1 p0 4:Option (Jn Int Unit))
 match q17 with
 | .done r=>some r
 | .go j17 =>
  some 0
def M.z1c (p0:Z) (p1:Int) (x30:List Z) (x31:Int) (x32:Int):Option (List Z):=do
 if (decide (x32≤(p0.length:Int))) then
  let j41←(do
    if (decide (x32=(p0.length:Int))) then
     some true
    else
     let c42←ix p0 x32
     some (decide ((c42.toNat:Int)=p1)):Option Bool)
  if j41 then
   let s43←sub p0 x31 x32
   let l44←app 16 x30 [s43]
   M.z1c p0 p1 l44 (yb .i64 (x32+1)) (yb .i64 (x32+1))
  else
   M.z1c p0 p1 x30 x31 (yb .i64 (x32+1))
 else
  some x30
 partial_fixpoint
def M.q5z  (p0:Z) (p1:Int):Option (List Z):=do
 let j23←(do
   M.z1c p0 p1 ([]:List Z) 0 0:Option (List Z))
 some j23
def M.z5y (p0:Z) (p1:Int) (p2:Int) (x23:Int):Option (Jn Bool Unit):=do
 if (decide (x23<(p0.length:Int))) then
  let c29←ix p0 x23
  let j32←(do
    if (decide ((c29.toNat:Int)<p1)) then
     some true
    else
     let c33←ix p0 x23
     some (decide (p2<(c33.toNat:Int))):Option Bool)
  if j32 then
   some (.done false)
  else
   M.z5y p0 p1 p2 (yb .i64 (x23+1))
 else
  some (.go ())
 partial_fixpoint
def M.q5u  (p0:Z) (p1 p2:Int):Option Bool:=do
 let q17←(do
   M.z5y p0 p1 p2 0:Option (Jn Bool Unit))
 match q17 with
 | .done r=>some r
 | .go j17 =>
  some true
def M.z0e (p0:Z) (p1:Int) (x15:Int):Option (Jn (Z × Z × Bool) Unit):=do
 if (decide (x15<(p0.length:Int))) then
  let c19←ix p0 x15
  if (decide ((c19.toNat:Int)=p1)) then
   let s20←sub p0 0 x15
   let s21←sub p0 (yb .i64 (x15+1)) (p0.length:Int)
   some (.done (s20,s21,true))
  else
   M.z0e p0 p1 (yb .i64 (x15+1))
 else
  some (.go ())
 partial_fixpoint
def M.q67  (p0:Z) (p1:Int):Option (Z × Z × Bool):=do
 let q11←(do
   M.z0e p0 p1 0:Option (Jn (Z × Z × Bool) Unit))
 match q11 with
 | .done r=>some r
 | .go j11 =>
  some (p0,[],false)
def M.q4i  (p0:Int) (p1:Bool):Option Int:=do
 if ((decide (48≤p0))&&(decide (p0≤57))) then
  some (yb .i64 (yb .u8 (p0 - 48)))
 else
  if ((decide (97≤p0))&&(decide (p0≤102))) then
   some (yb .i64 ((yb .i64 (yb .u8 (p0 - 97)))+10))
  else
   if ((p1&&(decide (65≤p0)))&&(decide (p0≤70))) then
    some (yb .i64 ((yb .i64 (yb .u8 (p0 - 65)))+10))
   else
    some (-1)
def M.z0x (p0:Z) (x73:List Int) (x74:Int):Option (Jn (Z × Int) (List Int)):=do
 if (decide (x74<(p0.length:Int))) then
  let c95←ix p0 x74
  if (!decide ((c95.toNat:Int)=37)) then
   let c96←ix p0 x74
   let l97←app 1 x73 [(c96.toNat:Int)]
   M.z0x p0 l97 (yb .i64 (x74+1))
  else
   if (decide ((p0.length:Int)≤(yb .i64 (x74+2)))) then
    some (.done ([],12))
   else
    let c98←ix p0 (yb .i64 (x74+1))
    let c99←ix p0 (yb .i64 (x74+2))
    let a100←M.q4i (c98.toNat:Int) true
    let a102←M.q4i (c99.toNat:Int) true
    if ((decide (a100<0))||(decide (a102<0))) then
     some (.done ([],12))
    else
     let l108←app 1 x73 [(yb .u8 (yb .i64 ((yb .i64 (16*a100))+a102)))]
     M.z0x p0 l108 (yb .i64 ((yb .i64 (x74+2))+1))
 else
  some (.go x73)
 partial_fixpoint
def M.q4d  (p0:Z):Option (Z × Int):=do
 let q55←(do
   M.z0x p0 ([]:List Int) 0:Option (Jn (Z × Int) (List Int)))
 match q55 with
 | .done r=>some r
 | .go j55 =>
  some ((byt j55),0)
def M.z4e (p0:Z) (p1:Int) (p2:Int) (x17:List Int) (x18:Int):Option (List Int):=do
 if (decide (x18<(p0.length:Int))) then
  let c22←ix p0 x18
  if (decide ((c22.toNat:Int)=p1)) then
   let l23←app 1 x17 [p2]
   M.z4e p0 p1 p2 l23 (yb .i64 (x18+1))
  else
   let l24←app 1 x17 [(c22.toNat:Int)]
   M.z4e p0 p1 p2 l24 (yb .i64 (x18+1))
 else
  some x17
 partial_fixpoint
def M.q4k  (p0:Z) (p1 p2:Int):Option Z:=do
 let j13←(do
   M.z4e p0 p1 p2 ([]:List Int) 0:Option (List Int))
 some (byt j13)
def M.z2m (p0:Z) (x30:List Z) (x31:Int) (x32:Int):Option (List Z):=do
 if (decide (x32≤(p0.length:Int))) then
  let j41←(do
    if (decide (x32=(p0.length:Int))) then
     some true
    else
     let c42←ix p0 x32
     some (decide ((c42.toNat:Int)=38)):Option Bool)
  if j41 then
   let s43←sub p0 x31 x32
   let l44←app 16 x30 [s43]
   M.z2m p0 l44 (yb .i64 (x32+1)) (yb .i64 (x32+1))
  else
   M.z2m p0 x30 x31 (yb .i64 (x32+1))
 else
  some x30
 partial_fixpoint
def M.z2o (x603:Z) (x623:Int):Option Int:=do
 let j630←(do
   if (decide (x623<(x603.length:Int))) then
    let c631←ix x603 x623
    some (!decide ((c631.toNat:Int)=61))
   else
    some false:Option Bool)
 if j630 then
  M.z2o x603 (yb .i64 (x623+1))
 else
  some x623
 partial_fixpoint
def M.z2n (j23:(List Z)) (x449:List q05) (x450:Int):Option (Jn ((List q05) × Int) (List q05)):=do
 if (decide (x450<(j23.length:Int))) then
  let q601←(do
    let x602←ix j23 x450
    let x603←ix j23 x450
    if (decide (x603=[])) then
     some (.done (.done ([],13)))
    else
     let j618←(do
       M.z2o x603 0:Option Int)
     let j635←(do
       if (decide (j618<(x603.length:Int))) then
        let s636←sub x603 (yb .i64 (j618+1)) (x603.length:Int)
        some s636
       else
        some []:Option Z)
     let s637←sub x603 0 j618
     let a638←M.q4k s637 43 32
     let a640←M.q4d a638
     let a642←M.q4k j635 43 32
     let a644←M.q4d a642
     if ((!decide (a640.2=0))||(!decide (a644.2=0))) then
      some (.done (.done ([],12)))
     else
      let l650←app 32 x449 [(q05.mk a640.1 a644.1)]
      some (.go l650):Option (Jn (Jn ((List q05) × Int) (List q05)) (List q05)))
  match q601 with
  | .done r=>some r
  | .go j601 =>
   M.z2n j23 j601 (yb .i64 (x450+1))
 else
  some (.go x449)
 partial_fixpoint
def M.q4c  (p0:Z):Option ((List q05) × Int):=do
 if (decide (8192<(p0.length:Int))) then
  some ([],14)
 else
  if (decide (p0=[])) then
   some ([],0)
  else
   let j23←(do
     M.z2m p0 ([]:List Z) 0 0:Option (List Z))
   if (decide (64<(j23.length:Int))) then
    some ([],14)
   else
    let q348←(do
      M.z2n j23 ([]:List q05) 0:Option (Jn ((List q05) × Int) (List q05)))
    match q348 with
    | .done r=>some r
    | .go j348 =>
     some (j348,0)
def M.z11 (x24:Z):Option Z:=do
 let j32←(do
   if (!decide (x24=[])) then
    let c33←ix x24 0
    some (decide ((c33.toNat:Int)=32))
   else
    some false:Option Bool)
 if j32 then
  let s34←sub x24 1 (x24.length:Int)
  M.z11 s34
 else
  some x24
 partial_fixpoint
def M.z13 (x74:Z):Option Z:=do
 let j90←(do
   if (!decide (x74=[])) then
    let c91←ix x74 (yb .i64 ((x74.length:Int) - 1))
    some (decide ((c91.toNat:Int)=32))
   else
    some false:Option Bool)
 if j90 then
  let s92←sub x74 0 (yb .i64 ((x74.length:Int) - 1))
  M.z13 s92
 else
  some x74
 partial_fixpoint
def M.q5w  (p0:Z):Option Z:=do
 let j18←(do
   M.z11 p0:Option Z)
 let j64←(do
   M.z13 j18:Option Z)
 some j64
def M.z4l (p0:List q05) (p1:Z) (x15:Z) (x16:Int) (x17:Int):Option (Z × Int):=do
 if (decide (x17<(p0.length:Int))) then
  let x20←ix p0 x17
  if (decide (x20.zo=p1)) then
   if (decide (x16=0)) then
    let x21←ix p0 x17
    M.z4l p0 p1 x21.z3g (yb .i64 (x16+1)) (yb .i64 (x17+1))
   else
    M.z4l p0 p1 x15 (yb .i64 (x16+1)) (yb .i64 (x17+1))
  else
   M.z4l p0 p1 x15 x16 (yb .i64 (x17+1))
 else
  some (x15,x16)
 partial_fixpoint
def M.q4e  (p0:List q05) (p1:Z):Option (Z × Int):=do
 let j12←(do
   M.z4l p0 p1 [] 0 0:Option (Z × Int))
 some (j12.1,j12.2)
def M.q63  (p0:List q05) (p1:Z):Option (Z × Bool):=do
 let a1←M.q4e p0 p1
 some (a1.1,(decide (0<a1.2)))
def M.z45 (p0:Z) (x61:Int) (x62:Int):Option (Jn Int Int):=do
 if (decide (x62<(p0.length:Int))) then
  let c79←ix p0 x62
  let j82←(do
    if (decide ((c79.toNat:Int)<48)) then
     some true
    else
     let c83←ix p0 x62
     some (decide (57<(c83.toNat:Int))):Option Bool)
  if j82 then
   some (.done (-1))
  else
   let c84←ix p0 x62
   M.z45 p0 (yb .i64 ((yb .i64 (10*x61))+(yb .i64 (yb .u8 ((c84.toNat:Int) - 48))))) (yb .i64 (x62+1))
 else
  some (.go x61)
 partial_fixpoint
def M.q5y  (p0:Z) (p1:Int):Option Int:=do
 let j11←(do
   if ((decide (p0=[]))||(decide (p1<(p0.length:Int)))) then
    some true
   else
    let c12←ix p0 0
    if (decide ((c12.toNat:Int)=48)) then
     some (!decide (p0=[48]))
    else
     some false:Option Bool)
 if j11 then
  some (-1)
 else
  let q49←(do
    M.z45 p0 0 0:Option (Jn Int Int))
  match q49 with
  | .done r=>some r
  | .go j49 =>
   some j49
def M.q1z  (p0:Z) (p1:Nat):Option q0b:=do
 some (q0b.mk p0 p1 [] false)
def M.q2z  (p0:Z) (p1:Nat):Option q0b:=do
 some (q0b.mk p0 p1 [] true)
def M.q1l  (p0 p1:Z):Option q0b:=do
 some (q0b.mk p0 NF p1 false)
def M.q2k  (p0:Z) (p1:List q0b):Option (List q0b):=do
 let a1←M.q1z B12 F.q1c
 let a3←M.q1z B19 F.q2p
 if (!decide (p0=[])) then
  let a5←M.q1l B36 p0
  let l7←app 48 [a5] [a1,a3]
  let l8←app 48 l7 p1
  some l8
 else
  let l9←app 48 [a1,a3] p1
  some l9
def M.q2j  : Option (List q0a):=do
 let a1←M.q1z B97 F.q2w
 let a3←M.q1z B79 F.q23
 let a5←M.q1z B56 F.q1d
 let a7←M.q1z [107,101,121] F.q1u
 let a9←M.q2z B101 F.q1f
 let a11←M.q2z [99,108,105,101,110,116] F.q12
 let a13←M.q2z [115,105,103] F.q2q
 let a15←M.q2z B101 F.q1f
 let a17←M.q1z B97 F.q2w
 let a19←M.q1z B35 F.q2t
 let a21←M.q1z B79 F.q23
 let a23←M.q1l B73 B56
 let a25←M.q1z B12 F.q1c
 let a27←M.q1z B37 F.q2b
 let a29←M.q1z B20 F.q2o
 let a31←M.q1l B44 [83,50,53,54]
 let a33←M.q1z B71 F.q1a
 let a35←M.q1z B38 F.q1v
 let a37←M.q1z B56 F.q1d
 let a39←M.q1z B37 F.q2b
 let a41←M.q1z B74 F.q2y
 let a43←M.q2k B53 [a37,a39,a41]
 let a45←M.q1z B20 F.q2o
 let a47←M.q1z B61 F.q0z
 let a49←M.q2k B54 [a45,a47]
 let a51←M.q1z B11 F.q2t
 let a53←M.q1z B20 F.q2o
 let a55←M.q2k B11 [a51,a53]
 let a57←M.q1z B76 F.q2t
 let a59←M.q1z B84 F.q0y
 let a61←M.q1z B20 F.q2o
 let a63←M.q1z B61 F.q0z
 let a65←M.q2k B18 [a57,a59,a61,a63]
 let a67←M.q1z B35 F.q2t
 let a69←M.q2k [] [a67]
 let a71←M.q1z B35 F.q2t
 let a73←M.q2k [] [a71]
 let a75←M.q1z [102,105,108,116,101,114] F.q1j
 let a77←M.q1l B91 [78]
 let a79←M.q1l B77 [78]
 let a81←M.q1z [110,97,109,101] F.q1u
 let a83←M.q1z B79 F.q23
 some [(q0a.mk 1 B5 B93 0 1 [a1,a3]),(q0a.mk 2 B5 B58 1 1 [a5]),(q0a.mk 3 B5 B64 1 1 [a7,a9,a11,a13]),(q0a.mk 4 B5 B59 1 1 []),(q0a.mk 5 B5 B65 1 1 [a15]),(q0a.mk 6 B5 B68 1 1 []),(q0a.mk 7 B5 B85 1 1 []),(q0a.mk 8 B5 B86 0 1 [a17]),(q0a.mk 9 B5 B94 0 1 [a19,a21]),(q0a.mk 10 [71,69,84] B66 1 2 [a23,a25,a27,a29,a31,a33,a35]),(q0a.mk 11 B5 B26 0 1 a43),(q0a.mk 12 B5 B26 0 1 a49),(q0a.mk 13 B5 B26 0 1 a55),(q0a.mk 14 B5 B26 0 1 a65),(q0a.mk 15 B5 B87 0 1 a69),(q0a.mk 16 B5 B55 0 1 a73),(q0a.mk 17 [71,69,84] B70 2 0 []),(q0a.mk 18 [71,69,84] B102 0 0 []),(q0a.mk 19 [71,69,84] B41 2 2 [a75,a77,a79]),(q0a.mk 20 [71,69,84] B16 2 0 []),(q0a.mk 21 B5 B41 2 3 []),(q0a.mk 22 B99 B16 6 4 []),(q0a.mk 23 B92 B16 6 0 []),(q0a.mk 24 B5 B40 2 1 [a81,a83]),(q0a.mk 25 B5 B60 2 1 [])]
def M.z15 (p1:List Z) (a2:(List Z)) (p2:q00) (x50:Int) (x51:Z) (x52:Z):Option (Jn (Bool × q00) (Z × Z)):=do
 if (decide (x50<(p1.length:Int))) then
  let x63←ix p1 x50
  let x64←ix a2 x50
  if ((decide (x64=[79,70]))&&(!decide (x63=[]))) then
   M.z15 p1 a2 p2 (yb .i64 (x50+1)) x63 x52
  else
   let x67←ix a2 x50
   if (decide (x67=B67)) then
    M.z15 p1 a2 p2 (yb .i64 (x50+1)) x51 x63
   else
    let x68←ix a2 x50
    let j71←(do
      if (!decide (x68=x63)) then
       some true
      else
       let x72←ix a2 x50
       some (decide (x72=[79,70])):Option Bool)
    if j71 then
     some (.done (false,(q00.mk p2.zh x51 p2.z39 p2.z38 p2.zq p2.z22 p2.z1p p2.z1o p2.z03 p2.z0n p2.zy p2.z0a p2.zx p2.zm p2.z00 p2.z0q x52 p2.z3s p2.z01 p2.z7l p2.z5v p2.z0m p2.z1j p2.zt p2.z2y p2.z1d)))
    else
     M.z15 p1 a2 p2 (yb .i64 (x50+1)) x51 x52
 else
  some (.go (x51,x52))
 partial_fixpoint
def M.q2d  (p0:q0a) (p1:List Z) (p2:q00):Option (Bool × q00):=do
 let s1←sub p0.zhb 1 (p0.zhb.length:Int)
 let a2←M.split s1 [47]
 if (!decide ((a2.length:Int)=(p1.length:Int))) then
  some (false,p2)
 else
  let q39←(do
    M.z15 p1 a2 p2 0 p2.gOf p2.zo:Option (Jn (Bool × q00) (Z × Z)))
  match q39 with
  | .done r=>some r
  | .go j39 =>
   some (true,(q00.mk p2.zh j39.1 p2.z39 p2.z38 p2.zq p2.z22 p2.z1p p2.z1o p2.z03 p2.z0n p2.zy p2.z0a p2.zx p2.zm p2.z00 p2.z0q j39.2 p2.z3s p2.z01 p2.z7l p2.z5v p2.z0m p2.z1j p2.zt p2.z2y p2.z1d))
def M.z3c (p0:List q05) (p1:Z) (x15:Z) (x16:Int) (x17:Int):Option (Z × Int):=do
 if (decide (0≤x17)) then
  let x20←ix p0 x17
  if (decide (x20.zo=p1)) then
   let x21←ix p0 x17
   M.z3c p0 p1 x21.z3g (yb .i64 (x16+1)) (yb .i64 (x17 - 1))
  else
   M.z3c p0 p1 x15 x16 (yb .i64 (x17 - 1))
 else
  some (x15,x16)
 partial_fixpoint
def M.q0m  (p0:List q05) (p1:Z):Option (Z × Int):=do
 let j12←(do
   M.z3c p0 p1 [] 0 (yb .i64 ((p0.length:Int) - 1)):Option (Z × Int))
 some (j12.1,j12.2)
def M.q1k  (p0:List q05) (p1:Z):Option (Z × Bool):=do
 let a1←M.q0m p0 p1
 some (a1.1,(decide (0<a1.2)))
def M.q35  (p0 p1:Z):Option (Z × Bool):=do
 let a3←M.q36 p0 p1
 if (!a3) then
  some (p0,false)
 else
  let s5←sub p0 (p1.length:Int) (p0.length:Int)
  some (s5,true)
def M.q7c  (p0 p1:Z):Option (Z × Bool):=do
 let a1←M.q35 p0 p1
 some (a1.1,a1.2)
def M.z2r (a22:(List Z)) (x29:Int):Option (Jn Z Unit):=do
 if (decide (x29<(a22.length:Int))) then
  let x35←ix a22 x29
  let a36←M.trim x35 [32]
  let a38←M.q7c a36 B57
  if a38.2 then
   some (.done a38.1)
  else
   M.z2r a22 (yb .i64 (x29+1))
 else
  some (.go ())
 partial_fixpoint
def M.q1e  (p0:List q05):Option Z:=do
 let a1←M.q1k p0 B50
 let q21←(do
   let a22←M.split a1.1 [59]
   M.z2r a22 0:Option (Jn Z Unit))
 match q21 with
 | .done r=>some r
 | .go j21 =>
  some []
def M.q2g  (p0:q0a) (p1:List q05) (p2:q00):Option (Rb q00 q00):=do
 let q18←(do
   if (!decide ((z7a .i64 p0.zcg 1)=0)) then
    let a19←M.q1e p1
    let a21←M.trim a19 B1
    let a23←M.q1s (decide (a21=[])) 227
    match a23 with
    | .pan e26 =>
     some (.done (.pan e26 (q00.mk p2.zh p2.gOf p2.z39 p2.z38 a19 p2.z22 p2.z1p p2.z1o p2.z03 p2.z0n p2.zy p2.z0a p2.zx p2.zm p2.z00 p2.z0q p2.zo p2.z3s p2.z01 p2.z7l p2.z5v p2.z0m p2.z1j p2.zt p2.z2y p2.z1d)))
    | .ok a25 =>
     some (.go a19)
   else
    some (.go p2.zq):Option (Jn (Rb q00 q00) Z))
 match q18 with
 | .done r=>some r
 | .go j18 =>
  let q60←(do
    let a61←M.q1k p1 B24
    if (a61.2&&(!decide ((z7a .i64 p0.zcg 2)=0))) then
     let a65←M.q7c a61.1 B46
     let j70←(do
       if a65.2 then
        let a71←M.q22 a65.1 33 126
        some a71
       else
        some false:Option Bool)
     let a73←M.q1s j70 227
     match a73 with
     | .pan e76 =>
      some (.done (.pan e76 (q00.mk p2.zh p2.gOf p2.z39 p2.z38 j18 p2.z22 p2.z1p p2.z1o p2.z03 p2.z0n p2.zy p2.z0a p2.zx p2.zm p2.z00 p2.z0q p2.zo p2.z3s p2.z01 p2.z7l p2.z5v p2.z0m p2.z1j p2.zt p2.z2y p2.z1d)))
     | .ok a75 =>
      some (.go a65.1)
    else
     some (.go p2.z1p):Option (Jn (Rb q00 q00) Z))
  match q60 with
  | .done r=>some r
  | .go j60 =>
   let a77←M.q1k p1 B39
   if (a77.2&&(!decide ((z7a .i64 p0.zcg 4)=0))) then
    let j83←(do
      if (decide (2≤(a77.1.length:Int))) then
       let c84←ix a77.1 0
       some (decide ((c84.toNat:Int)=34))
      else
       some false:Option Bool)
    let j87←(do
      if j83 then
       let c88←ix a77.1 (yb .i64 ((a77.1.length:Int) - 1))
       some (decide ((c88.toNat:Int)=34))
      else
       some false:Option Bool)
    let a89←M.q1s j87 227
    match a89 with
    | .pan e92 =>
     some (.pan e92 (q00.mk p2.zh p2.gOf p2.z39 p2.z38 j18 p2.z22 j60 p2.z1o p2.z03 p2.z0n p2.zy p2.z0a p2.zx p2.zm p2.z00 p2.z0q p2.zo p2.z3s p2.z01 p2.z7l p2.z5v p2.z0m p2.z1j p2.zt p2.z2y p2.z1d))
    | .ok a91 =>
     let s93←sub a77.1 1 (yb .i64 ((a77.1.length:Int) - 1))
     let a94←M.q22 s93 33 126
     let j99←(do
       if a94 then
        let a100←M.contains s93 [34]
        some (!a100)
       else
        some false:Option Bool)
     let a102←M.q1s j99 227
     match a102 with
     | .pan e105 =>
      some (.pan e105 (q00.mk p2.zh p2.gOf p2.z39 p2.z38 j18 p2.z22 j60 p2.z1o p2.z03 p2.z0n p2.zy p2.z0a p2.zx p2.zm p2.z00 p2.z0q p2.zo p2.z3s p2.z01 p2.z7l s93 p2.z0m p2.z1j p2.zt p2.z2y p2.z1d))
     | .ok a104 =>
      some (.ok (q00.mk p2.zh p2.gOf p2.z39 p2.z38 j18 p2.z22 j60 p2.z1o p2.z03 p2.z0n p2.zy p2.z0a p2.zx p2.zm p2.z00 p2.z0q p2.zo p2.z3s p2.z01 p2.z7l s93 p2.z0m p2.z1j p2.zt p2.z2y p2.z1d))
   else
    some (.ok (q00.mk p2.zh p2.gOf p2.z39 p2.z38 j18 p2.z22 j60 p2.z1o p2.z03 p2.z0n p2.zy p2.z0a p2.zx p2.zm p2.z00 p2.z0q p2.zo p2.z3s p2.z01 p2.z7l p2.z5v p2.z0m p2.z1j p2.zt p2.z2y p2.z1d))
def M.q2f  (p0:q0b) (p1:q05):Option Bool:=do
 some (decide (p0.zfu=p1.zo))
def M.zg (p0:List q0b) (p1:q05) (x15:Int):Option (Jn Int Unit):=do
 if (decide (x15<(p0.length:Int))) then
  let x19←ix p0 x15
  let a20←M.q2f x19 p1
  if a20 then
   some (.done x15)
  else
   M.zg p0 p1 (yb .i64 (x15+1))
 else
  some (.go ())
 partial_fixpoint
def M.q74  (p0:List q0b) (p1:q05):Option Int:=do
 let q11←(do
   M.zg p0 p1 0:Option (Jn Int Unit))
 match q11 with
 | .done r=>some r
 | .go j11 =>
  some (-1)
def M.q6z  (p0:List q0b) (p1:q05):Option Bool:=do
 let a1←M.q74 p0 p1
 some (decide (0≤a1))
def M.q2u  (p0:q0b) (p1:q00):Option Nat:=do
 if (!decide (p0.zft=[78])) then
  some 1000000
 else
  if (decide (p0.zfu=B77)) then
   some 25
  else
   some 24
def M.z10 (p0:Z) (x25:List Int) (x26:Int) (x27:Int) (x28:Int):Option (Jn (Z × Int) ((List Int) × Int × Int)):=do
 if (decide (x28<((unb p0).length:Int))) then
  let x33←ix (unb p0) x28
  let a34←M.z1b B1 x33
  if (decide (a34<0)) then
   some (.done ([],11))
  else
   if (decide (8≤(yb .i64 (x27+6)))) then
    let _←chk (decide (0≤(yb .i64 ((yb .i64 (x27+6)) - 8))))
    let l36←app 1 x25 [(yb .u8 (zdm .i64 (orI .i64 (z6p .i64 x26 6) a34) (yb .i64 ((yb .i64 (x27+6)) - 8))))]
    let _←chk (decide (0≤(yb .i64 ((yb .i64 (x27+6)) - 8))))
    M.z10 p0 l36 (z7a .i64 (orI .i64 (z6p .i64 x26 6) a34) (yb .i64 ((z6p .i64 1 (yb .i64 ((yb .i64 (x27+6)) - 8))) - 1))) (yb .i64 ((yb .i64 (x27+6)) - 8)) (yb .i64 (x28+1))
   else
    M.z10 p0 x25 (orI .i64 (z6p .i64 x26 6) a34) (yb .i64 (x27+6)) (yb .i64 (x28+1))
 else
  some (.go (x25,x26,x27))
 partial_fixpoint
def M.q0j  (p0:Z):Option (Z × Int):=do
 let q20←(do
   let _←chk (decide (p0.length≤9223372036854775807))
   M.z10 p0 [] 0 0 0:Option (Jn (Z × Int) ((List Int) × Int × Int)))
 match q20 with
 | .done r=>some r
 | .go j20 =>
  if ((decide (6≤j20.2.2))||(!decide (j20.2.1=0))) then
   some ([],11)
  else
   some ((byt j20.1),0)
def M.q2w  (p0:q00):Option Nat:=do
 some 2
def M.q23  (p0:q00):Option Nat:=do
 some 3
def M.q1d  (p0:q00):Option Nat:=do
 some 5
def M.q1u  (p0:q00):Option Nat:=do
 some 16
def M.q1f  (p0:q00):Option Nat:=do
 some 17
def M.q12  (p0:q00):Option Nat:=do
 some 18
def M.q2q  (p0:q00):Option Nat:=do
 some 19
def M.q2t  (p0:q00):Option Nat:=do
 some 6
def M.q1c  (p0:q00):Option Nat:=do
 some 8
def M.q2b  (p0:q00):Option Nat:=do
 some 10
def M.q2o  (p0:q00):Option Nat:=do
 some 11
def M.q1a  (p0:q00):Option Nat:=do
 some 13
def M.q1v  (p0:q00):Option Nat:=do
 some 15
def M.q2y  (p0:q00):Option Nat:=do
 some 14
def M.q0z  (p0:q00):Option Nat:=do
 some 12
def M.q0y  (p0:q00):Option Nat:=do
 some 7
def M.q1j  (p0:q00):Option Nat:=do
 some 21
def M.q2p  (p0:q00):Option Nat:=do
 some 9
def M.q0q (p0:Nat) (p1:q00):Option Nat :=
 if p0=F.q2w then M.q2w p1
 else if p0=F.q23 then M.q23 p1
 else if p0=F.q1d then M.q1d p1
 else if p0=F.q1u then M.q1u p1
 else if p0=F.q1f then M.q1f p1
 else if p0=F.q12 then M.q12 p1
 else if p0=F.q2q then M.q2q p1
 else if p0=F.q2t then M.q2t p1
 else if p0=F.q1c then M.q1c p1
 else if p0=F.q2b then M.q2b p1
 else if p0=F.q2o then M.q2o p1
 else if p0=F.q1a then M.q1a p1
 else if p0=F.q1v then M.q1v p1
 else if p0=F.q2y then M.q2y p1
 else if p0=F.q0z then M.q0z p1
 else if p0=F.q0y then M.q0y p1
 else if p0=F.q1j then M.q1j p1
 else if p0=F.q2p then M.q2p p1
 else none
def M.z2c (p1:List q05) (p0:q0a) (p2:q00) (x55:Int):Option (Jn (Rb q00 q00) Unit):=do
 if (decide (x55<(p1.length:Int))) then
  let x69←ix p1 x55
  let a70←M.q0m p1 x69.zo
  let j75←(do
    if (decide (a70.2=1)) then
     let a76←M.q6z p0.z84 x69
     some a76
    else
     some false:Option Bool)
  let a78←M.q1s j75 227
  match a78 with
  | .pan e81 =>
   some (.done (.pan e81 p2))
  | .ok a80 =>
   M.z2c p1 p0 p2 (yb .i64 (x55+1))
 else
  some (.go ())
 partial_fixpoint
def M.z0d (p0:q0a) (p1:List q05) (x117:Int) (x118:q00):Option (Rb q00 q00):=do
 if (decide (x117<(p0.z84.length:Int))) then
  let x154←ix p0.z84 x117
  let a155←M.q1k p1 x154.zfu
  let a157←M.q2u x154 x118
  if a157=24 then
   if (!decide (a155.1=[])) then
    let a159←M.q1w a155.1 9
    let a161←M.q1s a159.2 227
    match a161 with
    | .pan e164 =>
     some (.pan e164 (q00.mk x118.zh x118.gOf x118.z39 x118.z38 x118.zq x118.z22 x118.z1p x118.z1o x118.z03 x118.z0n x118.zy x118.z0a x118.zx x118.zm x118.z00 x118.z0q x118.zo x118.z3s x118.z01 x118.z7l x118.z5v x118.z0m x118.z1j x118.zt a159.1 x118.z1d))
    | .ok a163 =>
     M.z0d p0 p1 (yb .i64 (x117+1)) (q00.mk x118.zh x118.gOf x118.z39 x118.z38 x118.zq x118.z22 x118.z1p x118.z1o x118.z03 x118.z0n x118.zy x118.z0a x118.zx x118.zm x118.z00 x118.z0q x118.zo x118.z3s x118.z01 x118.z7l x118.z5v x118.z0m x118.z1j x118.zt a159.1 x118.z1d)
   else
    M.z0d p0 p1 (yb .i64 (x117+1)) x118
  else
   if a157=25 then
    if (!decide (a155.1=[])) then
     let a165←M.q1w a155.1 9
     let a167←M.q1s a165.2 227
     match a167 with
     | .pan e170 =>
      some (.pan e170 (q00.mk x118.zh x118.gOf x118.z39 x118.z38 x118.zq x118.z22 x118.z1p x118.z1o x118.z03 x118.z0n x118.zy x118.z0a x118.zx x118.zm x118.z00 x118.z0q x118.zo x118.z3s x118.z01 x118.z7l x118.z5v x118.z0m x118.z1j x118.zt x118.z2y a165.1))
     | .ok a169 =>
      M.z0d p0 p1 (yb .i64 (x117+1)) (q00.mk x118.zh x118.gOf x118.z39 x118.z38 x118.zq x118.z22 x118.z1p x118.z1o x118.z03 x118.z0n x118.zy x118.z0a x118.zx x118.zm x118.z00 x118.z0q x118.zo x118.z3s x118.z01 x118.z7l x118.z5v x118.z0m x118.z1j x118.zt x118.z2y a165.1)
    else
     M.z0d p0 p1 (yb .i64 (x117+1)) x118
   else
    if a157=1000000 then
     if (Nat.beq x154.z83 NF) then
      let a173←M.q1s (a155.2&&(decide (a155.1=x154.zft))) 227
      match a173 with
      | .pan e176 =>
       some (.pan e176 x118)
      | .ok a175 =>
       M.z0d p0 p1 (yb .i64 (x117+1)) x118
     else
      if x154.zsf then
       let a177←M.q0j a155.1
       let a179←M.q1s (decide (a177.2=0)) 227
       match a179 with
       | .pan e182 =>
        some (.pan e182 x118)
       | .ok a181 =>
        let a183←M.q0q x154.z83 x118
        let x185←q00.setAt x118 a183 a177.1
        M.z0d p0 p1 (yb .i64 (x117+1)) x185
      else
       let a186←M.q0q x154.z83 x118
       let x188←q00.setAt x118 a186 a155.1
       M.z0d p0 p1 (yb .i64 (x117+1)) x188
    else
     none
 else
  some (.ok x118)
 partial_fixpoint
def M.q2e  (p0:q0a) (p1:List q05) (p2:q00):Option (Rb q00 q00):=do
 let q41←(do
   M.z2c p1 p0 p2 0:Option (Jn (Rb q00 q00) Unit))
 match q41 with
 | .done r=>some r
 | .go j41 =>
  M.z0d p0 p1 0 p2
def M.q3n  (p0:q0c):Option q0c:=do
 let a1←M.trimLeft p0.gs [32,9,10,13]
 some (q0c.mk a1)
def M.q3k  (p0:Bool) (p1:Int):Option (Rs Unit):=do
 if (!p0) then
  some (.pan p1)
 else
  some (.ok ())
def M.q3q  (p0:q0c) (p1:Z):Option (Bool × q0c):=do
 let a1←M.q7c p0.gs p1
 if a1.2 then
  let a3←M.q3n (q0c.mk a1.1)
  some (a1.2,a3)
 else
  some (a1.2,p0)
def M.q33  (p0:Int):Option Int:=do
 some (orI .u8 p0 32)
def M.zi (j65:Z × Int) (p1:Int) (j106:Int) (j102:Int) (x301:Bool) (x302:Int) (x303:Int):Option (Jn (Int × Bool) (Bool × Int)):=do
 if (decide (x303<((unb j65.1).length:Int))) then
  let x351←ix (unb j65.1) x303
  let q381←(do
    if ((decide (x351=95))&&(decide (p1=0))) then
     (do
      M.zi j65 p1 j106 j102 true x302 (yb .i64 (x303+1))) >>= fun r=>some (.done r)
    else
     if ((decide (48≤x351))&&(decide (x351≤57))) then
      some (.go (yb .u8 (x351 - 48)))
     else
      let a386←M.q33 x351
      let j391←(do
        if (decide (97≤a386)) then
         let a392←M.q33 x351
         some (decide (a392≤122))
        else
         some false:Option Bool)
      if j391 then
       let a394←M.q33 x351
       some (.go (yb .u8 ((yb .u8 (a394 - 97))+10)))
      else
       some (.done (.done (0,false))):Option (Jn (Jn (Int × Bool) (Bool × Int)) Int))
  match q381 with
  | .done r=>some r
  | .go j381 =>
   if (decide ((yb .u8 j65.2)≤j381)) then
    some (.done (0,false))
   else
    if (decide (j106≤x302)) then
     some (.done ((yb .u64 ((z6p .u64 1 (yb .u64 j102)) - 1)),false))
    else
     if ((decide ((yb .u64 ((yb .u64 (x302*(yb .u64 j65.2)))+(yb .u64 j381)))<(yb .u64 (x302*(yb .u64 j65.2)))))||(decide ((yb .u64 ((z6p .u64 1 (yb .u64 j102)) - 1))<(yb .u64 ((yb .u64 (x302*(yb .u64 j65.2)))+(yb .u64 j381)))))) then
      some (.done ((yb .u64 ((z6p .u64 1 (yb .u64 j102)) - 1)),false))
     else
      M.zi j65 p1 j106 j102 x301 (yb .u64 ((yb .u64 (x302*(yb .u64 j65.2)))+(yb .u64 j381))) (yb .i64 (x303+1))
 else
  some (.go (x301,x302))
 partial_fixpoint
def M.q32  (p0:Z) (p1 p2:Int):Option (Int × Bool):=do
 if (decide (p0=[])) then
  some (0,false)
 else
  let q65←(do
    if ((decide (2≤p1))&&(decide (p1≤36))) then
     some (.go (p0,p1))
    else
     if (decide (p1=0)) then
      let c68←ix p0 0
      if (decide ((c68.toNat:Int)=48)) then
       let j73←(do
         if (decide (3≤(p0.length:Int))) then
          let c74←ix p0 1
          let a75←M.q33 (c74.toNat:Int)
          some (decide (a75=98))
         else
          some false:Option Bool)
       if j73 then
        let s77←sub p0 2 (p0.length:Int)
        some (.go (s77,2))
       else
        let j82←(do
          if (decide (3≤(p0.length:Int))) then
           let c83←ix p0 1
           let a84←M.q33 (c83.toNat:Int)
           some (decide (a84=111))
          else
           some false:Option Bool)
        if j82 then
         let s86←sub p0 2 (p0.length:Int)
         some (.go (s86,8))
        else
         let j91←(do
           if (decide (3≤(p0.length:Int))) then
            let c92←ix p0 1
            let a93←M.q33 (c92.toNat:Int)
            some (decide (a93=120))
           else
            some false:Option Bool)
         if j91 then
          let s95←sub p0 2 (p0.length:Int)
          some (.go (s95,16))
         else
          let s96←sub p0 1 (p0.length:Int)
          some (.go (s96,8))
      else
       some (.go (p0,10))
     else
      some (.done (0,false)):Option (Jn (Int × Bool) (Z × Int)))
  match q65 with
  | .done r=>some r
  | .go j65 =>
   let q102←(do
     if (decide (p2=0)) then
      some (.go 64)
     else
      if ((decide (p2<0))||(decide (64<p2))) then
       some (.done (0,false))
      else
       some (.go p2):Option (Jn (Int × Bool) Int))
   match q102 with
   | .done r=>some r
   | .go j102 =>
    let j106←(do
      if (decide (j65.2=10)) then
       some 1844674407370955162
      else
       if (decide (j65.2=16)) then
        some 1152921504606846976
       else
        let _←chk (decide ((yb .u64 j65.2)≠0))
        some (yb .u64 ((yb .u64 (Int.tdiv 18446744073709551615 (yb .u64 j65.2)))+1)):Option Int)
    let _←chk (decide (0≤(yb .u64 j102)))
    let q253←(do
      let _←chk (decide (j65.1.length≤9223372036854775807))
      M.zi j65 p1 j106 j102 false 0 0:Option (Jn (Int × Bool) (Bool × Int)))
    match q253 with
    | .done r=>some r
    | .go j253 =>
     let j398←(do
       if j253.1 then
        none
       else
        some ():Option Unit)
     some (j253.2,true)
def M.q78  (p0:Z) (p1 p2:Int):Option (Int × Bool):=do
 let a1←M.q32 p0 p1 p2
 if (!a1.2) then
  none
 else
  some (a1.1,true)
def M.q3s  (p0:q0c):Option (Rs (Int × q0c)):=do
 let a1←M.q7c p0.gs [92,117]
 let j9←(do
   if (a1.2&&(decide (4≤(a1.1.length:Int)))) then
    let s10←sub a1.1 0 4
    let a11←M.trim s10 [48,49,50,51,52,53,54,55,56,57,97,98,99,100,101,102,65,66,67,68,69,70]
    some (decide (a11=[]))
   else
    some false:Option Bool)
 let a13←M.q3k j9 20
 match a13 with
 | .pan e16 =>
  some (.pan e16)
 | .ok a15 =>
  let s17←sub a1.1 0 4
  let a18←M.q78 s17 16 16
  let a20←M.q3k a18.2 20
  match a20 with
  | .pan e23 =>
   some (.pan e23)
  | .ok a22 =>
   let s24←sub a1.1 4 (a1.1.length:Int)
   some (.ok ((yb .i32 a18.1),(q0c.mk s24)))
def M.q3o  (p0:q0c):Option (Rs (Z × q0c)):=do
 let a1←M.q3k (decide (2≤(p0.gs.length:Int))) 20
 match a1 with
 | .pan e4 =>
  some (.pan e4)
 | .ok a3 =>
  let c10←ix p0.gs 1
  let a11←M.indexByte B31 (c10.toNat:Int)
  if (decide (0≤a11)) then
   let s13←sub p0.gs 2 (p0.gs.length:Int)
   let s14←sub ([34,92,47,8,12,10,13,9]:Z) a11 (yb .i64 (a11+1))
   some (.ok (s14,(q0c.mk s13)))
  else
   let a15←M.q3s p0
   match a15 with
   | .pan e18 =>
    some (.pan e18)
   | .ok a17 =>
    let a21←M.q3k ((decide (a17.1<56320))||(decide (57343<a17.1))) 20
    match a21 with
    | .pan e24 =>
     some (.pan e24)
    | .ok a23 =>
     if ((decide (a17.1<55296))||(decide (57343<a17.1))) then
      some (.ok ((encS a17.1),a17.2))
     else
      let a29←M.q3s a17.2
      match a29 with
      | .pan e32 =>
       some (.pan e32)
      | .ok a31 =>
       let a35←M.q3k ((decide (56320≤a31.1))&&(decide (a31.1≤57343))) 20
       match a35 with
       | .pan e38 =>
        some (.pan e38)
       | .ok a37 =>
        some (.ok ((encS (yb .i32 ((yb .i32 ((yb .i32 (65536+(z6p .i32 (yb .i32 (a17.1 - 55296)) 10)))+a31.1)) - 56320))),a31.2))
def M.z1s (x37:Z) (x38:List Int):Option (Rs (Z × q0c)):=do
 let j71←(do
   if (!decide (x37=[])) then
    let c72←ix x37 0
    some (decide (32≤(c72.toNat:Int)))
   else
    some false:Option Bool)
 let a73←M.q3k j71 20
 match a73 with
 | .pan e76 =>
  some (.pan e76)
 | .ok a75 =>
  let c77←ix x37 0
  if (decide ((c77.toNat:Int)=34)) then
   let a78←M.zn x38
   let a80←M.z1f a78
   let a82←M.q3k a80 20
   match a82 with
   | .pan e85 =>
    some (.pan e85)
   | .ok a84 =>
    let a86←M.q3q (q0c.mk x37) [34]
    let a88←M.zn x38
    some (.ok (a88,a86.2))
  else
   if (decide ((c77.toNat:Int)=92)) then
    let a90←M.q3o (q0c.mk x37)
    match a90 with
    | .pan e93 =>
     some (.pan e93)
    | .ok a92 =>
     let a94←M.q7b x38 a92.1
     M.z1s a92.2.gs a94.2
   else
    let a96←M.q7a x38 (c77.toNat:Int)
    let s98←sub x37 1 (x37.length:Int)
    M.z1s s98 a96
 partial_fixpoint
def M.q3r  (p0:q0c):Option (Rs (Z × q0c)):=do
 let a1←M.q7c p0.gs [34]
 let a3←M.q3k a1.2 20
 match a3 with
 | .pan e6 =>
  some (.pan e6)
 | .ok a5 =>
  M.z1s a1.1 ([]:List Int)
def M.zf (p0:List Z) (p1:Z) (x7:Int):Option (Jn Int Unit):=do
 if (decide (x7<(p0.length:Int))) then
  let x9←ix p0 x7
  if (decide (p1=x9)) then
   some (.done x7)
  else
   M.zf p0 p1 (yb .i64 (x7+1))
 else
  some (.go ())
 partial_fixpoint
def M.q76  (p0:List Z) (p1:Z):Option Int:=do
 let q5←(do
   M.zf p0 p1 0:Option (Jn Int Unit))
 match q5 with
 | .done r=>some r
 | .go j5 =>
  some (-1)
def M.q71  (p0:List Z) (p1:Z):Option Bool:=do
 let a1←M.q76 p0 p1
 some (decide (0≤a1))
def M.q3i  (p0:Z):Option Int:=do
 let a1←M.trimLeft p0 [48,49,50,51,52,53,54,55,56,57]
 some (yb .i64 ((p0.length:Int) - (a1.length:Int)))
def M.q3l  (p0:Z):Option Int:=do
 let j6←(do
   let a7←M.q7d p0 [45]
   if a7 then
    some 1
   else
    some 0:Option Int)
 let s9←sub p0 j6 (p0.length:Int)
 let a10←M.q3i s9
 if (decide (a10=0)) then
  some 0
 else
  let j15←(do
    let c16←ix p0 j6
    if (decide ((c16.toNat:Int)=48)) then
     some 1
    else
     some a10:Option Int)
  let j30←(do
    let s31←sub p0 (yb .i64 (j6+j15)) (p0.length:Int)
    let a32←M.q7d s31 [46]
    if a32 then
     let s34←sub p0 (yb .i64 ((yb .i64 (j6+j15))+1)) (p0.length:Int)
     let a35←M.q3i s34
     if (decide (0<a35)) then
      some (yb .i64 ((yb .i64 (j6+j15))+(yb .i64 (1+a35))))
     else
      some (yb .i64 (j6+j15))
    else
     some (yb .i64 (j6+j15)):Option Int)
  let j40←(do
    if (decide (j30<(p0.length:Int))) then
     let c41←ix p0 j30
     if (decide ((c41.toNat:Int)=101)) then
      some true
     else
      let c42←ix p0 j30
      some (decide ((c42.toNat:Int)=69))
    else
     some false:Option Bool)
  if j40 then
   let j56←(do
     let j60←(do
       if (decide ((yb .i64 (j30+1))<(p0.length:Int))) then
        let c61←ix p0 (yb .i64 (j30+1))
        if (decide ((c61.toNat:Int)=43)) then
         some true
        else
         let c62←ix p0 (yb .i64 (j30+1))
         some (decide ((c62.toNat:Int)=45))
       else
        some false:Option Bool)
     if j60 then
      some (yb .i64 ((yb .i64 (j30+1))+1))
     else
      some (yb .i64 (j30+1)):Option Int)
   let s63←sub p0 j56 (p0.length:Int)
   let a64←M.q3i s63
   if (decide (0<a64)) then
    some (yb .i64 (j56+a64))
   else
    some j30
  else
   some j30
def M.z0v (x53:Int) (x54:Z):Option (Jn (Rs (q04 × q0c)) Z):=do
 if (decide (x53<([(B28:Z),B21,B29].length:Int))) then
  let x58←ix [(B28:Z),B21,B29] x53
  let a59←M.q3q (q0c.mk x54) x58
  if a59.1 then
   some (.done (.ok ((q04.mk x53 [] ([]:List q04) ([]:List Z)),a59.2)))
  else
   M.z0v (yb .i64 (x53+1)) a59.2.gs
 else
  some (.go x54)
 partial_fixpoint
def M.z1e (p1:Int) (self_q3t:q0c→Int→Option (Rs (q04 × q0c))) (p2:Int) (p3:Z) (x79:Z) (x80:List q04) (x81:List Z):Option (Rs (q04 × q0c)):=do
 let q190←(do
   if (decide (p1=6)) then
    let a191←M.q3r (q0c.mk x79)
    match a191 with
    | .pan e194 =>
     some (.done (.pan e194))
    | .ok a193 =>
     let a195←M.q71 x81 a193.1
     let j201←(do
       if (!a195) then
        let a202←M.q3q a193.2 [58]
        some (a202.1,a202.2.gs)
       else
        some (false,a193.2.gs):Option (Bool × Z))
     let a204←M.q3k j201.1 20
     match a204 with
     | .pan e207 =>
      some (.done (.pan e207))
     | .ok a206 =>
      let l208←app 16 x81 [a193.1]
      some (.go (j201.2,l208))
   else
    some (.go (x79,x81)):Option (Jn (Rs (q04 × q0c)) (Z × (List Z))))
 match q190 with
 | .done r=>some r
 | .go j190 =>
  let a209←self_q3t (q0c.mk j190.1) (yb .i64 (p2+1))
  match a209 with
  | .pan e212 =>
   some (.pan e212)
  | .ok a211 =>
   let l213←app 72 x80 [(q04.mk a211.1.zh a211.1.z0i a211.1.zk a211.1.z08)]
   let a214←M.q3q a211.2 p3
   if a214.1 then
    some (.ok ((q04.mk p1 [] l213 j190.2),a214.2))
   else
    let a216←M.q3q a214.2 [44]
    let a218←M.q3k a216.1 20
    match a218 with
    | .pan e221 =>
     some (.pan e221)
    | .ok a220 =>
     M.z1e p1 self_q3t p2 p3 a216.2.gs l213 j190.2
 partial_fixpoint
mutual
def M.q3t:Nat→q0c→Int→Option (Rs (q04 × q0c))
 | 0,_,_=>none
 | fuel+1,p0,p1=>do
  let a19←M.q7d p0.gs [34]
  if a19 then
   let a21←M.q3r p0
   match a21 with
   | .pan e24 =>
    some (.pan e24)
   | .ok a23 =>
    some (.ok ((q04.mk 4 a23.1 ([]:List q04) ([]:List Z)),a23.2))
  else
   let a25←M.q3q p0 [91]
   if a25.1 then
    let a27←(M.q3p fuel) a25.2 5 p1 [93]
    match a27 with
    | .pan e30 =>
     some (.pan e30)
    | .ok a29 =>
     some (.ok (a29.1,a29.2))
   else
    let a31←M.q3q a25.2 [123]
    if a31.1 then
     let a33←(M.q3p fuel) a31.2 6 p1 [125]
     match a33 with
     | .pan e36 =>
      some (.pan e36)
     | .ok a35 =>
      some (.ok (a35.1,a35.2))
    else
     let q49←(do
       M.z0v 0 a31.2.gs:Option (Jn (Rs (q04 × q0c)) Z))
     match q49 with
     | .done r=>some r
     | .go j49 =>
      let a61←M.q3l j49
      let a63←M.q3k (decide (0<a61)) 20
      match a63 with
      | .pan e66 =>
       some (.pan e66)
      | .ok a65 =>
       let s67←sub j49 0 a61
       let a68←M.q3q (q0c.mk j49) s67
       some (.ok ((q04.mk 3 s67 ([]:List q04) ([]:List Z)),a68.2))
def M.q3p:Nat→q0c→Int→Int→Z→Option (Rs (q04 × q0c))
 | 0,_,_,_,_=>none
 | fuel+1,p0,p1,p2,p3=>do
  let a1←M.q3k (decide (p2<16)) 21
  match a1 with
  | .pan e4 =>
   some (.pan e4)
  | .ok a3 =>
   let a7←M.q3q p0 p3
   if a7.1 then
    some (.ok ((q04.mk p1 [] ([]:List q04) ([]:List Z)),a7.2))
   else
    M.z1e p1 (M.q3t fuel) p2 p3 a7.2.gs [] []
end
def M.q3d (fuel:Nat) (p0:Z):Option (q04 × Int):=do
 if (decide (16384<(p0.length:Int))) then
  some ((q04.mk 0 [] ([]:List q04) ([]:List Z)),22)
 else
  let a1←M.q3n (q0c.mk p0)
  let a3←M.q3t fuel a1 0
  match a3 with
  | .pan e6 =>
   some ((q04.mk 0 [] ([]:List q04) ([]:List Z)),e6)
  | .ok a5 =>
   let a7←M.q3k (decide (a5.2.gs=[])) 20
   match a7 with
   | .pan e10 =>
    some ((q04.mk 0 [] ([]:List q04) ([]:List Z)),e10)
   | .ok a9 =>
    some (a5.1,0)
def M.q3c  (p0:q04) (p1:Z):Option (q04 × Bool):=do
 let a1←M.q76 p0.z08 p1
 if (((decide (p0.zh=6))&&(decide (0≤a1)))&&(decide (a1<(p0.zk.length:Int)))) then
  let x7←ix p0.zk a1
  some (x7,true)
 else
  some ((q04.mk 0 [] [] []),false)
def M.z48 (p0:q04) (x13:List Z) (x14:Int):Option (Jn ((List Z) × Bool) (List Z)):=do
 if (decide (x14<(p0.zk.length:Int))) then
  let x17←ix p0.zk x14
  if (!decide (x17.zh=4)) then
   some (.done ([],false))
  else
   let l18←app 16 x13 [x17.z0i]
   M.z48 p0 l18 (yb .i64 (x14+1))
 else
  some (.go x13)
 partial_fixpoint
def M.q3f  (p0:q04):Option ((List Z) × Bool):=do
 if (!decide (p0.zh=5)) then
  some ([],false)
 else
  let q10←(do
    M.z48 p0 [] 0:Option (Jn ((List Z) × Bool) (List Z)))
  match q10 with
  | .done r=>some r
  | .go j10 =>
   some (j10,true)
def M.z3k (p0:q04) (x41:List q02) (x42:Int):Option (Jn ((List q02) × Bool) (List q02)):=do
 if (decide (x42<(p0.zk.length:Int))) then
  let x52←ix p0.zk x42
  let a53←M.q3f x52
  if ((!a53.2)||(!decide (p0.zh=6))) then
   some (.done ([],false))
  else
   let x59←ix p0.z08 x42
   let l60←app 40 x41 [(q02.mk x59 a53.1)]
   M.z3k p0 l60 (yb .i64 (x42+1))
 else
  some (.go x41)
 partial_fixpoint
def M.q1p  (p0:q04):Option ((List q02) × Bool):=do
 let q31←(do
   M.z3k p0 [] 0:Option (Jn ((List q02) × Bool) (List q02)))
 match q31 with
 | .done r=>some r
 | .go j31 =>
  some (j31,(decide (p0.zh=6)))
def M.q2c (fuel:Nat) (p0:q0a) (p1:q03):Option (q00 × Int):=do
 let a1←M.q2d p0 p1.z09 (q00.mk p0.zse [] [] [] [] [] [] [] [] [] [] [] [] [] [] [] [] [] [] [] [] [] [] [] 0 0)
 let a3←M.q2g p0 p1.z0h a1.2
 match a3 with
 | .pan e6 p7 =>
  some (p7,e6)
 | .ok a5 =>
  let a10←M.q1s ((decide (p0.z5b=2))||(decide ((p1.z0r.length:Int)=0))) 227
  match a10 with
  | .pan e13 =>
   some (a5,e13)
  | .ok a12 =>
   if (decide (p0.z5b=0)) then
    let a14←M.q1s (decide (p1.z01=[])) 227
    match a14 with
    | .pan e17 =>
     some (a5,e17)
    | .ok a16 =>
     some (a5,0)
   else
    if (decide (p0.z5b=2)) then
     let a18←M.q1s (decide (p1.z01=[])) 227
     match a18 with
     | .pan e21 =>
      some (a5,e21)
     | .ok a20 =>
      let a22←M.q2e p0 p1.z0r a5
      match a22 with
      | .pan e25 p26 =>
       some (p26,e25)
      | .ok a24 =>
       some (a24,0)
    else
     if (decide (p0.z5b=1)) then
      let a27←M.q0k p1.z01
      let a29←M.q1s (decide (a27.2=0)) 227
      match a29 with
      | .pan e32 =>
       some (a5,e32)
      | .ok a31 =>
       let a33←M.q2e p0 a27.1 a5
       match a33 with
       | .pan e36 p37 =>
        some (p37,e36)
       | .ok a35 =>
        some (a35,0)
     else
      if (decide (p0.z5b=4)) then
       some ((q00.mk a5.zh a5.gOf a5.z39 a5.z38 a5.zq a5.z22 a5.z1p a5.z1o a5.z03 a5.z0n a5.zy a5.z0a a5.zx a5.zm a5.z00 a5.z0q a5.zo a5.z3s a5.z01 a5.z7l a5.z5v a5.z0m p1.z01 a5.zt a5.z2y a5.z1d),0)
      else
       if (decide (p0.z5b=3)) then
        let a38←M.q3d fuel p1.z01
        let a40←M.q3c a38.1 [105,100]
        let a42←M.q3c a38.1 B33
        let a44←M.q1p a42.1
        let a56←M.q1s ((((((decide (a38.2=0))&&(decide ((a38.1.zk.length:Int)=2)))&&a40.2)&&a42.2)&&(decide (a40.1.zh=4)))&&a44.2) 227
        match a56 with
        | .pan e59 =>
         some (a5,e59)
        | .ok a58 =>
         some ((q00.mk a5.zh a5.gOf a5.z39 a5.z38 a5.zq a5.z22 a5.z1p a5.z1o a5.z03 a5.z0n a5.zy a5.z0a a5.zx a5.zm a5.z00 a5.z0q a40.1.z0i a5.z3s a5.z01 a5.z7l a5.z5v a5.z0m a5.z1j a44.1 a5.z2y a5.z1d),0)
       else
        some (a5,0)
def M.z2z (a28:(List q0a)) (p0:q03) (fuel:Nat) (x37:Int) (x38:Int):Option (Jn (q00 × Int) Int):=do
 if (decide (x38<(a28.length:Int))) then
  let x46←ix a28 x38
  let a49←M.q2d x46 p0.z09 (q00.mk 0 [] [] [] [] [] [] [] [] [] [] [] [] [] [] [] [] [] [] [] [] [] [] [] 0 0)
  if (!a49.1) then
   M.z2z a28 p0 fuel x37 (yb .i64 (x38+1))
  else
   if (!decide (x46.z8r=p0.z02)) then
    if (decide (x37=225)) then
     M.z2z a28 p0 fuel 226 (yb .i64 (x38+1))
    else
     M.z2z a28 p0 fuel x37 (yb .i64 (x38+1))
   else
    let a51←M.q2c fuel x46 p0
    if (decide (a51.2=0)) then
     some (.done (a51.1,0))
    else
     M.z2z a28 p0 fuel a51.2 (yb .i64 (x38+1))
 else
  some (.go x37)
 partial_fixpoint
def M.q0r (fuel:Nat) (p0:q03):Option (q00 × Int):=do
 let q27←(do
   let a28←M.q2j
   M.z2z a28 p0 fuel 225 0:Option (Jn (q00 × Int) Int))
 match q27 with
 | .done r=>some r
 | .go j27 =>
  some ((q00.mk 0 [] [] [] [] [] [] [] [] [] [] [] [] [] [] [] [] [] [] [] [] [] [] [] 0 0),j27)
def M.q1y  : Option q08:=do
 some (q08.mk (q04.mk 6 [] ([]:List q04) ([]:List Z)))
def M.q1g  (p0:Int):Option q04:=do
 let a1←M.itoa p0
 some (q04.mk 3 a1 [] [])
def M.q1q  (p0:q08) (p1:Bool) (p2:Z) (p3:q04):Option q08:=do
 if p1 then
  let j5←(do
    let l6←app 16 p0.z1n.z08 [p2]
    let l7←app 72 p0.z1n.zk [(q04.mk p3.zh p3.z0i p3.zk p3.z08)]
    some (l7,l6):Option ((List q04) × (List Z)))
  some (q08.mk (q04.mk p0.z1n.zh p0.z1n.z0i j5.1 j5.2))
 else
  some p0
def M.q2r  (p0:Z):Option q04:=do
 some (q04.mk 4 p0 [] [])
def M.z0u (p0:List Z) (x21:Int) (x22:List q04):Option (List q04):=do
 if (decide (x21<(p0.length:Int))) then
  let x27←ix p0 x21
  let a28←M.q2r x27
  let l30←app 72 x22 [(q04.mk a28.zh a28.z0i a28.zk a28.z08)]
  M.z0u p0 (yb .i64 (x21+1)) l30
 else
  some x22
 partial_fixpoint
def M.q2s  (p0:List Z):Option q04:=do
 let j16←(do
   M.z0u p0 0 []:Option (List q04))
 some (q04.mk 5 [] j16 [])
def M.z0b (p0:q01) (x33:Int) (x34:Int) (x35:Z) (x36:List q04) (x37:List Z):Option (Int × Z × (List q04) × (List Z)):=do
 if (decide (x33<([(q05.mk [105,115,115] p0.ztl),(q05.mk [115,117,98] p0.ztn),(q05.mk [97,117,100] p0.ztk),(q05.mk B12 p0.z03),(q05.mk [106,116,105] p0.ztm),(q05.mk B38 p0.z0q)].length:Int))) then
  let x43←ix [(q05.mk [105,115,115] p0.ztl),(q05.mk [115,117,98] p0.ztn),(q05.mk [97,117,100] p0.ztk),(q05.mk B12 p0.z03),(q05.mk [106,116,105] p0.ztm),(q05.mk B38 p0.z0q)] x33
  let a44←M.q2r x43.z3g
  let a46←M.q1q (q08.mk (q04.mk x34 x35 x36 x37)) true x43.zo a44
  M.z0b p0 (yb .i64 (x33+1)) a46.z1n.zh a46.z1n.z0i a46.z1n.zk a46.z1n.z08
 else
  some (x34,x35,x36,x37)
 partial_fixpoint
def M.q1b  (p0:q01):Option (q04 × Bool):=do
 let a1←M.q1y
 let j27←(do
   M.z0b p0 0 a1.z1n.zh a1.z1n.z0i a1.z1n.zk a1.z1n.z08:Option (Int × Z × (List q04) × (List Z)))
 let a48←M.q1g p0.zzc
 let a50←M.q1q (q08.mk (q04.mk j27.1 j27.2.1 j27.2.2.1 j27.2.2.2)) true [105,97,116] a48
 let a52←M.q1g p0.zzb
 let a54←M.q1q a50 true [101,120,112] a52
 let a56←M.q1g p0.z3v
 let a58←M.q1q a54 true B42 a56
 let a60←M.q2s p0.z0a
 let a62←M.q1q a58 true B20 a60
 let a64←M.q2s p0.znz
 let a66←M.q1q a62 true [97,99,116] a64
 let s68←cat p0.ztl p0.ztn
 let s69←cat s68 p0.ztk
 let s70←cat s69 p0.z03
 let s71←cat s70 p0.ztm
 let s72←cat s71 p0.z0q
 some (a66.z1n,(!((((((decide (s72=[]))&&(decide (p0.zzc=0)))&&(decide (p0.zzb=0)))&&(decide (p0.z3v=0)))&&(decide ((p0.z0a.length:Int)=0)))&&(decide ((p0.znz.length:Int)=0)))))
def M.z62 (p0:List q02) (x27:Int) (x28:List q04) (x29:List Z):Option ((List q04) × (List Z)):=do
 if (decide (x27<(p0.length:Int))) then
  let x35←ix p0 x27
  let l36←app 16 x29 [x35.zo]
  let a37←M.q2s x35.z7m
  let l39←app 72 x28 [(q04.mk a37.zh a37.z0i a37.zk a37.z08)]
  M.z62 p0 (yb .i64 (x27+1)) l39 l36
 else
  some (x28,x29)
 partial_fixpoint
def M.q1x  (p0:List q02):Option q04:=do
 let j21←(do
   M.z62 p0 0 [] []:Option ((List q04) × (List Z)))
 some (q04.mk 6 [] j21.1 j21.2)
def M.z16 (p0:q06) (x37:Int) (x38:Int) (x39:Z) (x40:List q04) (x41:List Z):Option (Int × Z × (List q04) × (List Z)):=do
 if (decide (x37<([(q05.mk B52 p0.zay),(q05.mk B23 p0.z7k),(q05.mk B11 p0.z5z),(q05.mk B34 p0.gId),(q05.mk B63 p0.z0i)].length:Int))) then
  let x47←ix [(q05.mk B52 p0.zay),(q05.mk B23 p0.z7k),(q05.mk B11 p0.z5z),(q05.mk B34 p0.gId),(q05.mk B63 p0.z0i)] x37
  let a48←M.q2r x47.z3g
  let a50←M.q1q (q08.mk (q04.mk x38 x39 x40 x41)) (!decide (x47.z3g=[])) x47.zo a48
  M.z16 p0 (yb .i64 (x37+1)) a50.z1n.zh a50.z1n.z0i a50.z1n.zk a50.z1n.z08
 else
  some (x38,x39,x40,x41)
 partial_fixpoint
def M.z18 (p0:q06) (x158:Int) (x159:List q04):Option (List q04):=do
 if (decide (x158<(p0.z9o.length:Int))) then
  let x180←ix p0.z9o x158
  let a181←M.q1y
  let a183←M.q2r x180.gId
  let a185←M.q1q a181 true [105,100] a183
  let a187←M.q2r x180.zh
  let a189←M.q1q a185 true [107,105,110,100] a187
  let a191←M.q2r x180.z5v
  let a193←M.q1q a189 true [116,97,103] a191
  let a195←M.q1x x180.zt
  let a197←M.q1q a193 true B33 a195
  let l199←app 72 x159 [(q04.mk a197.z1n.zh a197.z1n.z0i a197.z1n.zk a197.z1n.z08)]
  M.z18 p0 (yb .i64 (x158+1)) l199
 else
  some x159
 partial_fixpoint
def M.q13  (p0:q06):Option q04:=do
 let a1←M.q1y
 let a3←M.q1g p0.z22
 let a5←M.q1q a1 (!decide (p0.z22=0)) B88 a3
 let j31←(do
   M.z16 p0 0 a5.z1n.zh a5.z1n.z0i a5.z1n.zk a5.z1n.z08:Option (Int × Z × (List q04) × (List Z)))
 let a52←M.q2s p0.z0a
 let a54←M.q1q (q08.mk (q04.mk j31.1 j31.2.1 j31.2.2.1 j31.2.2.2)) (decide (0<(p0.z0a.length:Int))) B20 a52
 let a56←M.q1g p0.z4p
 let a58←M.q1q a54 (!decide (p0.z4p=0)) B45 a56
 let a60←M.q1g p0.z3v
 let a62←M.q1q a58 (!decide (p0.z3v=0)) B42 a60
 let a64←M.q1g p0.z7d
 let a66←M.q1q a62 (!decide (p0.z7d=0)) B89 a64
 let a68←M.q1q a66 p0.zbi B81 (q04.mk 2 [] [] [])
 let a70←M.q1b p0.z47
 let a72←M.q1q a68 a70.2 B82 a70.1
 let j137←(do
   M.z18 p0 0 []:Option (List q04))
 let a200←M.q1q a72 (decide (0<(j137.length:Int))) B78 (q04.mk 5 [] j137 [])
 some a200.z1n
def M.q3h  (p0:Z):Option Bool:=do
 let a1←M.z1f p0
 some (!a1)
def M.zj (p0:List Z) (x15:Int):Option (Jn Int Unit):=do
 if (decide (x15<(p0.length:Int))) then
  let x19←ix p0 x15
  let a20←M.q3h x19
  if a20 then
   some (.done x15)
  else
   M.zj p0 (yb .i64 (x15+1))
 else
  some (.go ())
 partial_fixpoint
def M.q75  (p0:List Z):Option Int:=do
 let q11←(do
   M.zj p0 0:Option (Jn Int Unit))
 match q11 with
 | .done r=>some r
 | .go j11 =>
  some (-1)
def M.q70  (p0:List Z):Option Bool:=do
 let a1←M.q75 p0
 some (decide (0≤a1))
def M.z2k (p0:q04) (self_q3g:q04→Int→Option (Rs Unit)) (p1:Int) (x108:Int):Option (Rs Unit):=do
 if (decide (x108<(p0.zk.length:Int))) then
  let x114←ix p0.zk x108
  let a115←self_q3g x114 (yb .i64 (p1+1))
  match a115 with
  | .pan e118 =>
   some (.pan e118)
  | .ok a117 =>
   M.z2k p0 self_q3g p1 (yb .i64 (x108+1))
 else
  some (.ok ())
 partial_fixpoint
def M.q3g:Nat→q04→Int→Option (Rs Unit)
 | 0,_,_=>none
 | fuel+1,p0,p1=>do
  let a5←M.q3k ((!((decide (p0.zh=5))||(decide (p0.zh=6))))||(decide (p1<16))) 21
  match a5 with
  | .pan e8 =>
   some (.pan e8)
  | .ok a7 =>
   let a11←M.q3k ((decide (0≤p0.zh))&&(decide (p0.zh<7))) 23
   match a11 with
   | .pan e14 =>
    some (.pan e14)
   | .ok a13 =>
    let a17←M.q3k (((decide (p0.zh=5))||(decide (p0.zh=6)))||(decide ((p0.zk.length:Int)=0))) 23
    match a17 with
    | .pan e20 =>
     some (.pan e20)
    | .ok a19 =>
     let a26←M.q3k (((decide (p0.zh=6))&&(decide ((p0.z08.length:Int)=(p0.zk.length:Int))))||((decide ((p0.z08.length:Int)=0))&&(!decide (p0.zh=6)))) 23
     match a26 with
     | .pan e29 =>
      some (.pan e29)
     | .ok a28 =>
      let a30←M.q70 p0.z08
      let j35←(do
        if (!a30) then
         let a36←M.single p0.z08
         some a36
        else
         some false:Option Bool)
      let a38←M.q3k j35 23
      match a38 with
      | .pan e41 =>
       some (.pan e41)
      | .ok a40 =>
       let q82←(do
         if (decide (p0.zh=3)) then
          let j86←(do
            if (!decide (p0.z0i=[])) then
             let a87←M.q3l p0.z0i
             some (decide (a87=(p0.z0i.length:Int)))
            else
             some false:Option Bool)
          let a89←M.q3k j86 23
          match a89 with
          | .pan e92 =>
           some (.done (.pan e92))
          | .ok a91 =>
           some (.go ())
         else
          if (decide (p0.zh=4)) then
           let a93←M.z1f p0.z0i
           let a95←M.q3k a93 23
           match a95 with
           | .pan e98 =>
            some (.done (.pan e98))
           | .ok a97 =>
            some (.go ())
          else
           let a99←M.q3k (decide (p0.z0i=[])) 23
           match a99 with
           | .pan e102 =>
            some (.done (.pan e102))
           | .ok a101 =>
            some (.go ()):Option (Jn (Rs Unit) Unit))
       match q82 with
       | .done r=>some r
       | .go j82 =>
        M.z2k p0 (M.q3g fuel) p1 0
def M.q3a (fuel:Nat) (p0:q04):Option Int:=do
 let a1←M.q3g fuel p0 0
 match a1 with
 | .pan e4 =>
  some e4
 | .ok a3 =>
  some 0
def M.z1q (p1:Z) (x67:Int) (x68:List Int):Option (List Int):=do
 if (decide (x67<((unb p1).length:Int))) then
  let x84←ix (unb p1) x67
  let a85←M.indexByte [34,92,8,9,10,12,13] x84
  if (decide (0≤a85)) then
   let s87←sub ([34,92,98,116,110,102,114]:Z) a85 (yb .i64 (a85+1))
   let s88←cat [92] s87
   let a89←M.q7b x68 s88
   M.z1q p1 (yb .i64 (x67+1)) a89.2
  else
   if (decide (x84<32)) then
    let s91←sub ([48,49]:Z) (zdm .u8 x84 4) (yb .u8 ((zdm .u8 x84 4)+1))
    let s92←cat [92,117,48,48] s91
    let s93←sub ([48,49,50,51,52,53,54,55,56,57,97,98,99,100,101,102]:Z) (z7a .u8 x84 15) (yb .u8 ((z7a .u8 x84 15)+1))
    let s94←cat s92 s93
    let a95←M.q7b x68 s94
    M.z1q p1 (yb .i64 (x67+1)) a95.2
   else
    let a97←M.q7a x68 x84
    M.z1q p1 (yb .i64 (x67+1)) a97
 else
  some x68
 partial_fixpoint
def M.q3m  (p0:List Int) (p1:Z):Option (List Int):=do
 let a1←M.q7a p0 34
 let j51←(do
   let _←chk (decide (p1.length≤9223372036854775807))
   M.z1q p1 0 a1:Option (List Int))
 let a99←M.q7a j51 34
 some a99
def M.z2s (p1:q04) (self_q3j:(List Int)→q04→Option (List Int)) (x92:Int) (x93:List Int):Option (List Int):=do
 if (decide (x92<(p1.zk.length:Int))) then
  let x112←ix p1.zk x92
  let j118←(do
    if (decide (0<x92)) then
     let a119←M.q7a x93 44
     some a119
    else
     some x93:Option (List Int))
  if (decide (p1.zh=6)) then
   let x121←ix p1.z08 x92
   let a122←M.q3m j118 x121
   let a124←M.q7a a122 58
   let a126←self_q3j a124 x112
   M.z2s p1 self_q3j (yb .i64 (x92+1)) a126
  else
   let a128←self_q3j j118 x112
   M.z2s p1 self_q3j (yb .i64 (x92+1)) a128
 else
  some x93
 partial_fixpoint
def M.q3j:Nat→(List Int)→q04→Option (List Int)
 | 0,_,_=>none
 | fuel+1,p0,p1=>do
  if (decide (p1.zh=0)) then
   let a1←M.q7b p0 B28
   some a1.2
  else
   if (decide (p1.zh=1)) then
    let a3←M.q7b p0 B21
    some a3.2
   else
    if (decide (p1.zh=2)) then
     let a5←M.q7b p0 B29
     some a5.2
    else
     if (decide (p1.zh=3)) then
      let a7←M.q7b p0 p1.z0i
      some a7.2
     else
      if (decide (p1.zh=4)) then
       let a9←M.q3m p0 p1.z0i
       some a9
      else
       let j12←(do
         if (decide (p1.zh=6)) then
          some [123,125]
         else
          some [91,93]:Option Z)
       let c13←ix j12 0
       let a14←M.q7a p0 (c13.toNat:Int)
       let j73←(do
         M.z2s p1 (M.q3j fuel) 0 a14:Option (List Int))
       let c130←ix j12 1
       let a131←M.q7a j73 (c130.toNat:Int)
       some a131
def M.q79  (p0:List Int):Option Int:=do
 some (p0.length:Int)
def M.q3e (fuel:Nat) (p0:q04):Option (Z × Int):=do
 let a3←M.q3a fuel p0
 if (!decide (a3=0)) then
  some ([],a3)
 else
  let a5←M.q3j fuel ([]:List Int) p0
  let a7←M.q79 a5
  if (decide (16384<a7)) then
   some ([],22)
  else
   let a9←M.zn a5
   some (a9,0)
def M.q30  (p0:Int):Option Z:=do
 let m1←some (z3u ([]:List (Int × Z)) 200 [79,75])
 let m2←some (z3u m1 201 [67,114,101,97,116,101,100])
 let m3←some (z3u m2 400 [66,97,100,32,82,101,113,117,101,115,116])
 let m4←some (z3u m3 401 [85,110,97,117,116,104,111,114,105,122,101,100])
 let m5←some (z3u m4 403 [70,111,114,98,105,100,100,101,110])
 let m6←some (z3u m5 404 [78,111,116,32,70,111,117,110,100])
 let m7←some (z3u m6 405 [77,101,116,104,111,100,32,78,111,116,32,65,108,108,111,119,101,100])
 let m8←some (z3u m7 409 [67,111,110,102,108,105,99,116])
 let m9←some (z3u m8 412 [80,114,101,99,111,110,100,105,116,105,111,110,32,70,97,105,108,101,100])
 let m10←some (z3u m9 413 [67,111,110,116,101,110,116,32,84,111,111,32,76,97,114,103,101])
 let m11←some (z3u m10 429 [84,111,111,32,77,97,110,121,32,82,101,113,117,101,115,116,115])
 let m12←some (z3u m11 431 [82,101,113,117,101,115,116,32,72,101,97,100,101,114,32,70,105,101,108,100,115,32,84,111,111,32,76,97,114,103,101])
 let m13←some (z3u m12 500 [73,110,116,101,114,110,97,108,32,83,101,114,118,101,114,32,69,114,114,111,114])
 let m14←some (z3u m13 503 [83,101,114,118,105,99,101,32,85,110,97,118,97,105,108,97,98,108,101])
 let m15←some (z3u m14 507 [73,110,115,117,102,102,105,99,105,101,110,116,32,83,116,111,114,97,103,101])
 some (z7q m15 p0 [])
def M.q7g  (p0:Z):Option Bool:=do
 let j4←(do
   if (decide ((p0.length:Int)≤128)) then
    let a5←M.z1f p0
    some a5
   else
    some false:Option Bool)
 some j4
def M.q7h  (p0:Int):Option Bool:=do
 some ((decide (0≤p0))&&(decide (p0≤1099511627776)))
def M.q7i  (p0:Z):Option Bool:=do
 let j6←(do
   if ((!decide (p0=[]))&&(decide ((p0.length:Int)≤32))) then
    let a7←M.z3d p0
    some (!a7)
   else
    some false:Option Bool)
 some j6
def M.z0f (l16:List Z) (x21:Int):Option (Jn Int Unit):=do
 if (decide (x21<(l16.length:Int))) then
  let x26←ix l16 x21
  let x27←ix l16 x21
  let a28←M.q7g x27
  if (!a28) then
   some (.done 142)
  else
   M.z0f l16 (yb .i64 (x21+1))
 else
  some (.go ())
 partial_fixpoint
def M.z0g (p0:q01) (x104:Int):Option (Jn Int Unit):=do
 if (decide (x104<(p0.z0a.length:Int))) then
  let x112←ix p0.z0a x104
  let a113←M.q7i x112
  let j117←(do
    if (!a113) then
     some true
    else
     if (decide (0<x104)) then
      let x118←ix p0.z0a (yb .i64 (x104 - 1))
      some (!slt x118 x112)
     else
      some false:Option Bool)
  if j117 then
   some (.done 142)
  else
   M.z0g p0 (yb .i64 (x104+1))
 else
  some (.go ())
 partial_fixpoint
def M.q7f  (p0:q01):Option Int:=do
 let q15←(do
   let l16←app 16 [p0.ztl,p0.ztn,p0.ztk,p0.z03,p0.ztm,p0.z0q] p0.znz
   M.z0f l16 0:Option (Jn Int Unit))
 match q15 with
 | .done r=>some r
 | .go j15 =>
  let a52←M.q7h p0.zzc
  let j57←(do
    if (!a52) then
     some true
    else
     let a58←M.q7h p0.zzb
     some (!a58):Option Bool)
  let j71←(do
    if ((((j57||(decide (p0.z3v<0)))||(decide (9<p0.z3v)))||(decide (16<(p0.z0a.length:Int))))||(decide (4<(p0.znz.length:Int)))) then
     some true
    else
     let a72←M.q71 p0.znz []
     some a72:Option Bool)
  if j71 then
   some 142
  else
   let q96←(do
     M.z0g p0 0:Option (Jn Int Unit))
   match q96 with
   | .done r=>some r
   | .go j96 =>
    some 0
def M.q1m  (p0:Int) (p1:Z) (p2:Int):Option Z:=do
 let a1←M.itoa p0
 let s3←cat [72,84,84,80,47,49,46,49,32] a1
 let s4←cat s3 [32]
 let a5←M.q30 p0
 let s7←cat s4 a5
 let s8←cat s7 [13,10]
 let s9←cat s8 [99,111,110,116,101,110,116,45,116,121,112,101,58,32,97,112,112,108,105,99,97,116,105,111,110,47,106,115,111,110]
 let s10←cat s9 [13,10]
 let j20←(do
   if (!decide (p1=[])) then
    let s21←cat B48 p1
    let s22←cat s21 [59,32,80,97,116,104,61,47,59,32,72,116,116,112,79,110,108,121]
    let s23←cat s22 [13,10]
    let s24←cat s10 s23
    some s24
   else
    some s10:Option Z)
 let s25←cat j20 B25
 let a26←M.itoa p2
 let s28←cat s25 a26
 let s29←cat s28 [13,10]
 let s30←cat s29 [13,10]
 some s30
def M.z0s (p0:q06) (x15:Int):Option (Jn (Z × Int) Unit):=do
 if (decide (x15<([p0.z22,p0.z4p,p0.z3v,p0.z7d].length:Int))) then
  let x19←ix [p0.z22,p0.z4p,p0.z3v,p0.z7d] x15
  if ((decide (x19<0))||(decide (1000000000000000≤x19))) then
   some (.done ([],224))
  else
   M.z0s p0 (yb .i64 (x15+1))
 else
  some (.go ())
 partial_fixpoint
def M.q0v (fuel:Nat) (p0:q06):Option (Z × Int):=do
 let q11←(do
   M.z0s p0 0:Option (Jn (Z × Int) Unit))
 match q11 with
 | .done r=>some r
 | .go j11 =>
  let a22←M.q13 p0
  let a24←M.q3e fuel a22
  let j47←(do
    if (!decide (a24.2=0)) then
     some true
    else
     let a48←M.q30 p0.zbk
     some (decide (a48=[])):Option Bool)
  let j53←(do
    if j47 then
     some true
    else
     let a54←M.trim p0.zq B1
     some (!decide (a54=[])):Option Bool)
  let j59←(do
    if j53 then
     some true
    else
     let a60←M.q7f p0.z47
     some (!decide (a60=0)):Option Bool)
  if j59 then
   some ([],224)
  else
   let a62←M.q1m p0.zbk p0.zq (a24.1.length:Int)
   if (decide (8192<(a62.length:Int))) then
    some ([],224)
   else
    let s64←cat a62 a24.1
    some (s64,0)
def M.q37  (p0 p1:Z):Option Z:=do
 let a1←M.q36 p0 p1
 if a1 then
  let s3←sub p0 (p1.length:Int) (p0.length:Int)
  some s3
 else
  some p0
def M.q7e  (p0 p1:Z):Option Z:=do
 let a1←M.q37 p0 p1
 some a1
def M.q25  (p0:q09) (p1:Z):Option q09:=do
 let a1←M.q3c p0.gv p1
 some (q09.mk a1.1)
def M.q3b  (p0:q04):Option (Int × Bool):=do
 let a1←M.q7e p0.z0i [45]
 let a3←M.atoi p0.z0i
 let j12←(do
   if (((!decide (p0.zh=3))||(!a3.2))||(decide (15<(a1.length:Int)))) then
    some true
   else
    let a13←M.itoa a3.1
    some (!decide (a13=p0.z0i)):Option Bool)
 if j12 then
  some (0,false)
 else
  some (a3.1,true)
def M.q26  (p0:q09) (p1:Z):Option Int:=do
 let a1←M.q25 p0 p1
 let a3←M.q3b a1.gv
 some a3.1
def M.q28  (p0:q09) (p1:Z):Option Z:=do
 let a1←M.q25 p0 p1
 if (decide (a1.gv.zh=4)) then
  some a1.gv.z0i
 else
  some []
def M.q2a  (p0:q09) (p1:Z):Option (List Z):=do
 let a1←M.q25 p0 p1
 let a3←M.q3f a1.gv
 some a3.1
def M.z0t (a89:q09) (x103:Int) (x104:List q07):Option (List q07):=do
 if (decide (x103<(a89.gv.zk.length:Int))) then
  let x117←ix a89.gv.zk x103
  let a118←M.q25 (q09.mk x117) B33
  let a120←M.q1p a118.gv
  let a122←M.q28 (q09.mk x117) [105,100]
  let a124←M.q28 (q09.mk x117) [107,105,110,100]
  let a126←M.q28 (q09.mk x117) [116,97,103]
  let l128←app 72 x104 [(q07.mk a122 a124 a126 a120.1)]
  M.z0t a89 (yb .i64 (x103+1)) l128
 else
  some x104
 partial_fixpoint
def M.q1o  (p0:q09):Option q06:=do
 let a1←M.q26 p0 B88
 let a3←M.q28 p0 B52
 let a5←M.q28 p0 B23
 let a7←M.q28 p0 B11
 let a9←M.q28 p0 B34
 let a11←M.q28 p0 B63
 let a13←M.q2a p0 B20
 let a15←M.q26 p0 B45
 let a17←M.q26 p0 B42
 let a19←M.q26 p0 B89
 let a21←M.q25 p0 B81
 let a23←M.q25 p0 B82
 let a25←M.q28 a23 [105,115,115]
 let a27←M.q28 a23 [115,117,98]
 let a29←M.q28 a23 [97,117,100]
 let a31←M.q28 a23 B12
 let a33←M.q28 a23 [106,116,105]
 let a35←M.q28 a23 B38
 let a37←M.q26 a23 [105,97,116]
 let a39←M.q26 a23 [101,120,112]
 let a41←M.q26 a23 B42
 let a43←M.q2a a23 B20
 let a45←M.q2a a23 [97,99,116]
 let j88←(do
   let a89←M.q25 p0 B78
   M.z0t a89 0 []:Option (List q07))
 some (q06.mk 0 a1 [] a3 a5 a7 a9 a11 a13 a15 a17 a19 (decide (a21.gv.zh=2)) (q01.mk a25 a27 a29 a31 a33 a35 a37 a39 a41 a43 a45) j88)
def M.q0t (fuel:Nat) (p0:Z):Option (q06 × Int × Int):=do
 let a1←M.q1h p0
 let a5←M.q1s ((decide (0<a1))||(decide ((p0.length:Int)<8192))) 220
 match a5 with
 | .pan e8 =>
  some ((q06.mk 0 0 [] [] [] [] [] [] [] 0 0 0 false (q01.mk [] [] [] [] [] [] 0 0 0 [] []) []),0,e8)
 | .ok a7 =>
  let a9←M.q1s (decide (0<a1)) 223
  match a9 with
  | .pan e12 =>
   some ((q06.mk 0 0 [] [] [] [] [] [] [] 0 0 0 false (q01.mk [] [] [] [] [] [] 0 0 0 [] []) []),0,e12)
  | .ok a11 =>
   let s13←sub p0 0 (yb .i64 (a1 - 4))
   let a14←M.split s13 [13,10]
   let j18←(do
     if (decide (3≤(a14.length:Int))) then
      let x19←ix a14 0
      some (decide (12<(x19.length:Int)))
     else
      some false:Option Bool)
   let a20←M.q1s j18 220
   match a20 with
   | .pan e23 =>
    some ((q06.mk 0 0 [] [] [] [] [] [] [] 0 0 0 false (q01.mk [] [] [] [] [] [] 0 0 0 [] []) []),0,e23)
   | .ok a22 =>
    let x24←ix a14 0
    let s25←sub x24 9 12
    let a26←M.q1w s25 3
    let j31←(do
      if a26.2 then
       let a32←M.q30 a26.1
       some (!decide (a32=[]))
      else
       some false:Option Bool)
    let a34←M.q1s j31 220
    match a34 with
    | .pan e37 =>
     some ((q06.mk 0 0 [] [] [] [] [] [] [] 0 0 0 false (q01.mk [] [] [] [] [] [] 0 0 0 [] []) []),0,e37)
    | .ok a36 =>
     let j49←(do
       if (decide ((a14.length:Int)=4)) then
        let x50←ix a14 2
        let a51←M.q7e x50 B48
        let a53←M.cut a51 [59]
        some a53.1
       else
        some []:Option Z)
     let a55←M.trim j49 B1
     let a57←M.q1s (decide (a55=[])) 220
     match a57 with
     | .pan e60 =>
      some ((q06.mk 0 0 [] [] [] [] [] [] [] 0 0 0 false (q01.mk [] [] [] [] [] [] 0 0 0 [] []) []),0,e60)
     | .ok a59 =>
      let x61←ix a14 (yb .i64 ((a14.length:Int) - 1))
      let a62←M.q7e x61 B25
      let a64←M.q1w a62 5
      let q96←(do
        if a64.2 then
         if (decide (a64.1≤16384)) then
          let s97←sub p0 0 a1
          let a98←M.q1m a26.1 j49 a64.1
          let a100←M.q1s (decide (a98=s97)) 220
          match a100 with
          | .pan e103 =>
           some (.done ((q06.mk 0 0 [] [] [] [] [] [] [] 0 0 0 false (q01.mk [] [] [] [] [] [] 0 0 0 [] []) []),0,e103))
          | .ok a102 =>
           some (.go ())
         else
          let a104←M.q1s false 220
          match a104 with
          | .pan e107 =>
           some (.done ((q06.mk 0 0 [] [] [] [] [] [] [] 0 0 0 false (q01.mk [] [] [] [] [] [] 0 0 0 [] []) []),0,e107))
          | .ok a106 =>
           some (.go ())
        else
         let a108←M.q1s false 220
         match a108 with
         | .pan e111 =>
          some (.done ((q06.mk 0 0 [] [] [] [] [] [] [] 0 0 0 false (q01.mk [] [] [] [] [] [] 0 0 0 [] []) []),0,e111))
         | .ok a110 =>
          some (.go ()):Option (Jn (q06 × Int × Int) Unit))
      match q96 with
      | .done r=>some r
      | .go j96 =>
       let a112←M.q1s (decide (a64.1≤(yb .i64 ((p0.length:Int) - a1)))) 223
       match a112 with
       | .pan e115 =>
        some ((q06.mk 0 0 [] [] [] [] [] [] [] 0 0 0 false (q01.mk [] [] [] [] [] [] 0 0 0 [] []) []),0,e115)
       | .ok a114 =>
        let s116←sub p0 a1 (yb .i64 (a1+a64.1))
        let a117←M.q3d fuel s116
        let a119←M.q1s (decide (a117.2=0)) 220
        match a119 with
        | .pan e122 =>
         some ((q06.mk 0 0 [] [] [] [] [] [] [] 0 0 0 false (q01.mk [] [] [] [] [] [] 0 0 0 [] []) []),0,e122)
        | .ok a121 =>
         let a123←M.q1o (q09.mk a117.1)
         let a125←M.q0v fuel (q06.mk a26.1 a123.z22 j49 a123.zay a123.z7k a123.z5z a123.gId a123.z0i a123.z0a a123.z4p a123.z3v a123.z7d a123.zbi a123.z47 a123.z9o)
         let j129←(do
           if (decide (a125.2=0)) then
            let s130←sub p0 0 (yb .i64 (a1+a64.1))
            some (decide (a125.1=s130))
           else
            some false:Option Bool)
         let a131←M.q1s j129 220
         match a131 with
         | .pan e134 =>
          some ((q06.mk 0 0 [] [] [] [] [] [] [] 0 0 0 false (q01.mk [] [] [] [] [] [] 0 0 0 [] []) []),0,e134)
         | .ok a133 =>
          some ((q06.mk a26.1 a123.z22 j49 a123.zay a123.z7k a123.z5z a123.gId a123.z0i a123.z0a a123.z4p a123.z3v a123.z7d a123.zbi a123.z47 a123.z9o),(yb .i64 (a1+a64.1)),0)
def M.q2i  (p0:Int) (p1 p2 p3:Z) (p4:q0a) (p5:q03):Option q03:=do
 if ((!decide ((z7a .i64 p4.zcg p0)=0))&&(!decide (p1=[]))) then
  let l3←app 32 p5.z0h [(q05.mk p2 p3)]
  some (q03.mk p5.z02 p5.z09 [] l3 p5.z01)
 else
  some (q03.mk p5.z02 p5.z09 [] p5.z0h p5.z01)
def M.z5j (x233:Int) (x323:Int) (x341:Int) (x342:List Int):Option (Int × (List Int)):=do
 if (decide (6≤x341)) then
  let _←chk (decide (0≤(yb .i64 (x341 - 6))))
  let c346←ix (B1:Z) (z7a .i64 (zdm .i64 (orI .i64 (z6p .i64 x233 8) (yb .i64 x323)) (yb .i64 (x341 - 6))) 63)
  let a347←M.q7a x342 (c346.toNat:Int)
  M.z5j x233 x323 (yb .i64 (x341 - 6)) a347
 else
  some (x341,x342)
 partial_fixpoint
def M.z5i (p0:Z) (x233:Int) (x234:Int) (x235:Int) (x236:List Int):Option (Int × Int × (List Int)):=do
 if (decide (x235<((unb p0).length:Int))) then
  let j322←(do
    let x323←ix (unb p0) x235
    let j337←(do
      M.z5j x233 x323 (yb .i64 (x234+8)) x236:Option (Int × (List Int)))
    let _←chk (decide (0≤j337.1))
    some ((z7a .i64 (orI .i64 (z6p .i64 x233 8) (yb .i64 x323)) (yb .i64 ((z6p .i64 1 j337.1) - 1))),j337.1,j337.2):Option (Int × Int × (List Int)))
  M.z5i p0 j322.1 j322.2.1 (yb .i64 (x235+1)) j322.2.2
 else
  some (x233,x234,x236)
 partial_fixpoint
def M.q0h  (p0:Z):Option Z:=do
 let j176←(do
   let _←chk (decide (p0.length≤9223372036854775807))
   M.z5i p0 0 0 0 ([]:List Int):Option (Int × Int × (List Int)))
 if (decide (0<j176.2.1)) then
  let _←chk (decide (0≤(yb .i64 (6 - j176.2.1))))
  let c349←ix (B1:Z) (z7a .i64 (z6p .i64 j176.1 (yb .i64 (6 - j176.2.1))) 63)
  let a350←M.q7a j176.2.2 (c349.toNat:Int)
  let a352←M.zn a350
  some a352
 else
  let a354←M.zn j176.2.2
  some a354
def M.zl (p0:Z) (p1:Z) (x105:Int) (x106:List Int):Option (List Int):=do
 if (decide (x105<((unb p0).length:Int))) then
  let x132←ix (unb p0) x105
  let j144←(do
    if ((((decide (65≤x132))&&(decide (x132≤90)))||((decide (97≤x132))&&(decide (x132≤122))))||((decide (48≤x132))&&(decide (x132≤57)))) then
     some true
    else
     let a145←M.z1b [45,46,95,126] x132
     some (decide (0≤a145)):Option Bool)
  if j144 then
   let a147←M.q7a x106 x132
   M.zl p0 p1 (yb .i64 (x105+1)) a147
  else
   if (decide (x132=32)) then
    let a149←M.q7b x106 p1
    M.zl p0 p1 (yb .i64 (x105+1)) a149.2
   else
    let s151←sub ([48,49,50,51,52,53,54,55,56,57,65,66,67,68,69,70]:Z) (zdm .u8 x132 4) (yb .u8 ((zdm .u8 x132 4)+1))
    let s152←cat [37] s151
    let s153←sub ([48,49,50,51,52,53,54,55,56,57,65,66,67,68,69,70]:Z) (z7a .u8 x132 15) (yb .u8 ((z7a .u8 x132 15)+1))
    let s154←cat s152 s153
    let a155←M.q7b x106 s154
    M.zl p0 p1 (yb .i64 (x105+1)) a155.2
 else
  some x106
 partial_fixpoint
def M.q0p  (p0 p1:Z):Option Z:=do
 let j79←(do
   let _←chk (decide (p0.length≤9223372036854775807))
   M.zl p0 p1 0 ([]:List Int):Option (List Int))
 let a157←M.zn j79
 some a157
def M.z07 (p0:List q05) (x37:List Z) (x38:Int):Option (List Z):=do
 if (decide (x38<(p0.length:Int))) then
  let x47←ix p0 x38
  let a48←M.q0p x47.zo [43]
  let s50←cat a48 [61]
  let a51←M.q0p x47.z3g [43]
  let s53←cat s50 a51
  let l54←app 16 x37 [s53]
  M.z07 p0 l54 (yb .i64 (x38+1))
 else
  some x37
 partial_fixpoint
def M.q0i  (p0:List q05):Option (Z × Int):=do
 if (decide (64<(p0.length:Int))) then
  some ([],14)
 else
  let j28←(do
    M.z07 p0 [] 0:Option (List Z))
  let a55←M.join j28 [38]
  if (decide (8192<(a55.length:Int))) then
   some ([],14)
  else
   some (a55,0)
def M.zv (a21:(List Z)) (p1:q00) (x27:Int) (x28:List Z):Option (List Z):=do
 if (decide (x27<(a21.length:Int))) then
  let x33←ix a21 x27
  let j35←(do
    if (decide (x33=[79,70])) then
     some p1.gOf
    else
     if (decide (x33=B67)) then
      some p1.zo
     else
      some x33:Option Z)
  let l36←app 16 x28 [j35]
  M.zv a21 p1 (yb .i64 (x27+1)) l36
 else
  some x28
 partial_fixpoint
def M.zp (p0:q0a) (p1:q00) (x235:List q05) (x236:Int):Option (List q05):=do
 if (decide (x236<(p0.z84.length:Int))) then
  let x283←ix p0.z84 x236
  let j313←(do
    let a314←M.q2u x283 p1
    if a314=24 then
     if (decide (p1.z2y=0)) then
      some []
     else
      let a316←M.itoa p1.z2y
      some a316
    else
     if a314=25 then
      if (decide (p1.z1d=0)) then
       some []
      else
       let a318←M.itoa p1.z1d
       some a318
     else
      if a314=1000000 then
       if x283.zsf then
        let a320←M.q0q x283.z83 p1
        let s322←q00.zxs p1 a320
        let a323←M.q0h s322
        some a323
       else
        if (!Nat.beq x283.z83 NF) then
         let a325←M.q0q x283.z83 p1
         let s327←q00.zxs p1 a325
         some s327
        else
         some x283.zft
      else
       none:Option Z)
  if (!decide (j313=[])) then
   let l328←app 32 x235 [(q05.mk x283.zfu j313)]
   M.zp p0 p1 l328 (yb .i64 (x236+1))
  else
   M.zp p0 p1 x235 (yb .i64 (x236+1))
 else
  some x235
 partial_fixpoint
def M.q2h (fuel:Nat) (p0:q0a) (p1:q00):Option (q03 × Int):=do
 let j19←(do
   let s20←sub p0.zhb 1 (p0.zhb.length:Int)
   let a21←M.split s20 [47]
   M.zv a21 p1 0 []:Option (List Z))
 let s37←cat B57 p1.zq
 let a38←M.q2i 1 p1.zq B50 s37 p0 (q03.mk p0.z8r j19 [] [(q05.mk B47 [105,100,112])] [])
 let s40←cat B46 p1.z1p
 let a41←M.q2i 2 p1.z1p B24 s40 p0 (q03.mk a38.z02 a38.z09 [] a38.z0h a38.z01)
 let s43←cat [34] p1.z5v
 let s44←cat s43 [34]
 let a45←M.q2i 4 p1.z5v B39 s44 p0 (q03.mk a41.z02 a41.z09 [] a41.z0h a41.z01)
 let j188←(do
   M.zp p0 p1 [] 0:Option (List q05))
 if (decide (p0.z5b=2)) then
  some ((q03.mk a45.z02 a45.z09 j188 a45.z0h a45.z01),0)
 else
  if (decide (p0.z5b=1)) then
   let a329←M.q0i j188
   some ((q03.mk a45.z02 a45.z09 [] a45.z0h a329.1),a329.2)
  else
   if (decide (p0.z5b=4)) then
    some ((q03.mk a45.z02 a45.z09 [] a45.z0h p1.z1j),0)
   else
    if (decide (p0.z5b=3)) then
     let a331←M.q1y
     let a333←M.q2r p1.zo
     let a335←M.q1q a331 true [105,100] a333
     let a337←M.q1x p1.zt
     let a339←M.q1q a335 true B33 a337
     let a341←M.q3e fuel a339.z1n
     some ((q03.mk a45.z02 a45.z09 [] a45.z0h a341.1),a341.2)
    else
     some ((q03.mk a45.z02 a45.z09 [] a45.z0h a45.z01),0)
def M.z2g (p0:List q05) (x55:Int) (x56:List (Z × Bool)):Option (Jn Bool (List (Z × Bool))):=do
 if (decide (x55<(p0.length:Int))) then
  let x69←ix p0 x55
  let a70←M.q1t x69.zo
  let j75←(do
    if (!a70) then
     some true
    else
     let a76←M.q2x x69.z3g
     some (!a76):Option Bool)
  let j79←(do
    if j75 then
     some true
    else
     some (z7q x56 x69.zo false):Option Bool)
  if j79 then
   some (.done false)
  else
   let m80←some (z3u x56 x69.zo true)
   M.z2g p0 (yb .i64 (x55+1)) m80
 else
  some (.go x56)
 partial_fixpoint
def M.q1n  (p0:List q05):Option Bool:=do
 let m1←some (z3u ([]:List (Z × Bool)) B27 true)
 let m2←some (z3u m1 B30 true)
 let q42←(do
   M.z2g p0 0 m2:Option (Jn Bool (List (Z × Bool))))
 match q42 with
 | .done r=>some r
 | .go j42 =>
  let j82←(do
    if (decide ((p0.length:Int)≤32)) then
     some (z7q j42 B47 false)
    else
     some false:Option Bool)
  some j82
def M.q0n  (p0:Z):Option Z:=do
 let a1←M.q0p p0 [37,50,48]
 some a1
def M.z3h (p0:q03) (x76:Int) (x77:List Int):Option (List Int):=do
 if (decide (x76<(p0.z09.length:Int))) then
  let x84←ix p0.z09 x76
  let a85←M.q0n x84
  let s87←cat [47] a85
  let a88←M.q7b x77 s87
  M.z3h p0 (yb .i64 (x76+1)) a88.2
 else
  some x77
 partial_fixpoint
def M.z3j (p0:q03) (x131:Int) (x132:List Int):Option (List Int):=do
 if (decide (x131<(p0.z0h.length:Int))) then
  let x139←ix p0.z0h x131
  let s140←cat x139.zo [58,32]
  let s141←cat s140 x139.z3g
  let s142←cat s141 [13,10]
  let a143←M.q7b x132 s142
  M.z3j p0 (yb .i64 (x131+1)) a143.2
 else
  some x132
 partial_fixpoint
def M.q0u  (p0:q03):Option (Z × Int):=do
 let a1←M.q0i p0.z0r
 let j27←(do
   if (!decide (a1.2=0)) then
    some true
   else
    let a28←M.q1r p0.z02
    some (!a28):Option Bool)
 let j37←(do
   if ((j27||(decide ((p0.z09.length:Int)=0)))||(decide (64<(p0.z09.length:Int)))) then
    some true
   else
    let a38←M.q1n p0.z0h
    some (!a38):Option Bool)
 if ((j37||((decide ((p0.z0h.length:Int)=32))&&(!decide (p0.z01=[]))))||(decide (16384<(p0.z01.length:Int)))) then
  some ([],224)
 else
  let s45←cat p0.z02 [32]
  let a46←M.q7b ([]:List Int) s45
  let j69←(do
    M.z3h p0 0 a46.2:Option (List Int))
  let j97←(do
    if (!decide (a1.1=[])) then
     let s98←cat [63] a1.1
     let a99←M.q7b j69 s98
     some a99.2
    else
     some j69:Option (List Int))
  let a101←M.q7b j97 [32,72,84,84,80,47,49,46,49,13,10]
  let j124←(do
    M.z3j p0 0 a101.2:Option (List Int))
  let j158←(do
    if (!decide (p0.z01=[])) then
     let a159←M.itoa (p0.z01.length:Int)
     let s161←cat B25 a159
     let s162←cat s161 [13,10]
     let a163←M.q7b j124 s162
     some a163.2
    else
     some j124:Option (List Int))
  let a165←M.q7b j158 [13,10]
  let a169←M.q79 a165.2
  if (decide (8192<a169)) then
   some ([],224)
  else
   let a171←M.zn a165.2
   let s173←cat a171 p0.z01
   some (s173,0)
def M.z1r (p0:List Z) (p1:List Z) (x11:Int):Option (Jn Bool Unit):=do
 if (decide (x11<(p0.length:Int))) then
  let x14←ix p0 x11
  let x15←ix p1 x11
  if (!decide (x14=x15)) then
   some (.done false)
  else
   M.z1r p0 p1 (yb .i64 (x11+1))
 else
  some (.go ())
 partial_fixpoint
def M.q73  (p0 p1:List Z):Option Bool:=do
 if (!decide ((p0.length:Int)=(p1.length:Int))) then
  some false
 else
  let q8←(do
    M.z1r p0 p1 0:Option (Jn Bool Unit))
  match q8 with
  | .done r=>some r
  | .go j8 =>
   some true
def M.q2m  (p0 p1:q02):Option Bool:=do
 let j4←(do
   if (decide (p0.zo=p1.zo)) then
    let a5←M.q73 p0.z7m p1.z7m
    some a5
   else
    some false:Option Bool)
 some j4
def M.zb (p0:List q02) (p1:List q02) (x19:Int):Option (Jn Bool Unit):=do
 if (decide (x19<(p0.length:Int))) then
  let x24←ix p0 x19
  let x25←ix p1 x19
  let a26←M.q2m x24 x25
  if (!a26) then
   some (.done false)
  else
   M.zb p0 p1 (yb .i64 (x19+1))
 else
  some (.go ())
 partial_fixpoint
def M.q72  (p0 p1:List q02):Option Bool:=do
 if (!decide ((p0.length:Int)=(p1.length:Int))) then
  some false
 else
  let q14←(do
    M.zb p0 p1 0:Option (Jn Bool Unit))
  match q14 with
  | .done r=>some r
  | .go j14 =>
   some true
def M.q2n  (p0:q00):Option (List Z):=do
 some [p0.gOf,p0.z39,p0.z38,p0.zq,p0.z22,p0.z1p,p0.z1o,p0.z03,p0.z0n,p0.zy,p0.z0a,p0.zx,p0.zm,p0.z00,p0.z0q,p0.zo,p0.z3s,p0.z01,p0.z7l,p0.z5v,p0.z0m,p0.z1j]
def M.q2l  (p0 p1:q00):Option Bool:=do
 let a3←M.q72 p0.zt p1.zt
 if (!a3) then
  some false
 else
  let a5←M.q2n p0
  let a7←M.q2n p1
  some ((((decide ((a5.getD 0 [])=(a7.getD 0 []))&&(decide ((a5.getD 1 [])=(a7.getD 1 []))&&(decide ((a5.getD 2 [])=(a7.getD 2 []))&&(decide ((a5.getD 3 [])=(a7.getD 3 []))&&(decide ((a5.getD 4 [])=(a7.getD 4 []))&&(decide ((a5.getD 5 [])=(a7.getD 5 []))&&(decide ((a5.getD 6 [])=(a7.getD 6 []))&&(decide ((a5.getD 7 [])=(a7.getD 7 []))&&(decide ((a5.getD 8 [])=(a7.getD 8 []))&&(decide ((a5.getD 9 [])=(a7.getD 9 []))&&(decide ((a5.getD 10 [])=(a7.getD 10 []))&&(decide ((a5.getD 11 [])=(a7.getD 11 []))&&(decide ((a5.getD 12 [])=(a7.getD 12 []))&&(decide ((a5.getD 13 [])=(a7.getD 13 []))&&(decide ((a5.getD 14 [])=(a7.getD 14 []))&&(decide ((a5.getD 15 [])=(a7.getD 15 []))&&(decide ((a5.getD 16 [])=(a7.getD 16 []))&&(decide ((a5.getD 17 [])=(a7.getD 17 []))&&(decide ((a5.getD 18 [])=(a7.getD 18 []))&&(decide ((a5.getD 19 [])=(a7.getD 19 []))&&(decide ((a5.getD 20 [])=(a7.getD 20 []))&&(decide ((a5.getD 21 [])=(a7.getD 21 []))&&true))))))))))))))))))))))&&(decide (p0.zh=p1.zh)))&&(decide (p0.z2y=p1.z2y)))&&(decide (p0.z1d=p1.z1d)))
def M.z05 (a56:(List q0a)) (p0:q00) (fuel:Nat) (x75:Int):Option (Jn (q03 × Int) Unit):=do
 if (decide (x75<(a56.length:Int))) then
  let x93←ix a56 x75
  if (!decide (x93.zse=p0.zh)) then
   M.z05 a56 p0 fuel (yb .i64 (x75+1))
  else
   let a94←M.q2h fuel x93 p0
   let a96←M.q0u a94.1
   let a98←M.q0r fuel a94.1
   let j107←(do
     if (((decide (a94.2=0))&&(decide (a96.2=0)))&&(decide (a98.2=0))) then
      let a108←M.q2l p0 a98.1
      some a108
     else
      some false:Option Bool)
   if j107 then
    some (.done (a94.1,0))
   else
    M.z05 a56 p0 fuel (yb .i64 (x75+1))
 else
  some (.go ())
 partial_fixpoint
def M.q0w (fuel:Nat) (p0:q00):Option (q03 × Int):=do
 let q55←(do
   let a56←M.q2j
   M.z05 a56 p0 fuel 0:Option (Jn (q03 × Int) Unit))
 match q55 with
 | .done r=>some r
 | .go j55 =>
  some ((q03.mk [] [] [] [] []),224)
def M.q0x  (p0:Int):Option Int:=do
 if (decide (p0=221)) then
  some 413
 else
  if (decide (p0=222)) then
   some 431
  else
   if (decide (p0=225)) then
    some 404
   else
    if (decide (p0=226)) then
     some 405
    else
     some 400
def M.q45 (fuel:Nat):Option Bool:=do
 let a1←M.q0s B13
 let a3←M.q0r fuel a1.1
 let s5←sub (B15:Z) 0 60
 let a6←M.q0s s5
 let a8←M.q0s [71,69,84,32,47,32,72,84,84,80,47,49,46,48,13,10,104,111,115,116,58,120,13,10,13,10]
 let a10←M.q0r fuel (q03.mk [71,69,84] [(B72:Z)] [] [] [])
 let a12←M.q0r fuel (q03.mk [71,69,84] [([120]:Z)] [] [] [])
 let a14←M.q0v fuel (q06.mk 401 171 [] [] [] [] [] [] [] 0 0 0 false (q01.mk [] [] [] [] [] [] 0 0 0 [] []) [])
 let a16←M.q0t fuel a14.1
 let a18←M.q0w fuel (q00.mk 1 [] [97,110,110] [112] [] [] [] [] [] [] [] [] [] [] [] [] [] [] [] [] [] [] [] [] 0 0)
 let a20←M.q0u a18.1
 let j61←(do
   if (((((((((((((((((((decide (a1.2.2=0))&&(decide (a1.2.1=68)))&&(decide (a3.2=0)))&&(decide (a3.1.zh=1)))&&(decide (a3.1.z39=[97,110,110])))&&(decide (a3.1.z38=[112])))&&(decide (a6.2.2=223)))&&(decide (a8.2.2=220)))&&(decide (a10.2=226)))&&(decide (a12.2=225)))&&(decide (a14.2=0)))&&(decide (a14.1=B9)))&&(decide (a16.2.2=0)))&&(decide (a16.2.1=(a14.1.length:Int))))&&(decide (a16.1.z22=171)))&&(decide (a16.1.zbk=401)))&&(decide (a18.2=0)))&&(decide (a20.2=0)))&&(decide (a20.1=B14))) then
    let a62←M.q0x 221
    some (decide (a62=413))
   else
    some false:Option Bool)
 some (((((((j61&&true)&&true)&&true)&&true)&&true)&&true)&&true)
def M.z2d (p0:List Z) (p1:List Z) (x11:Int):Option (Jn Bool Unit):=do
 if (decide (x11<(p0.length:Int))) then
  let x14←ix p0 x11
  let x15←ix p1 x11
  if (!decide (x14=x15)) then
   some (.done false)
  else
   M.z2d p0 p1 (yb .i64 (x11+1))
 else
  some (.go ())
 partial_fixpoint
def M.q4s  (p0 p1:List Z):Option Bool:=do
 if (!decide ((p0.length:Int)=(p1.length:Int))) then
  some false
 else
  let q8←(do
    M.z2d p0 p1 0:Option (Jn Bool Unit))
  match q8 with
  | .done r=>some r
  | .go j8 =>
   some true
def M.z4v (p0:Z) (x55:Int):Option (Jn Bool Unit):=do
 if (decide (x55<(p0.length:Int))) then
  let c69←ix p0 x55
  if (!((((((decide (65≤(c69.toNat:Int)))&&(decide ((c69.toNat:Int)≤90)))||((decide (97≤(c69.toNat:Int)))&&(decide ((c69.toNat:Int)≤122))))||((decide (48≤(c69.toNat:Int)))&&(decide ((c69.toNat:Int)≤57))))||(decide ((c69.toNat:Int)=45)))||(decide ((c69.toNat:Int)=95)))) then
   some (.done false)
  else
   M.z4v p0 (yb .i64 (x55+1))
 else
  some (.go ())
 partial_fixpoint
def M.q6k  (p0:Z):Option Bool:=do
 let q41←(do
   M.z4v p0 0:Option (Jn Bool Unit))
 match q41 with
 | .done r=>some r
 | .go j41 =>
  some true
def M.q4w  (p0:Int):Option Bool:=do
 some ((decide (48≤p0))&&(decide (p0≤57)))
def M.z29 (p0:Z) (j10:Int) (x66:Int):Option Int:=do
 let j83←(do
   if (decide (x66<(p0.length:Int))) then
    let c84←ix p0 x66
    let a85←M.q4w (c84.toNat:Int)
    some a85
   else
    some false:Option Bool)
 let j89←(do
   if j83 then
    if (decide (x66=j10)) then
     some true
    else
     let c90←ix p0 j10
     some (!decide ((c90.toNat:Int)=48))
   else
    some false:Option Bool)
 if j89 then
  M.z29 p0 j10 (yb .i64 (x66+1))
 else
  some x66
 partial_fixpoint
def M.z3o (p0:Z) (x150:Int):Option Int:=do
 let j163←(do
   if (decide (x150<(p0.length:Int))) then
    let c164←ix p0 x150
    let a165←M.q4w (c164.toNat:Int)
    some a165
   else
    some false:Option Bool)
 if j163 then
  M.z3o p0 (yb .i64 (x150+1))
 else
  some x150
 partial_fixpoint
def M.z4f (p0:Z) (x308:Int):Option Int:=do
 let j321←(do
   if (decide (x308<(p0.length:Int))) then
    let c322←ix p0 x308
    let a323←M.q4w (c322.toNat:Int)
    some a323
   else
    some false:Option Bool)
 if j321 then
  M.z4f p0 (yb .i64 (x308+1))
 else
  some x308
 partial_fixpoint
def M.q4y  (p0:Z):Option Int:=do
 let j10←(do
   let j13←(do
     if (decide (0<(p0.length:Int))) then
      let c14←ix p0 0
      some (decide ((c14.toNat:Int)=45))
     else
      some false:Option Bool)
   if j13 then
    some (yb .i64 (0+1))
   else
    some 0:Option Int)
 let j53←(do
   M.z29 p0 j10 j10:Option Int)
 if (decide (j53=j10)) then
  some 0
 else
  let j129←(do
    let j132←(do
      if (decide ((yb .i64 (j53+1))<(p0.length:Int))) then
       let c133←ix p0 j53
       some (decide ((c133.toNat:Int)=46))
      else
       some false:Option Bool)
    let j138←(do
      if j132 then
       let c139←ix p0 (yb .i64 (j53+1))
       let a140←M.q4w (c139.toNat:Int)
       some a140
      else
       some false:Option Bool)
    if j138 then
     M.z3o p0 (yb .i64 (j53+1))
    else
     some j53:Option Int)
  let j246←(do
    let j250←(do
      if (decide (j129<(p0.length:Int))) then
       let c251←ix p0 j129
       if (decide ((c251.toNat:Int)=101)) then
        some true
       else
        let c252←ix p0 j129
        some (decide ((c252.toNat:Int)=69))
      else
       some false:Option Bool)
    if j250 then
     let j266←(do
       let j270←(do
         if (decide ((yb .i64 (j129+1))<(p0.length:Int))) then
          let c271←ix p0 (yb .i64 (j129+1))
          if (decide ((c271.toNat:Int)=43)) then
           some true
          else
           let c272←ix p0 (yb .i64 (j129+1))
           some (decide ((c272.toNat:Int)=45))
         else
          some false:Option Bool)
       if j270 then
        some (yb .i64 ((yb .i64 (j129+1))+1))
       else
        some (yb .i64 (j129+1)):Option Int)
     let j299←(do
       M.z4f p0 j266:Option Int)
     if (decide (j266<j299)) then
      some j299
     else
      some j129
    else
     some j129:Option Int)
  some j246
def M.z43 (x63:Int) (p0:List Z) (x89:Int):Option (Jn (Jn Bool Unit) Unit):=do
 if (decide (x89<x63)) then
  let x92←ix p0 x63
  let x93←ix p0 x89
  if (decide (x92=x93)) then
   some (.done (.done true))
  else
   M.z43 x63 p0 (yb .i64 (x89+1))
 else
  some (.go ())
 partial_fixpoint
def M.z42 (p0:List Z) (x63:Int):Option (Jn Bool Unit):=do
 if (decide (x63<(p0.length:Int))) then
  let q86←(do
    M.z43 x63 p0 0:Option (Jn (Jn Bool Unit) Unit))
  match q86 with
  | .done r=>some r
  | .go j86 =>
   M.z42 p0 (yb .i64 (x63+1))
 else
  some (.go ())
 partial_fixpoint
def M.q5a  (p0:List Z):Option Bool:=do
 let q47←(do
   M.z42 p0 0:Option (Jn Bool Unit))
 match q47 with
 | .done r=>some r
 | .go j47 =>
  some false
def M.z1z (p0:List q02) (p1:List q02) (x51:Int):Option (Jn Bool Unit):=do
 if (decide (x51<(p0.length:Int))) then
  let x64←ix p0 x51
  let x65←ix p1 x51
  let j71←(do
    if (!decide (x64.zo=x65.zo)) then
     some true
    else
     let x72←ix p0 x51
     let x73←ix p1 x51
     let a74←M.q4s x72.z7m x73.z7m
     some (!a74):Option Bool)
  if j71 then
   some (.done false)
  else
   M.z1z p0 p1 (yb .i64 (x51+1))
 else
  some (.go ())
 partial_fixpoint
def M.q5q  (p0 p1:List q02):Option Bool:=do
 if (!decide ((p0.length:Int)=(p1.length:Int))) then
  some false
 else
  let q38←(do
    M.z1z p0 p1 0:Option (Jn Bool Unit))
  match q38 with
  | .done r=>some r
  | .go j38 =>
   some true
def M.q5p  (p0 p1:q00):Option Bool:=do
 let j52←(do
   if (((((((((((((((((((((((((decide (p0.zh=p1.zh))&&(decide (p0.gOf=p1.gOf)))&&(decide (p0.z39=p1.z39)))&&(decide (p0.z38=p1.z38)))&&(decide (p0.zq=p1.zq)))&&(decide (p0.z22=p1.z22)))&&(decide (p0.z1p=p1.z1p)))&&(decide (p0.z1o=p1.z1o)))&&(decide (p0.z03=p1.z03)))&&(decide (p0.z0n=p1.z0n)))&&(decide (p0.zy=p1.zy)))&&(decide (p0.z0a=p1.z0a)))&&(decide (p0.zx=p1.zx)))&&(decide (p0.zm=p1.zm)))&&(decide (p0.z00=p1.z00)))&&(decide (p0.z0q=p1.z0q)))&&(decide (p0.zo=p1.zo)))&&(decide (p0.z3s=p1.z3s)))&&(decide (p0.z01=p1.z01)))&&(decide (p0.z7l=p1.z7l)))&&(decide (p0.z5v=p1.z5v)))&&(decide (p0.z0m=p1.z0m)))&&(decide (p0.z1j=p1.z1j)))&&(decide (p0.z2y=p1.z2y)))&&(decide (p0.z1d=p1.z1d))) then
    let a53←M.q5q p0.zt p1.zt
    some a53
   else
    some false:Option Bool)
 some j52
def M.z0z (a1:(List Z)) (x55:List q0f) (x56:Int):Option (List q0f):=do
 if (decide (x56<(a1.length:Int))) then
  let x69←ix a1 x56
  let a70←M.q5w x69
  let a72←M.q5z a70 32
  if (decide ((a72.length:Int)=1)) then
   let x74←ix a72 0
   let a75←M.q67 x74 61
   let l77←app 56 x55 [(q0f.mk a75.1 [] a75.2.1 false)]
   M.z0z a1 l77 (yb .i64 (x56+1))
  else
   let x78←ix a72 0
   let x79←ix a72 1
   let l80←app 56 x55 [(q0f.mk x78 x79 [] (decide ((a72.length:Int)=3)))]
   M.z0z a1 l80 (yb .i64 (x56+1))
 else
  some x55
 partial_fixpoint
def M.q6i  (p0:Z):Option (List q0f):=do
 if (decide (p0=[])) then
  some ([]:List q0f)
 else
  let a1←M.q5z p0 44
  let j42←(do
    M.z0z a1 ([]:List q0f) 0:Option (List q0f))
  some j42
def M.z2b (p3:Z) (x37:Int) (x38:q0e):Option q0e:=do
 if (decide (x37<(p3.length:Int))) then
  let j53←(do
    if x38.zq then
     some true
    else
     let c54←ix p3 x37
     some (decide ((c54.toNat:Int)=115)):Option Bool)
  let j57←(do
    if x38.zbj then
     some true
    else
     let c58←ix p3 x37
     some (decide ((c58.toNat:Int)=98)):Option Bool)
  let j61←(do
    if x38.z5v then
     some true
    else
     let c62←ix p3 x37
     some (decide ((c62.toNat:Int)=116)):Option Bool)
  M.z2b p3 (yb .i64 (x37+1)) (q0e.mk x38.zh x38.z02 x38.z09 x38.z5k j53 j57 j61 x38.z6d)
 else
  some x38
 partial_fixpoint
def M.q6m  (p0:Int) (p1 p2 p3 p4 p5:Z):Option q0e:=do
 let a1←M.q6i p5
 let j33←(do
   M.z2b p3 0 (q0e.mk p0 p1 p2 p4 false false false a1):Option q0e)
 some j33
def M.q5n  : Option (List q0e):=do
 let a1←M.q6m 1 B5 B93 [] B10 B49
 let a3←M.q6m 2 B5 B58 [115] B10 B98
 let a5←M.q6m 3 B5 B64 [115] B10 B17
 let a7←M.q6m 4 B5 B59 [115] B10 []
 let a9←M.q6m 5 B5 B65 [115] B10 B83
 let a11←M.q6m 6 B5 B68 [115] B10 []
 let a13←M.q6m 7 B5 B85 [115] B10 []
 let a15←M.q6m 8 B5 B86 [] B10 B95
 let a17←M.q6m 9 B5 B94 [] B10 B43
 let a19←M.q6m 10 [71,69,84] B66 [115] B32 B3
 let a21←M.q6m 11 B5 B26 [] B10 B4
 let a23←M.q6m 12 B5 B26 [] B10 B7
 let a25←M.q6m 13 B5 B26 [] B10 B8
 let a27←M.q6m 14 B5 B26 [] B10 B2
 let a29←M.q6m 15 B5 B87 [] B10 B6
 let a31←M.q6m 16 B5 B55 [] B10 B6
 let a33←M.q6m 17 [71,69,84] B70 [98] [] []
 let a35←M.q6m 18 [71,69,84] B102 [] [] []
 let a37←M.q6m 19 [71,69,84] B41 [98] B32 B22
 let a39←M.q6m 20 [71,69,84] B16 [98] [] []
 let a41←M.q6m 21 B5 B41 [98] B75 []
 let a43←M.q6m 22 B99 B16 [98,116] B69 []
 let a45←M.q6m 23 B92 B16 [98,116] [] []
 let a47←M.q6m 24 B5 B40 [98] B10 B51
 let a49←M.q6m 25 B5 B60 [98] B10 []
 some [a1,a3,a5,a7,a9,a11,a13,a15,a17,a19,a21,a23,a25,a27,a29,a31,a33,a35,a37,a39,a41,a43,a45,a47,a49]
def M.z2p (a2:(List Z)) (p1:List Z) (x30:Z) (x31:Z) (x32:Int):Option (Jn (Z × Z × Bool) (Z × Z)):=do
 if (decide (x32<(a2.length:Int))) then
  let x38←ix a2 x32
  if (decide (x38=[79,70])) then
   let x39←ix p1 x32
   if (decide (x39=[])) then
    some (.done ([],[],false))
   else
    M.z2p a2 p1 x39 x31 (yb .i64 (x32+1))
  else
   if (decide (x38=B67)) then
    let x40←ix p1 x32
    M.z2p a2 p1 x30 x40 (yb .i64 (x32+1))
   else
    let x41←ix a2 x32
    let x42←ix p1 x32
    if (!decide (x41=x42)) then
     some (.done ([],[],false))
    else
     M.z2p a2 p1 x30 x31 (yb .i64 (x32+1))
 else
  some (.go (x30,x31))
 partial_fixpoint
def M.q6j  (p0:q0e) (p1:List Z):Option (Z × Z × Bool):=do
 let s1←sub p0.z09 1 (p0.z09.length:Int)
 let a2←M.q5z s1 47
 if (!decide ((a2.length:Int)=(p1.length:Int))) then
  some ([],[],false)
 else
  let q24←(do
    M.z2p a2 p1 [] [] 0:Option (Jn (Z × Z × Bool) (Z × Z)))
  match q24 with
  | .done r=>some r
  | .go j24 =>
   some (j24.1,j24.2,true)
def M.z2t (a3:(List Z)) (x35:Int):Option (Jn Z Unit):=do
 if (decide (x35<(a3.length:Int))) then
  let x43←ix a3 x35
  let a44←M.q5w x43
  let a46←M.q67 a44 61
  if (a46.2.2&&(decide (a46.1=[115,101,115,115,105,111,110]))) then
   some (.done a46.2.1)
  else
   M.z2t a3 (yb .i64 (x35+1))
 else
  some (.go ())
 partial_fixpoint
def M.q6o  (p0:List q05):Option Z:=do
 let a1←M.q63 p0 B50
 let a3←M.q5z a1.1 59
 let q27←(do
   M.z2t a3 0:Option (Jn Z Unit))
 match q27 with
 | .done r=>some r
 | .go j27 =>
  some []
def M.q6r  (p0:Z):Option Bool:=do
 let a1←M.q67 p0 34
 let a3←M.q5u p0 33 126
 some (a3&&(!a1.2.2))
def M.q4h  (p0:Z) (p1:Int):Option Int:=do
 if (decide ((yb .i64 (8*(p0.length:Int)))≤p1)) then
  some 0
 else
  let c1←ix p0 (yb .i64 (Int.tdiv p1 8))
  let _←chk (decide (0≤(yb .i64 (7 - (ya p1 8)))))
  some (z7a .i64 (yb .i64 (zdm .u8 (c1.toNat:Int) (yb .i64 (7 - (ya p1 8))))) 1)
def M.z3m (p0:Z) (x174:Int) (x251:Int) (x252:Int):Option Int:=do
 if (decide (x252<6)) then
  let a255←M.q4h p0 (yb .i64 (x174+x252))
  M.z3m p0 x174 (yb .i64 ((yb .i64 (2*x251))+a255)) (yb .i64 (x252+1))
 else
  some x251
 partial_fixpoint
def M.z3l (p0:Z) (x173:List Int) (x174:Int):Option (List Int):=do
 if (decide (x174<(yb .i64 (8*(p0.length:Int))))) then
  let j238←(do
    let j248←(do
      M.z3m p0 x174 0 0:Option Int)
    let c257←ix (B1:Z) j248
    let l258←app 1 x173 [(c257.toNat:Int)]
    some l258:Option (List Int))
  M.z3l p0 j238 (yb .i64 (x174+6))
 else
  some x173
 partial_fixpoint
def M.q46  (p0:Z):Option Z:=do
 let j130←(do
   M.z3l p0 ([]:List Int) 0:Option (List Int))
 some (byt j130)
def M.z1k (p0:Z) (x198:Int) (x284:Int) (x285:Int):Option Int:=do
 if (decide (x285<64)) then
  let c288←ix (B1:Z) x285
  let c289←ix p0 x198
  if (decide ((c288.toNat:Int)=(c289.toNat:Int))) then
   M.z1k p0 x198 x285 (yb .i64 (x285+1))
  else
   M.z1k p0 x198 x284 (yb .i64 (x285+1))
 else
  some x284
 partial_fixpoint
def M.z1w (j281:Int) (x291:List Int) (x292:Int):Option (Jn (Jn (Z × Int) (List Int)) (List Int)):=do
 if (decide (0≤x292)) then
  let _←chk (decide (0≤x292))
  let l294←app 8 x291 [(z7a .i64 (zdm .i64 j281 x292) 1)]
  M.z1w j281 l294 (yb .i64 (x292 - 1))
 else
  some (.go x291)
 partial_fixpoint
def M.z1v (p0:Z) (x197:List Int) (x198:Int):Option (Jn (Z × Int) (List Int)):=do
 if (decide (x198<(p0.length:Int))) then
  let q271←(do
    let j281←(do
      M.z1k p0 x198 (-1) 0:Option Int)
    if (decide (j281<0)) then
     some (.done (.done ([],11)))
    else
     M.z1w j281 x197 5:Option (Jn (Jn (Z × Int) (List Int)) (List Int)))
  match q271 with
  | .done r=>some r
  | .go j271 =>
   M.z1v p0 j271 (yb .i64 (x198+1))
 else
  some (.go x197)
 partial_fixpoint
def M.z1y (j148:(List Int)) (x460:Int) (x534:Int) (x535:Int):Option Int:=do
 if (decide (x535<8)) then
  let x538←ix j148 (yb .i64 (x460+x535))
  let x539←ix j148 (yb .i64 (x460+x535))
  M.z1y j148 x460 (yb .i64 ((yb .i64 (2*x534))+x539)) (yb .i64 (x535+1))
 else
  some x534
 partial_fixpoint
def M.z1x (j148:(List Int)) (x459:List Int) (x460:Int):Option (List Int):=do
 if (decide ((yb .i64 (x460+8))≤(j148.length:Int))) then
  let j521←(do
    let j531←(do
      M.z1y j148 x460 0 0:Option Int)
    let l540←app 1 x459 [(yb .u8 j531)]
    some l540:Option (List Int))
  M.z1x j148 j521 (yb .i64 (x460+8))
 else
  some x459
 partial_fixpoint
def M.q4b  (p0:Z):Option (Z × Int):=do
 let q148←(do
   M.z1v p0 ([]:List Int) 0:Option (Jn (Z × Int) (List Int)))
 match q148 with
 | .done r=>some r
 | .go j148 =>
  let j418←(do
    M.z1x j148 ([]:List Int) 0:Option (List Int))
  let a541←M.q46 (byt j418)
  if (!decide (a541=p0)) then
   some ([],11)
  else
   some ((byt j418),0)
def M.q6p  (p0:q00) (p1 p2:Z):Option (q00 × Bool):=do
 let j14←(do
   if (((decide (p1=B80))||(decide (p1=B62)))&&(!decide (p2=[]))) then
    let a19←M.q5y p2 9
    some a19
   else
    some 0:Option Int)
 if (decide (p1=[85,115,101,114])) then
  some ((q00.mk p0.zh p0.gOf p2 p0.z38 p0.zq p0.z22 p0.z1p p0.z1o p0.z03 p0.z0n p0.zy p0.z0a p0.zx p0.zm p0.z00 p0.z0q p0.zo p0.z3s p0.z01 p0.z7l p0.z5v p0.z0m p0.z1j p0.zt p0.z2y p0.z1d),(decide (0≤j14)))
 else
  if (decide (p1=[80,97,115,115])) then
   some ((q00.mk p0.zh p0.gOf p0.z39 p2 p0.zq p0.z22 p0.z1p p0.z1o p0.z03 p0.z0n p0.zy p0.z0a p0.zx p0.zm p0.z00 p0.z0q p0.zo p0.z3s p0.z01 p0.z7l p0.z5v p0.z0m p0.z1j p0.zt p0.z2y p0.z1d),(decide (0≤j14)))
  else
   if (decide (p1=[67,111,100,101])) then
    some ((q00.mk p0.zh p0.gOf p0.z39 p0.z38 p0.zq p2 p0.z1p p0.z1o p0.z03 p0.z0n p0.zy p0.z0a p0.zx p0.zm p0.z00 p0.z0q p0.zo p0.z3s p0.z01 p0.z7l p0.z5v p0.z0m p0.z1j p0.zt p0.z2y p0.z1d),(decide (0≤j14)))
   else
    if (decide (p1=[78,97,109,101])) then
     some ((q00.mk p0.zh p0.gOf p0.z39 p0.z38 p0.zq p0.z22 p0.z1p p0.z1o p0.z03 p0.z0n p0.zy p0.z0a p0.zx p0.zm p0.z00 p0.z0q p2 p0.z3s p0.z01 p0.z7l p0.z5v p0.z0m p0.z1j p0.zt p0.z2y p0.z1d),(decide (0≤j14)))
    else
     if (decide (p1=[68,97,116,97])) then
      some ((q00.mk p0.zh p0.gOf p0.z39 p0.z38 p0.zq p0.z22 p0.z1p p0.z1o p0.z03 p0.z0n p0.zy p0.z0a p0.zx p0.zm p0.z00 p0.z0q p0.zo p2 p0.z01 p0.z7l p0.z5v p0.z0m p0.z1j p0.zt p0.z2y p0.z1d),(decide (0≤j14)))
     else
      if (decide (p1=[66,111,100,121])) then
       some ((q00.mk p0.zh p0.gOf p0.z39 p0.z38 p0.zq p0.z22 p0.z1p p0.z1o p0.z03 p0.z0n p0.zy p0.z0a p0.zx p0.zm p0.z00 p0.z0q p0.zo p0.z3s p2 p0.z7l p0.z5v p0.z0m p0.z1j p0.zt p0.z2y p0.z1d),(decide (0≤j14)))
      else
       if (decide (p1=[83,105,103])) then
        some ((q00.mk p0.zh p0.gOf p0.z39 p0.z38 p0.zq p0.z22 p0.z1p p0.z1o p0.z03 p0.z0n p0.zy p0.z0a p0.zx p0.zm p0.z00 p0.z0q p0.zo p0.z3s p0.z01 p2 p0.z5v p0.z0m p0.z1j p0.zt p0.z2y p0.z1d),(decide (0≤j14)))
       else
        if (decide (p1=[84,111,107,101,110])) then
         some ((q00.mk p0.zh p0.gOf p0.z39 p0.z38 p0.zq p0.z22 p2 p0.z1o p0.z03 p0.z0n p0.zy p0.z0a p0.zx p0.zm p0.z00 p0.z0q p0.zo p0.z3s p0.z01 p0.z7l p0.z5v p0.z0m p0.z1j p0.zt p0.z2y p0.z1d),(decide (0≤j14)))
        else
         if (decide (p1=[65,99,116,111,114])) then
          some ((q00.mk p0.zh p0.gOf p0.z39 p0.z38 p0.zq p0.z22 p0.z1p p2 p0.z03 p0.z0n p0.zy p0.z0a p0.zx p0.zm p0.z00 p0.z0q p0.zo p0.z3s p0.z01 p0.z7l p0.z5v p0.z0m p0.z1j p0.zt p0.z2y p0.z1d),(decide (0≤j14)))
         else
          if (decide (p1=[67,108,105,101,110,116])) then
           some ((q00.mk p0.zh p0.gOf p0.z39 p0.z38 p0.zq p0.z22 p0.z1p p0.z1o p2 p0.z0n p0.zy p0.z0a p0.zx p0.zm p0.z00 p0.z0q p0.zo p0.z3s p0.z01 p0.z7l p0.z5v p0.z0m p0.z1j p0.zt p0.z2y p0.z1d),(decide (0≤j14)))
          else
           if (decide (p1=[83,101,99,114,101,116])) then
            some ((q00.mk p0.zh p0.gOf p0.z39 p0.z38 p0.zq p0.z22 p0.z1p p0.z1o p0.z03 p2 p0.zy p0.z0a p0.zx p0.zm p0.z00 p0.z0q p0.zo p0.z3s p0.z01 p0.z7l p0.z5v p0.z0m p0.z1j p0.zt p0.z2y p0.z1d),(decide (0≤j14)))
           else
            if (decide (p1=[82,101,100,105,114,101,99,116])) then
             some ((q00.mk p0.zh p0.gOf p0.z39 p0.z38 p0.zq p0.z22 p0.z1p p0.z1o p0.z03 p0.z0n p2 p0.z0a p0.zx p0.zm p0.z00 p0.z0q p0.zo p0.z3s p0.z01 p0.z7l p0.z5v p0.z0m p0.z1j p0.zt p0.z2y p0.z1d),(decide (0≤j14)))
            else
             if (decide (p1=[83,99,111,112,101])) then
              some ((q00.mk p0.zh p0.gOf p0.z39 p0.z38 p0.zq p0.z22 p0.z1p p0.z1o p0.z03 p0.z0n p0.zy p2 p0.zx p0.zm p0.z00 p0.z0q p0.zo p0.z3s p0.z01 p0.z7l p0.z5v p0.z0m p0.z1j p0.zt p0.z2y p0.z1d),(decide (0≤j14)))
             else
              if (decide (p1=[65,117,100,105,101,110,99,101])) then
               some ((q00.mk p0.zh p0.gOf p0.z39 p0.z38 p0.zq p0.z22 p0.z1p p0.z1o p0.z03 p0.z0n p0.zy p0.z0a p2 p0.zm p0.z00 p0.z0q p0.zo p0.z3s p0.z01 p0.z7l p0.z5v p0.z0m p0.z1j p0.zt p0.z2y p0.z1d),(decide (0≤j14)))
              else
               if (decide (p1=B96)) then
                some ((q00.mk p0.zh p0.gOf p0.z39 p0.z38 p0.zq p0.z22 p0.z1p p0.z1o p0.z03 p0.z0n p0.zy p0.z0a p0.zx p2 p0.z00 p0.z0q p0.zo p0.z3s p0.z01 p0.z7l p0.z5v p0.z0m p0.z1j p0.zt p0.z2y p0.z1d),(decide (0≤j14)))
               else
                if (decide (p1=B100)) then
                 some ((q00.mk p0.zh p0.gOf p0.z39 p0.z38 p0.zq p0.z22 p0.z1p p0.z1o p0.z03 p0.z0n p0.zy p0.z0a p0.zx p0.zm p2 p0.z0q p0.zo p0.z3s p0.z01 p0.z7l p0.z5v p0.z0m p0.z1j p0.zt p0.z2y p0.z1d),(decide (0≤j14)))
                else
                 if (decide (p1=[78,111,110,99,101])) then
                  some ((q00.mk p0.zh p0.gOf p0.z39 p0.z38 p0.zq p0.z22 p0.z1p p0.z1o p0.z03 p0.z0n p0.zy p0.z0a p0.zx p0.zm p0.z00 p2 p0.zo p0.z3s p0.z01 p0.z7l p0.z5v p0.z0m p0.z1j p0.zt p0.z2y p0.z1d),(decide (0≤j14)))
                 else
                  if (decide (p1=[70,105,108,116,101,114])) then
                   some ((q00.mk p0.zh p0.gOf p0.z39 p0.z38 p0.zq p0.z22 p0.z1p p0.z1o p0.z03 p0.z0n p0.zy p0.z0a p0.zx p0.zm p0.z00 p0.z0q p0.zo p0.z3s p0.z01 p0.z7l p0.z5v p2 p0.z1j p0.zt p0.z2y p0.z1d),(decide (0≤j14)))
                  else
                   if (decide (p1=B80)) then
                    some ((q00.mk p0.zh p0.gOf p0.z39 p0.z38 p0.zq p0.z22 p0.z1p p0.z1o p0.z03 p0.z0n p0.zy p0.z0a p0.zx p0.zm p0.z00 p0.z0q p0.zo p0.z3s p0.z01 p0.z7l p0.z5v p0.z0m p0.z1j p0.zt j14 p0.z1d),(decide (0≤j14)))
                   else
                    if (decide (p1=B62)) then
                     some ((q00.mk p0.zh p0.gOf p0.z39 p0.z38 p0.zq p0.z22 p0.z1p p0.z1o p0.z03 p0.z0n p0.zy p0.z0a p0.zx p0.zm p0.z00 p0.z0q p0.zo p0.z3s p0.z01 p0.z7l p0.z5v p0.z0m p0.z1j p0.zt p0.z2y j14),(decide (0≤j14)))
                    else
                     some (p0,(decide (0≤j14)))
def M.z3r (p0:q0e) (p2:List q05) (x319:Int) (x462:Bool) (x463:Int):Option Bool:=do
 if (decide (x463<(p0.z6d.length:Int))) then
  let j473←(do
    if x462 then
     some true
    else
     let x474←ix p0.z6d x463
     let x475←ix p2 x319
     some (decide (x474.zo=x475.zo)):Option Bool)
  M.z3r p0 p2 x319 j473 (yb .i64 (x463+1))
 else
  some x462
 partial_fixpoint
def M.z3q (p2:List q05) (p0:q0e) (p1:q00) (x319:Int):Option (Jn (q00 × Bool) Unit):=do
 if (decide (x319<(p2.length:Int))) then
  let q438←(do
    let x439←ix p2 x319
    let a440←M.q4e p2 x439.zo
    let j459←(do
      M.z3r p0 p2 x319 false 0:Option Bool)
    if ((!decide (a440.2=1))||(!j459)) then
     some (.done (.done (p1,false)))
    else
     some (.go ()):Option (Jn (Jn (q00 × Bool) Unit) Unit))
  match q438 with
  | .done r=>some r
  | .go j438 =>
   M.z3q p2 p0 p1 (yb .i64 (x319+1))
 else
  some (.go ())
 partial_fixpoint
def M.z2h (p0:q0e) (p2:List q05) (x550:Int) (x551:q00):Option (Jn (q00 × Bool) q00):=do
 if (decide (x550<(p0.z6d.length:Int))) then
  let x569←ix p0.z6d x550
  let a570←M.q4e p2 x569.zo
  if (decide (x569.zi6=[])) then
   if ((decide (a570.2=0))||(!decide (a570.1=x569.zvb))) then
    some (.done (x551,false))
   else
    M.z2h p0 p2 (yb .i64 (x550+1)) x551
  else
   let q581←(do
     if x569.zzd then
      let a582←M.q4b a570.1
      if (!decide (a582.2=0)) then
       some (.done (.done (x551,false)))
      else
       some (.go a582.1)
     else
      some (.go a570.1):Option (Jn (Jn (q00 × Bool) q00) Z))
   match q581 with
   | .done r=>some r
   | .go j581 =>
    let a584←M.q6p x551 x569.zi6 j581
    if (!a584.2) then
     some (.done (x551,false))
    else
     M.z2h p0 p2 (yb .i64 (x550+1)) a584.1
 else
  some (.go x551)
 partial_fixpoint
def M.q68  (p0:q0e) (p1:q00) (p2:List q05):Option (q00 × Bool):=do
 let q239←(do
   M.z3q p2 p0 p1 0:Option (Jn (q00 × Bool) Unit))
 match q239 with
 | .done r=>some r
 | .go j239 =>
  let q532←(do
    M.z2h p0 p2 0 p1:Option (Jn (q00 × Bool) q00))
  match q532 with
  | .done r=>some r
  | .go j532 =>
   some (j532,true)
def M.z19 (p0:q0d) (x21:Int):Option q0d:=do
 let j57←(do
   if (decide (x21<(p0.gs.length:Int))) then
    let c58←ix p0.gs x21
    if (decide ((c58.toNat:Int)=32)) then
     some true
    else
     let c59←ix p0.gs x21
     if (decide ((c59.toNat:Int)=9)) then
      some true
     else
      let c60←ix p0.gs x21
      if (decide ((c60.toNat:Int)=10)) then
       some true
      else
       let c61←ix p0.gs x21
       some (decide ((c61.toNat:Int)=13))
   else
    some false:Option Bool)
 if j57 then
  M.z19 p0 (yb .i64 (x21+1))
 else
  some (q0d.mk p0.gs x21 p0.ge)
 partial_fixpoint
def M.q50  (p0:q0d):Option q0d:=do
 M.z19 p0 p0.gi
def M.q4z  (p0:q0d):Option Int:=do
 if (decide (p0.gi<(p0.gs.length:Int))) then
  let c1←ix p0.gs p0.gi
  some (c1.toNat:Int)
 else
  some 0
def M.q59  (p0:q0d) (p1:Int):Option q0d:=do
 if (decide (p0.ge=0)) then
  some (q0d.mk p0.gs p0.gi p1)
 else
  some p0
def M.word  (p0:List Int):Option Int:=do
 let x1←ix p0 0
 let x2←ix p0 1
 let x3←ix p0 2
 let x4←ix p0 3
 let x5←ix p0 4
 let x6←ix p0 5
 let x7←ix p0 6
 let x8←ix p0 7
 some (orI .u64 (orI .u64 (orI .u64 (orI .u64 (orI .u64 (orI .u64 (orI .u64 (yb .u64 x1) (z6p .u64 (yb .u64 x2) 8)) (z6p .u64 (yb .u64 x3) 16)) (z6p .u64 (yb .u64 x4) 24)) (z6p .u64 (yb .u64 x5) 32)) (z6p .u64 (yb .u64 x6) 40)) (z6p .u64 (yb .u64 x7) 48)) (z6p .u64 (yb .u64 x8) 56))
def M.z94 (x2859:List Int):Option (List Int):=do
 let j2897←(do
   if (decide (32<(x2859.length:Int))) then
    let l2898←sub x2859 8 (x2859.length:Int)
    let l2899←sub x2859 16 (x2859.length:Int)
    let l2900←sub x2859 24 (x2859.length:Int)
    let a2901←M.word x2859
    let a2903←M.word l2898
    let a2905←M.word l2899
    let a2907←M.word l2900
    some (decide ((z7a .u64 (orI .u64 (orI .u64 a2901 a2903) (orI .u64 a2905 a2907)) 9259542123273814144)=0))
   else
    some false:Option Bool)
 if j2897 then
  let l2909←sub x2859 32 (x2859.length:Int)
  M.z94 l2909
 else
  some x2859
 partial_fixpoint
def M.z5r (x1976:List Int):Option (Jn Bool Unit):=do
 if (decide (0<(x1976.length:Int))) then
  let x2470←ix x1976 0
  let q2690←(do
    if (decide (x2470<128)) then
     let l2691←sub x1976 1 (x1976.length:Int)
     let j2801←(do
       let j2805←(do
         if (decide (8<(l2691.length:Int))) then
          let a2806←M.word l2691
          some (decide ((z7a .u64 a2806 9259542123273814144)=0))
         else
          some false:Option Bool)
       if j2805 then
        let l2808←sub l2691 8 (l2691.length:Int)
        let j2827←(do
          if (decide (16<(l2808.length:Int))) then
           let l2828←sub l2808 8 (l2808.length:Int)
           let a2829←M.word l2808
           let a2831←M.word l2828
           some (decide ((z7a .u64 (orI .u64 a2829 a2831) 9259542123273814144)=0))
          else
           some false:Option Bool)
        if j2827 then
         let l2833←sub l2808 16 (l2808.length:Int)
         M.z94 l2833
        else
         some l2808
       else
        some l2691:Option (List Int))
     (do
      M.z5r j2801) >>= fun r=>some (.done r)
    else
     some (.go ()):Option (Jn (Jn Bool Unit) Unit))
  match q2690 with
  | .done r=>some r
  | .go j2690 =>
   let x2910←ix utf8First x2470
   let x2911←ix zbu (zdm .u8 x2910 4)
   if (decide ((yb .i64 (z7a .u8 x2910 7))=2)) then
    let j2914←(do
      if (decide ((x1976.length:Int)<2)) then
       some true
      else
       let x2915←ix x1976 1
       some (decide (x2915<x2911.glo)):Option Bool)
    let j2918←(do
      if j2914 then
       some true
      else
       let x2919←ix x1976 1
       some (decide (x2911.ghi<x2919)):Option Bool)
    if j2918 then
     some (.done false)
    else
     let l2920←sub x1976 2 (x1976.length:Int)
     M.z5r l2920
   else
    if (decide ((yb .i64 (z7a .u8 x2910 7))=3)) then
     let j2923←(do
       if (decide ((x1976.length:Int)<3)) then
        some true
       else
        let x2924←ix x1976 1
        some (decide (x2924<x2911.glo)):Option Bool)
     let j2927←(do
       if j2923 then
        some true
       else
        let x2928←ix x1976 1
        some (decide (x2911.ghi<x2928)):Option Bool)
     let j2931←(do
       if j2927 then
        some true
       else
        let x2932←ix x1976 2
        some (decide (x2932<128)):Option Bool)
     let j2935←(do
       if j2931 then
        some true
       else
        let x2936←ix x1976 2
        some (decide (191<x2936)):Option Bool)
     if j2935 then
      some (.done false)
     else
      let l2937←sub x1976 3 (x1976.length:Int)
      M.z5r l2937
    else
     if (decide ((yb .i64 (z7a .u8 x2910 7))=4)) then
      let j2940←(do
        if (decide ((x1976.length:Int)<4)) then
         some true
        else
         let x2941←ix x1976 1
         some (decide (x2941<x2911.glo)):Option Bool)
      let j2944←(do
        if j2940 then
         some true
        else
         let x2945←ix x1976 1
         some (decide (x2911.ghi<x2945)):Option Bool)
      let j2948←(do
        if j2944 then
         some true
        else
         let x2949←ix x1976 2
         some (decide (x2949<128)):Option Bool)
      let j2952←(do
        if j2948 then
         some true
        else
         let x2953←ix x1976 2
         some (decide (191<x2953)):Option Bool)
      let j2956←(do
        if j2952 then
         some true
        else
         let x2957←ix x1976 3
         some (decide (x2957<128)):Option Bool)
      let j2960←(do
        if j2956 then
         some true
        else
         let x2961←ix x1976 3
         some (decide (191<x2961)):Option Bool)
      if j2960 then
       some (.done false)
      else
       let l2962←sub x1976 4 (x1976.length:Int)
       M.z5r l2962
     else
      some (.done false)
 else
  some (.go ())
 partial_fixpoint
def M.valid  (p0:List Int):Option Bool:=do
 let _←chk (decide ((p0.length:Int)≤(p0.length:Int))&&decide ((p0.length:Int)≤(p0.length:Int)))
 let l1←sub p0 0 (p0.length:Int)
 let q1482←(do
   M.z5r l1:Option (Jn Bool Unit))
 match q1482 with
 | .done r=>some r
 | .go j1482 =>
  some true
def M.z0j (p1:Int) (p0:q0d) (x49:Int) (x50:Int):Option (Jn Int Int):=do
 if (decide (x50<(yb .i64 (p1+6)))) then
  let c58←ix p0.gs x50
  let a59←M.q4w (c58.toNat:Int)
  if a59 then
   M.z0j p1 p0 (yb .i64 ((yb .i64 (16*x49))+(yb .i64 (yb .u8 ((c58.toNat:Int) - 48))))) (yb .i64 (x50+1))
  else
   if ((decide (97≤(c58.toNat:Int)))&&(decide ((c58.toNat:Int)≤102))) then
    M.z0j p1 p0 (yb .i64 ((yb .i64 ((yb .i64 (16*x49))+(yb .i64 (yb .u8 ((c58.toNat:Int) - 97)))))+10)) (yb .i64 (x50+1))
   else
    if ((decide (65≤(c58.toNat:Int)))&&(decide ((c58.toNat:Int)≤70))) then
     M.z0j p1 p0 (yb .i64 ((yb .i64 ((yb .i64 (16*x49))+(yb .i64 (yb .u8 ((c58.toNat:Int) - 65)))))+10)) (yb .i64 (x50+1))
    else
     some (.done (-1))
 else
  some (.go x49)
 partial_fixpoint
def M.q53  (p0:q0d) (p1:Int):Option Int:=do
 let j11←(do
   if (decide ((p0.gs.length:Int)<(yb .i64 (p1+6)))) then
    some true
   else
    let c12←ix p0.gs p1
    some (!decide ((c12.toNat:Int)=92)):Option Bool)
 let j15←(do
   if j11 then
    some true
   else
    let c16←ix p0.gs (yb .i64 (p1+1))
    some (!decide ((c16.toNat:Int)=117)):Option Bool)
 if j15 then
  some (-1)
 else
  let q41←(do
    M.z0j p1 p0 0 (yb .i64 (p1+2)):Option (Jn Int Int))
  match q41 with
  | .done r=>some r
  | .go j41 =>
   some j41
def M.z06 (p0:q0d) (x15:Int):Option (Jn (Z × q0d) Unit):=do
 if (decide (x15<((B31:Z).length:Int))) then
  let c19←ix p0.gs (yb .i64 (p0.gi+1))
  let c20←ix (B31:Z) x15
  if (decide ((c19.toNat:Int)=(c20.toNat:Int))) then
   let s21←sub ([34,92,47,8,12,10,13,9]:Z) x15 (yb .i64 (x15+1))
   some (.done (s21,(q0d.mk p0.gs (yb .i64 (p0.gi+2)) p0.ge)))
  else
   M.z06 p0 (yb .i64 (x15+1))
 else
  some (.go ())
 partial_fixpoint
def M.q51  (p0:q0d):Option (Z × q0d):=do
 let q11←(do
   if (decide ((yb .i64 (p0.gi+1))<(p0.gs.length:Int))) then
    M.z06 p0 0
   else
    some (.go ()):Option (Jn (Z × q0d) Unit))
 match q11 with
 | .done r=>some r
 | .go j11 =>
  let a22←M.q53 p0 p0.gi
  if ((decide (a22<0))||((decide (56320≤a22))&&(decide (a22≤57343)))) then
   let a32←M.q59 p0 20
   some ([],a32)
  else
   if ((decide (a22<55296))||(decide (56319<a22))) then
    some ((encS (yb .i32 a22)),(q0d.mk p0.gs (yb .i64 (p0.gi+6)) p0.ge))
   else
    let a38←M.q53 (q0d.mk p0.gs (yb .i64 (p0.gi+6)) p0.ge) (yb .i64 (p0.gi+6))
    if ((decide (a38<56320))||(decide (57343<a38))) then
     let a46←M.q59 (q0d.mk p0.gs (yb .i64 (p0.gi+6)) p0.ge) 20
     some ([],a46)
    else
     some ((encS (yb .i32 (yb .i64 ((yb .i64 ((yb .i64 (65536+(yb .i64 (1024*(yb .i64 (a22 - 55296))))))+a38)) - 56320)))),(q0d.mk p0.gs (yb .i64 ((yb .i64 (p0.gi+6))+6)) p0.ge))
def M.z0y (x61:List Int) (x62:q0d):Option (Jn (Z × q0d) q0d):=do
 if (decide (x62.ge=0)) then
  let a75←M.q4z x62
  if (decide (a75=34)) then
   let a77←M.valid x61
   if (!a77) then
    let a79←M.q59 (q0d.mk x62.gs (yb .i64 (x62.gi+1)) x62.ge) 20
    some (.done ((byt x61),a79))
   else
    some (.done ((byt x61),(q0d.mk x62.gs (yb .i64 (x62.gi+1)) x62.ge)))
  else
   if (decide (a75<32)) then
    let a81←M.q59 x62 20
    M.z0y x61 a81
   else
    if (decide (a75=92)) then
     let a83←M.q51 x62
     let l85←app 1 x61 (unb a83.1)
     M.z0y l85 a83.2
    else
     let l86←app 1 x61 [a75]
     M.z0y l86 (q0d.mk x62.gs (yb .i64 (x62.gi+1)) x62.ge)
 else
  some (.go x62)
 partial_fixpoint
def M.q56  (p0:q0d):Option (Z × q0d):=do
 let a5←M.q4z p0
 if (!decide (a5=34)) then
  let a7←M.q59 p0 20
  some ([],a7)
 else
  let q48←(do
    M.z0y ([]:List Int) (q0d.mk p0.gs (yb .i64 (p0.gi+1)) p0.ge):Option (Jn (Z × q0d) q0d))
  match q48 with
  | .done r=>some r
  | .go j48 =>
   some ([],j48)
def M.z0k (p0:q0d) (x39:Int):Option (Jn (q04 × q0d) Unit):=do
 if (decide (x39<3)) then
  let x49←ix [(B28:Z),B21,B29] x39
  let j56←(do
    if (decide ((x49.length:Int)≤(yb .i64 ((p0.gs.length:Int) - p0.gi)))) then
     let s57←sub p0.gs p0.gi (yb .i64 (p0.gi+(x49.length:Int)))
     some (decide (s57=x49))
    else
     some false:Option Bool)
  if j56 then
   some (.done ((q04.mk x39 [] [] []),(q0d.mk p0.gs (yb .i64 (p0.gi+(x49.length:Int))) p0.ge)))
  else
   M.z0k p0 (yb .i64 (x39+1))
 else
  some (.go ())
 partial_fixpoint
def M.q58  (p0:q0d):Option (q04 × q0d):=do
 let q29←(do
   M.z0k p0 0:Option (Jn (q04 × q0d) Unit))
 match q29 with
 | .done r=>some r
 | .go j29 =>
  let s58←sub p0.gs p0.gi (p0.gs.length:Int)
  let a59←M.q4y s58
  if (decide (a59=0)) then
   let a63←M.q59 p0 20
   some ((q04.mk 0 [] [] []),a63)
  else
   let s65←sub p0.gs (yb .i64 ((yb .i64 (p0.gi+a59)) - a59)) (yb .i64 (p0.gi+a59))
   some ((q04.mk 3 s65 [] []),(q0d.mk p0.gs (yb .i64 (p0.gi+a59)) p0.ge))
def M.zw (a3:Int) (self_q57:q0d→Int→Option (q04 × q0d)) (p1:Int) (x1701:Bool) (x1702:q0d) (x1703:List q04) (x1704:List Z):Option (q0d × (List q04) × (List Z)):=do
 let j1870←(do
   if x1701 then
    some (decide (x1702.ge=0))
   else
    some false:Option Bool)
 if j1870 then
  let j1967←(do
    if (decide (a3=123)) then
     let a1968←M.q50 x1702
     let a1970←M.q56 a1968
     let l1972←app 16 x1704 [a1970.1]
     let j1990←(do
       let j1994←(do
         if (decide (a1970.2.ge=0)) then
          let a1995←M.q5a l1972
          some a1995
         else
          some false:Option Bool)
       if j1994 then
        let a1997←M.q59 a1970.2 20
        some a1997
       else
        some a1970.2:Option q0d)
     let a1999←M.q50 j1990
     let j2010←(do
       let a2011←M.q4z a1999
       if (!decide (a2011=58)) then
        let a2013←M.q59 a1999 20
        some a2013
       else
        some a1999:Option q0d)
     some ((q0d.mk j2010.gs (yb .i64 (j2010.gi+1)) j2010.ge),l1972)
    else
     some (x1702,x1704):Option (q0d × (List Z)))
  let j2023←(do
    if (decide (j1967.1.ge=0)) then
     let a2024←self_q57 j1967.1 (yb .i64 (p1+1))
     let l2026←app 72 x1703 [(q04.mk a2024.1.zh a2024.1.z0i a2024.1.zk a2024.1.z08)]
     some (a2024.2,l2026)
    else
     some (j1967.1,x1703):Option (q0d × (List q04)))
  let a2027←M.q4z j2023.1
  if (decide (a2027=44)) then
   M.zw a3 self_q57 p1 (decide (a2027=44)) (q0d.mk j2023.1.gs (yb .i64 (j2023.1.gi+1)) j2023.1.ge) j2023.2 j1967.2
  else
   M.zw a3 self_q57 p1 (decide (a2027=44)) j2023.1 j2023.2 j1967.2
 else
  some (x1702,x1703,x1704)
 partial_fixpoint
def M.q57:Nat→q0d→Int→Option (q04 × q0d)
 | 0,_,_=>none
 | fuel+1,p0,p1=>do
  let a1←M.q50 p0
  let a3←M.q4z a1
  let q1027←(do
    if (decide (a3=34)) then
     let a1028←M.q56 a1
     some (.go (a1028.2,4,a1028.1,[],[]))
    else
     let j1031←(do
       if (decide (a3=91)) then
        some (decide (a3=91))
       else
        some (decide (a3=123)):Option Bool)
     if j1031 then
      if (decide (16≤p1)) then
       let a1034←M.q59 a1 21
       some (.done ((q04.mk 0 [] [] []),a1034))
      else
       let j1038←(do
         if (decide (a3=123)) then
          some (125,6)
         else
          some (93,5):Option (Int × Int))
       let a1039←M.q50 (q0d.mk a1.gs (yb .i64 (a1.gi+1)) a1.ge)
       let j1536←(do
         let a1537←M.q4z a1039
         M.zw a3 (M.q57 fuel) p1 (!decide (a1537=j1038.1)) a1039 [] []:Option (q0d × (List q04) × (List Z)))
       let j2038←(do
         let a2039←M.q4z j1536.1
         if (!decide (a2039=j1038.1)) then
          let a2041←M.q59 j1536.1 20
          some a2041
         else
          some j1536.1:Option q0d)
       some (.go ((q0d.mk j2038.gs (yb .i64 (j2038.gi+1)) j2038.ge),j1038.2,[],j1536.2.1,j1536.2.2))
     else
      let a2043←M.q58 a1
      some (.go (a2043.2,a2043.1.zh,a2043.1.z0i,a2043.1.zk,a2043.1.z08)):Option (Jn (q04 × q0d) (q0d × Int × Z × (List q04) × (List Z))))
  match q1027 with
  | .done r=>some r
  | .go j1027 =>
   if (decide (j1027.1.ge=0)) then
    let a2045←M.q50 j1027.1
    some ((q04.mk j1027.2.1 j1027.2.2.1 j1027.2.2.2.1 j1027.2.2.2.2),a2045)
   else
    some ((q04.mk j1027.2.1 j1027.2.2.1 j1027.2.2.2.1 j1027.2.2.2.2),j1027.1)
def M.q4q (fuel:Nat) (p0:Z):Option (q04 × Int):=do
 if (decide (16384<(p0.length:Int))) then
  some ((q04.mk 0 [] [] []),22)
 else
  let a1←M.q57 fuel (q0d.mk p0 0 0) 0
  let j8←(do
    if (decide (a1.2.gi<(p0.length:Int))) then
     let a9←M.q59 a1.2 20
     some a9
    else
     some a1.2:Option q0d)
  if (!decide (j8.ge=0)) then
   some ((q04.mk 0 [] [] []),j8.ge)
  else
   some (a1.1,0)
def M.z3n (p0:q04) (p1:Z) (x27:Int):Option (Jn (q04 × Bool) Unit):=do
 if ((decide (x27<(p0.z08.length:Int)))&&(decide (x27<(p0.zk.length:Int)))) then
  let x38←ix p0.z08 x27
  if (decide (x38=p1)) then
   let x39←ix p0.zk x27
   some (.done (x39,true))
  else
   M.z3n p0 p1 (yb .i64 (x27+1))
 else
  some (.go ())
 partial_fixpoint
def M.q4p  (p0:q04) (p1:Z):Option (q04 × Bool):=do
 if (!decide (p0.zh=6)) then
  some ((q04.mk 0 [] [] []),false)
 else
  let q20←(do
    M.z3n p0 p1 0:Option (Jn (q04 × Bool) Unit))
  match q20 with
  | .done r=>some r
  | .go j20 =>
   some ((q04.mk 0 [] [] []),false)
def M.z4t (p0:q04) (x21:List Z) (x22:Int):Option (Jn ((List Z) × Bool) (List Z)):=do
 if (decide (x22<(p0.zk.length:Int))) then
  let x28←ix p0.zk x22
  if (!decide (x28.zh=4)) then
   some (.done ([],false))
  else
   let x29←ix p0.zk x22
   let l30←app 16 x21 [x29.z0i]
   M.z4t p0 l30 (yb .i64 (x22+1))
 else
  some (.go x21)
 partial_fixpoint
def M.q4u  (p0:q04):Option ((List Z) × Bool):=do
 if (!decide (p0.zh=5)) then
  some ([],false)
 else
  let q16←(do
    M.z4t p0 ([]:List Z) 0:Option (Jn ((List Z) × Bool) (List Z)))
  match q16 with
  | .done r=>some r
  | .go j16 =>
   some (j16,true)
def M.z3p (p0:q04) (x25:List q02) (x26:Int):Option (Jn ((List q02) × Bool) (List q02)):=do
 if (decide (x26<(p0.zk.length:Int))) then
  let x32←ix p0.zk x26
  let a33←M.q4u x32
  if (!a33.2) then
   some (.done ([],false))
  else
   let x35←ix p0.z08 x26
   let l36←app 40 x25 [(q02.mk x35 a33.1)]
   M.z3p p0 l36 (yb .i64 (x26+1))
 else
  some (.go x25)
 partial_fixpoint
def M.q64  (p0:q04):Option ((List q02) × Bool):=do
 if (!decide (p0.zh=6)) then
  some ([],false)
 else
  let q19←(do
    M.z3p p0 ([]:List q02) 0:Option (Jn ((List q02) × Bool) (List q02)))
  match q19 with
  | .done r=>some r
  | .go j19 =>
   some (j19,true)
def M.q5v (fuel:Nat) (p0:q0e) (p1:q03):Option (q00 × Bool):=do
 let a1←M.q6j p0 p1.z09
 let j8←(do
   if p0.zq then
    let a9←M.q6o p1.z0h
    some a9
   else
    some []:Option Z)
 let q34←(do
   if p0.zbj then
    let a35←M.q63 p1.z0h B24
    let j43←(do
      if a35.2 then
       if (decide ((a35.1.length:Int)<7)) then
        some true
       else
        let s44←sub a35.1 0 7
        some (!decide (s44=B46))
      else
       some false:Option Bool)
    if j43 then
     some (.done ((q00.mk p0.zh a1.1 [] [] j8 [] [] [] [] [] [] [] [] [] [] [] a1.2.1 [] [] [] [] [] [] [] 0 0),false))
    else
     if a35.2 then
      let s45←sub a35.1 7 (a35.1.length:Int)
      some (.go s45)
     else
      some (.go [])
   else
    some (.go []):Option (Jn (q00 × Bool) Z))
 match q34 with
 | .done r=>some r
 | .go j34 =>
  let q77←(do
    if p0.z5v then
     let a78←M.q63 p1.z0h B39
     let j89←(do
       if a78.2 then
        if (decide ((a78.1.length:Int)<2)) then
         some true
        else
         let c90←ix a78.1 0
         if (!decide ((c90.toNat:Int)=34)) then
          some true
         else
          let c91←ix a78.1 (yb .i64 ((a78.1.length:Int) - 1))
          some (!decide ((c91.toNat:Int)=34))
       else
        some false:Option Bool)
     if j89 then
      some (.done ((q00.mk p0.zh a1.1 [] [] j8 [] j34 [] [] [] [] [] [] [] [] [] a1.2.1 [] [] [] [] [] [] [] 0 0),false))
     else
      if a78.2 then
       let s92←sub a78.1 1 (yb .i64 ((a78.1.length:Int) - 1))
       some (.go s92)
      else
       some (.go [])
    else
     some (.go []):Option (Jn (q00 × Bool) Z))
  match q77 with
  | .done r=>some r
  | .go j77 =>
   let a107←M.q6k j8
   let j112←(do
     if (!a107) then
      some true
     else
      if p0.zbj then
       let a113←M.q5u j34 33 126
       some (!a113)
      else
       some false:Option Bool)
   let j118←(do
     if j112 then
      some true
     else
      let a119←M.q6r j77
      some (!a119):Option Bool)
   if j118 then
    some ((q00.mk p0.zh a1.1 [] [] j8 [] j34 [] [] [] [] [] [] [] [] [] a1.2.1 [] [] [] j77 [] [] [] 0 0),false)
   else
    if (((!decide (p0.z5k=B32))&&(decide (0<(p1.z0r.length:Int))))||(if (decide (p0.z5k=[])) then (!decide (p1.z01=[])) else ((decide (p0.z5k=B32))&&(!decide (p1.z01=[]))))) then
     some ((q00.mk p0.zh a1.1 [] [] j8 [] j34 [] [] [] [] [] [] [] [] [] a1.2.1 [] [] [] j77 [] [] [] 0 0),false)
    else
     if (decide (p0.z5k=B32)) then
      let a133←M.q68 p0 (q00.mk p0.zh a1.1 [] [] j8 [] j34 [] [] [] [] [] [] [] [] [] a1.2.1 [] [] [] j77 [] [] [] 0 0) p1.z0r
      some (a133.1,a133.2)
     else
      if (decide (p0.z5k=B10)) then
       let a135←M.q4c p1.z01
       if (!decide (a135.2=0)) then
        some ((q00.mk p0.zh a1.1 [] [] j8 [] j34 [] [] [] [] [] [] [] [] [] a1.2.1 [] [] [] j77 [] [] [] 0 0),false)
       else
        let a137←M.q68 p0 (q00.mk p0.zh a1.1 [] [] j8 [] j34 [] [] [] [] [] [] [] [] [] a1.2.1 [] [] [] j77 [] [] [] 0 0) a135.1
        some (a137.1,a137.2)
      else
       if (decide (p0.z5k=B69)) then
        some ((q00.mk p0.zh a1.1 [] [] j8 [] j34 [] [] [] [] [] [] [] [] [] a1.2.1 [] [] [] j77 [] p1.z01 [] 0 0),true)
       else
        if (decide (p0.z5k=B75)) then
         let a139←M.q4q fuel p1.z01
         let a141←M.q4p a139.1 [105,100]
         let a143←M.q4p a139.1 B33
         let a145←M.q64 a143.1
         if ((((((!decide (a139.2=0))||(!decide ((a139.1.zk.length:Int)=2)))||(!a141.2))||(!a143.2))||(!decide (a141.1.zh=4)))||(!a145.2)) then
          some ((q00.mk p0.zh a1.1 [] [] j8 [] j34 [] [] [] [] [] [] [] [] [] a1.2.1 [] [] [] j77 [] [] [] 0 0),false)
         else
          some ((q00.mk p0.zh a1.1 [] [] j8 [] j34 [] [] [] [] [] [] [] [] [] a141.1.z0i [] [] [] j77 [] [] a145.1 0 0),true)
        else
         some ((q00.mk p0.zh a1.1 [] [] j8 [] j34 [] [] [] [] [] [] [] [] [] a1.2.1 [] [] [] j77 [] [] [] 0 0),true)
def M.z4m (a1:(List q0e)) (p0:q03) (fuel:Nat) (x71:Int) (x72:Int):Option (Jn (q00 × Int) Int):=do
 if (decide (x72<(a1.length:Int))) then
  let x89←ix a1 x72
  let a90←M.q6j x89 p0.z09
  if (!a90.2.2) then
   M.z4m a1 p0 fuel x71 (yb .i64 (x72+1))
  else
   let j93←(do
     if (decide (x71=225)) then
      some 226
     else
      some x71:Option Int)
   let x95←ix a1 x72
   if (!decide (x95.z02=p0.z02)) then
    M.z4m a1 p0 fuel j93 (yb .i64 (x72+1))
   else
    let j101←(do
      let x102←ix a1 x72
      let a103←M.q5v fuel x102 p0
      some (a103.2,a103.1):Option (Bool × q00))
    if j101.1 then
     some (.done (j101.2,0))
    else
     M.z4m a1 p0 fuel 227 (yb .i64 (x72+1))
 else
  some (.go x71)
 partial_fixpoint
def M.q5f (fuel:Nat) (p0:q03):Option (q00 × Int):=do
 let a1←M.q5n
 let q54←(do
   M.z4m a1 p0 fuel 225 0:Option (Jn (q00 × Int) Int))
 match q54 with
 | .done r=>some r
 | .go j54 =>
  some ((q00.mk 0 [] [] [] [] [] [] [] [] [] [] [] [] [] [] [] [] [] [] [] [] [] [] [] 0 0),j54)
def M.q3u (fuel:Nat) (p0:q03):Option Bool:=do
 let a1←M.q0r fuel p0
 let a3←M.q5f fuel p0
 let a5←M.q45 fuel
 let j12←(do
   if (a5&&(decide (a1.2=a3.2))) then
    let a13←M.q5p a1.1 a3.1
    some a13
   else
    some false:Option Bool)
 some j12
end Go.Sen
