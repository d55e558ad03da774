import Derived.Test.YtfdoofnmjehecaaGreatDoorRPfX
import Derived.Lib.ValidLaws
import Derived.Lib.AtoiAll
import Derived.Lib.ItoaNum
import Derived.Lib.SlTrimSet
import Derived.Lib.Bytealg
import Derived.Lib.SlicesCompact
import Derived.Lib.IndexMore
import Derived.Lib.Join
import Derived.Lib.Split
import Derived.Lib.CountLaws
import Derived.Shelf.Strings.MapAny
import Derived.Shelf.GgClosure.StringsIndexFunc
import Derived.Lib.IndexAny
import Derived.Lib.Replace
set_option linter.all false
namespace Go.Sen
open _root_.Int renaming tdiv → ya, tmod → yb
open IntKind renaming wrap → yc
open Go.Lk Go.Pe
abbrev B1:List UInt8:=[65,66,67,68,69,70,71,72,73,74,75,76,77,78,79,80,81,82,83,84,85,86,87,88,89,90,97,98,99,100,101,102,103,104,105,106,107,108,109,110,111,112,113,114,115,116,117,118,119,120,121,122,48,49,50,51,52,53,54,55,56,57,45,95]
abbrev B2:List UInt8:=[103,114,97,110,116,95,116,121,112,101,61,117,114,110,58,105,101,116,102,58,112,97,114,97,109,115,58,111,97,117,116,104,58,103,114,97,110,116,45,116,121,112,101,58,116,111,107,101,110,45,101,120,99,104,97,110,103,101,44,32,99,108,105,101,110,116,95,105,100,32,67,108,105,101,110,116,44,32,99,108,105,101,110,116,95,115,101,99,114,101,116,32,83,101,99,114,101,116,44,32,115,117,98,106,101,99,116,95,116,111,107,101,110,32,84,111,107,101,110,44,32,97,99,116,111,114,95,116,111,107,101,110,32,65,99,116,111,114,44,32,115,99,111,112,101,32,83,99,111,112,101,44,32,97,117,100,105,101,110,99,101,32,65,117,100,105,101,110,99,101]
abbrev B3:List UInt8:=[114,101,115,112,111,110,115,101,95,116,121,112,101,61,99,111,100,101,44,32,99,108,105,101,110,116,95,105,100,32,67,108,105,101,110,116,44,32,114,101,100,105,114,101,99,116,95,117,114,105,32,82,101,100,105,114,101,99,116,44,32,115,99,111,112,101,32,83,99,111,112,101,44,32,99,111,100,101,95,99,104,97,108,108,101,110,103,101,95,109,101,116,104,111,100,61,83,50,53,54,44,32,99,111,100,101,95,99,104,97,108,108,101,110,103,101,32,67,104,97,108,108,101,110,103,101,44,32,110,111,110,99,101,32,78,111,110,99,101]
abbrev B4:List UInt8:=[103,114,97,110,116,95,116,121,112,101,61,97,117,116,104,111,114,105,122,97,116,105,111,110,95,99,111,100,101,44,32,99,108,105,101,110,116,95,105,100,32,67,108,105,101,110,116,44,32,99,108,105,101,110,116,95,115,101,99,114,101,116,32,83,101,99,114,101,116,44,32,99,111,100,101,32,67,111,100,101,44,32,114,101,100,105,114,101,99,116,95,117,114,105,32,82,101,100,105,114,101,99,116,44,32,99,111,100,101,95,118,101,114,105,102,105,101,114,32,86,101,114,105,102,105,101,114]
abbrev B5:List UInt8:=[80,79,83,84]
abbrev B6:List UInt8:=[99,108,105,101,110,116,95,105,100,32,67,108,105,101,110,116,44,32,99,108,105,101,110,116,95,115,101,99,114,101,116,32,83,101,99,114,101,116,44,32,116,111,107,101,110,32,84,111,107,101,110]
abbrev B7:List UInt8:=[103,114,97,110,116,95,116,121,112,101,61,99,108,105,101,110,116,95,99,114,101,100,101,110,116,105,97,108,115,44,32,99,108,105,101,110,116,95,105,100,32,67,108,105,101,110,116,44,32,99,108,105,101,110,116,95,115,101,99,114,101,116,32,83,101,99,114,101,116,44,32,115,99,111,112,101,32,83,99,111,112,101,44,32,97,117,100,105,101,110,99,101,32,65,117,100,105,101,110,99,101]
abbrev B8:List UInt8:=[103,114,97,110,116,95,116,121,112,101,61,114,101,102,114,101,115,104,95,116,111,107,101,110,44,32,99,108,105,101,110,116,95,105,100,32,67,108,105,101,110,116,44,32,99,108,105,101,110,116,95,115,101,99,114,101,116,32,83,101,99,114,101,116,44,32,114,101,102,114,101,115,104,95,116,111,107,101,110,32,84,111,107,101,110,44,32,115,99,111,112,101,32,83,99,111,112,101]
abbrev B9:List UInt8:=[102,111,114,109]
abbrev B10:List UInt8:=[72,84,84,80,47,49,46,49,32,52,48,49,32,85,110,97,117,116,104,111,114,105,122,101,100,13,10,99,111,110,116,101,110,116,45,116,121,112,101,58,32,97,112,112,108,105,99,97,116,105,111,110,47,106,115,111,110,13,10,99,111,110,116,101,110,116,45,108,101,110,103,116,104,58,32,49,51,13,10,13,10,123,34,101,114,114,111,114,34,58,49,55,49,125]
abbrev B11:List UInt8:=[114,101,102,114,101,115,104,95,116,111,107,101,110]
abbrev B12:List UInt8:=[99,108,105,101,110,116,95,105,100]
abbrev B13:List UInt8:=[80,79,83,84,32,47,108,111,103,105,110,32,72,84,84,80,47,49,46,49,13,10,72,111,115,116,58,32,120,13,10,67,111,110,116,101,110,116,45,76,101,110,103,116,104,58,32,49,53,13,10,13,10,117,115,101,114,61,97,110,110,38,112,97,115,115,61,112,109,111,114,101]
abbrev B14:List UInt8:=[80,79,83,84,32,47,108,111,103,105,110,32,72,84,84,80,47,49,46,49,13,10,104,111,115,116,58,32,105,100,112,13,10,99,111,110,116,101,110,116,45,108,101,110,103,116,104,58,32,49,53,13,10,13,10,117,115,101,114,61,97,110,110,38,112,97,115,115,61,112]
abbrev B15:List UInt8:=[80,79,83,84,32,47,108,111,103,105,110,32,72,84,84,80,47,49,46,49,13,10,72,111,115,116,58,32,120,13,10,67,111,110,116,101,110,116,45,76,101,110,103,116,104,58,32,49,53,13,10,13,10,117,115,101,114,61,97,110,110,38,112,97,115,115,61,112]
abbrev B16:List UInt8:=[97,117,116,104,111,114,105,122,97,116,105,111,110]
abbrev B17:List UInt8:=[99,111,110,116,101,110,116,45,108,101,110,103,116,104,58,32]
abbrev B18:List UInt8:=[116,114,97,110,115,102,101,114,45,101,110,99,111,100,105,110,103]
abbrev B19:List UInt8:=[47,115,99,105,109,47,79,70,47,78,65,77,69]
abbrev B20:List UInt8:=[99,111,110,116,101,110,116,45,108,101,110,103,116,104]
abbrev B21:List UInt8:=[107,101,121,32,78,97,109,101,44,32,100,97,116,97,32,68,97,116,97,32,98,54,52,44,32,99,108,105,101,110,116,32,66,111,100,121,32,98,54,52,44,32,115,105,103,32,83,105,103,32,98,54,52]
abbrev B22:List UInt8:=[102,97,108,115,101]
abbrev B23:List UInt8:=[117,114,110,58,105,101,116,102,58,112,97,114,97,109,115,58,111,97,117,116,104,58,103,114,97,110,116,45,116,121,112,101,58,116,111,107,101,110,45,101,120,99,104,97,110,103,101]
abbrev B24:List UInt8:=[99,108,105,101,110,116,95,115,101,99,114,101,116]
abbrev B25:List UInt8:=[102,105,101,108,100,115]
abbrev B26:List UInt8:=[115,99,111,112,101]
abbrev B27:List UInt8:=[102,105,108,116,101,114,32,70,105,108,116,101,114,44,32,115,116,97,114,116,73,110,100,101,120,32,70,114,111,109,44,32,99,111,117,110,116,32,67,111,117,110,116]
abbrev B28:List UInt8:=[97,99,99,101,115,115,95,116,111,107,101,110]
abbrev B29:List UInt8:=[104,111,115,116]
abbrev B30:List UInt8:=[110,117,108,108]
abbrev B31:List UInt8:=[116,114,117,101]
abbrev B32:List UInt8:=[113,117,101,114,121]
abbrev B33:List UInt8:=[47,116,111,107,101,110]
abbrev B34:List UInt8:=[105,102,45,109,97,116,99,104]
abbrev B35:List UInt8:=[34,92,47,98,102,110,114,116]
abbrev B36:List UInt8:=[66,101,97,114,101,114,32]
abbrev B37:List UInt8:=[115,101,115,115,105,111,110,61]
abbrev B38:List UInt8:=[105,100,95,116,111,107,101,110]
abbrev B39:List UInt8:=[99,111,111,107,105,101]
abbrev B40:List UInt8:=[116,111,107,101,110]
abbrev B41:List UInt8:=[67,111,117,110,116]
abbrev B42:List UInt8:=[103,114,97,110,116,95,116,121,112,101]
abbrev B43:List UInt8:=[114,101,100,105,114,101,99,116,95,117,114,105]
abbrev B44:List UInt8:=[110,111,110,99,101]
abbrev B45:List UInt8:=[47,97,100,109,105,110,47,112,97,115,115,119,111,114,100]
abbrev B46:List UInt8:=[47,115,99,105,109,47,79,70]
abbrev B47:List UInt8:=[108,101,118,101,108]
abbrev B48:List UInt8:=[116,111,107,101,110,32,84,111,107,101,110,44,32,112,97,115,115,32,80,97,115,115]
abbrev B49:List UInt8:=[99,111,100,101,95,99,104,97,108,108,101,110,103,101,95,109,101,116,104,111,100]
abbrev B50:List UInt8:=[101,120,112,105,114,101,115,95,105,110]
abbrev B51:List UInt8:=[70,114,111,109]
abbrev B52:List UInt8:=[78,65,77,69]
abbrev B53:List UInt8:=[115,101,116,45,99,111,111,107,105,101,58,32,115,101,115,115,105,111,110,61]
abbrev B54:List UInt8:=[112,97,116,99,104]
abbrev B55:List UInt8:=[117,115,101,114,32,85,115,101,114,44,32,112,97,115,115,32,80,97,115,115]
abbrev B56:List UInt8:=[110,97,109,101,32,78,97,109,101,44,32,112,97,115,115,32,80,97,115,115]
abbrev B57:List UInt8:=[103,114,97,110,116]
abbrev B58:List UInt8:=[97,117,116,104,111,114,105,122,97,116,105,111,110,95,99,111,100,101]
abbrev B59:List UInt8:=[99,108,105,101,110,116,95,99,114,101,100,101,110,116,105,97,108,115]
abbrev B60:List UInt8:=[106,115,111,110]
abbrev B61:List UInt8:=[47,105,110,116,114,111,115,112,101,99,116]
abbrev B62:List UInt8:=[99,111,100,101]
abbrev B63:List UInt8:=[47,108,111,103,105,110,47,99,111,100,101]
abbrev B64:List UInt8:=[47,101,110,114,111,108,47,99,111,100,101]
abbrev B65:List UInt8:=[47,97,100,109,105,110,47,116,117,114,110]
abbrev B66:List UInt8:=[97,117,100,105,101,110,99,101]
abbrev B67:List UInt8:=[99,111,117,110,116]
abbrev B68:List UInt8:=[116,101,120,116]
abbrev B69:List UInt8:=[47,108,111,103,105,110,47,107,101,121]
abbrev B70:List UInt8:=[47,101,110,114,111,108,47,107,101,121]
abbrev B71:List UInt8:=[47,97,117,116,104,111,114,105,122,101]
abbrev B72:List UInt8:=[47,99,104,97,108,108,101,110,103,101]
abbrev B73:List UInt8:=[47,117,115,101,114,105,110,102,111]
abbrev B74:List UInt8:=[99,111,100,101,95,99,104,97,108,108,101,110,103,101]
abbrev B75:List UInt8:=[108,111,103,105,110]
abbrev B76:List UInt8:=[67,104,97,108,108,101,110,103,101]
abbrev B77:List UInt8:=[114,101,115,112,111,110,115,101,95,116,121,112,101]
abbrev B78:List UInt8:=[99,111,100,101,95,118,101,114,105,102,105,101,114]
abbrev B79:List UInt8:=[115,117,98,106,101,99,116,95,116,111,107,101,110]
abbrev B80:List UInt8:=[116,104,105,110,103,115]
abbrev B81:List UInt8:=[112,97,115,115]
abbrev B82:List UInt8:=[86,101,114,105,102,105,101,114]
abbrev B83:List UInt8:=[82,101,100,105,114,101,99,116]
abbrev B84:List UInt8:=[65,117,100,105,101,110,99,101]
abbrev B85:List UInt8:=[97,99,116,105,118,101]
abbrev B86:List UInt8:=[99,108,97,105,109,115]
abbrev B87:List UInt8:=[100,97,116,97,32,68,97,116,97,32,98,54,52]
abbrev B88:List UInt8:=[97,99,116,111,114,95,116,111,107,101,110]
abbrev B89:List UInt8:=[47,108,111,103,111,117,116]
abbrev B90:List UInt8:=[47,102,111,114,103,111,116]
abbrev B91:List UInt8:=[47,114,101,118,111,107,101]
abbrev B92:List UInt8:=[101,114,114,111,114]
abbrev B93:List UInt8:=[116,111,116,97,108]
abbrev B94:List UInt8:=[115,99,105,109]
abbrev B95:List UInt8:=[115,116,97,114,116,73,110,100,101,120]
abbrev B96:List UInt8:=[68,69,76,69,84,69]
abbrev B97:List UInt8:=[47,108,111,103,105,110]
abbrev B98:List UInt8:=[47,114,101,115,101,116]
abbrev B99:List UInt8:=[67,108,105,101,110,116]
abbrev B100:List UInt8:=[70,105,108,116,101,114]
abbrev B101:List UInt8:=[117,115,101,114,32,85,115,101,114]
abbrev B102:List UInt8:=[83,101,99,114,101,116]
abbrev B103:List UInt8:=[117,115,101,114]
abbrev B104:List UInt8:=[99,111,100,101,32,67,111,100,101]
abbrev B105:List UInt8:=[80,65,84,67,72]
abbrev B106:List UInt8:=[100,97,116,97]
abbrev B107:List UInt8:=[47,107,101,121,115]
abbrev B108:List UInt8:=[84,111,107,101,110]
abbrev B109:List UInt8:=[65,99,116,111,114]
abbrev B110:List UInt8:=[83,99,111,112,101]
abbrev B111:List UInt8:=[78,111,110,99,101]
structure q05 where
 zj:Z
 z1y:Z
def q05.enc:q05→List D|⟨a,b⟩=>[D.str a,D.str b]
theorem q05.z0v:∀x:q05,q05.enc x=[D.str x.zj,D.str x.z1y]|⟨a,b⟩=>by first|rfl|simp[q05.enc]
@[reducible]def q05.v(x:q05):List PV:=[.str x.zj,.str x.z1y]
structure q03 where
 zt:Z
 z00:List Z
 z0d:List q05
 zp:List q05
 zx:Z
@[reducible]def q03.v(x:q03):List PV:=[.str x.zt,.sl 9 1 (x.z00.map eS),.sl 72 2 (x.z0d.map q05.enc),.sl 72 2 (x.zp.map q05.enc),.str x.zx]
structure q01 where
 zwr:Z
 zwt:Z
 zwq:Z
 z08:Z
 zws:Z
 z0t:Z
 gIat:Int
 gExp:Int
 z4o:Int
 z0b:List Z
 zr2:List Z
@[reducible]def q01.v(x:q01):List PV:=[.str x.zwr,.str x.zwt,.str x.zwq,.str x.z08,.str x.zws,.str x.z0t,.int .i64 x.gIat,.int .i64 x.gExp,.int .i64 x.z4o,.sl 9 1 (x.z0b.map eS),.sl 9 1 (x.zr2.map eS)]
structure q02 where
 zj:Z
 z38:List Z
def q02.enc:q02→List D|⟨a,b⟩=>[D.str a,D.sl 9 1 (b.map eS)]
theorem q02.z0v:∀x:q02,q02.enc x=[D.str x.zj,D.sl 9 1 (x.z38.map eS)]|⟨a,b⟩=>by first|rfl|simp[q02.enc]
@[reducible]def q02.v(x:q02):List PV:=[.str x.zj,.sl 9 1 (x.z38.map eS)]
structure q07 where
 gId:Z
 zf:Z
 z5r:Z
 z02:List q02
def q07.enc:q07→List D|⟨a,b,c,d⟩=>[D.str a,D.str b,D.str c,D.sl 189 2 (d.map q02.enc)]
theorem q07.z0v:∀x:q07,q07.enc x=[D.str x.gId,D.str x.zf,D.str x.z5r,D.sl 189 2 (x.z02.map q02.enc)]|⟨a,b,c,d⟩=>by first|rfl|simp[q07.enc]
structure q06 where
 zd5:Int
 z29:Int
 zk:Z
 zch:Z
 z8x:Z
 z7e:Z
 gId:Z
 z09:Z
 z0b:List Z
 z5n:Int
 z4o:Int
 z8o:Int
 zd4:Bool
 z56:q01
 zaz:List q07
@[reducible]def q06.v(x:q06):List PV:=[.int .i64 x.zd5,.int .i64 x.z29,.str x.zk,.str x.zch,.str x.z8x,.str x.z7e,.str x.gId,.str x.z09,.sl 9 1 (x.z0b.map eS),.int .i64 x.z5n,.int .i64 x.z4o,.int .i64 x.z8o,.bool x.zd4,.str x.z56.zwr,.str x.z56.zwt,.str x.z56.zwq,.str x.z56.z08,.str x.z56.zws,.str x.z56.z0t,.int .i64 x.z56.gIat,.int .i64 x.z56.gExp,.int .i64 x.z56.z4o,.sl 9 1 (x.z56.z0b.map eS),.sl 9 1 (x.z56.zr2.map eS),.sl 123 4 (x.zaz.map q07.enc)]
structure q00 where
 zf:Int
 gOf:Z
 z3j:Z
 z3h:Z
 zk:Z
 z29:Z
 z0l:Z
 z1n:Z
 z08:Z
 z0o:Z
 z03:Z
 z0b:Z
 z01:Z
 zq:Z
 z04:Z
 z0t:Z
 zj:Z
 z3u:Z
 zx:Z
 z8d:Z
 z5r:Z
 z0n:Z
 z1e:Z
 z02:List q02
 z2t:Int
 z11:Int
def q00.enc:q00→List D|⟨q,r,s,t,u,v,w,x,y,z,a,b,c,d,e,f,g,h,i,j,k,l,m,n,o,p⟩=>[D.int .i64 q,D.str r,D.str s,D.str t,D.str u,D.str v,D.str w,D.str x,D.str y,D.str z,D.str a,D.str b,D.str c,D.str d,D.str e,D.str f,D.str g,D.str h,D.str i,D.str j,D.str k,D.str l,D.str m,D.sl 189 2 (n.map q02.enc),D.int .i64 o,D.int .i64 p]
theorem q00.z0v:∀x:q00,q00.enc x=[D.int .i64 x.zf,D.str x.gOf,D.str x.z3j,D.str x.z3h,D.str x.zk,D.str x.z29,D.str x.z0l,D.str x.z1n,D.str x.z08,D.str x.z0o,D.str x.z03,D.str x.z0b,D.str x.z01,D.str x.zq,D.str x.z04,D.str x.z0t,D.str x.zj,D.str x.z3u,D.str x.zx,D.str x.z8d,D.str x.z5r,D.str x.z0n,D.str x.z1e,D.sl 189 2 (x.z02.map q02.enc),D.int .i64 x.z2t,D.int .i64 x.z11]|⟨q,r,s,t,u,v,w,y,z,A,a,b,c,d,e,f,g,h,i,j,k,l,m,n,o,p⟩=>by first|rfl|simp[q00.enc]
@[reducible]def q00.v(x:q00):List PV:=[.int .i64 x.zf,.str x.gOf,.str x.z3j,.str x.z3h,.str x.zk,.str x.z29,.str x.z0l,.str x.z1n,.str x.z08,.str x.z0o,.str x.z03,.str x.z0b,.str x.z01,.str x.zq,.str x.z04,.str x.z0t,.str x.zj,.str x.z3u,.str x.zx,.str x.z8d,.str x.z5r,.str x.z0n,.str x.z1e,.sl 189 2 (x.z02.map q02.enc),.int .i64 x.z2t,.int .i64 x.z11]
def q00.zkb(x:q00)(c:Nat):Option Z:=if c=1 then some x.gOf else if c=2 then some x.z3j else if c=3 then some x.z3h else if c=4 then some x.zk else if c=5 then some x.z29 else if c=6 then some x.z0l else if c=7 then some x.z1n else if c=8 then some x.z08 else if c=9 then some x.z0o else if c=10 then some x.z03 else if c=11 then some x.z0b else if c=12 then some x.z01 else if c=13 then some x.zq else if c=14 then some x.z04 else if c=15 then some x.z0t else if c=16 then some x.zj else if c=17 then some x.z3u else if c=18 then some x.zx else if c=19 then some x.z8d else if c=20 then some x.z5r else if c=21 then some x.z0n else if c=22 then some x.z1e else none
def q00.setAt(x:q00)(c:Nat)(v:Z):Option q00:=if c=1 then some {x with gOf:=v}else if c=2 then some {x with z3j:=v}else if c=3 then some {x with z3h:=v}else if c=4 then some {x with zk:=v}else if c=5 then some {x with z29:=v}else if c=6 then some {x with z0l:=v}else if c=7 then some {x with z1n:=v}else if c=8 then some {x with z08:=v}else if c=9 then some {x with z0o:=v}else if c=10 then some {x with z03:=v}else if c=11 then some {x with z0b:=v}else if c=12 then some {x with z01:=v}else if c=13 then some {x with zq:=v}else if c=14 then some {x with z04:=v}else if c=15 then some {x with z0t:=v}else if c=16 then some {x with zj:=v}else if c=17 then some {x with z3u:=v}else if c=18 then some {x with zx:=v}else if c=19 then some {x with z8d:=v}else if c=20 then some {x with z5r:=v}else if c=21 then some {x with z0n:=v}else if c=22 then some {x with z1e:=v}else none
theorem q00.zz061{α:Type}{p:Prop}[Decidable p]{a b:Option α}{s:α}(h:(if p then a else b)=some s):p∧a=some s∨¬p∧b=some s:=by
 split at h;·exact .inl ⟨by assumption,h⟩
 ·exact .inr ⟨by assumption,h⟩
theorem q00.at_eq{x:q00}{c:Nat}{s:Z}(h:x.zkb c=some s):z8j false 1 (List.take 1 (List.drop c x.v))=some (.str s):=by
 unfold q00.zkb at h;repeat(rcases q00.zz061 h with⟨rfl,h⟩|⟨-,h⟩;·cases h;rfl)
 cases h
theorem q00.zz06m{x a:q00}{c:Nat}{v:Z}(h:x.setAt c v=some a):stC x.v c 1 [.str v]=some a.v:=by
 unfold q00.setAt at h;repeat(rcases q00.zz061 h with⟨rfl,h⟩|⟨-,h⟩;·cases h;rfl)
 cases h
structure q04 where
 zf:Int
 z09:Z
 zi:List q04
 zv:List Z
mutual
def q04.enc:q04→List D
 | ⟨a,b,c,d⟩=>[D.int .i64 a,D.str b,D.sl 103 4 (q04.z7t c),D.sl 9 1 (d.map eS)]
def q04.z7t:List q04→List (List D)
 | []=>[]
 | x::xs=>x.enc::q04.z7t xs
end
theorem q04.z0a:∀l:List q04,q04.z7t l=l.map q04.enc|[]=>rfl|x::xs=>by simp[q04.z7t,q04.z0a xs]
theorem q04.z0v:∀x:q04,q04.enc x=[D.int .i64 x.zf,D.str x.z09,D.sl 103 4 (q04.z7t x.zi),D.sl 9 1 (x.zv.map eS)]|⟨a,b,c,d⟩=>by first|rfl|simp[q04.enc]
@[reducible]def q04.v(x:q04):List PV:=[.int .i64 x.zf,.str x.z09,.sl 103 4 (q04.z7t x.zi),.sl 9 1 (x.zv.map eS)]
@[reducible]def q04.d(x:q04):List D:=[.int .i64 x.zf,.str x.z09,.sl 103 4 (q04.z7t x.zi),.sl 9 1 (x.zv.map eS)]
structure q0b where
 zf9:Z
 z6r:Nat
 zci:Z
 zmb:Bool
def q0b.enc:q0b→List D|⟨a,b,c,d⟩=>[D.str a,dfn b,D.str c,D.bool d]
theorem q0b.z0v:∀x:q0b,q0b.enc x=[D.str x.zf9,dfn x.z6r,D.str x.zci,D.bool x.zmb]|⟨a,b,c,d⟩=>by first|rfl|simp[q0b.enc]
@[reducible]def q0b.v(x:q0b):List PV:=[.str x.zf9,.fn x.z6r [] [],.str x.zci,.bool x.zmb]
structure q0a where
 zr3:Int
 z9y:Z
 zgn:Z
 z9e:Int
 z4q:Int
 z7j:List q0b
def q0a.enc:q0a→List D|⟨a,b,c,d,e,f⟩=>[D.int .i64 a,D.str b,D.str c,D.int .i64 d,D.int .i64 e,D.sl 179 4 (f.map q0b.enc)]
theorem q0a.z0v:∀x:q0a,q0a.enc x=[D.int .i64 x.zr3,D.str x.z9y,D.str x.zgn,D.int .i64 x.z9e,D.int .i64 x.z4q,D.sl 179 4 (x.z7j.map q0b.enc)]|⟨a,b,c,d,e,f⟩=>by first|rfl|simp[q0a.enc]
@[reducible]def q0a.v(x:q0a):List PV:=[.int .i64 x.zr3,.str x.z9y,.str x.zgn,.int .i64 x.z9e,.int .i64 x.z4q,.sl 179 4 (x.z7j.map q0b.enc)]
structure q09 where gv:q04
@[reducible]def q09.v(x:q09):List PV:=[.int .i64 x.gv.zf,.str x.gv.z09,.sl 103 4 (q04.z7t x.gv.zi),.sl 9 1 (x.gv.zv.map eS)]
@[reducible]def q09.d(x:q09):List D:=[.int .i64 x.gv.zf,.str x.gv.z09,.sl 103 4 (q04.z7t x.gv.zi),.sl 9 1 (x.gv.zv.map eS)]
structure q0f where
 zj:Z
 z8c:Z
 zi4:Z
 zjw:Bool
def q0f.enc:q0f→List D|⟨a,b,c,d⟩=>[D.str a,D.str b,D.str c,D.bool d]
theorem q0f.z0v:∀x:q0f,q0f.enc x=[D.str x.zj,D.str x.z8c,D.str x.zi4,D.bool x.zjw]|⟨a,b,c,d⟩=>by first|rfl|simp[q0f.enc]
structure q0e where
 zf:Int
 zt:Z
 z00:Z
 z4m:Z
 zk:Bool
 z9x:Bool
 z5r:Bool
 z68:List q0f
def q0e.enc:q0e→List D|⟨a,b,c,d,e,f,g,h⟩=>[D.int .i64 a,D.str b,D.str c,D.str d,D.bool e,D.bool f,D.bool g,D.sl 208 4 (h.map q0f.enc)]
theorem q0e.z0v:∀x:q0e,q0e.enc x=[D.int .i64 x.zf,D.str x.zt,D.str x.z00,D.str x.z4m,D.bool x.zk,D.bool x.z9x,D.bool x.z5r,D.sl 208 4 (x.z68.map q0f.enc)]|⟨a,b,c,d,e,f,g,h⟩=>by first|rfl|simp[q0e.enc]
@[reducible]def q0e.v(x:q0e):List PV:=[.int .i64 x.zf,.str x.zt,.str x.z00,.str x.z4m,.bool x.zk,.bool x.z9x,.bool x.z5r,.sl 208 4 (x.z68.map q0f.enc)]
structure q08 where z1v:q04
structure q0c where gs:Z
structure q0d where
 gs:Z
 gi:Int
 ge:Int
@[reducible]def q0d.v(x:q0d):List PV:=[.str x.gs,.int .i64 x.gi,.int .i64 x.ge]
structure q0g where
 glo:Int
 ghi:Int
def q0g.enc:q0g→List D|⟨a,b⟩=>[D.int .u8 a,D.int .u8 b]
theorem q0g.z0v:∀x:q0g,q0g.enc x=[D.int .u8 x.glo,D.int .u8 x.ghi]|⟨a,b⟩=>by first|rfl|simp[q0g.enc]
@[reducible]def _root_.Go.Pe.PV.l5(l:List Int):PV:=.sl 5 1 (l.map (eI .u8))
@[reducible]def _root_.Go.Pe.PV.l9(l:List Z):PV:=.sl 9 1 (l.map eS)
@[reducible]def _root_.Go.Pe.PV.l72(l:List q05):PV:=.sl 72 2 (l.map q05.enc)
@[reducible]def _root_.Go.Pe.PV.l103(l:List q04):PV:=.sl 103 4 (q04.z7t l)
@[reducible]def _root_.Go.Pe.PV.l112(l:List q0a):PV:=.sl 112 6 (l.map q0a.enc)
@[reducible]def _root_.Go.Pe.PV.l129(l:List q0e):PV:=.sl 129 8 (l.map q0e.enc)
@[reducible]def _root_.Go.Pe.PV.l179(l:List q0b):PV:=.sl 179 4 (l.map q0b.enc)
@[reducible]def _root_.Go.Pe.PV.zww(l:List q02):PV:=.sl 189 2 (l.map q02.enc)
@[reducible]def _root_.Go.Pe.PV.l208(l:List q0f):PV:=.sl 208 4 (l.map q0f.enc)
@[reducible]def F.q2y:Nat:=155
@[reducible]def F.q25:Nat:=156
@[reducible]def F.q1d:Nat:=157
@[reducible]def F.q1u:Nat:=158
@[reducible]def F.q1f:Nat:=160
@[reducible]def F.q12:Nat:=161
@[reducible]def F.q2s:Nat:=162
@[reducible]def F.q2v:Nat:=163
@[reducible]def F.q1c:Nat:=152
@[reducible]def F.q2d:Nat:=164
@[reducible]def F.q2q:Nat:=165
@[reducible]def F.q1a:Nat:=166
@[reducible]def F.q1v:Nat:=167
@[reducible]def F.q30:Nat:=168
@[reducible]def F.q0z:Nat:=169
@[reducible]def F.q0y:Nat:=170
@[reducible]def F.q1j:Nat:=171
@[reducible]def F.q2r:Nat:=153
def utf8First:List Int:=(List.range 256).map fun c=>(Lib.firstT c:Int)
def zdg:List q0g:=(List.range 16).map fun i=>⟨(Lib.accLo i:Int),(Lib.accHi i:Int)⟩
def M.z5g(a:List Int):Option Unit:=some ()
def M.z0y(a:Z):Option Bool:=do let _←chk (decide (a.length≤9223372036854775807))some (Lib.validD a)
def M.zy(a:List Int):Option Z:=do let _←chk (decide (unb (byt a)=a))some (byt a)
def M.indexByte(a:Z)(b:Int):Option Int:=some (Lib.indexByte a b.toNat.toUInt8)
def M.trimLeft(c a:Z):Option Z:=do let _←chk (decide (a.length<4294967281)&&a.all fun b=>decide (b.toNat<128))some (Lib.trimLeftS c a)
def M.trim(c a:Z):Option Z:=do let _←chk (decide (c.length≤9223372036854775807)&&(decide (a.length<4294967281)&&a.all fun b=>decide (b.toNat<128)))some (Lib.trimS c a)
def M.atoi(a:Z):Option (Int×Bool):=do let _←chk (decide (a.length≤281474976710656))match Lib.atoiAll a with|.ok v=>some (v,true)|.range=>some (Lib.atoiSat a,false)|_=>some (0,false)
def M.itoa(a:Int):Option Z:=do let _←chk (decide (-9223372036854775808≤a)&&decide (a≤9223372036854775807))some (Lib.itoa a)
def M.z6x(a b:Z):Option Int:=do let _←chk (decide (a.length<4294967281))some (Lib.index a b)
def M.single(a:List Z):Option Bool:=do let _←chk (decide (a.length*16≤140737488355328))some (decide (((Lib.compact (a.mergeSort fun x y=>decide (x≤y))).length:Int)=a.length))
def M.join(a:List Z)(b:Z):Option Z:=do let _←chk (decide (a.length≤140737488355328)&&decide ((Lib.join a b).length≤140737488355328))some (Lib.join a b)
def M.cut(a b:Z):Option (Z×Z×Bool):=do let _←chk (decide (a.length<4294967281))some (Lib.cut a b)
def M.contains(a b:Z):Option Bool:=do let _←chk (decide (a.length<4294967281))some (Lib.contains a b)
def zje(s sep:Z):List Z:=(Lib.splitB ⟨sep.toArray⟩ 0 (Lib.countB ⟨s.toArray⟩ ⟨sep.toArray⟩) ⟨s.toArray⟩).map (·.data.toList)
def M.split(a b:Z):Option (List Z):=do let _←chk (decide (a.length<4294967281)&&decide (1≤b.length))some (zje a b)
def M.containsAny(a c:Z):Option Bool:=do let _←chk (decide (a.length<4294967281)&&(a.all (fun b=>decide (b.toNat<128))&&(decide (c.length<4294967281)&&c.all fun b=>decide (b.toNat<128))))some (Lib.containsAny a c)
def M.replaceAll(a b c:Z):Option Z:=do let _←chk (decide (a.length<4294967281)&&(decide (b.length=1)&&decide (c.length=1)))some (Lib.replaceAll a b c)
def zrn(c:Int):Int:=if 65≤c∧c≤90 then c+32 else c
def M.z6t(a:Z):Option Z:=do let _←chk (decide (a.length<35184372088832))some (Lib.mapD zrn a)
def M.z1l(a:Z)(b:Int):Option Int:=some (Lib.idxFunc (fun r=>decide ((r:Int)%256=b)) true ⟨a.toArray⟩)
def wordP(n:Nat):Bool:=decide (n<33)||(decide (126<n)||(decide (n=34)||decide (n=92)))
def M.z3z(a:Z):Option Bool:=some (decide (0≤Lib.idxFunc wordP true ⟨a.toArray⟩))
def M.q1h  (b:Z):Option Int:=do let c←sub b 0 (minI (b.length:Int) 8192)let a←M.z6x c [13,10,13,10]if decide (0≤a)then some (yc .i64 (a+4))else some 0
def M.q1s  (a:Bool)(b:Int):Option (Rs Unit):=do if !a then some (.pan b)else some (.ok ())
def M.q1r  (a:Z):Option Bool:=do let c←(do if !decide (a=[])&&decide ((a.length:Int)≤8)then let b←M.trim a [65,66,67,68,69,70,71,72,73,74,75,76,77,78,79,80,81,82,83,84,85,86,87,88,89,90]some (decide (b=[]))else some false:Option Bool)some c
def M.q3a  (b a:Z):Option Bool:=do let c←(do if decide ((a.length:Int)≤(b.length:Int))then let d←sub b 0 (a.length:Int)some (decide (d=a))else some false:Option Bool)some c
def M.q7f  (b c:Z):Option Bool:=do let a←M.q3a b c;some a
def M.z5t(b:Z)(f:Int)(g:Int)(a:Int):Option (Jn Bool Unit):=do if decide (a<(b.length:Int))then let c←ix b a;let e←(do if decide ((c.toNat:Int)<f)then some true;else let d←ix b a;some (decide (g<(d.toNat:Int))):Option Bool)if e then some (.done false)else M.z5t b f g (yc .i64 (a+1))else some (.go ())partial_fixpoint
def M.q22  (c:Z)(d e:Int):Option Bool:=do let a←(do M.z5t c d e 0:Option (Jn Bool Unit))match a with|.done r=>some r|.go b=>some true
def M.q7d  (a:List Int)(b:Z):Option (Int×List Int):=do let d←M.z5g a;let c←app 1 a (unb b)some ((b.length:Int),c)
def M.q0o  (a d:Z):Option (Int×Bool):=do if decide ((a.length:Int)<2)then some (0,false)else let c1←ix a 0;let e←ix a 1;let b←M.z1l d (c1.toNat:Int)let c←M.z1l d (e.toNat:Int)some (yc .u8 (orI .i64 (z7r .i64 (yb b 16) 4) (yb c 16)),decide (0≤b)&&decide (0≤c))
def M.q7c  (a:List Int)(c:Int):Option (List Int):=do let d←M.z5g a;let b←app 1 a [c]some b
def M.z1u(j:Z)(k:List Int):Option (Z×Int):=do let a←M.cut j [37]let b←M.q7d k a.1;if !a.2.2 then let d←M.zy b.2;some (d,0)else let c←M.q0o a.2.1 [48,49,50,51,52,53,54,55,56,57,97,98,99,100,101,102,95,95,95,95,95,95,95,95,95,95,65,66,67,68,69,70]let g←(do if !c.2 then some true;else let h←sub a.2.1 0 2;let e←M.containsAny h [95]some e:Option Bool)if g then some ([],12)else let f←M.q7c b.2 c.1;let i←sub a.2.1 2 (a.2.1.length:Int)M.z1u i f;partial_fixpoint
def M.q0l  (a:Z):Option (Z×Int):=do M.z1u a ([]:List Int)
def M.z2b(g:List Z)(e:List q05)(a:Int):Option (Jn (List q05×Int) (List q05)):=do if decide (a<(g.length:Int))then let f←ix g a;if decide (f=[])then some (.done ([],13))else let h←M.replaceAll f [43] [32]let b←M.cut h [61]let c←M.q0l b.1;let d←M.q0l b.2.1;if !decide (c.2=0)||!decide (d.2=0)then some (.done ([],12))else let i←app 32 e [q05.mk c.1 d.1]M.z2b g i (yc .i64 (a+1))else some (.go e)partial_fixpoint
def M.q0k  (b:Z):Option (List q05×Int):=do let d←M.split b [38]if decide (8192<(b.length:Int))||decide (64<(d.length:Int))then some ([],14)else
  if decide (b=[])then some ([],0)else let c←(do M.z2b d [] 0:Option (Jn (List q05×Int) (List q05)))match c with|.done r=>some r|.go a=>some (a,0)
def M.z4k(a:List Z)(b:Int)(d:List Z):Option (Jn (Rs q03) (List Z)):=do if decide (b<(a.length:Int))then let h←ix a b;let c←M.q0l h;let e←M.q1s (decide (c.2=0)) 220;match e with|.pan f=>some (.done (.pan f))|.ok i=>let g←app 16 d [c.1]M.z4k a (yc .i64 (b+1)) g;else some (.go d)partial_fixpoint
def M.q2x  (A:Z):Option (Rs q03):=do let a←M.split A [32]let z←(do if decide ((a.length:Int)=3)then let B←ix a 0;let y←M.q1r B;some y;else some false:Option Bool)let l←(do if z then let q←ix a 2;some (decide (q=[72,84,84,80,47,49,46,49]))else some false:Option Bool)let m←(do if l then let s←ix a 1;let g←M.q7f s [47]some g;else some false:Option Bool)let n←(do if m then let t←ix a 1;let h←M.q22 t 33 126;some h;else some false:Option Bool)let i←M.q1s n 220;match i with|.pan k=>some (.pan k)|.ok x=>let u←ix a 0;let v←ix a 1;let b←M.cut v [63]let o←(do let p←sub b.1 1 (b.1.length:Int)let j←M.split p [47]M.z4k j 0 []:Option (Jn (Rs q03) (List Z)))match o with|.done r=>some r|.go f=>let d←M.q0k b.2.1;let c←M.q1s (decide (d.2=0)&&decide ((f.length:Int)≤64)) 220;match c with|.pan e=>some (.pan e)|.ok w=>some (.ok (q03.mk u f d.1 ([]:List q05) []))
def M.q1t  (a:Z):Option Bool:=do let c←(do if !decide (a=[])&&decide ((a.length:Int)≤32)then let b←M.trim a [97,98,99,100,101,102,103,104,105,106,107,108,109,110,111,112,113,114,115,116,117,118,119,120,121,122,48,49,50,51,52,53,54,55,56,57,45]some (decide (b=[]))else some false:Option Bool)some c
def M.q2z  (a:Z):Option Bool:=do let b←M.q22 a 32 126;let d←(do if b then let c←M.trim a [32]some (decide (c=a))else some false:Option Bool)some d
def M.q1w  (d:Z)(e:Int):Option (Int×Bool):=do let a←M.atoi d;let c←(do if a.2&&decide ((d.length:Int)≤e)&&decide (0≤a.1)then let b←M.itoa a.1;some (decide (b=d))else some false:Option Bool)some (a.1,c)
def M.z2v(c:List Z)(j:Int)(b:Int)(f:List q05)(g:List (Z×Bool)):Option (Jn (q03×Int×Int) (Int×List q05×List (Z×Bool))):=do if decide (b<(c.length:Int))then let w←ix c b;let k←M.q1s (decide (b<32)) 222;match k with|.pan p=>some (.done (q03.mk [] [] [] [] [],0,p))|.ok x=>let d←M.cut w [58]let a←M.z6t d.1;let e←M.trim d.2.1 [32]let s←(do if d.2.2 then let l←M.q1t a;some l;else some false:Option Bool)let t←(do if s then let m←M.q2z e;some m;else some false:Option Bool)let u←(do if t then some ! z90 g a false else some false:Option Bool)let n←M.q1s u 220;match n with|.pan q=>some (.done (q03.mk [] [] [] [] [],0,q))|.ok y=>let i←some (z4l g a true)if !decide (a=B20)then let v←app 32 f [q05.mk a e]M.z2v c j (yc .i64 (b+1)) v i;else let h←M.q1w e 9;let o←M.q1s h.2 220;match o with|.pan r=>some (.done (q03.mk [] [] [] [] [],0,r))|.ok z=>M.z2v c h.1 (yc .i64 (b+1)) f i;else some (.go (j,f,g))partial_fixpoint
def M.q0s  (l:Z):Option (q03×Int×Int):=do let c←M.q1h l;let z←M.q1s (decide (0<c)||decide ((l.length:Int)<8192)) 222;match z with|.pan B=>some (q03.mk [] [] [] [] [],0,B)|.ok C=>let A←M.q1s (decide (0<c)) 223;match A with|.pan p=>some (q03.mk [] [] [] [] [],0,p)|.ok y=>let t←sub l 0 (yc .i64 (c-4))let d←M.split t [13,10]let u←ix d 0;let o←M.q2x u;match o with|.pan q=>some (q03.mk [] [] [] [] [],0,q)|.ok b=>let s←some (z4l ([]:List (Z×Bool)) B18 true)let m←(do let k←sub d 1 (d.length:Int)M.z2v k 0 0 b.zp s:Option (Jn (q03×Int×Int) (Int×List q05×List (Z×Bool))))match m with|.done r=>some r|.go a=>let e←M.q1s (z90 a.2.2 B29 false) 220;match e with|.pan h=>some (q03.mk [] [] [] [] [],0,h)|.ok v=>let f←M.q1s (decide (a.1≤16384)) 221;match f with|.pan i=>some (q03.mk [] [] [] [] [],0,i)|.ok w=>let g←M.q1s (decide (a.1≤yc .i64 ((l.length:Int)-c))) 223;match g with|.pan j=>some (q03.mk [] [] [] [] [],0,j)|.ok x=>let n←sub l c (yc .i64 (c+a.1))some (q03.mk b.zt b.z00 b.z0d a.2.1 n,yc .i64 (c+a.1),0)
def M.q64_k1(b:Z)(a:Int):Option (Jn Int Unit):=do if decide (a≤(b.length:Int))&&decide (a≤8192)then let c←sub b (yc .i64 (a-4)) a;if decide (c=[13,10,13,10])then some (.done a)else M.q64_k1 b (yc .i64 (a+1))else some (.go ())partial_fixpoint
def M.q64  (c:Z):Option Int:=do let a←(do M.q64_k1 c 4:Option (Jn Int Unit))match a with|.done r=>some r|.go b=>some 0
def M.z1m(c:Z)(h:Int)(b:List Z)(d:Int)(a:Int):Option (List Z):=do if decide (a≤(c.length:Int))then let f←(do if decide (a=(c.length:Int))then some true;else let e←ix c a;some (decide ((e.toNat:Int)=h)):Option Bool)if f then let i←sub c d a;let g←app 16 b [i]M.z1m c h g (yc .i64 (a+1)) (yc .i64 (a+1))else M.z1m c h b d (yc .i64 (a+1))else some b;partial_fixpoint
def M.q62  (b:Z)(c:Int):Option (List Z):=do let a←(do M.z1m b c ([]:List Z) 0 0:Option (List Z))some a
def M.z7d(b:Z)(f:Int)(g:Int)(a:Int):Option (Jn Bool Unit):=do if decide (a<(b.length:Int))then let c←ix b a;let e←(do if decide ((c.toNat:Int)<f)then some true;else let d←ix b a;some (decide (g<(d.toNat:Int))):Option Bool)if e then some (.done false)else M.z7d b f g (yc .i64 (a+1))else some (.go ())partial_fixpoint
def M.q5w  (c:Z)(d e:Int):Option Bool:=do let a←(do M.z7d c d e 0:Option (Jn Bool Unit))match a with|.done r=>some r|.go b=>some true
def M.q6f  (a:Z):Option Bool:=do let c←(do if !decide (a=[])&&decide ((a.length:Int)≤8)then let b←M.q5w a 65 90;some b;else some false:Option Bool)some c
def M.z0q(b:Z)(f:Int)(a:Int):Option (Jn (Z×Z×Bool) Unit):=do if decide (a<(b.length:Int))then let c←ix b a;if decide ((c.toNat:Int)=f)then let d←sub b 0 a;let e←sub b (yc .i64 (a+1)) (b.length:Int)some (.done (d,e,true))else M.z0q b f (yc .i64 (a+1))else some (.go ())partial_fixpoint
def M.q6a  (b:Z)(d:Int):Option (Z×Z×Bool):=do let a←(do M.z0q b d 0:Option (Jn (Z×Z×Bool) Unit))match a with|.done r=>some r|.go c=>some (b,[],false)
def M.q4k  (a:Int)(b:Bool):Option Int:=do if decide (48≤a)&&decide (a≤57)then some (yc .i64 (yc .u8 (a-48)))else
  if decide (97≤a)&&decide (a≤102)then some (yc .i64 (yc .i64 (yc .u8 (a-97))+10))else
   if b&&decide (65≤a)&&decide (a≤70)then some (yc .i64 (yc .i64 (yc .u8 (a-65))+10))else some (-1)
def M.z16(d:Z)(e:List Int)(a:Int):Option (Jn (Z×Int) (List Int)):=do if decide (a<(d.length:Int))then let g←ix d a;if !decide ((g.toNat:Int)=37)then let h←ix d a;let k←app 1 e [(h.toNat:Int)]M.z16 d k (yc .i64 (a+1))else
   if decide ((d.length:Int)≤yc .i64 (a+2))then some (.done ([],12))else let i←ix d (yc .i64 (a+1))let j←ix d (yc .i64 (a+2))let b←M.q4k (i.toNat:Int) true;let c←M.q4k (j.toNat:Int) true;if decide (b<0)||decide (c<0)then some (.done ([],12))else let f←app 1 e [yc .u8 (yc .i64 (yc .i64 (16*b)+c))]M.z16 d f (yc .i64 (yc .i64 (a+2)+1))else some (.go e)partial_fixpoint
def M.q4f  (c:Z):Option (Z×Int):=do let b←(do M.z16 c ([]:List Int) 0:Option (Jn (Z×Int) (List Int)))match b with|.done r=>some r|.go a=>some (byt a,0)
def M.z5c(d:Z)(g:Int)(h:Int)(b:List Int)(a:Int):Option (List Int):=do if decide (a<(d.length:Int))then let c←ix d a;if decide ((c.toNat:Int)=g)then let e←app 1 b [h]M.z5c d g h e (yc .i64 (a+1))else let f←app 1 b [(c.toNat:Int)]M.z5c d g h f (yc .i64 (a+1))else some b;partial_fixpoint
def M.q4m  (b:Z)(c d:Int):Option Z:=do let a←(do M.z5c b c d ([]:List Int) 0:Option (List Int))some (byt a)
def M.z3b(c:Z)(b:List Z)(d:Int)(a:Int):Option (List Z):=do if decide (a≤(c.length:Int))then let f←(do if decide (a=(c.length:Int))then some true;else let e←ix c a;some (decide ((e.toNat:Int)=38)):Option Bool)if f then let h←sub c d a;let g←app 16 b [h]M.z3b c g (yc .i64 (a+1)) (yc .i64 (a+1))else M.z3b c b d (yc .i64 (a+1))else some b;partial_fixpoint
def M.z3d(b:Z)(a:Int):Option Int:=do let d←(do if decide (a<(b.length:Int))then let c←ix b a;some !decide ((c.toNat:Int)=61)else some false:Option Bool)if d then M.z3d b (yc .i64 (a+1))else some a;partial_fixpoint
def M.z3c(d:List Z)(g:List q05)(b:Int):Option (Jn (List q05×Int) (List q05)):=do if decide (b<(d.length:Int))then let m←(do let p←ix d b;let a←ix d b;if decide (a=[])then some (.done (.done ([],13)))else let c←(do M.z3d a 0:Option Int)let k←(do if decide (c<(a.length:Int))then let n←sub a (yc .i64 (c+1)) (a.length:Int)some n;else some []:Option Z)let o←sub a 0 c;let h←M.q4m o 43 32;let e←M.q4f h;let i←M.q4m k 43 32;let f←M.q4f i;if !decide (e.2=0)||!decide (f.2=0)then some (.done (.done ([],12)))else let l←app 32 g [q05.mk e.1 f.1]some (.go l):Option (Jn (Jn (List q05×Int) (List q05)) (List q05)))match m with|.done r=>some r|.go j=>M.z3c d j (yc .i64 (b+1))else some (.go g)partial_fixpoint
def M.q4e  (d:Z):Option (List q05×Int):=do if decide (8192<(d.length:Int))then some ([],14)else
  if decide (d=[])then some ([],0)else let a←(do M.z3b d ([]:List Z) 0 0:Option (List Z))if decide (64<(a.length:Int))then some ([],14)else let c←(do M.z3c a ([]:List q05) 0:Option (Jn (List q05×Int) (List q05)))match c with|.done r=>some r|.go b=>some (b,0)
def M.z1b(a:Z):Option Z:=do let c←(do if !decide (a=[])then let b←ix a 0;some (decide ((b.toNat:Int)=32))else some false:Option Bool)if c then let d←sub a 1 (a.length:Int)M.z1b d;else some a;partial_fixpoint
def M.z1c(a:Z):Option Z:=do let c←(do if !decide (a=[])then let b←ix a (yc .i64 ((a.length:Int)-1))some (decide ((b.toNat:Int)=32))else some false:Option Bool)if c then let d←sub a 0 (yc .i64 ((a.length:Int)-1))M.z1c d;else some a;partial_fixpoint
def M.q5y  (c:Z):Option Z:=do let a←(do M.z1b c:Option Z)let b←(do M.z1c a:Option Z)some b
def M.z5k(d:List q05)(e:Z)(c:Z)(b:Int)(a:Int):Option (Z×Int):=do if decide (a<(d.length:Int))then let f←ix d a;if decide (f.zj=e)then if decide (b=0)then let g←ix d a;M.z5k d e g.z1y (yc .i64 (b+1)) (yc .i64 (a+1))else M.z5k d e c (yc .i64 (b+1)) (yc .i64 (a+1))else M.z5k d e c b (yc .i64 (a+1))else some (c,b)partial_fixpoint
def M.q4g  (b:List q05)(c:Z):Option (Z×Int):=do let a←(do M.z5k b c [] 0 0:Option (Z×Int))some (a.1,a.2)
def M.q66  (b:List q05)(c:Z):Option (Z×Bool):=do let a←M.q4g b c;some (a.1,decide (0<a.2))
def M.z6k(c:Z)(b:Int):Option (Jn Bool Unit):=do if decide (b<(c.length:Int))then let a←ix c b;if !(decide (97≤(a.toNat:Int))&&decide ((a.toNat:Int)≤122)||decide (48≤(a.toNat:Int))&&decide ((a.toNat:Int)≤57)||decide ((a.toNat:Int)=45))then some (.done false)else M.z6k c (yc .i64 (b+1))else some (.go ())partial_fixpoint
def M.q6g  (a:Z):Option Bool:=do let b←(do M.z6k a 0:Option (Jn Bool Unit))match b with|.done r=>some r|.go c=>some (!decide (a=[])&&decide ((a.length:Int)≤32))
def M.q6x  (a:Z):Option Bool:=do let b←M.q5w a 32 126;let e←(do if b then if decide (a=[])then some true;else let c←ix a 0;if !decide ((c.toNat:Int)=32)then let d←ix a (yc .i64 ((a.length:Int)-1))some !decide ((d.toNat:Int)=32)else some false;else some false:Option Bool)some e
def M.z52(b:Z)(c:Int)(a:Int):Option (Jn Int Int):=do if decide (a<(b.length:Int))then let d←ix b a;let g←(do if decide ((d.toNat:Int)<48)then some true;else let e←ix b a;some (decide (57<(e.toNat:Int))):Option Bool)if g then some (.done (-1))else let f←ix b a;M.z52 b (yc .i64 (yc .i64 (10*c)+yc .i64 (yc .u8 ((f.toNat:Int)-48)))) (yc .i64 (a+1))else some (.go c)partial_fixpoint
def M.q61  (a:Z)(f:Int):Option Int:=do let c←(do if decide (a=[])||decide (f<(a.length:Int))then some true;else let b←ix a 0;if decide ((b.toNat:Int)=48)then some !decide (a=[48])else some false:Option Bool)if c then some (-1)else let e←(do M.z52 a 0 0:Option (Jn Int Int))match e with|.done r=>some r|.go d=>some d
def M.q1z  (a:Z)(b:Nat):Option q0b:=do some (q0b.mk a b [] false)
def M.q32  (a:Z)(b:Nat):Option q0b:=do some (q0b.mk a b [] true)
def M.q1l  (a b:Z):Option q0b:=do some (q0b.mk a NF b false)
def M.q2m  (c:Z)(d:List q0b):Option (List q0b):=do let a←M.q1z B12 F.q1c;let b←M.q1z B24 F.q2r;if !decide (c=[])then let e←M.q1l B42 c;let f←app 48 [e] [a,b]let g←app 48 f d;some g;else let l9←app 48 [a,b] d;some l9
def M.q2l  :Option (List q0a):=do let N←M.q1z B103 F.q2y;let O←M.q1z B81 F.q25;let P←M.q1z B62 F.q1d;let Q←M.q1z [107,101,121] F.q1u;let R←M.q32 B106 F.q1f;let a←M.q32 [99,108,105,101,110,116] F.q12;let b←M.q32 [115,105,103] F.q2s;let c←M.q32 B106 F.q1f;let d←M.q1z B103 F.q2y;let e←M.q1z B40 F.q2v;let f←M.q1z B81 F.q25;let g←M.q1l B77 B62;let h←M.q1z B12 F.q1c;let i←M.q1z B43 F.q2d;let j←M.q1z B26 F.q2q;let k←M.q1l B49 [83,50,53,54]let l←M.q1z B74 F.q1a;let m←M.q1z B44 F.q1v;let n←M.q1z B62 F.q1d;let o←M.q1z B43 F.q2d;let p←M.q1z B78 F.q30;let q←M.q2m B58 [n,o,p]let r←M.q1z B26 F.q2q;let s←M.q1z B66 F.q0z;let t←M.q2m B59 [r,s]let u←M.q1z B11 F.q2v;let v←M.q1z B26 F.q2q;let w←M.q2m B11 [u,v]let x←M.q1z B79 F.q2v;let y←M.q1z B88 F.q0y;let z←M.q1z B26 F.q2q;let A←M.q1z B66 F.q0z;let B←M.q2m B23 [x,y,z,A]let C←M.q1z B40 F.q2v;let D←M.q2m [] [C]let E←M.q1z B40 F.q2v;let G←M.q2m [] [E]let H←M.q1z [102,105,108,116,101,114] F.q1j;let I←M.q1l B95 [78]let J←M.q1l B67 [78]let K←M.q1z [110,97,109,101] F.q1u;let L←M.q1z B81 F.q25;some [q0a.mk 1 B5 B97 0 1 [N,O],q0a.mk 2 B5 B63 1 1 [P],q0a.mk 3 B5 B69 1 1 [Q,R,a,b],q0a.mk 4 B5 B64 1 1 [],q0a.mk 5 B5 B70 1 1 [c],q0a.mk 6 B5 B72 1 1 [],q0a.mk 7 B5 B89 1 1 [],q0a.mk 8 B5 B90 0 1 [d],q0a.mk 9 B5 B98 0 1 [e,f],q0a.mk 10 [71,69,84] B71 1 2 [g,h,i,j,k,l,m],q0a.mk 11 B5 B33 0 1 q,q0a.mk 12 B5 B33 0 1 t,q0a.mk 13 B5 B33 0 1 w,q0a.mk 14 B5 B33 0 1 B,q0a.mk 15 B5 B91 0 1 D,q0a.mk 16 B5 B61 0 1 G,q0a.mk 17 [71,69,84] B73 2 0 [],q0a.mk 18 [71,69,84] B107 0 0 [],q0a.mk 19 [71,69,84] B46 2 2 [H,I,J],q0a.mk 20 [71,69,84] B19 2 0 [],q0a.mk 21 B5 B46 2 3 [],q0a.mk 22 B105 B19 6 4 [],q0a.mk 23 B96 B19 6 0 [],q0a.mk 24 B5 B45 2 1 [K,L],q0a.mk 25 B5 B65 2 1 []]
def M.z1f(g:List Z)(f:List Z)(a:q00)(b:Int)(c:Z)(d:Z):Option (Jn (Bool×q00) (Z×Z)):=do if decide (b<(g.length:Int))then let e←ix g b;let i←ix f b;if decide (i=[79,70])&&!decide (e=[])then M.z1f g f a (yc .i64 (b+1)) e d;else let j←ix f b;if decide (j=B52)then M.z1f g f a (yc .i64 (b+1)) c e;else let k←ix f b;let h←(do if !decide (k=e)then some true;else let l←ix f b;some (decide (l=[79,70])):Option Bool)if h then some (.done (false,q00.mk a.zf c a.z3j a.z3h a.zk a.z29 a.z0l a.z1n a.z08 a.z0o a.z03 a.z0b a.z01 a.zq a.z04 a.z0t d a.z3u a.zx a.z8d a.z5r a.z0n a.z1e a.z02 a.z2t a.z11))else M.z1f g f a (yc .i64 (b+1)) c d;else some (.go (c,d))partial_fixpoint
def M.q2f  (e:q0a)(f:List Z)(a:q00):Option (Bool×q00):=do let g←sub e.zgn 1 (e.zgn.length:Int)let d←M.split g [47]if !decide ((d.length:Int)=(f.length:Int))then some (false,a)else let c←(do M.z1f f d a 0 a.gOf a.zj:Option (Jn (Bool×q00) (Z×Z)))match c with|.done r=>some r|.go b=>some (true,q00.mk a.zf b.1 a.z3j a.z3h a.zk a.z29 a.z0l a.z1n a.z08 a.z0o a.z03 a.z0b a.z01 a.zq a.z04 a.z0t b.2 a.z3u a.zx a.z8d a.z5r a.z0n a.z1e a.z02 a.z2t a.z11)
def M.z3y(d:List q05)(e:Z)(c:Z)(b:Int)(a:Int):Option (Z×Int):=do if decide (0≤a)then let f←ix d a;if decide (f.zj=e)then let g←ix d a;M.z3y d e g.z1y (yc .i64 (b+1)) (yc .i64 (a-1))else M.z3y d e c b (yc .i64 (a-1))else some (c,b)partial_fixpoint
def M.q0m  (b:List q05)(c:Z):Option (Z×Int):=do let a←(do M.z3y b c [] 0 (yc .i64 ((b.length:Int)-1)):Option (Z×Int))some (a.1,a.2)
def M.q1k  (b:List q05)(c:Z):Option (Z×Bool):=do let a←M.q0m b c;some (a.1,decide (0<a.2))
def M.q37  (a b:Z):Option (Z×Bool):=do let c←M.q3a a b;if !c then some (a,false)else let d←sub a (b.length:Int) (a.length:Int)some (d,true)
def M.q7e  (b c:Z):Option (Z×Bool):=do let a←M.q37 b c;some (a.1,a.2)
def M.z3l(a:List Z)(b:Int):Option (Jn Z Unit):=do if decide (b<(a.length:Int))then let e←ix a b;let d←M.trim e [32]let c←M.q7e d B37;if c.2 then some (.done c.1)else M.z3l a (yc .i64 (b+1))else some (.go ())partial_fixpoint
def M.q1e  (e:List q05):Option Z:=do let c←M.q1k e B39;let b←(do let a←M.split c.1 [59]M.z3l a 0:Option (Jn Z Unit))match b with|.done r=>some r|.go d=>some []
def M.q2i  (B:q0a)(C:List q05)(a:q00):Option (Rb q00 q00):=do let D←(do if !decide (z7s .i64 B.z9e 1=0)then let f←M.q1e C;let l←M.trim f B1;let m←M.q1s (decide (l=[])) 227;match m with|.pan u=>some (.done (.pan u (q00.mk a.zf a.gOf a.z3j a.z3h f a.z29 a.z0l a.z1n a.z08 a.z0o a.z03 a.z0b a.z01 a.zq a.z04 a.z0t a.zj a.z3u a.zx a.z8d a.z5r a.z0n a.z1e a.z02 a.z2t a.z11)))|.ok G=>some (.go f)else some (.go a.zk):Option (Jn (Rb q00 q00) Z))match D with|.done r=>some r|.go c=>let E←(do let j←M.q1k C B16;if j.2&&!decide (z7s .i64 B.z9e 2=0)then let g←M.q7e j.1 B36;let x←(do if g.2 then let n←M.q22 g.1 33 126;some n;else some false:Option Bool)let o←M.q1s x 227;match o with|.pan v=>some (.done (.pan v (q00.mk a.zf a.gOf a.z3j a.z3h c a.z29 a.z0l a.z1n a.z08 a.z0o a.z03 a.z0b a.z01 a.zq a.z04 a.z0t a.zj a.z3u a.zx a.z8d a.z5r a.z0n a.z1e a.z02 a.z2t a.z11)))|.ok H=>some (.go g.1)else some (.go a.z0l):Option (Jn (Rb q00 q00) Z))match E with|.done r=>some r|.go d=>let b←M.q1k C B34;if b.2&&!decide (z7s .i64 B.z9e 4=0)then let y←(do if decide (2≤(b.1.length:Int))then let s←ix b.1 0;some (decide ((s.toNat:Int)=34))else some false:Option Bool)let z←(do if y then let t←ix b.1 (yc .i64 ((b.1.length:Int)-1))some (decide ((t.toNat:Int)=34))else some false:Option Bool)let p←M.q1s z 227;match p with|.pan w=>some (.pan w (q00.mk a.zf a.gOf a.z3j a.z3h c a.z29 d a.z1n a.z08 a.z0o a.z03 a.z0b a.z01 a.zq a.z04 a.z0t a.zj a.z3u a.zx a.z8d a.z5r a.z0n a.z1e a.z02 a.z2t a.z11))|.ok I=>let e←sub b.1 1 (yc .i64 ((b.1.length:Int)-1))let q←M.q22 e 33 126;let A←(do if q then let h←M.contains e [34]some !h else some false:Option Bool)let i←M.q1s A 227;match i with|.pan k=>some (.pan k (q00.mk a.zf a.gOf a.z3j a.z3h c a.z29 d a.z1n a.z08 a.z0o a.z03 a.z0b a.z01 a.zq a.z04 a.z0t a.zj a.z3u a.zx a.z8d e a.z0n a.z1e a.z02 a.z2t a.z11))|.ok F=>some (.ok (q00.mk a.zf a.gOf a.z3j a.z3h c a.z29 d a.z1n a.z08 a.z0o a.z03 a.z0b a.z01 a.zq a.z04 a.z0t a.zj a.z3u a.zx a.z8d e a.z0n a.z1e a.z02 a.z2t a.z11))else some (.ok (q00.mk a.zf a.gOf a.z3j a.z3h c a.z29 d a.z1n a.z08 a.z0o a.z03 a.z0b a.z01 a.zq a.z04 a.z0t a.zj a.z3u a.zx a.z8d a.z5r a.z0n a.z1e a.z02 a.z2t a.z11))
def M.q2h  (a:q0b)(b:q05):Option Bool:=do some (decide (a.zf9=b.zj))
def M.zh(c:List q0b)(e:q05)(a:Int):Option (Jn Int Unit):=do if decide (a<(c.length:Int))then let d←ix c a;let b←M.q2h d e;if b then some (.done a)else M.zh c e (yc .i64 (a+1))else some (.go ())partial_fixpoint
def M.q76  (c:List q0b)(d:q05):Option Int:=do let a←(do M.zh c d 0:Option (Jn Int Unit))match a with|.done r=>some r|.go b=>some (-1)
def M.q71  (b:List q0b)(c:q05):Option Bool:=do let a←M.q76 b c;some (decide (0≤a))
def M.q2w  (a:q0b)(b:q00):Option Nat:=do if !decide (a.zci=[78])then some 1000000;else
  if decide (a.zf9=B67)then some 25;else some 24
def M.z1a(f:Z)(e:List Int)(c:Int)(a:Int)(d:Int):Option (Jn (Z×Int) (List Int×Int×Int)):=do if decide (d<((unb f).length:Int))then let h←ix (unb f) d;let b←M.z1l B1 h;if decide (b<0)then some (.done ([],11))else
   if decide (8≤yc .i64 (a+6))then let _←chk (decide (0≤yc .i64 (yc .i64 (a+6)-8)))let g←app 1 e [yc .u8 (zez .i64 (orI .i64 (z7r .i64 c 6) b) (yc .i64 (yc .i64 (a+6)-8)))]let _←chk (decide (0≤yc .i64 (yc .i64 (a+6)-8)))M.z1a f g (z7s .i64 (orI .i64 (z7r .i64 c 6) b) (yc .i64 (z7r .i64 1 (yc .i64 (yc .i64 (a+6)-8))-1))) (yc .i64 (yc .i64 (a+6)-8)) (yc .i64 (d+1))else M.z1a f e (orI .i64 (z7r .i64 c 6) b) (yc .i64 (a+6)) (yc .i64 (d+1))else some (.go (e,c,a))partial_fixpoint
def M.q0j  (c:Z):Option (Z×Int):=do let b←(do let _←chk (decide (c.length≤9223372036854775807))M.z1a c [] 0 0 0:Option (Jn (Z×Int) (List Int×Int×Int)))match b with|.done r=>some r|.go a=>if decide (6≤a.2.2)||!decide (a.2.1=0)then some ([],11)else some (byt a.1,0)
def M.q2y  (a:q00):Option Nat:=do some 2
def M.q25  (a:q00):Option Nat:=do some 3
def M.q1d  (a:q00):Option Nat:=do some 5
def M.q1u  (a:q00):Option Nat:=do some 16
def M.q1f  (a:q00):Option Nat:=do some 17
def M.q12  (a:q00):Option Nat:=do some 18
def M.q2s  (a:q00):Option Nat:=do some 19
def M.q2v  (a:q00):Option Nat:=do some 6
def M.q1c  (a:q00):Option Nat:=do some 8
def M.q2d  (a:q00):Option Nat:=do some 10
def M.q2q  (a:q00):Option Nat:=do some 11
def M.q1a  (a:q00):Option Nat:=do some 13
def M.q1v  (a:q00):Option Nat:=do some 15
def M.q30  (a:q00):Option Nat:=do some 14
def M.q0z  (a:q00):Option Nat:=do some 12
def M.q0y  (a:q00):Option Nat:=do some 7
def M.q1j  (a:q00):Option Nat:=do some 21
def M.q2r  (a:q00):Option Nat:=do some 9
def M.q0q(a:Nat)(b:q00):Option Nat:=if a=F.q2y then M.q2y b else if a=F.q25 then M.q25 b else if a=F.q1d then M.q1d b else if a=F.q1u then M.q1u b else if a=F.q1f then M.q1f b else if a=F.q12 then M.q12 b else if a=F.q2s then M.q2s b else if a=F.q2v then M.q2v b else if a=F.q1c then M.q1c b else if a=F.q2d then M.q2d b else if a=F.q2q then M.q2q b else if a=F.q1a then M.q1a b else if a=F.q1v then M.q1v b else if a=F.q30 then M.q30 b else if a=F.q0z then M.q0z b else if a=F.q0y then M.q0y b else if a=F.q1j then M.q1j b else if a=F.q2r then M.q2r b else none
def M.z2q(c:List q05)(i:q0a)(j:q00)(a:Int):Option (Jn (Rb q00 q00) Unit):=do if decide (a<(c.length:Int))then let b←ix c a;let d←M.q0m c b.zj;let h←(do if decide (d.2=1)then let e←M.q71 i.z7j b;some e;else some false:Option Bool)let f←M.q1s h 227;match f with|.pan g=>some (.done (.pan g j))|.ok k=>M.z2q c i j (yc .i64 (a+1))else some (.go ())partial_fixpoint
def M.z0m(h:q0a)(j:List q05)(b:Int)(a:q00):Option (Rb q00 q00):=do if decide (b<(h.z7j.length:Int))then let d←ix h.z7j b;let c←M.q1k j d.zf9;let e←M.q2w d a;if e=24 then if !decide (c.1=[])then let f←M.q1w c.1 9;let k←M.q1s f.2 227;match k with|.pan q=>some (.pan q (q00.mk a.zf a.gOf a.z3j a.z3h a.zk a.z29 a.z0l a.z1n a.z08 a.z0o a.z03 a.z0b a.z01 a.zq a.z04 a.z0t a.zj a.z3u a.zx a.z8d a.z5r a.z0n a.z1e a.z02 f.1 a.z11))|.ok w=>M.z0m h j (yc .i64 (b+1)) (q00.mk a.zf a.gOf a.z3j a.z3h a.zk a.z29 a.z0l a.z1n a.z08 a.z0o a.z03 a.z0b a.z01 a.zq a.z04 a.z0t a.zj a.z3u a.zx a.z8d a.z5r a.z0n a.z1e a.z02 f.1 a.z11)else M.z0m h j (yc .i64 (b+1)) a;else
   if e=25 then if !decide (c.1=[])then let g←M.q1w c.1 9;let l←M.q1s g.2 227;match l with|.pan r=>some (.pan r (q00.mk a.zf a.gOf a.z3j a.z3h a.zk a.z29 a.z0l a.z1n a.z08 a.z0o a.z03 a.z0b a.z01 a.zq a.z04 a.z0t a.zj a.z3u a.zx a.z8d a.z5r a.z0n a.z1e a.z02 a.z2t g.1))|.ok x=>M.z0m h j (yc .i64 (b+1)) (q00.mk a.zf a.gOf a.z3j a.z3h a.zk a.z29 a.z0l a.z1n a.z08 a.z0o a.z03 a.z0b a.z01 a.zq a.z04 a.z0t a.zj a.z3u a.zx a.z8d a.z5r a.z0n a.z1e a.z02 a.z2t g.1)else M.z0m h j (yc .i64 (b+1)) a;else
    if e=1000000 then if Nat.beq d.z6r NF then let m←M.q1s (c.2&&decide (c.1=d.zci)) 227;match m with|.pan s=>some (.pan s a)|.ok y=>M.z0m h j (yc .i64 (b+1)) a;else
      if d.zmb then let i←M.q0j c.1;let n←M.q1s (decide (i.2=0)) 227;match n with|.pan t=>some (.pan t a)|.ok z=>let o←M.q0q d.z6r a;let u←q00.setAt a o i.1;M.z0m h j (yc .i64 (b+1)) u;else let p←M.q0q d.z6r a;let v←q00.setAt a p c.1;M.z0m h j (yc .i64 (b+1)) v;else none;else some (.ok a)partial_fixpoint
def M.q2g  (b:q0a)(c:List q05)(d:q00):Option (Rb q00 q00):=do let a←(do M.z2q c b d 0:Option (Jn (Rb q00 q00) Unit))match a with|.done r=>some r|.go e=>M.z0m b c 0 d
def M.q3p  (b:q0c):Option q0c:=do let a←M.trimLeft b.gs [32,9,10,13]some (q0c.mk a)
def M.q3m  (a:Bool)(b:Int):Option (Rs Unit):=do if !a then some (.pan b)else some (.ok ())
def M.q3s  (b:q0c)(d:Z):Option (Bool×q0c):=do let a←M.q7e b.gs d;if a.2 then let c←M.q3p (q0c.mk a.1)some (a.2,c)else some (a.2,b)
def M.q36  (a:Int):Option Int:=do some (orI .u8 a 32)
def M.zm(c:Z×Int)(n:Int)(g:Int)(d:Int)(h:Bool)(a:Int)(f:Int):Option (Jn (Int×Bool) (Bool×Int)):=do if decide (f<((unb c.1).length:Int))then let b←ix (unb c.1) f;let m←(do if decide (b=95)&&decide (n=0)then(do M.zm c n g d true a (yc .i64 (f+1)))>>=fun r=>some (.done r)else
     if decide (48≤b)&&decide (b≤57)then some (.go (yc .u8 (b-48)))else let i←M.q36 b;let l←(do if decide (97≤i)then let j←M.q36 b;some (decide (j≤122))else some false:Option Bool)if l then let k←M.q36 b;some (.go (yc .u8 (yc .u8 (k-97)+10)))else some (.done (.done (0,false))):Option (Jn (Jn (Int×Bool) (Bool×Int)) Int))match m with|.done r=>some r|.go e=>if decide (yc .u8 c.2≤e)then some (.done (0,false))else
    if decide (g≤a)then some (.done (yc .u64 (z7r .u64 1 (yc .u64 d)-1),false))else
     if decide (yc .u64 (yc .u64 (a*yc .u64 c.2)+yc .u64 e)<yc .u64 (a*yc .u64 c.2))||decide (yc .u64 (z7r .u64 1 (yc .u64 d)-1)<yc .u64 (yc .u64 (a*yc .u64 c.2)+yc .u64 e))then some (.done (yc .u64 (z7r .u64 1 (yc .u64 d)-1),false))else M.zm c n g d h (yc .u64 (yc .u64 (a*yc .u64 c.2)+yc .u64 e)) (yc .i64 (f+1))else some (.go (h,a))partial_fixpoint
def M.q35  (a:Z)(f i:Int):Option (Int×Bool):=do
 if decide (a=[])then some (0,false)else let u←(do if decide (2≤f)&&decide (f≤36)then some (.go (a,f))else
     if decide (f=0)then let m←ix a 0;if decide ((m.toNat:Int)=48)then let q←(do if decide (3≤(a.length:Int))then let n←ix a 1;let j←M.q36 (n.toNat:Int)some (decide (j=98))else some false:Option Bool)if q then let v←sub a 2 (a.length:Int)some (.go (v,2))else let s←(do if decide (3≤(a.length:Int))then let o←ix a 1;let k←M.q36 (o.toNat:Int)some (decide (k=111))else some false:Option Bool)if s then let w←sub a 2 (a.length:Int)some (.go (w,8))else let t←(do if decide (3≤(a.length:Int))then let p←ix a 1;let l←M.q36 (p.toNat:Int)some (decide (l=120))else some false:Option Bool)if t then let x←sub a 2 (a.length:Int)some (.go (x,16))else let y←sub a 1 (a.length:Int)some (.go (y,8))else some (.go (a,10))
     else some (.done (0,false)):Option (Jn (Int×Bool) (Z×Int)))match u with|.done r=>some r|.go b=>let g←(do if decide (i=0)then some (.go 64)else
      if decide (i<0)||decide (64<i)then some (.done (0,false))else some (.go i):Option (Jn (Int×Bool) Int))match g with|.done r=>some r|.go c=>let e←(do if decide (b.2=10)then some 1844674407370955162;else
       if decide (b.2=16)then some 1152921504606846976;else let _←chk (decide (yc .u64 b.2≠0))some (yc .u64 (yc .u64 (ya 18446744073709551615 (yc .u64 b.2))+1)):Option Int)let _←chk (decide (0≤yc .u64 c))let h←(do let _←chk (decide (b.1.length≤9223372036854775807))M.zm b f e c false 0 0:Option (Jn (Int×Bool) (Bool×Int)))match h with|.done r=>some r|.go d=>let z←(do if d.1 then none;else some ():Option Unit)some (d.2,true)
def M.q7a  (b:Z)(c d:Int):Option (Int×Bool):=do let a←M.q35 b c d;if !a.2 then none;else some (a.1,true)
def M.q3u  (n:q0c):Option (Rs (Int×q0c)):=do let a←M.q7e n.gs [92,117]let m←(do if a.2&&decide (4≤(a.1.length:Int))then let h←sub a.1 0 4;let c←M.trim h [48,49,50,51,52,53,54,55,56,57,97,98,99,100,101,102,65,66,67,68,69,70]some (decide (c=[]))else some false:Option Bool)let d←M.q3m m 20;match d with|.pan f=>some (.pan f)|.ok k=>let i←sub a.1 0 4;let b←M.q7a i 16 16;let e←M.q3m b.2 20;match e with|.pan g=>some (.pan g)|.ok l=>let j←sub a.1 4 (a.1.length:Int)some (.ok (yc .i32 b.1,q0c.mk j))
def M.q3q  (d:q0c):Option (Rs (Z×q0c)):=do let p←M.q3m (decide (2≤(d.gs.length:Int))) 20;match p with|.pan s=>some (.pan s)|.ok t=>let i←ix d.gs 1;let c←M.indexByte B35 (i.toNat:Int)if decide (0≤c)then let n←sub d.gs 2 (d.gs.length:Int)let o←sub ([34,92,47,8,12,10,13,9]:Z) c (yc .i64 (c+1))some (.ok (o,q0c.mk n))else let e←M.q3u d;match e with|.pan j=>some (.pan j)|.ok a=>let f←M.q3m (decide (a.1<56320)||decide (57343<a.1)) 20;match f with|.pan k=>some (.pan k)|.ok q=>if decide (a.1<55296)||decide (57343<a.1)then some (.ok (encS a.1,a.2))else let g←M.q3u a.2;match g with|.pan l=>some (.pan l)|.ok b=>let h←M.q3m (decide (56320≤b.1)&&decide (b.1≤57343)) 20;match h with|.pan m=>some (.pan m)|.ok r=>some (.ok (encS (yc .i32 (yc .i32 (yc .i32 (65536+z7r .i32 (yc .i32 (a.1-55296)) 10)+b.1)-56320)),b.2))
def M.z2a(a:Z)(b:List Int):Option (Rs (Z×q0c)):=do let r←(do if !decide (a=[])then let n←ix a 0;some (decide (32≤(n.toNat:Int)))else some false:Option Bool)let e←M.q3m r 20;match e with|.pan o=>some (.pan o)|.ok t=>let c←ix a 0;if decide ((c.toNat:Int)=34)then let f←M.zy b;let g←M.z0y f;let h←M.q3m g 20;match h with|.pan p=>some (.pan p)|.ok u=>let i←M.q3s (q0c.mk a) [34]let j←M.zy b;some (.ok (j,i.2))else
   if decide ((c.toNat:Int)=92)then let k←M.q3q (q0c.mk a)match k with|.pan q=>some (.pan q)|.ok d=>let l←M.q7d b d.1;M.z2a d.2.gs l.2;else let m←M.q7c b (c.toNat:Int)let s←sub a 1 (a.length:Int)M.z2a s m;partial_fixpoint
def M.q3t  (d:q0c):Option (Rs (Z×q0c)):=do let a←M.q7e d.gs [34]let b←M.q3m a.2 20;match b with|.pan c=>some (.pan c)|.ok e=>M.z2a a.1 ([]:List Int)
def M.zg(b:List Z)(c:Z)(a:Int):Option (Jn Int Unit):=do if decide (a<(b.length:Int))then let d←ix b a;if decide (c=d)then some (.done a)else M.zg b c (yc .i64 (a+1))else some (.go ())partial_fixpoint
def M.q79  (a:List Z)(b:Z):Option Int:=do let c←(do M.zg a b 0:Option (Jn Int Unit))match c with|.done r=>some r|.go d=>some (-1)
def M.q73  (b:List Z)(c:Z):Option Bool:=do let a←M.q79 b c;some (decide (0≤a))
def M.q3k  (a:Z):Option Int:=do let b←M.trimLeft a [48,49,50,51,52,53,54,55,56,57]some (yc .i64 ((a.length:Int)-(b.length:Int)))
def M.q3n  (b:Z):Option Int:=do let d←(do let t←M.q7f b [45]if t then some 1;else some 0:Option Int)let u←sub b d (b.length:Int)let e←M.q3k u;if decide (e=0)then some 0;else let c←(do let j←ix b d;if decide ((j.toNat:Int)=48)then some 1;else some e:Option Int)let a←(do let q←sub b (yc .i64 (d+c)) (b.length:Int)let i←M.q7f q [46]if i then let r←sub b (yc .i64 (yc .i64 (d+c)+1)) (b.length:Int)let f←M.q3k r;if decide (0<f)then some (yc .i64 (yc .i64 (d+c)+yc .i64 (1+f)))else some (yc .i64 (d+c))else some (yc .i64 (d+c)):Option Int)let o←(do if decide (a<(b.length:Int))then let k←ix b a;if decide ((k.toNat:Int)=101)then some true;else let l←ix b a;some (decide ((l.toNat:Int)=69))else some false:Option Bool)if o then let h←(do let p←(do if decide (yc .i64 (a+1)<(b.length:Int))then let m←ix b (yc .i64 (a+1))if decide ((m.toNat:Int)=43)then some true;else let n←ix b (yc .i64 (a+1))some (decide ((n.toNat:Int)=45))else some false:Option Bool)if p then some (yc .i64 (yc .i64 (a+1)+1))else some (yc .i64 (a+1)):Option Int)let s←sub b h (b.length:Int)let g←M.q3k s;if decide (0<g)then some (yc .i64 (h+g))else some a;else some a
def M.z15(a:Int)(c:Z):Option (Jn (Rs (q04×q0c)) Z):=do if decide (a<([(B30:Z),B22,B31].length:Int))then let d←ix [(B30:Z),B22,B31] a;let b←M.q3s (q0c.mk c) d;if b.1 then some (.done (.ok (q04.mk a [] ([]:List q04) ([]:List Z),b.2)))else M.z15 (yc .i64 (a+1)) b.2.gs;else some (.go c)partial_fixpoint
def M.z1o(v:Int)(self_q3v:q0c→Int→Option (Rs (q04×q0c)))(z:Int)(A:Z)(u:Z)(w:List q04)(i:List Z):Option (Rs (q04×q0c)):=do let t←(do if decide (v=6)then let j←M.q3t (q0c.mk u)match j with|.pan o=>some (.done (.pan o))|.ok b=>let k←M.q73 i b.1;let g←(do if !k then let e←M.q3s b.2 [58]some (e.1,e.2.gs)else some (false,b.2.gs):Option (Bool×Z))let l←M.q3m g.1 20;match l with|.pan p=>some (.done (.pan p))|.ok x=>let l208←app 16 i [b.1]some (.go (g.2,l208))else some (.go (u,i)):Option (Jn (Rs (q04×q0c)) (Z×List Z)))match t with|.done r=>some r|.go d=>let m←self_q3v (q0c.mk d.1) (yc .i64 (z+1))match m with|.pan q=>some (.pan q)|.ok a=>let h←app 72 w [q04.mk a.1.zf a.1.z09 a.1.zi a.1.zv]let c←M.q3s a.2 A;if c.1 then some (.ok (q04.mk v [] h d.2,c.2))else let f←M.q3s c.2 [44]let n←M.q3m f.1 20;match n with|.pan s=>some (.pan s)|.ok y=>M.z1o v self_q3v z A f.2.gs h d.2;partial_fixpoint
mutual
def M.q3v:Nat→q0c→Int→Option (Rs (q04 × q0c))
 | 0,_,_=>none
 | fuel+1,h,i=>do
  let k←M.q7f h.gs [34]
  if k then
   let l←M.q3t h
   match l with
   | .pan s =>
    some (.pan s)
   | .ok d =>
    some (.ok ((q04.mk 4 d.1 ([]:List q04) ([]:List Z)),d.2))
  else
   let a←M.q3s h [91]
   if a.1 then
    let m←(M.q3r fuel) a.2 5 i [93]
    match m with
    | .pan t =>
     some (.pan t)
    | .ok e =>
     some (.ok (e.1,e.2))
   else
    let b←M.q3s a.2 [123]
    if b.1 then
     let n←(M.q3r fuel) b.2 6 i [125]
     match n with
     | .pan u =>
      some (.pan u)
     | .ok f =>
      some (.ok (f.1,f.2))
    else
     let w←(do
       M.z15 0 b.2.gs:Option (Jn (Rs (q04 × q0c)) Z))
     match w with
     | .done r=>some r
     | .go c =>
      let g←M.q3n c
      let o←M.q3m (decide (0<g)) 20
      match o with
      | .pan v =>
       some (.pan v)
      | .ok A =>
       let j←sub c 0 g
       let p←M.q3s (q0c.mk c) j
       some (.ok ((q04.mk 3 j ([]:List q04) ([]:List Z)),p.2))
def M.q3r:Nat→q0c→Int→Int→Z→Option (Rs (q04 × q0c))
 | 0,_,_,_,_=>none
 | fuel+1,h,i,x,y=>do
  let z←M.q3m (decide (x<16)) 21
  match z with
  | .pan B =>
   some (.pan B)
  | .ok C =>
   let q←M.q3s h y
   if q.1 then
    some (.ok ((q04.mk i [] ([]:List q04) ([]:List Z)),q.2))
   else
    M.z1o i (M.q3v fuel) x y q.2.gs [] []
end
def M.q3f(fuel:Nat)(c:Z):Option (q04×Int):=do if decide (16384<(c.length:Int))then some (q04.mk 0 [] ([]:List q04) ([]:List Z),22)else let d←M.q3p (q0c.mk c)let e←M.q3v fuel d 0;match e with|.pan g=>some (q04.mk 0 [] ([]:List q04) ([]:List Z),g)|.ok b=>let f←M.q3m (decide (b.2.gs=[])) 20;match f with|.pan a=>some (q04.mk 0 [] ([]:List q04) ([]:List Z),a)|.ok h=>some (b.1,0)
def M.q3e  (a:q04)(c:Z):Option (q04×Bool):=do let b←M.q79 a.zv c;if decide (a.zf=6)&&decide (0≤b)&&decide (b<(a.zi.length:Int))then let d←ix a.zi b;some (d,true)else some (q04.mk 0 [] [] [],false)
def M.z57(e:q04)(b:List Z)(a:Int):Option (Jn (List Z×Bool) (List Z)):=do if decide (a<(e.zi.length:Int))then let c←ix e.zi a;if !decide (c.zf=4)then some (.done ([],false))else let d←app 16 b [c.z09]M.z57 e d (yc .i64 (a+1))else some (.go b)partial_fixpoint
def M.q3h  (c:q04):Option (List Z×Bool):=do if !decide (c.zf=5)then some ([],false)else let b←(do M.z57 c [] 0:Option (Jn (List Z×Bool) (List Z)))match b with|.done r=>some r|.go a=>some (a,true)
def M.z4a(c:q04)(d:List q02)(a:Int):Option (Jn (List q02×Bool) (List q02)):=do if decide (a<(c.zi.length:Int))then let f←ix c.zi a;let b←M.q3h f;if !b.2||!decide (c.zf=6)then some (.done ([],false))else let g←ix c.zv a;let e←app 40 d [q02.mk g b.1]M.z4a c e (yc .i64 (a+1))else some (.go d)partial_fixpoint
def M.q1p  (c:q04):Option (List q02×Bool):=do let b←(do M.z4a c [] 0:Option (Jn (List q02×Bool) (List q02)))match b with|.done r=>some r|.go a=>some (a,decide (c.zf=6))
def M.q2e(fuel:Nat)(b:q0a)(d:q03):Option (q00×Int):=do let A←M.q2f b d.z00 (q00.mk b.zr3 [] [] [] [] [] [] [] [] [] [] [] [] [] [] [] [] [] [] [] [] [] [] [] 0 0)let E←M.q2i b d.zp A.2;match E with|.pan H I=>some (I,H)|.ok a=>let i←M.q1s (decide (b.z4q=2)||decide ((d.z0d.length:Int)=0)) 227;match i with|.pan r=>some (a,r)|.ok B=>if decide (b.z4q=0)then let j←M.q1s (decide (d.zx=[])) 227;match j with|.pan s=>some (a,s)|.ok C=>some (a,0)else
    if decide (b.z4q=2)then let k←M.q1s (decide (d.zx=[])) 227;match k with|.pan t=>some (a,t)|.ok D=>let l←M.q2g b d.z0d a;match l with|.pan u y=>some (y,u)|.ok m=>some (m,0)else
     if decide (b.z4q=1)then let f←M.q0k d.zx;let n←M.q1s (decide (f.2=0)) 227;match n with|.pan v=>some (a,v)|.ok F=>let o←M.q2g b f.1 a;match o with|.pan w z=>some (z,w)|.ok p=>some (p,0)else
      if decide (b.z4q=4)then some (q00.mk a.zf a.gOf a.z3j a.z3h a.zk a.z29 a.z0l a.z1n a.z08 a.z0o a.z03 a.z0b a.z01 a.zq a.z04 a.z0t a.zj a.z3u a.zx a.z8d a.z5r a.z0n d.zx a.z02 a.z2t a.z11,0)else
       if decide (b.z4q=3)then let c←M.q3f fuel d.zx;let e←M.q3e c.1 [105,100]let g←M.q3e c.1 B25;let h←M.q1p g.1;let q←M.q1s (decide (c.2=0)&&decide ((c.1.zi.length:Int)=2)&&e.2&&g.2&&decide (e.1.zf=4)&&h.2) 227;match q with|.pan x=>some (a,x)|.ok G=>some (q00.mk a.zf a.gOf a.z3j a.z3h a.zk a.z29 a.z0l a.z1n a.z08 a.z0o a.z03 a.z0b a.z01 a.zq a.z04 a.z0t e.1.z09 a.z3u a.zx a.z8d a.z5r a.z0n a.z1e h.1 a.z2t a.z11,0)else some (a,0)
def M.z3v(a:List q0a)(e:q03)(fuel:Nat)(c:Int)(b:Int):Option (Jn (q00×Int) Int):=do if decide (b<(a.length:Int))then let f←ix a b;let g←M.q2f f e.z00 (q00.mk 0 [] [] [] [] [] [] [] [] [] [] [] [] [] [] [] [] [] [] [] [] [] [] [] 0 0)if !g.1 then M.z3v a e fuel c (yc .i64 (b+1))else
   if !decide (f.z9y=e.zt)then if decide (c=225)then M.z3v a e fuel 226 (yc .i64 (b+1))else M.z3v a e fuel c (yc .i64 (b+1))else let d←M.q2e fuel f e;if decide (d.2=0)then some (.done (d.1,0))else M.z3v a e fuel d.2 (yc .i64 (b+1))else some (.go c)partial_fixpoint
def M.q0r(fuel:Nat)(d:q03):Option (q00×Int):=do let c←(do let a←M.q2l;M.z3v a d fuel 225 0:Option (Jn (q00×Int) Int))match c with|.done r=>some r|.go b=>some (q00.mk 0 [] [] [] [] [] [] [] [] [] [] [] [] [] [] [] [] [] [] [] [] [] [] [] 0 0,b)
def M.q1y  :Option q08:=do some (q08.mk (q04.mk 6 [] ([]:List q04) ([]:List Z)))
def M.q1g  (b:Int):Option q04:=do let a←M.itoa b;some (q04.mk 3 a [] [])
def M.q1q  (a:q08)(f:Bool)(g:Z)(b:q04):Option q08:=do if f then let c←(do let d←app 16 a.z1v.zv [g]let e←app 72 a.z1v.zi [q04.mk b.zf b.z09 b.zi b.zv]some (e,d):Option (List q04×List Z))some (q08.mk (q04.mk a.z1v.zf a.z1v.z09 c.1 c.2))else some a
def M.q2t  (a:Z):Option q04:=do some (q04.mk 4 a [] [])
def M.z0f(e:List Z)(b:Int)(c:List q04):Option (List q04):=do if decide (b<(e.length:Int))then let f←ix e b;let a←M.q2t f;let d←app 72 c [q04.mk a.zf a.z09 a.zi a.zv]M.z0f e (yc .i64 (b+1)) d;else some c;partial_fixpoint
def M.q2u  (b:List Z):Option q04:=do let a←(do M.z0f b 0 []:Option (List q04))some (q04.mk 5 [] a [])
def M.z0i(a:q01)(c:Int)(d:Int)(e:Z)(f:List q04)(g:List Z):Option (Int×Z×List q04×List Z):=do if decide (c<([q05.mk [105,115,115] a.zwr,q05.mk [115,117,98] a.zwt,q05.mk [97,117,100] a.zwq,q05.mk B12 a.z08,q05.mk [106,116,105] a.zws,q05.mk B44 a.z0t].length:Int))then let h←ix [q05.mk [105,115,115] a.zwr,q05.mk [115,117,98] a.zwt,q05.mk [97,117,100] a.zwq,q05.mk B12 a.z08,q05.mk [106,116,105] a.zws,q05.mk B44 a.z0t] c;let i←M.q2t h.z1y;let b←M.q1q (q08.mk (q04.mk d e f g)) true h.zj i;M.z0i a (yc .i64 (c+1)) b.z1v.zf b.z1v.z09 b.z1v.zi b.z1v.zv;else some (d,e,f,g)partial_fixpoint
def M.q1b  (a:q01):Option (q04×Bool):=do let c←M.q1y;let b←(do M.z0i a 0 c.z1v.zf c.z1v.z09 c.z1v.zi c.z1v.zv:Option (Int×Z×List q04×List Z))let d←M.q1g a.gIat;let e←M.q1q (q08.mk (q04.mk b.1 b.2.1 b.2.2.1 b.2.2.2)) true [105,97,116] d;let f←M.q1g a.gExp;let g←M.q1q e true [101,120,112] f;let h←M.q1g a.z4o;let i←M.q1q g true B47 h;let j←M.q2u a.z0b;let k←M.q1q i true B26 j;let l←M.q2u a.zr2;let m←M.q1q k true [97,99,116] l;let n←cat a.zwr a.zwt;let o←cat n a.zwq;let p←cat o a.z08;let q←cat p a.zws;let r←cat q a.z0t;some (m.z1v,!(decide (r=[])&&decide (a.gIat=0)&&decide (a.gExp=0)&&decide (a.z4o=0)&&decide ((a.z0b.length:Int)=0)&&decide ((a.zr2.length:Int)=0)))
def M.z3m(h:List q02)(b:Int)(c:List q04)(d:List Z):Option (List q04×List Z):=do if decide (b<(h.length:Int))then let e←ix h b;let f←app 16 d [e.zj]let a←M.q2u e.z38;let g←app 72 c [q04.mk a.zf a.z09 a.zi a.zv]M.z3m h (yc .i64 (b+1)) g f;else some (c,d)partial_fixpoint
def M.q1x  (b:List q02):Option q04:=do let a←(do M.z3m b 0 [] []:Option (List q04×List Z))some (q04.mk 6 [] a.1 a.2)
def M.z1h(a:q06)(c:Int)(e:Int)(f:Z)(g:List q04)(h:List Z):Option (Int×Z×List q04×List Z):=do if decide (c<([q05.mk B57 a.zch,q05.mk B28 a.z8x,q05.mk B11 a.z7e,q05.mk B38 a.gId,q05.mk B68 a.z09].length:Int))then let d←ix [q05.mk B57 a.zch,q05.mk B28 a.z8x,q05.mk B11 a.z7e,q05.mk B38 a.gId,q05.mk B68 a.z09] c;let i←M.q2t d.z1y;let b←M.q1q (q08.mk (q04.mk e f g h)) (!decide (d.z1y=[])) d.zj i;M.z1h a (yc .i64 (c+1)) b.z1v.zf b.z1v.z09 b.z1v.zi b.z1v.zv;else some (e,f,g,h)partial_fixpoint
def M.z1i(n:q06)(c:Int)(d:List q04):Option (List q04):=do if decide (c<(n.zaz.length:Int))then let b←ix n.zaz c;let e←M.q1y;let f←M.q2t b.gId;let g←M.q1q e true [105,100] f;let h←M.q2t b.zf;let i←M.q1q g true [107,105,110,100] h;let j←M.q2t b.z5r;let k←M.q1q i true [116,97,103] j;let l←M.q1x b.z02;let a←M.q1q k true B25 l;let m←app 72 d [q04.mk a.z1v.zf a.z1v.z09 a.z1v.zi a.z1v.zv]M.z1i n (yc .i64 (c+1)) m;else some d;partial_fixpoint
def M.q13  (a:q06):Option q04:=do let q←M.q1y;let r←M.q1g a.z29;let f←M.q1q q (!decide (a.z29=0)) B92 r;let b←(do M.z1h a 0 f.z1v.zf f.z1v.z09 f.z1v.zi f.z1v.zv:Option (Int×Z×List q04×List Z))let g←M.q2u a.z0b;let h←M.q1q (q08.mk (q04.mk b.1 b.2.1 b.2.2.1 b.2.2.2)) (decide (0<(a.z0b.length:Int))) B26 g;let i←M.q1g a.z5n;let j←M.q1q h (!decide (a.z5n=0)) B50 i;let k←M.q1g a.z4o;let l←M.q1q j (!decide (a.z4o=0)) B47 k;let m←M.q1g a.z8o;let n←M.q1q l (!decide (a.z8o=0)) B93 m;let o←M.q1q n a.zd4 B85 (q04.mk 2 [] [] [])let e←M.q1b a.z56;let p←M.q1q o e.2 B86 e.1;let c←(do M.z1i a 0 []:Option (List q04))let d←M.q1q p (decide (0<(c.length:Int))) B80 (q04.mk 5 [] c [])some d.z1v
def M.q3j  (b:Z):Option Bool:=do let a←M.z0y b;some !a
def M.zn(c:List Z)(a:Int):Option (Jn Int Unit):=do if decide (a<(c.length:Int))then let d←ix c a;let b←M.q3j d;if b then some (.done a)else M.zn c (yc .i64 (a+1))else some (.go ())partial_fixpoint
def M.q78  (c:List Z):Option Int:=do let a←(do M.zn c 0:Option (Jn Int Unit))match a with|.done r=>some r|.go b=>some (-1)
def M.q72  (b:List Z):Option Bool:=do let a←M.q78 b;some (decide (0≤a))
def M.z39(e:q04)(self_q3i:q04→Int→Option (Rs Unit))(g:Int)(a:Int):Option (Rs Unit):=do if decide (a<(e.zi.length:Int))then let d←ix e.zi a;let b←self_q3i d (yc .i64 (g+1))match b with|.pan c=>some (.pan c)|.ok f=>M.z39 e self_q3i g (yc .i64 (a+1))else some (.ok ())partial_fixpoint
def M.q3i:Nat→q04→Int→Option (Rs Unit)|0,_,_=>none|fuel+1,a,y=>do let D←M.q3m (!(decide (a.zf=5)||decide (a.zf=6))||decide (y<16)) 21;match D with|.pan G=>some (.pan G)|.ok I=>let c←M.q3m (decide (0≤a.zf)&&decide (a.zf<7)) 23;match c with|.pan n=>some (.pan n)|.ok z=>let d←M.q3m (decide (a.zf=5)||decide (a.zf=6)||decide ((a.zi.length:Int)=0)) 23;match d with
    |.pan o=>some (.pan o)|.ok A=>
     let e←M.q3m (decide (a.zf=6)&&decide ((a.zv.length:Int)=(a.zi.length:Int))||decide ((a.zv.length:Int)=0)&&!decide (a.zf=6)) 23
     match e with|.pan p=>some (.pan p)|.ok B=>let f←M.q72 a.zv;let u←(do if !f then let g←M.single a.zv;some g;else some false:Option Bool)let h←M.q3m u 23;match h with|.pan q=>some (.pan q)|.ok C=>let w←(do if decide (a.zf=3)then let v←(do if !decide (a.z09=[])then let i←M.q3n a.z09;some (decide (i=(a.z09.length:Int)))else some false:Option Bool)let j←M.q3m v 23;match j with|.pan s=>some (.done (.pan s))|.ok E=>some (.go ())else
          if decide (a.zf=4)then let k←M.z0y a.z09;let l←M.q3m k 23;match l with|.pan t=>some (.done (.pan t))|.ok F=>some (.go ())else let m←M.q3m (decide (a.z09=[])) 23;match m with|.pan b=>some (.done (.pan b))|.ok x=>some (.go ()):Option (Jn (Rs Unit) Unit))match w with|.done r=>some r|.go H=>M.z39 a (M.q3i fuel) y 0
def M.q3c(fuel:Nat)(c:q04):Option Int:=do let a←M.q3i fuel c 0;match a with|.pan b=>some b|.ok d=>some 0
def M.z22(e:Z)(b:Int)(c:List Int):Option (List Int):=do if decide (b<((unb e).length:Int))then let a←ix (unb e) b;let d←M.indexByte [34,92,8,9,10,12,13] a;if decide (0≤d)then let i←sub ([34,92,98,116,110,102,114]:Z) d (yc .i64 (d+1))let j←cat [92] i;let f←M.q7d c j;M.z22 e (yc .i64 (b+1)) f.2;else
   if decide (a<32)then let k←sub ([48,49]:Z) (zez .u8 a 4) (yc .u8 (zez .u8 a 4+1))let l←cat [92,117,48,48] k;let m←sub ([48,49,50,51,52,53,54,55,56,57,97,98,99,100,101,102]:Z) (z7s .u8 a 15) (yc .u8 (z7s .u8 a 15+1))let n←cat l m;let g←M.q7d c n;M.z22 e (yc .i64 (b+1)) g.2;else let h←M.q7c c a;M.z22 e (yc .i64 (b+1)) h;else some c;partial_fixpoint
def M.q3o  (e:List Int)(c:Z):Option (List Int):=do let d←M.q7c e 34;let b←(do let _←chk (decide (c.length≤9223372036854775807))M.z22 c 0 d:Option (List Int))let a←M.q7c b 34;some a
def M.z3n(e:q04)(self_q3l:List Int→q04→Option (List Int))(a:Int)(d:List Int):Option (List Int):=do if decide (a<(e.zi.length:Int))then let c←ix e.zi a;let b←(do if decide (0<a)then let f←M.q7c d 44;some f;else some d:Option (List Int))if decide (e.zf=6)then let k←ix e.zv a;let g←M.q3o b k;let h←M.q7c g 58;let i←self_q3l h c;M.z3n e self_q3l (yc .i64 (a+1)) i;else let j←self_q3l b c;M.z3n e self_q3l (yc .i64 (a+1)) j;else some d;partial_fixpoint
def M.q3l:Nat→List Int→q04→Option (List Int)|0,_,_=>none|fuel+1,b,a=>do if decide (a.zf=0)then let i←M.q7d b B30;some i.2;else
   if decide (a.zf=1)then let j←M.q7d b B22;some j.2;else
    if decide (a.zf=2)then let k←M.q7d b B31;some k.2;else
     if decide (a.zf=3)then let l←M.q7d b a.z09;some l.2;else
      if decide (a.zf=4)then let m←M.q3o b a.z09;some m;else let e←(do if decide (a.zf=6)then some [123,125]else some [91,93]:Option Z)let g←ix e 0;let f←M.q7c b (g.toNat:Int)let h←(do M.z3n a (M.q3l fuel) 0 f:Option (List Int))let d←ix e 1;let c←M.q7c h (d.toNat:Int)some c
def M.q7b  (a:List Int):Option Int:=do some (a.length:Int)
def M.q3g(fuel:Nat)(c:q04):Option (Z×Int):=do let a←M.q3c fuel c;if !decide (a=0)then some ([],a)else let b←M.q3l fuel ([]:List Int) c;let d←M.q7b b;if decide (16384<d)then some ([],22)else let e←M.zy b;some (e,0)
def M.q33  (p:Int):Option Z:=do let g←some (z4l ([]:List (Int×Z)) 200 [79,75])let h←some (z4l g 201 [67,114,101,97,116,101,100])let i←some (z4l h 400 [66,97,100,32,82,101,113,117,101,115,116])let j←some (z4l i 401 [85,110,97,117,116,104,111,114,105,122,101,100])let k←some (z4l j 403 [70,111,114,98,105,100,100,101,110])let l←some (z4l k 404 [78,111,116,32,70,111,117,110,100])let m←some (z4l l 405 [77,101,116,104,111,100,32,78,111,116,32,65,108,108,111,119,101,100])let n←some (z4l m 409 [67,111,110,102,108,105,99,116])let o←some (z4l n 412 [80,114,101,99,111,110,100,105,116,105,111,110,32,70,97,105,108,101,100])let a←some (z4l o 413 [67,111,110,116,101,110,116,32,84,111,111,32,76,97,114,103,101])let b←some (z4l a 429 [84,111,111,32,77,97,110,121,32,82,101,113,117,101,115,116,115])let c←some (z4l b 431 [82,101,113,117,101,115,116,32,72,101,97,100,101,114,32,70,105,101,108,100,115,32,84,111,111,32,76,97,114,103,101])let d←some (z4l c 500 [73,110,116,101,114,110,97,108,32,83,101,114,118,101,114,32,69,114,114,111,114])let e←some (z4l d 503 [83,101,114,118,105,99,101,32,85,110,97,118,97,105,108,97,98,108,101])let f←some (z4l e 507 [73,110,115,117,102,102,105,99,105,101,110,116,32,83,116,111,114,97,103,101])some (z90 f p [])
def M.q7i  (a:Z):Option Bool:=do let c←(do if decide ((a.length:Int)≤128)then let b←M.z0y a;some b;else some false:Option Bool)some c
def M.q7j  (a:Int):Option Bool:=do some (decide (0≤a)&&decide (a≤1099511627776))
def M.q7k  (a:Z):Option Bool:=do let c←(do if !decide (a=[])&&decide ((a.length:Int)≤32)then let b←M.z3z a;some !b else some false:Option Bool)some c
def M.z0r(a:List Z)(b:Int):Option (Jn Int Unit):=do if decide (b<(a.length:Int))then let e←ix a b;let d←ix a b;let c←M.q7i d;if !c then some (.done 142)else M.z0r a (yc .i64 (b+1))else some (.go ())partial_fixpoint
def M.z0s(f:q01)(a:Int):Option (Jn Int Unit):=do if decide (a<(f.z0b.length:Int))then let b←ix f.z0b a;let c←M.q7k b;let d←(do if !c then some true;else
     if decide (0<a)then let e←ix f.z0b (yc .i64 (a-1))some !slt e b else some false:Option Bool)if d then some (.done 142)else M.z0s f (yc .i64 (a+1))else some (.go ())partial_fixpoint
def M.q7h  (a:q01):Option Int:=do let h←(do let g←app 16 [a.zwr,a.zwt,a.zwq,a.z08,a.zws,a.z0t] a.zr2;M.z0r g 0:Option (Jn Int Unit))match h with|.done r=>some r|.go j=>let b←M.q7j a.gIat;let e←(do if !b then some true;else let c←M.q7j a.gExp;some !c:Option Bool)let f←(do if e||decide (a.z4o<0)||decide (9<a.z4o)||decide (16<(a.z0b.length:Int))||decide (4<(a.zr2.length:Int))then some true;else let d←M.q73 a.zr2 []some d:Option Bool)if f then some 142;else let i←(do M.z0s a 0:Option (Jn Int Unit))match i with|.done r=>some r|.go k=>some 0
def M.q1m  (l:Int)(m:Z)(p:Int):Option Z:=do let n←M.itoa l;let q←cat [72,84,84,80,47,49,46,49,32] n;let r←cat q [32]let o←M.q33 l;let s←cat r o;let t←cat s [13,10]let u←cat t [99,111,110,116,101,110,116,45,116,121,112,101,58,32,97,112,112,108,105,99,97,116,105,111,110,47,106,115,111,110]let a←cat u [13,10]let c←(do if !decide (m=[])then let d←cat B53 m;let e←cat d [59,32,80,97,116,104,61,47,59,32,72,116,116,112,79,110,108,121]let f←cat e [13,10]let g←cat a f;some g;else some a:Option Z)let h←cat c B17;let b←M.itoa p;let i←cat h b;let j←cat i [13,10]let k←cat j [13,10]some k
def M.z13(a:q06)(b:Int):Option (Jn (Z×Int) Unit):=do if decide (b<([a.z29,a.z5n,a.z4o,a.z8o].length:Int))then let c←ix [a.z29,a.z5n,a.z4o,a.z8o] b;if decide (c<0)||decide (1000000000000000≤c)then some (.done ([],224))else M.z13 a (yc .i64 (b+1))else some (.go ())partial_fixpoint
def M.q0v(fuel:Nat)(b:q06):Option (Z×Int):=do let k←(do M.z13 b 0:Option (Jn (Z×Int) Unit))match k with|.done r=>some r|.go m=>let d←M.q13 b;let a←M.q3g fuel d;let h←(do if !decide (a.2=0)then some true;else let e←M.q33 b.zd5;some (decide (e=[])):Option Bool)let i←(do if h then some true;else let f←M.trim b.zk B1;some !decide (f=[]):Option Bool)let j←(do if i then some true;else let g←M.q7h b.z56;some !decide (g=0):Option Bool)if j then some ([],224)else let c←M.q1m b.zd5 b.zk (a.1.length:Int)if decide (8192<(c.length:Int))then some ([],224)else let l←cat c a.1;some (l,0)
def M.q3b  (a b:Z):Option Z:=do let c←M.q3a a b;if c then let d←sub a (b.length:Int) (a.length:Int)some d;else some a
def M.q7g  (b c:Z):Option Z:=do let a←M.q3b b c;some a
def M.q28  (b:q09)(c:Z):Option q09:=do let a←M.q3e b.gv c;some (q09.mk a.1)
def M.q3d  (a:q04):Option (Int×Bool):=do let e←M.q7g a.z09 [45]let c←M.atoi a.z09;let d←(do if !decide (a.zf=3)||!c.2||decide (15<(e.length:Int))then some true;else let b←M.itoa c.1;some !decide (b=a.z09):Option Bool)if d then some (0,false)else some (c.1,true)
def M.q2a  (c:q09)(d:Z):Option Int:=do let a←M.q28 c d;let b←M.q3d a.gv;some b.1
def M.q2b  (b:q09)(c:Z):Option Z:=do let a←M.q28 b c;if decide (a.gv.zf=4)then some a.gv.z09;else some []
def M.q2c  (c:q09)(d:Z):Option (List Z):=do let a←M.q28 c d;let b←M.q3h a.gv;some b.1
def M.z14(d:q09)(b:Int)(c:List q07):Option (List q07):=do if decide (b<(d.gv.zi.length:Int))then let a←ix d.gv.zi b;let e←M.q28 (q09.mk a) B25;let f←M.q1p e.gv;let g←M.q2b (q09.mk a) [105,100]let h←M.q2b (q09.mk a) [107,105,110,100]let i←M.q2b (q09.mk a) [116,97,103]let j←app 72 c [q07.mk g h i f.1]M.z14 d (yc .i64 (b+1)) j;else some c;partial_fixpoint
def M.q1o  (b:q09):Option q06:=do let v←M.q2a b B92;let w←M.q2b b B57;let x←M.q2b b B28;let y←M.q2b b B11;let z←M.q2b b B38;let c←M.q2b b B68;let d←M.q2c b B26;let e←M.q2a b B50;let f←M.q2a b B47;let g←M.q2a b B93;let h←M.q28 b B85;let a←M.q28 b B86;let i←M.q2b a [105,115,115]let j←M.q2b a [115,117,98]let k←M.q2b a [97,117,100]let l←M.q2b a B12;let m←M.q2b a [106,116,105]let n←M.q2b a B44;let o←M.q2a a [105,97,116]let p←M.q2a a [101,120,112]let q←M.q2a a B47;let r←M.q2c a B26;let s←M.q2c a [97,99,116]let u←(do let t←M.q28 b B80;M.z14 t 0 []:Option (List q07))some (q06.mk 0 v [] w x y z c d e f g (decide (h.gv.zf=2)) (q01.mk i j k l m n o p q r s) u)
def M.q0t(fuel:Nat)(i:Z):Option (q06×Int×Int):=do let e←M.q1h i;let a5←M.q1s (decide (0<e)||decide ((i.length:Int)<8192)) 220;match a5 with|.pan e8=>some (q06.mk 0 0 [] [] [] [] [] [] [] 0 0 0 false (q01.mk [] [] [] [] [] [] 0 0 0 [] []) [],0,e8)|.ok a7=>let a9←M.q1s (decide (0<e)) 223;match a9 with|.pan I=>some (q06.mk 0 0 [] [] [] [] [] [] [] 0 0 0 false (q01.mk [] [] [] [] [] [] 0 0 0 [] []) [],0,I)|.ok a6=>let Q←sub i 0 (yc .i64 (e-4))let b←M.split Q [13,10]let N←(do if decide (3≤(b.length:Int))then let T←ix b 0;some (decide (12<(T.length:Int)))else some false:Option Bool)let z←M.q1s N 220;match z with|.pan J=>some (q06.mk 0 0 [] [] [] [] [] [] [] 0 0 0 false (q01.mk [] [] [] [] [] [] 0 0 0 [] []) [],0,J)|.ok a8=>let U←ix b 0;let R←sub U 9 12;let d←M.q1w R 3;let O←(do if d.2 then let A←M.q33 d.1;some !decide (A=[])else some false:Option Bool)let B←M.q1s O 220;match B with|.pan K=>some (q06.mk 0 0 [] [] [] [] [] [] [] 0 0 0 false (q01.mk [] [] [] [] [] [] 0 0 0 [] []) [],0,K)|.ok b0=>let f←(do if decide ((b.length:Int)=4)then let V←ix b 2;let C←M.q7g V B53;let D←M.cut C [59]some D.1;else some []:Option Z)let E←M.trim f B1;let F←M.q1s (decide (E=[])) 220;match F with|.pan L=>some (q06.mk 0 0 [] [] [] [] [] [] [] 0 0 0 false (q01.mk [] [] [] [] [] [] 0 0 0 [] []) [],0,L)|.ok b1=>let W←ix b (yc .i64 ((b.length:Int)-1))let G←M.q7g W B17;let c←M.q1w G 5;let P←(do if c.2 then if decide (c.1≤16384)then let S←sub i 0 e;let H←M.q1m d.1 f c.1;let j←M.q1s (decide (H=S)) 220;match j with|.pan p=>some (.done (q06.mk 0 0 [] [] [] [] [] [] [] 0 0 0 false (q01.mk [] [] [] [] [] [] 0 0 0 [] []) [],0,p))|.ok X=>some (.go ())else let k←M.q1s false 220;match k with|.pan q=>some (.done (q06.mk 0 0 [] [] [] [] [] [] [] 0 0 0 false (q01.mk [] [] [] [] [] [] 0 0 0 [] []) [],0,q))|.ok Y=>some (.go ())else let l←M.q1s false 220;match l with|.pan s=>some (.done (q06.mk 0 0 [] [] [] [] [] [] [] 0 0 0 false (q01.mk [] [] [] [] [] [] 0 0 0 [] []) [],0,s))|.ok a0=>some (.go ()):Option (Jn (q06×Int×Int) Unit))match P with|.done r=>some r|.go b2=>let m←M.q1s (decide (c.1≤yc .i64 ((i.length:Int)-e))) 223;match m with|.pan t=>some (q06.mk 0 0 [] [] [] [] [] [] [] 0 0 0 false (q01.mk [] [] [] [] [] [] 0 0 0 [] []) [],0,t)|.ok a2=>let x←sub i e (yc .i64 (e+c.1))let g←M.q3f fuel x;let n←M.q1s (decide (g.2=0)) 220;match n with|.pan u=>some (q06.mk 0 0 [] [] [] [] [] [] [] 0 0 0 false (q01.mk [] [] [] [] [] [] 0 0 0 [] []) [],0,u)|.ok a3=>let a←M.q1o (q09.mk g.1)let h←M.q0v fuel (q06.mk d.1 a.z29 f a.zch a.z8x a.z7e a.gId a.z09 a.z0b a.z5n a.z4o a.z8o a.zd4 a.z56 a.zaz)let w←(do if decide (h.2=0)then let y←sub i 0 (yc .i64 (e+c.1))some (decide (h.1=y))else some false:Option Bool)let o←M.q1s w 220;match o with|.pan v=>some (q06.mk 0 0 [] [] [] [] [] [] [] 0 0 0 false (q01.mk [] [] [] [] [] [] 0 0 0 [] []) [],0,v)|.ok a4=>some (q06.mk d.1 a.z29 f a.zch a.z8x a.z7e a.gId a.z09 a.z0b a.z5n a.z4o a.z8o a.zd4 a.z56 a.zaz,yc .i64 (e+c.1),0)
def M.q2k  (c:Int)(d e f:Z)(g:q0a)(a:q03):Option q03:=do if !decide (z7s .i64 g.z9e c=0)&&!decide (d=[])then let b←app 32 a.zp [q05.mk e f]some (q03.mk a.zt a.z00 [] b a.zx)else some (q03.mk a.zt a.z00 [] a.zp a.zx)
def M.z3t(b:Int)(c:Int)(a:Int)(d:List Int):Option (Int×List Int):=do if decide (6≤a)then let _←chk (decide (0≤yc .i64 (a-6)))let f←ix (B1:Z) (z7s .i64 (zez .i64 (orI .i64 (z7r .i64 b 8) (yc .i64 c)) (yc .i64 (a-6))) 63)let e←M.q7c d (f.toNat:Int)M.z3t b c (yc .i64 (a-6)) e;else some (a,d)partial_fixpoint
def M.z36(h:Z)(c:Int)(e:Int)(d:Int)(f:List Int):Option (Int×Int×List Int):=do if decide (d<((unb h).length:Int))then let b←(do let g←ix (unb h) d;let a←(do M.z3t c g (yc .i64 (e+8)) f:Option (Int×List Int))let _←chk (decide (0≤a.1))some (z7s .i64 (orI .i64 (z7r .i64 c 8) (yc .i64 g)) (yc .i64 (z7r .i64 1 a.1-1)),a.1,a.2):Option (Int×Int×List Int))M.z36 h b.1 b.2.1 (yc .i64 (d+1)) b.2.2;else some (c,e,f)partial_fixpoint
def M.q0h  (f:Z):Option Z:=do let a←(do let _←chk (decide (f.length≤9223372036854775807))M.z36 f 0 0 0 ([]:List Int):Option (Int×Int×List Int))if decide (0<a.2.1)then let _←chk (decide (0≤yc .i64 (6-a.2.1)))let e←ix (B1:Z) (z7s .i64 (z7r .i64 a.1 (yc .i64 (6-a.2.1))) 63)let b←M.q7c a.2.2 (e.toNat:Int)let c←M.zy b;some c;else let d←M.zy a.2.2;some d
def M.zw(i:Z)(n:Z)(b:Int)(c:List Int):Option (List Int):=do if decide (b<((unb i).length:Int))then let a←ix (unb i) b;let h←(do if decide (65≤a)&&decide (a≤90)||decide (97≤a)&&decide (a≤122)||decide (48≤a)&&decide (a≤57)then some true;else let d←M.z1l [45,46,95,126] a;some (decide (0≤d)):Option Bool)if h then let e←M.q7c c a;M.zw i n (yc .i64 (b+1)) e;else
   if decide (a=32)then let f←M.q7d c n;M.zw i n (yc .i64 (b+1)) f.2;else let j←sub ([48,49,50,51,52,53,54,55,56,57,65,66,67,68,69,70]:Z) (zez .u8 a 4) (yc .u8 (zez .u8 a 4+1))let k←cat [37] j;let l←sub ([48,49,50,51,52,53,54,55,56,57,65,66,67,68,69,70]:Z) (z7s .u8 a 15) (yc .u8 (z7s .u8 a 15+1))let m←cat k l;let g←M.q7d c m;M.zw i n (yc .i64 (b+1)) g.2;else some c;partial_fixpoint
def M.q0p  (c d:Z):Option Z:=do let b←(do let _←chk (decide (c.length≤9223372036854775807))M.zw c d 0 ([]:List Int):Option (List Int))let a←M.zy b;some a
def M.z0e(g:List q05)(b:List Z)(a:Int):Option (List Z):=do if decide (a<(g.length:Int))then let c←ix g a;let d←M.q0p c.zj [43]let h←cat d [61]let e←M.q0p c.z1y [43]let i←cat h e;let f←app 16 b [i]M.z0e g f (yc .i64 (a+1))else some b;partial_fixpoint
def M.q0i  (c:List q05):Option (Z×Int):=do if decide (64<(c.length:Int))then some ([],14)else let b←(do M.z0e c [] 0:Option (List Z))let a←M.join b [38]if decide (8192<(a.length:Int))then some ([],14)else some (a,0)
def M.zu(a:List Z)(g:q00)(b:Int)(d:List Z):Option (List Z):=do
 if decide (b<(a.length:Int))then let c←ix a b;let e←(do if decide (c=[79,70])then some g.gOf;else
     if decide (c=B52)then some g.zj;else some c:Option Z)let f←app 16 d [e]M.zu a g (yc .i64 (b+1)) f;else some d;partial_fixpoint
def M.zo(o:q0a)(d:q00)(e:List q05)(b:Int):Option (List q05):=do if decide (b<(o.z7j.length:Int))then let a←ix o.z7j b;let f←(do let c←M.q2w a d;if c=24 then if decide (d.z2t=0)then some []else let g←M.itoa d.z2t;some g;else
     if c=25 then if decide (d.z11=0)then some []else let h←M.itoa d.z11;some h;else
      if c=1000000 then if a.zmb then let i←M.q0q a.z6r d;let m←q00.zkb d i;let j←M.q0h m;some j;else
        if !Nat.beq a.z6r NF then let k←M.q0q a.z6r d;let n←q00.zkb d k;some n;else some a.zci;else none:Option Z)if !decide (f=[])then let l←app 32 e [q05.mk a.zf9 f]M.zo o d l (yc .i64 (b+1))else M.zo o d e (yc .i64 (b+1))else some e;partial_fixpoint
def M.q2j(fuel:Nat)(b:q0a)(c:q00):Option (q03×Int):=do let o←(do let p←sub b.zgn 1 (b.zgn.length:Int)let n←M.split p [47]M.zu n c 0 []:Option (List Z))let q←cat B37 c.zk;let d←M.q2k 1 c.zk B39 q b (q03.mk b.z9y o [] [q05.mk B29 [105,100,112]] [])let r←cat B36 c.z0l;let e←M.q2k 2 c.z0l B16 r b (q03.mk d.zt d.z00 [] d.zp d.zx)let s←cat [34] c.z5r;let t←cat s [34]let a←M.q2k 4 c.z5r B34 t b (q03.mk e.zt e.z00 [] e.zp e.zx)let h←(do M.zo b c [] 0:Option (List q05))if decide (b.z4q=2)then some (q03.mk a.zt a.z00 h a.zp a.zx,0)else
  if decide (b.z4q=1)then let f←M.q0i h;some (q03.mk a.zt a.z00 [] a.zp f.1,f.2)else
   if decide (b.z4q=4)then some (q03.mk a.zt a.z00 [] a.zp c.z1e,0)else
    if decide (b.z4q=3)then let i←M.q1y;let j←M.q2t c.zj;let k←M.q1q i true [105,100] j;let l←M.q1x c.z02;let m←M.q1q k true B25 l;let g←M.q3g fuel m.z1v;some (q03.mk a.zt a.z00 [] a.zp g.1,g.2)else some (q03.mk a.zt a.z00 [] a.zp a.zx,0)
def M.z2w(i:List q05)(b:Int)(c:List (Z×Bool)):Option (Jn Bool (List (Z×Bool))):=do if decide (b<(i.length:Int))then let a←ix i b;let d←M.q1t a.zj;let f←(do if !d then some true;else let e←M.q2z a.z1y;some !e:Option Bool)let g←(do if f then some true;else some (z90 c a.zj false):Option Bool)if g then some (.done false)else let h←some (z4l c a.zj true)M.z2w i (yc .i64 (b+1)) h;else some (.go c)partial_fixpoint
def M.q1n  (d:List q05):Option Bool:=do let e←some (z4l ([]:List (Z×Bool)) B20 true)let f←some (z4l e B18 true)let c←(do M.z2w d 0 f:Option (Jn Bool (List (Z×Bool))))match c with|.done r=>some r|.go a=>let b←(do if decide ((d.length:Int)≤32)then some (z90 a B29 false)else some false:Option Bool)some b
def M.q0n  (b:Z):Option Z:=do let a←M.q0p b [37,50,48]some a
def M.z47(e:q03)(a:Int)(b:List Int):Option (List Int):=do if decide (a<(e.z00.length:Int))then let g←ix e.z00 a;let c←M.q0n g;let f←cat [47] c;let d←M.q7d b f;M.z47 e (yc .i64 (a+1)) d.2;else some b;partial_fixpoint
def M.z48(h:q03)(a:Int)(b:List Int):Option (List Int):=do if decide (a<(h.zp.length:Int))then let c←ix h.zp a;let e←cat c.zj [58,32]let f←cat e c.z1y;let g←cat f [13,10]let d←M.q7d b g;M.z48 h (yc .i64 (a+1)) d.2;else some b;partial_fixpoint
def M.q0u  (a:q03):Option (Z×Int):=do let n←M.q0i a.z0d;let s←(do if !decide (n.2=0)then some true;else let o←M.q1r a.zt;some !o:Option Bool)let t←(do if s||decide ((a.z00.length:Int)=0)||decide (64<(a.z00.length:Int))then some true;else let p←M.q1n a.zp;some !p:Option Bool)if t||decide ((a.zp.length:Int)=32)&&!decide (a.zx=[])||decide (16384<(a.zx.length:Int))then some ([],224)else let v←cat a.zt [32]let q←M.q7d ([]:List Int) v;let j←(do M.z47 a 0 q.2:Option (List Int))let u←(do if !decide (n.1=[])then let w←cat [63] n.1;let r←M.q7d j w;some r.2;else some j:Option (List Int))let d←M.q7d u [32,72,84,84,80,47,49,46,49,13,10]let c←(do M.z48 a 0 d.2:Option (List Int))let i←(do if !decide (a.zx=[])then let e←M.itoa (a.zx.length:Int)let k←cat B17 e;let l←cat k [13,10]let f←M.q7d c l;some f.2;else some c:Option (List Int))let b←M.q7d i [13,10]let g←M.q7b b.2;if decide (8192<g)then some ([],224)else let h←M.zy b.2;let m←cat h a.zx;some (m,0)
def M.z0g(b:List Z)(e:List Z)(a:Int):Option (Jn Bool Unit):=do if decide (a<(b.length:Int))then let c←ix b a;let d←ix e a;if !decide (c=d)then some (.done false)else M.z0g b e (yc .i64 (a+1))else some (.go ())partial_fixpoint
def M.q75  (a b:List Z):Option Bool:=do if !decide ((a.length:Int)=(b.length:Int))then some false;else let c←(do M.z0g a b 0:Option (Jn Bool Unit))match c with|.done r=>some r|.go d=>some true
def M.q2o  (a b:q02):Option Bool:=do let d←(do if decide (a.zj=b.zj)then let c←M.q75 a.z38 b.z38;some c;else some false:Option Bool)some d
def M.zb(c:List q02)(f:List q02)(a:Int):Option (Jn Bool Unit):=do if decide (a<(c.length:Int))then let d←ix c a;let e←ix f a;let b←M.q2o d e;if !b then some (.done false)else M.zb c f (yc .i64 (a+1))else some (.go ())partial_fixpoint
def M.q74  (b c:List q02):Option Bool:=do if !decide ((b.length:Int)=(c.length:Int))then some false;else let a←(do M.zb b c 0:Option (Jn Bool Unit))match a with|.done r=>some r|.go d=>some true
def M.q2p  (a:q00):Option (List Z):=do some [a.gOf,a.z3j,a.z3h,a.zk,a.z29,a.z0l,a.z1n,a.z08,a.z0o,a.z03,a.z0b,a.z01,a.zq,a.z04,a.z0t,a.zj,a.z3u,a.zx,a.z8d,a.z5r,a.z0n,a.z1e]
def M.q2n  (c d:q00):Option Bool:=do let e←M.q74 c.z02 d.z02;if !e then some false;else let a←M.q2p c;let b←M.q2p d;some (decide (a.getD 0 []=b.getD 0 [])&&(decide (a.getD 1 []=b.getD 1 [])&&(decide (a.getD 2 []=b.getD 2 [])&&(decide (a.getD 3 []=b.getD 3 [])&&(decide (a.getD 4 []=b.getD 4 [])&&(decide (a.getD 5 []=b.getD 5 [])&&(decide (a.getD 6 []=b.getD 6 [])&&(decide (a.getD 7 []=b.getD 7 [])&&(decide (a.getD 8 []=b.getD 8 [])&&(decide (a.getD 9 []=b.getD 9 [])&&(decide (a.getD 10 []=b.getD 10 [])&&(decide (a.getD 11 []=b.getD 11 [])&&(decide (a.getD 12 []=b.getD 12 [])&&(decide (a.getD 13 []=b.getD 13 [])&&(decide (a.getD 14 []=b.getD 14 [])&&(decide (a.getD 15 []=b.getD 15 [])&&(decide (a.getD 16 []=b.getD 16 [])&&(decide (a.getD 17 []=b.getD 17 [])&&(decide (a.getD 18 []=b.getD 18 [])&&(decide (a.getD 19 []=b.getD 19 [])&&(decide (a.getD 20 []=b.getD 20 [])&&(decide (a.getD 21 []=b.getD 21 [])&&true)))))))))))))))))))))&&decide (c.zf=d.zf)&&decide (c.z2t=d.z2t)&&decide (c.z11=d.z11))
def M.z07(a:List q0a)(g:q00)(fuel:Nat)(c:Int):Option (Jn (q03×Int) Unit):=do if decide (c<(a.length:Int))then let h←ix a c;if !decide (h.zr3=g.zf)then M.z07 a g fuel (yc .i64 (c+1))else let b←M.q2j fuel h g;let i←M.q0u b.1;let e←M.q0r fuel b.1;let f←(do if decide (b.2=0)&&decide (i.2=0)&&decide (e.2=0)then let d←M.q2n g e.1;some d;else some false:Option Bool)if f then some (.done (b.1,0))else M.z07 a g fuel (yc .i64 (c+1))else some (.go ())partial_fixpoint
def M.q0w(fuel:Nat)(d:q00):Option (q03×Int):=do let b←(do let a←M.q2l;M.z07 a d fuel 0:Option (Jn (q03×Int) Unit))match b with|.done r=>some r|.go c=>some (q03.mk [] [] [] [] [],224)
def M.q0x  (a:Int):Option Int:=do if decide (a=221)then some 413;else
  if decide (a=222)then some 431;else
   if decide (a=225)then some 404;else
    if decide (a=226)then some 405;else some 400
def M.q4a(fuel:Nat):Option Bool:=do let f←M.q0s B13;let e←M.q0r fuel f.1;let m←sub (B15:Z) 0 60;let k←M.q0s m;let l←M.q0s [71,69,84,32,47,32,72,84,84,80,47,49,46,48,13,10,104,111,115,116,58,120,13,10,13,10]let g←M.q0r fuel (q03.mk [71,69,84] [(B75:Z)] [] [] [])let h←M.q0r fuel (q03.mk [71,69,84] [([120]:Z)] [] [] [])let a←M.q0v fuel (q06.mk 401 171 [] [] [] [] [] [] [] 0 0 0 false (q01.mk [] [] [] [] [] [] 0 0 0 [] []) [])let b←M.q0t fuel a.1;let c←M.q0w fuel (q00.mk 1 [] [97,110,110] [112] [] [] [] [] [] [] [] [] [] [] [] [] [] [] [] [] [] [] [] [] 0 0)let d←M.q0u c.1;let j←(do if decide (f.2.2=0)&&decide (f.2.1=68)&&decide (e.2=0)&&decide (e.1.zf=1)&&decide (e.1.z3j=[97,110,110])&&decide (e.1.z3h=[112])&&decide (k.2.2=223)&&decide (l.2.2=220)&&decide (g.2=226)&&decide (h.2=225)&&decide (a.2=0)&&decide (a.1=B10)&&decide (b.2.2=0)&&decide (b.2.1=(a.1.length:Int))&&decide (b.1.z29=171)&&decide (b.1.zd5=401)&&decide (c.2=0)&&decide (d.2=0)&&decide (d.1=B14)then let i←M.q0x 221;some (decide (i=413))else some false:Option Bool)some (j&&true&&true&&true&&true&&true&&true&&true)
def M.z1g(b:List Z)(e:List Z)(a:Int):Option (Jn Bool Unit):=do if decide (a<(b.length:Int))then let c←ix b a;let d←ix e a;if !decide (c=d)then some (.done false)else M.z1g b e (yc .i64 (a+1))else some (.go ())partial_fixpoint
def M.q4u  (a b:List Z):Option Bool:=do if !decide ((a.length:Int)=(b.length:Int))then some false;else let c←(do M.z1g a b 0:Option (Jn Bool Unit))match c with|.done r=>some r|.go d=>some true
def M.z5u(d:List q05)(e:List q05)(a:Int):Option (Jn Bool Unit):=do if decide (a<(d.length:Int))then let b←ix d a;let c←ix e a;if !(decide (b.zj=c.zj)&&(decide (b.z1y=c.z1y)&&true))then some (.done false)else M.z5u d e (yc .i64 (a+1))else some (.go ())partial_fixpoint
def M.q4i  (a b:List q05):Option Bool:=do if !decide ((a.length:Int)=(b.length:Int))then some false;else let c←(do M.z5u a b 0:Option (Jn Bool Unit))match c with|.done r=>some r|.go d=>some true
def M.q5t  (a b:q03):Option Bool:=do let h←(do if decide (a.zt=b.zt)then let g←M.q4u a.z00 b.z00;some g;else some false:Option Bool)let e←(do if h then let c←M.q4i a.z0d b.z0d;some c;else some false:Option Bool)let f←(do if e then let d←M.q4i a.zp b.zp;some d;else some false:Option Bool)some (f&&decide (a.zx=b.zx))
def M.q4l  (a:Int):Option Bool:=do some (decide (65≤a)&&decide (a≤90)||decide (97≤a)&&decide (a≤122)||decide (48≤a)&&decide (a≤57)||decide (a=45)||decide (a=46)||decide (a=95)||decide (a=126))
def M.z2x(b:Z)(c:List Int)(a:Int):Option (List Int):=do if decide (a<(b.length:Int))then let e←ix b a;let d←M.q4l (e.toNat:Int)if d then let f←ix b a;let k←app 1 c [(f.toNat:Int)]M.z2x b k (yc .i64 (a+1))else let g←ix b a;let h←ix ([48,49,50,51,52,53,54,55,56,57,65,66,67,68,69,70]:Z) (yc .u8 (ya (g.toNat:Int) 16))let i←ix b a;let j←ix ([48,49,50,51,52,53,54,55,56,57,65,66,67,68,69,70]:Z) (yb (i.toNat:Int) 16)let l←app 1 c [37,(h.toNat:Int),(j.toNat:Int)]M.z2x b l (yc .i64 (a+1))else some c;partial_fixpoint
def M.q4h  (b:Z):Option Z:=do let a←(do M.z2x b ([]:List Int) 0:Option (List Int))some (byt a)
def M.z5d(c:Z)(b:List Int)(a:Int):Option (List Int):=do if decide (a<(c.length:Int))then let e←ix c a;if decide ((e.toNat:Int)=32)then let f←app 1 b [43]M.z5d c f (yc .i64 (a+1))else let h←sub c a (yc .i64 (a+1))let d←M.q4h h;let g←app 1 b (unb d)M.z5d c g (yc .i64 (a+1))else some b;partial_fixpoint
def M.q4n  (b:Z):Option Z:=do let a←(do M.z5d b ([]:List Int) 0:Option (List Int))some (byt a)
def M.z2u(c:List q05)(b:Z)(a:Int):Option Z:=do if decide (a<(c.length:Int))then let f←(do if decide (0<a)then let g←cat b [38]some g;else some b:Option Z)let k←ix c a;let l←ix c a;let d←M.q4n k.zj;let h←cat d [61]let e←M.q4n l.z1y;let i←cat h e;let j←cat f i;M.z2u c j (yc .i64 (a+1))else some b;partial_fixpoint
def M.q4c  (b:List q05):Option (Z×Int):=do if decide (64<(b.length:Int))then some ([],14)else let a←(do M.z2u b [] 0:Option Z)if decide (8192<(a.length:Int))then some ([],14)else some (a,0)
def M.z1s(a:Z)(b:Int):Option Z:=do if decide (0<b)||decide (a=[])then let c←cat (byt [yc .u8 (yc .i64 (48+yb b 10))]) a;M.z1s c (yc .i64 (ya b 10))else some a;partial_fixpoint
def M.q6h  (b:Int):Option Z:=do let a←(do M.z1s [] b:Option Z)some a
def M.z4y(h:q03)(c:Bool)(b:Int):Option Bool:=do if decide (b<(h.zp.length:Int))&&c then let a←ix h.zp b;let d←M.q4g h.zp a.zj;let e←M.q6g a.zj;let g←(do if e then let f←M.q6x a.z1y;some f;else some false:Option Bool)M.z4y h (g&&decide (d.2=1)&&!decide (a.zj=B20)&&!decide (a.zj=B18)) (yc .i64 (b+1))else some c;partial_fixpoint
def M.z4z(g:q03)(b:List Int)(a:Int):Option (List Int):=do if decide (a<(g.z00.length:Int))then let f←ix g.z00 a;let c←M.q4h f;let e←cat [47] c;let d←app 1 b (unb e)M.z4z g d (yc .i64 (a+1))else some b;partial_fixpoint
def M.z50(i:q03)(b:List Int)(a:Int):Option (List Int):=do if decide (a<(i.zp.length:Int))then let g←ix i.zp a;let d←cat g.zj [58,32]let h←ix i.zp a;let e←cat d h.z1y;let f←cat e [13,10]let c←app 1 b (unb f)M.z50 i c (yc .i64 (a+1))else some b;partial_fixpoint
def M.q5m  (a:q03):Option (Z×Int):=do let s←M.q4c a.z0d;let t←M.q66 a.zp B29;let u←M.q66 a.zp B29;let v←M.q6f a.zt;let q←(do if v&&decide (1≤(a.z00.length:Int))&&decide ((a.z00.length:Int)≤64)&&decide (s.2=0)&&(decide ((a.zp.length:Int)≤31)||decide ((a.zp.length:Int)=32)&&decide (a.zx=[]))&&u.2 then let p←M.q6x t.1;some p;else some false:Option Bool)let r←(do M.z4y a (q&&decide ((a.zx.length:Int)≤16384)) 0:Option Bool)if !r then some ([],224)else let e←cat a.zt [32]let _←chk (decide (e.length≤9223372036854775807))let b←(do M.z4z a (unb e) 0:Option (List Int))let g←(do if decide (0<(a.z0d.length:Int))then let l←cat [63] s.1;let i←app 1 b (unb l)some i;else some b:Option (List Int))let j←app 1 g (unb [32,72,84,84,80,47,49,46,49,13,10])let c←(do M.z50 a j 0:Option (List Int))let h←(do if !decide (a.zx=[])then let f←M.q6h (a.zx.length:Int)let m←cat B17 f;let n←cat m [13,10]let k←app 1 c (unb n)some k;else some c:Option (List Int))let d←app 1 h (unb [13,10])if decide (8192<(d.length:Int))then some ([],224)else let o←cat (byt d) a.zx;some (o,0)
def M.z5y(c:Z)(b:Int):Option (Jn Bool Unit):=do if decide (b<(c.length:Int))then let a←ix c b;if !(decide (65≤(a.toNat:Int))&&decide ((a.toNat:Int)≤90)||decide (97≤(a.toNat:Int))&&decide ((a.toNat:Int)≤122)||decide (48≤(a.toNat:Int))&&decide ((a.toNat:Int)≤57)||decide ((a.toNat:Int)=45)||decide ((a.toNat:Int)=95))then some (.done false)else M.z5y c (yc .i64 (b+1))else some (.go ())partial_fixpoint
def M.q6m  (c:Z):Option Bool:=do let a←(do M.z5y c 0:Option (Jn Bool Unit))match a with|.done r=>some r|.go b=>some true
def M.q6z  (b:q04)(f:Z)(a:q04):Option q04:=do let c←app 16 ([]:List Z) b.zv;let l2←app 16 c [f]let d←app 72 ([]:List q04) b.zi;let e←app 72 d [q04.mk a.zf a.z09 a.zi a.zv]some (q04.mk 6 [] e l2)
def M.q6u  (a:Z):Option q04:=do some (q04.mk 4 a [] [])
def M.z55(e:List Z)(b:Int)(c:List q04):Option (List q04):=do if decide (b<(e.length:Int))then let f←ix e b;let a←M.q6u f;let d←app 72 c [q04.mk a.zf a.z09 a.zi a.zv]M.z55 e (yc .i64 (b+1)) d;else some c;partial_fixpoint
def M.q6v  (b:List Z):Option q04:=do let a←(do M.z55 b 0 []:Option (List q04))some (q04.mk 5 [] a [])
def M.z4j(e:List q02)(b:Int)(c:List q04)(d:List Z):Option (List q04×List Z):=do if decide (b<(e.length:Int))then let h←ix e b;let f←app 16 d [h.zj]let i←ix e b;let a←M.q6v i.z38;let g←app 72 c [q04.mk a.zf a.z09 a.zi a.zv]M.z4j e (yc .i64 (b+1)) g f;else some (c,d)partial_fixpoint
def M.q6j  (b:List q02):Option q04:=do let a←(do M.z4j b 0 [] []:Option (List q04×List Z))some (q04.mk 6 [] a.1 a.2)
def M.q4y  (a:Int):Option Bool:=do some (decide (48≤a)&&decide (a≤57))
def M.z2m(c:Z)(b:Int)(a:Int):Option Int:=do let g←(do if decide (a<(c.length:Int))then let e←ix c a;let d←M.q4y (e.toNat:Int)some d;else some false:Option Bool)let h←(do if g then if decide (a=b)then some true;else let f←ix c b;some !decide ((f.toNat:Int)=48)else some false:Option Bool)if h then M.z2m c b (yc .i64 (a+1))else some a;partial_fixpoint
def M.z4e(e:Z)(a:Int):Option Int:=do let d←(do if decide (a<(e.length:Int))then let c←ix e a;let b←M.q4y (c.toNat:Int)some b;else some false:Option Bool)if d then M.z4e e (yc .i64 (a+1))else some a;partial_fixpoint
def M.z5f(e:Z)(a:Int):Option Int:=do let d←(do if decide (a<(e.length:Int))then let c←ix e a;let b←M.q4y (c.toNat:Int)some b;else some false:Option Bool)if d then M.z5f e (yc .i64 (a+1))else some a;partial_fixpoint
def M.q50  (b:Z):Option Int:=do let f←(do let t←(do if decide (0<(b.length:Int))then let s←ix b 0;some (decide ((s.toNat:Int)=45))else some false:Option Bool)if t then some (yc .i64 (0+1))else some 0:Option Int)let c←(do M.z2m b f f:Option Int)if decide (c=f)then some 0;else let a←(do let n←(do if decide (yc .i64 (c+1)<(b.length:Int))then let h←ix b c;some (decide ((h.toNat:Int)=46))else some false:Option Bool)let o←(do if n then let i←ix b (yc .i64 (c+1))let g←M.q4y (i.toNat:Int)some g;else some false:Option Bool)if o then M.z4e b (yc .i64 (c+1))else some c:Option Int)let p←(do let q←(do if decide (a<(b.length:Int))then let j←ix b a;if decide ((j.toNat:Int)=101)then some true;else let k←ix b a;some (decide ((k.toNat:Int)=69))else some false:Option Bool)if q then let d←(do let r←(do if decide (yc .i64 (a+1)<(b.length:Int))then let l←ix b (yc .i64 (a+1))if decide ((l.toNat:Int)=43)then some true;else let m←ix b (yc .i64 (a+1))some (decide ((m.toNat:Int)=45))else some false:Option Bool)if r then some (yc .i64 (yc .i64 (a+1)+1))else some (yc .i64 (a+1)):Option Int)let e←(do M.z5f b d:Option Int)if decide (d<e)then some e;else some a;else some a:Option Int)some p
def M.z4x(a:Int)(c:List Z)(b:Int):Option (Jn (Jn Bool Unit) Unit):=do if decide (b<a)then let d←ix c a;let e←ix c b;if decide (d=e)then some (.done (.done true))else M.z4x a c (yc .i64 (b+1))else some (.go ())partial_fixpoint
def M.z4w(b:List Z)(a:Int):Option (Jn Bool Unit):=do if decide (a<(b.length:Int))then let c←(do M.z4x a b 0:Option (Jn (Jn Bool Unit) Unit))match c with|.done r=>some r|.go d=>M.z4w b (yc .i64 (a+1))else some (.go ())partial_fixpoint
def M.q5c  (c:List Z):Option Bool:=do let a←(do M.z4w c 0:Option (Jn Bool Unit))match a with|.done r=>some r|.go b=>some false
def M.z5x(c:q04)(a:Int):Option (Jn Bool Unit):=do if decide (a<(c.zv.length:Int))then let d←ix c.zv a;let b←M.z0y d;if !b then some (.done false)else M.z5x c (yc .i64 (a+1))else some (.go ())partial_fixpoint
def M.q4z  (a:q04):Option Bool:=do
 let h←(do M.z5x a 0:Option (Jn Bool Unit))match h with|.done r=>some r|.go i=>let e←(do if decide (a.zf=0)then some (decide (a.zf=0))else
     if decide (a.zf=1)then some (decide (a.zf=1))else some (decide (a.zf=2)):Option Bool)if e then some (decide (a.z09=[])&&decide ((a.zi.length:Int)=0)&&decide ((a.zv.length:Int)=0))else
   if decide (a.zf=3)then let f←(do if !decide (a.z09=[])then let b←M.q50 a.z09;some (decide (b=(a.z09.length:Int)))else some false:Option Bool)some (f&&decide ((a.zi.length:Int)=0)&&decide ((a.zv.length:Int)=0))else
    if decide (a.zf=4)then let c←M.z0y a.z09;some (c&&decide ((a.zi.length:Int)=0)&&decide ((a.zv.length:Int)=0))else
     if decide (a.zf=5)then some (decide (a.z09=[])&&decide ((a.zv.length:Int)=0))else
      if decide (a.zf=6)then let g←(do if decide (a.z09=[])&&decide ((a.zv.length:Int)=(a.zi.length:Int))then let d←M.q5c a.zv;some !d else some false:Option Bool)some g;else some false
def M.z4v(c:q04)(self_q4x:q04→Int→Option Int)(e:Int)(a:Int):Option (Jn Int Unit):=do if decide (a<(c.zi.length:Int))then let d←ix c.zi a;let b←self_q4x d (yc .i64 (e+1))if !decide (b=0)then some (.done b)else M.z4v c self_q4x e (yc .i64 (a+1))else some (.go ())partial_fixpoint
def M.q4x:Nat→q04→Int→Option Int|0,_,_=>none|fuel+1,a,d=>do if(decide (a.zf=5)||decide (a.zf=6))&&decide (16≤d)then some 21;else let b←M.q4z a;if !b then some 23;else let c←(do M.z4v a (M.q4x fuel) d 0:Option (Jn Int Unit))match c with|.done r=>some r|.go e=>some 0
def M.q4o(fuel:Nat)(b:q04):Option Int:=do let a←M.q4x fuel b 0;some a
def M.z1w(d:Z)(c:List Int)(b:Int):Option (List Int):=do if decide (b<(d.length:Int))then let a←ix d b;if decide ((a.toNat:Int)=34)||decide ((a.toNat:Int)=92)then let g←app 1 c [92,(a.toNat:Int)]M.z1w d g (yc .i64 (b+1))else
   if decide ((a.toNat:Int)=8)then let h←app 1 c (unb [92,98])M.z1w d h (yc .i64 (b+1))else
    if decide ((a.toNat:Int)=9)then let i←app 1 c (unb [92,116])M.z1w d i (yc .i64 (b+1))else
     if decide ((a.toNat:Int)=10)then let j←app 1 c (unb [92,110])M.z1w d j (yc .i64 (b+1))else
      if decide ((a.toNat:Int)=12)then let k←app 1 c (unb [92,102])M.z1w d k (yc .i64 (b+1))else
       if decide ((a.toNat:Int)=13)then let l←app 1 c (unb [92,114])M.z1w d l (yc .i64 (b+1))else
        if decide ((a.toNat:Int)<32)then let e←ix ([48,49,50,51,52,53,54,55,56,57,97,98,99,100,101,102]:Z) (yc .u8 (ya (a.toNat:Int) 16))let f←ix ([48,49,50,51,52,53,54,55,56,57,97,98,99,100,101,102]:Z) (yb (a.toNat:Int) 16)let m←app 1 c [92,117,48,48,(e.toNat:Int),(f.toNat:Int)]M.z1w d m (yc .i64 (b+1))else let n←app 1 c [(a.toNat:Int)]M.z1w d n (yc .i64 (b+1))else some c;partial_fixpoint
def M.q4v  (c:Z):Option (List Int):=do let a←(do M.z1w c [34] 0:Option (List Int))let b←app 1 a [34]some b
def M.z5e(k:q04)(self_q4p:q04→Option (List Int))(b:List Int)(a:Int):Option (List Int):=do if decide (a<(k.zi.length:Int))then let c←(do if decide (0<a)then let g←app 1 b [44]some g;else some b:Option (List Int))let f←(do if decide (k.zf=6)then let l←ix k.zv a;let d←M.q4v l;let h←app 1 c d;let i←app 1 h [58]some i;else some c:Option (List Int))let m←ix k.zi a;let e←self_q4p m;let j←app 1 f e;M.z5e k self_q4p j (yc .i64 (a+1))else some b;partial_fixpoint
def M.q4p:Nat→q04→Option (List Int)|0,_=>none|fuel+1,a=>do if decide (a.zf=0)then let g←app 1 ([]:List Int) (unb B30)some g;else
   if decide (a.zf=1)then let h←app 1 ([]:List Int) (unb B22)some h;else
    if decide (a.zf=2)then let l9←app 1 ([]:List Int) (unb B31)some l9;else
     if decide (a.zf=3)then let e←app 1 ([]:List Int) (unb a.z09)some e;else
      if decide (a.zf=4)then let c←M.q4v a.z09;some c;else let b←(do if decide (a.zf=6)then some (123,125)else some (91,93):Option (Int×Int))let f←app 1 ([]:List Int) [b.1]let d←(do M.z5e a (M.q4p fuel) f 0:Option (List Int))let l179←app 1 d [b.2]some l179
def M.q4t(fuel:Nat)(c:q04):Option (Z×Int):=do let a←M.q4o fuel c;if !decide (a=0)then some ([],a)else let b←M.q4p fuel c;if decide (16384<((byt b).length:Int))then some ([],22)else some (byt b,0)
def M.z2h(b:List q02)(e:List q02)(a:Int):Option (Jn Bool Unit):=do if decide (a<(b.length:Int))then let f←ix b a;let g←ix e a;let d←(do if !decide (f.zj=g.zj)then some true;else let h←ix b a;let i←ix e a;let c←M.q4u h.z38 i.z38;some !c:Option Bool)if d then some (.done false)else M.z2h b e (yc .i64 (a+1))else some (.go ())partial_fixpoint
def M.q5s  (b c:List q02):Option Bool:=do if !decide ((b.length:Int)=(c.length:Int))then some false;else let a←(do M.z2h b c 0:Option (Jn Bool Unit))match a with|.done r=>some r|.go d=>some true
def M.q5r  (a b:q00):Option Bool:=do let d←(do if decide (a.zf=b.zf)&&decide (a.gOf=b.gOf)&&decide (a.z3j=b.z3j)&&decide (a.z3h=b.z3h)&&decide (a.zk=b.zk)&&decide (a.z29=b.z29)&&decide (a.z0l=b.z0l)&&decide (a.z1n=b.z1n)&&decide (a.z08=b.z08)&&decide (a.z0o=b.z0o)&&decide (a.z03=b.z03)&&decide (a.z0b=b.z0b)&&decide (a.z01=b.z01)&&decide (a.zq=b.zq)&&decide (a.z04=b.z04)&&decide (a.z0t=b.z0t)&&decide (a.zj=b.zj)&&decide (a.z3u=b.z3u)&&decide (a.zx=b.zx)&&decide (a.z8d=b.z8d)&&decide (a.z5r=b.z5r)&&decide (a.z0n=b.z0n)&&decide (a.z1e=b.z1e)&&decide (a.z2t=b.z2t)&&decide (a.z11=b.z11)then let c←M.q5s a.z02 b.z02;some c;else some false:Option Bool)some d
def M.z19(e:List Z)(c:List q0f)(b:Int):Option (List q0f):=do if decide (b<(e.length:Int))then let i←ix e b;let f←M.q5y i;let a←M.q62 f 32;if decide ((a.length:Int)=1)then let j←ix a 0;let d←M.q6a j 61;let g←app 56 c [q0f.mk d.1 [] d.2.1 false]M.z19 e g (yc .i64 (b+1))else let k←ix a 0;let l←ix a 1;let h←app 56 c [q0f.mk k l [] (decide ((a.length:Int)=3))]M.z19 e h (yc .i64 (b+1))else some c;partial_fixpoint
def M.q6k  (b:Z):Option (List q0f):=do if decide (b=[])then some ([]:List q0f)else let c←M.q62 b 44;let a←(do M.z19 c ([]:List q0f) 0:Option (List q0f))some a
def M.z2o(c:Z)(b:Int)(a:q0e):Option q0e:=do if decide (b<(c.length:Int))then let g←(do if a.zk then some true;else let d←ix c b;some (decide ((d.toNat:Int)=115)):Option Bool)let h←(do if a.z9x then some true;else let e←ix c b;some (decide ((e.toNat:Int)=98)):Option Bool)let i←(do if a.z5r then some true;else let f←ix c b;some (decide ((f.toNat:Int)=116)):Option Bool)M.z2o c (yc .i64 (b+1)) (q0e.mk a.zf a.zt a.z00 a.z4m g h i a.z68)else some a;partial_fixpoint
def M.q6o  (c:Int)(d e f g h:Z):Option q0e:=do let b←M.q6k h;let a←(do M.z2o f 0 (q0e.mk c d e g false false false b):Option q0e)some a
def M.q5p  :Option (List q0e):=do let u←M.q6o 1 B5 B97 [] B9 B55;let v←M.q6o 2 B5 B63 [115] B9 B104;let w←M.q6o 3 B5 B69 [115] B9 B21;let x←M.q6o 4 B5 B64 [115] B9 []let y←M.q6o 5 B5 B70 [115] B9 B87;let a←M.q6o 6 B5 B72 [115] B9 []let b←M.q6o 7 B5 B89 [115] B9 []let c←M.q6o 8 B5 B90 [] B9 B101;let d←M.q6o 9 B5 B98 [] B9 B48;let e←M.q6o 10 [71,69,84] B71 [115] B32 B3;let f←M.q6o 11 B5 B33 [] B9 B4;let g←M.q6o 12 B5 B33 [] B9 B7;let h←M.q6o 13 B5 B33 [] B9 B8;let i←M.q6o 14 B5 B33 [] B9 B2;let j←M.q6o 15 B5 B91 [] B9 B6;let k←M.q6o 16 B5 B61 [] B9 B6;let l←M.q6o 17 [71,69,84] B73 [98] [] []let m←M.q6o 18 [71,69,84] B107 [] [] []let n←M.q6o 19 [71,69,84] B46 [98] B32 B27;let o←M.q6o 20 [71,69,84] B19 [98] [] []let p←M.q6o 21 B5 B46 [98] B60 []let q←M.q6o 22 B105 B19 [98,116] B54 []let r←M.q6o 23 B96 B19 [98,116] [] []let s←M.q6o 24 B5 B45 [98] B9 B56;let t←M.q6o 25 B5 B65 [98] B9 []some [u,v,w,x,y,a,b,c,d,e,f,g,h,i,j,k,l,m,n,o,p,q,r,s,t]
def M.z3e(d:List Z)(e:List Z)(b:Z)(c:Z)(a:Int):Option (Jn (Z×Z×Bool) (Z×Z)):=do if decide (a<(d.length:Int))then let f←ix d a;if decide (f=[79,70])then let g←ix e a;if decide (g=[])then some (.done ([],[],false))else M.z3e d e g c (yc .i64 (a+1))else
   if decide (f=B52)then let h←ix e a;M.z3e d e b h (yc .i64 (a+1))else let i←ix d a;let j←ix e a;if !decide (i=j)then some (.done ([],[],false))else M.z3e d e b c (yc .i64 (a+1))else some (.go (b,c))partial_fixpoint
def M.q6l  (d:q0e)(e:List Z):Option (Z×Z×Bool):=do let f←sub d.z00 1 (d.z00.length:Int)let c←M.q62 f 47;if !decide ((c.length:Int)=(e.length:Int))then some ([],[],false)else let b←(do M.z3e c e [] [] 0:Option (Jn (Z×Z×Bool) (Z×Z)))match b with|.done r=>some r|.go a=>some (a.1,a.2,true)
def M.z3p(c:List Z)(b:Int):Option (Jn Z Unit):=do if decide (b<(c.length:Int))then let e←ix c b;let d←M.q5y e;let a←M.q6a d 61;if a.2.2&&decide (a.1=[115,101,115,115,105,111,110])then some (.done a.2.1)else M.z3p c (yc .i64 (b+1))else some (.go ())partial_fixpoint
def M.q6q  (e:List q05):Option Z:=do let b←M.q66 e B39;let c←M.q62 b.1 59;let a←(do M.z3p c 0:Option (Jn Z Unit))match a with|.done r=>some r|.go d=>some []
def M.q6t  (a:Z):Option Bool:=do let b←M.q6a a 34;let c←M.q5w a 33 126;some (c&&!b.2.2)
def M.q4j  (b:Z)(a:Int):Option Int:=do if decide (yc .i64 (8*(b.length:Int))≤a)then some 0;else let c1←ix b (yc .i64 (ya a 8))let _←chk (decide (0≤yc .i64 (7-yb a 8)))some (z7s .i64 (yc .i64 (zez .u8 (c1.toNat:Int) (yc .i64 (7-yb a 8)))) 1)
def M.z4c(e:Z)(b:Int)(c:Int)(a:Int):Option Int:=do if decide (a<6)then let d←M.q4j e (yc .i64 (b+a))M.z4c e b (yc .i64 (yc .i64 (2*c)+d)) (yc .i64 (a+1))else some c;partial_fixpoint
def M.z4b(g:Z)(b:List Int)(a:Int):Option (List Int):=do if decide (a<yc .i64 (8*(g.length:Int)))then let d←(do let e←(do M.z4c g a 0 0:Option Int)let c←ix (B1:Z) e;let f←app 1 b [(c.toNat:Int)]some f:Option (List Int))M.z4b g d (yc .i64 (a+6))else some b;partial_fixpoint
def M.q4b  (b:Z):Option Z:=do let a←(do M.z4b b ([]:List Int) 0:Option (List Int))some (byt a)
def M.z1r(f:Z)(b:Int)(c:Int)(a:Int):Option Int:=do if decide (a<64)then let d←ix (B1:Z) a;let e←ix f b;if decide ((d.toNat:Int)=(e.toNat:Int))then M.z1r f b a (yc .i64 (a+1))else M.z1r f b c (yc .i64 (a+1))else some c;partial_fixpoint
def M.z2e(b:Int)(c:List Int)(a:Int):Option (Jn (Jn (Z×Int) (List Int)) (List Int)):=do if decide (0≤a)then let _←chk (decide (0≤a))let d←app 8 c [z7s .i64 (zez .i64 b a) 1]M.z2e b d (yc .i64 (a-1))else some (.go c)partial_fixpoint
def M.z2d(f:Z)(c:List Int)(a:Int):Option (Jn (Z×Int) (List Int)):=do if decide (a<(f.length:Int))then let e←(do let b←(do M.z1r f a (-1) 0:Option Int)if decide (b<0)then some (.done (.done ([],11)))else M.z2e b c 5:Option (Jn (Jn (Z×Int) (List Int)) (List Int)))match e with|.done r=>some r|.go d=>M.z2d f d (yc .i64 (a+1))else some (.go c)partial_fixpoint
def M.z2g(b:List Int)(c:Int)(d:Int)(a:Int):Option Int:=do if decide (a<8)then let f←ix b (yc .i64 (c+a))let e←ix b (yc .i64 (c+a))M.z2g b c (yc .i64 (yc .i64 (2*d)+e)) (yc .i64 (a+1))else some d;partial_fixpoint
def M.z2f(a:List Int)(c:List Int)(b:Int):Option (List Int):=do if decide (yc .i64 (b+8)≤(a.length:Int))then let d←(do let e←(do M.z2g a b 0 0:Option Int)let f←app 1 c [yc .u8 e]some f:Option (List Int))M.z2f a d (yc .i64 (b+8))else some c;partial_fixpoint
def M.q4d  (e:Z):Option (Z×Int):=do let d←(do M.z2d e ([]:List Int) 0:Option (Jn (Z×Int) (List Int)))match d with|.done r=>some r|.go c=>let a←(do M.z2f c ([]:List Int) 0:Option (List Int))let b←M.q4b (byt a)if !decide (b=e)then some ([],11)else some (byt a,0)
def M.q6r  (a:q00)(c d:Z):Option (q00×Bool):=do let b←(do if(decide (c=B51)||decide (c=B41))&&!decide (d=[])then let e←M.q61 d 9;some e;else some 0:Option Int)if decide (c=[85,115,101,114])then some (q00.mk a.zf a.gOf d a.z3h a.zk a.z29 a.z0l a.z1n a.z08 a.z0o a.z03 a.z0b a.z01 a.zq a.z04 a.z0t a.zj a.z3u a.zx a.z8d a.z5r a.z0n a.z1e a.z02 a.z2t a.z11,decide (0≤b))else
  if decide (c=[80,97,115,115])then some (q00.mk a.zf a.gOf a.z3j d a.zk a.z29 a.z0l a.z1n a.z08 a.z0o a.z03 a.z0b a.z01 a.zq a.z04 a.z0t a.zj a.z3u a.zx a.z8d a.z5r a.z0n a.z1e a.z02 a.z2t a.z11,decide (0≤b))else
   if decide (c=[67,111,100,101])then some (q00.mk a.zf a.gOf a.z3j a.z3h a.zk d a.z0l a.z1n a.z08 a.z0o a.z03 a.z0b a.z01 a.zq a.z04 a.z0t a.zj a.z3u a.zx a.z8d a.z5r a.z0n a.z1e a.z02 a.z2t a.z11,decide (0≤b))else
    if decide (c=[78,97,109,101])then some (q00.mk a.zf a.gOf a.z3j a.z3h a.zk a.z29 a.z0l a.z1n a.z08 a.z0o a.z03 a.z0b a.z01 a.zq a.z04 a.z0t d a.z3u a.zx a.z8d a.z5r a.z0n a.z1e a.z02 a.z2t a.z11,decide (0≤b))else
     if decide (c=[68,97,116,97])then some (q00.mk a.zf a.gOf a.z3j a.z3h a.zk a.z29 a.z0l a.z1n a.z08 a.z0o a.z03 a.z0b a.z01 a.zq a.z04 a.z0t a.zj d a.zx a.z8d a.z5r a.z0n a.z1e a.z02 a.z2t a.z11,decide (0≤b))else
      if decide (c=[66,111,100,121])then some (q00.mk a.zf a.gOf a.z3j a.z3h a.zk a.z29 a.z0l a.z1n a.z08 a.z0o a.z03 a.z0b a.z01 a.zq a.z04 a.z0t a.zj a.z3u d a.z8d a.z5r a.z0n a.z1e a.z02 a.z2t a.z11,decide (0≤b))else
       if decide (c=[83,105,103])then some (q00.mk a.zf a.gOf a.z3j a.z3h a.zk a.z29 a.z0l a.z1n a.z08 a.z0o a.z03 a.z0b a.z01 a.zq a.z04 a.z0t a.zj a.z3u a.zx d a.z5r a.z0n a.z1e a.z02 a.z2t a.z11,decide (0≤b))else
        if decide (c=B108)then some (q00.mk a.zf a.gOf a.z3j a.z3h a.zk a.z29 d a.z1n a.z08 a.z0o a.z03 a.z0b a.z01 a.zq a.z04 a.z0t a.zj a.z3u a.zx a.z8d a.z5r a.z0n a.z1e a.z02 a.z2t a.z11,decide (0≤b))else
         if decide (c=B109)then some (q00.mk a.zf a.gOf a.z3j a.z3h a.zk a.z29 a.z0l d a.z08 a.z0o a.z03 a.z0b a.z01 a.zq a.z04 a.z0t a.zj a.z3u a.zx a.z8d a.z5r a.z0n a.z1e a.z02 a.z2t a.z11,decide (0≤b))else
          if decide (c=B99)then some (q00.mk a.zf a.gOf a.z3j a.z3h a.zk a.z29 a.z0l a.z1n d a.z0o a.z03 a.z0b a.z01 a.zq a.z04 a.z0t a.zj a.z3u a.zx a.z8d a.z5r a.z0n a.z1e a.z02 a.z2t a.z11,decide (0≤b))else
           if decide (c=B102)then some (q00.mk a.zf a.gOf a.z3j a.z3h a.zk a.z29 a.z0l a.z1n a.z08 d a.z03 a.z0b a.z01 a.zq a.z04 a.z0t a.zj a.z3u a.zx a.z8d a.z5r a.z0n a.z1e a.z02 a.z2t a.z11,decide (0≤b))else
            if decide (c=B83)then some (q00.mk a.zf a.gOf a.z3j a.z3h a.zk a.z29 a.z0l a.z1n a.z08 a.z0o d a.z0b a.z01 a.zq a.z04 a.z0t a.zj a.z3u a.zx a.z8d a.z5r a.z0n a.z1e a.z02 a.z2t a.z11,decide (0≤b))else
             if decide (c=B110)then some (q00.mk a.zf a.gOf a.z3j a.z3h a.zk a.z29 a.z0l a.z1n a.z08 a.z0o a.z03 d a.z01 a.zq a.z04 a.z0t a.zj a.z3u a.zx a.z8d a.z5r a.z0n a.z1e a.z02 a.z2t a.z11,decide (0≤b))else
              if decide (c=B84)then some (q00.mk a.zf a.gOf a.z3j a.z3h a.zk a.z29 a.z0l a.z1n a.z08 a.z0o a.z03 a.z0b d a.zq a.z04 a.z0t a.zj a.z3u a.zx a.z8d a.z5r a.z0n a.z1e a.z02 a.z2t a.z11,decide (0≤b))else
               if decide (c=B76)then some (q00.mk a.zf a.gOf a.z3j a.z3h a.zk a.z29 a.z0l a.z1n a.z08 a.z0o a.z03 a.z0b a.z01 d a.z04 a.z0t a.zj a.z3u a.zx a.z8d a.z5r a.z0n a.z1e a.z02 a.z2t a.z11,decide (0≤b))else
                if decide (c=B82)then some (q00.mk a.zf a.gOf a.z3j a.z3h a.zk a.z29 a.z0l a.z1n a.z08 a.z0o a.z03 a.z0b a.z01 a.zq d a.z0t a.zj a.z3u a.zx a.z8d a.z5r a.z0n a.z1e a.z02 a.z2t a.z11,decide (0≤b))else
                 if decide (c=B111)then some (q00.mk a.zf a.gOf a.z3j a.z3h a.zk a.z29 a.z0l a.z1n a.z08 a.z0o a.z03 a.z0b a.z01 a.zq a.z04 d a.zj a.z3u a.zx a.z8d a.z5r a.z0n a.z1e a.z02 a.z2t a.z11,decide (0≤b))else
                  if decide (c=B100)then some (q00.mk a.zf a.gOf a.z3j a.z3h a.zk a.z29 a.z0l a.z1n a.z08 a.z0o a.z03 a.z0b a.z01 a.zq a.z04 a.z0t a.zj a.z3u a.zx a.z8d a.z5r d a.z1e a.z02 a.z2t a.z11,decide (0≤b))else
                   if decide (c=B51)then some (q00.mk a.zf a.gOf a.z3j a.z3h a.zk a.z29 a.z0l a.z1n a.z08 a.z0o a.z03 a.z0b a.z01 a.zq a.z04 a.z0t a.zj a.z3u a.zx a.z8d a.z5r a.z0n a.z1e a.z02 b a.z11,decide (0≤b))else
                    if decide (c=B41)then some (q00.mk a.zf a.gOf a.z3j a.z3h a.zk a.z29 a.z0l a.z1n a.z08 a.z0o a.z03 a.z0b a.z01 a.zq a.z04 a.z0t a.zj a.z3u a.zx a.z8d a.z5r a.z0n a.z1e a.z02 a.z2t b,decide (0≤b))else some (a,decide (0≤b))
def M.z4h(g:q0e)(h:List q05)(b:Int)(c:Bool)(a:Int):Option Bool:=do if decide (a<(g.z68.length:Int))then let d←(do if c then some true;else let e←ix g.z68 a;let f←ix h b;some (decide (e.zj=f.zj)):Option Bool)M.z4h g h b d (yc .i64 (a+1))else some c;partial_fixpoint
def M.z4g(d:List q05)(h:q0e)(i:q00)(a:Int):Option (Jn (q00×Bool) Unit):=do if decide (a<(d.length:Int))then let e←(do let f←ix d a;let b←M.q4g d f.zj;let c←(do M.z4h h d a false 0:Option Bool)if !decide (b.2=1)||!c then some (.done (.done (i,false)))else some (.go ()):Option (Jn (Jn (q00×Bool) Unit) Unit))match e with|.done r=>some r|.go g=>M.z4g d h i (yc .i64 (a+1))else some (.go ())partial_fixpoint
def M.z2y(i:q0e)(j:List q05)(d:Int)(a:q00):Option (Jn (q00×Bool) q00):=do if decide (d<(i.z68.length:Int))then let b←ix i.z68 d;let c←M.q4g j b.zj;if decide (b.z8c=[])then if decide (c.2=0)||!decide (c.1=b.zi4)then some (.done (a,false))else M.z2y i j (yc .i64 (d+1)) a;else let h←(do if b.zjw then let e←M.q4d c.1;if !decide (e.2=0)then some (.done (.done (a,false)))else some (.go e.1)else some (.go c.1):Option (Jn (Jn (q00×Bool) q00) Z))match h with|.done r=>some r|.go g=>let f←M.q6r a b.z8c g;if !f.2 then some (.done (a,false))else M.z2y i j (yc .i64 (d+1)) f.1;else some (.go a)partial_fixpoint
def M.q6b  (e:q0e)(f:q00)(g:List q05):Option (q00×Bool):=do let b←(do M.z4g g e f 0:Option (Jn (q00×Bool) Unit))match b with|.done r=>some r|.go d=>let c←(do M.z2y e g 0 f:Option (Jn (q00×Bool) q00))match c with|.done r=>some r|.go a=>some (a,true)
def M.z1j(b:q0d)(a:Int):Option q0d:=do let g←(do if decide (a<(b.gs.length:Int))then let c←ix b.gs a;if decide ((c.toNat:Int)=32)then some true;else let d←ix b.gs a;if decide ((d.toNat:Int)=9)then some true;else let e←ix b.gs a;if decide ((e.toNat:Int)=10)then some true;else let f←ix b.gs a;some (decide ((f.toNat:Int)=13))else some false:Option Bool)if g then M.z1j b (yc .i64 (a+1))else some (q0d.mk b.gs a b.ge)partial_fixpoint
def M.q53  (a:q0d):Option q0d:=do M.z1j a a.gi
def M.q51  (a:q0d):Option Int:=do if decide (a.gi<(a.gs.length:Int))then let c1←ix a.gs a.gi;some (c1.toNat:Int)else some 0
def M.q5b  (a:q0d)(b:Int):Option q0d:=do if decide (a.ge=0)then some (q0d.mk a.gs a.gi b)else some a
def M.word  (a:List Int):Option Int:=do let b←ix a 0;let c←ix a 1;let d←ix a 2;let e←ix a 3;let f←ix a 4;let g←ix a 5;let h←ix a 6;let i←ix a 7;some (orI .u64 (orI .u64 (orI .u64 (orI .u64 (orI .u64 (orI .u64 (orI .u64 (yc .u64 b) (z7r .u64 (yc .u64 c) 8)) (z7r .u64 (yc .u64 d) 16)) (z7r .u64 (yc .u64 e) 24)) (z7r .u64 (yc .u64 f) 32)) (z7r .u64 (yc .u64 g) 40)) (z7r .u64 (yc .u64 h) 48)) (z7r .u64 (yc .u64 i) 56))
def M.zac(a:List Int):Option (List Int):=do let f←(do if decide (32<(a.length:Int))then let g←sub a 8 (a.length:Int)let h←sub a 16 (a.length:Int)let i←sub a 24 (a.length:Int)let b←M.word a;let c←M.word g;let d←M.word h;let e←M.word i;some (decide (z7s .u64 (orI .u64 (orI .u64 b c) (orI .u64 d e)) 9259542123273814144=0))else some false:Option Bool)if f then let j←sub a 32 (a.length:Int)M.zac j;else some a;partial_fixpoint
def M.z6y(a:List Int):Option (Jn Bool Unit):=do if decide (0<(a.length:Int))then let f←ix a 0;let E←(do if decide (f<128)then let d←sub a 1 (a.length:Int)let j←(do let k←(do if decide (8<(d.length:Int))then let g←M.word d;some (decide (z7s .u64 g 9259542123273814144=0))else some false:Option Bool)if k then let b←sub d 8 (d.length:Int)let l←(do if decide (16<(b.length:Int))then let z←sub b 8 (b.length:Int)let h←M.word b;let i←M.word z;some (decide (z7s .u64 (orI .u64 h i) 9259542123273814144=0))else some false:Option Bool)if l then let A←sub b 16 (b.length:Int)M.zac A;else some b;else some d:Option (List Int))(do M.z6y j)>>=fun r=>some (.done r)else some (.go ()):Option (Jn (Jn Bool Unit) Unit))match E with|.done r=>some r|.go S=>let e←ix utf8First f;let c←ix zdg (zez .u8 e 4)if decide (yc .i64 (z7s .u8 e 7)=2)then let m←(do if decide ((a.length:Int)<2)then some true;else let F←ix a 1;some (decide (F<c.glo)):Option Bool)let n←(do if m then some true;else let G←ix a 1;some (decide (c.ghi<G)):Option Bool)if n then some (.done false)else let B←sub a 2 (a.length:Int)M.z6y B;else
    if decide (yc .i64 (z7s .u8 e 7)=3)then let o←(do if decide ((a.length:Int)<3)then some true;else let H←ix a 1;some (decide (H<c.glo)):Option Bool)let p←(do if o then some true;else let I←ix a 1;some (decide (c.ghi<I)):Option Bool)let q←(do if p then some true;else let J←ix a 2;some (decide (J<128)):Option Bool)let s←(do if q then some true;else let K←ix a 2;some (decide (191<K)):Option Bool)if s then some (.done false)else let C←sub a 3 (a.length:Int)M.z6y C;else
     if decide (yc .i64 (z7s .u8 e 7)=4)then let t←(do if decide ((a.length:Int)<4)then some true;else let L←ix a 1;some (decide (L<c.glo)):Option Bool)let u←(do if t then some true;else let N←ix a 1;some (decide (c.ghi<N)):Option Bool)let v←(do if u then some true;else let O←ix a 2;some (decide (O<128)):Option Bool)let w←(do if v then some true;else let P←ix a 2;some (decide (191<P)):Option Bool)let x←(do if w then some true;else let Q←ix a 3;some (decide (Q<128)):Option Bool)let y←(do if x then some true;else let R←ix a 3;some (decide (191<R)):Option Bool)if y then some (.done false)else let D←sub a 4 (a.length:Int)M.z6y D;else some (.done false)else some (.go ())partial_fixpoint
def M.valid  (b:List Int):Option Bool:=do let _←chk (decide ((b.length:Int)≤(b.length:Int))&&decide ((b.length:Int)≤(b.length:Int)))let d←sub b 0 (b.length:Int)let a←(do M.z6y d:Option (Jn Bool Unit))match a with|.done r=>some r|.go c=>some true
def M.z0w(e:Int)(d:q0d)(c:Int)(b:Int):Option (Jn Int Int):=do if decide (b<yc .i64 (e+6))then let a←ix d.gs b;let f←M.q4y (a.toNat:Int)if f then M.z0w e d (yc .i64 (yc .i64 (16*c)+yc .i64 (yc .u8 ((a.toNat:Int)-48)))) (yc .i64 (b+1))else
   if decide (97≤(a.toNat:Int))&&decide ((a.toNat:Int)≤102)then M.z0w e d (yc .i64 (yc .i64 (yc .i64 (16*c)+yc .i64 (yc .u8 ((a.toNat:Int)-97)))+10)) (yc .i64 (b+1))else
    if decide (65≤(a.toNat:Int))&&decide ((a.toNat:Int)≤70)then M.z0w e d (yc .i64 (yc .i64 (yc .i64 (16*c)+yc .i64 (yc .u8 ((a.toNat:Int)-65)))+10)) (yc .i64 (b+1))else some (.done (-1))else some (.go c)partial_fixpoint
def M.q57  (b:q0d)(a:Int):Option Int:=do let e←(do if decide ((b.gs.length:Int)<yc .i64 (a+6))then some true;else let c←ix b.gs a;some !decide ((c.toNat:Int)=92):Option Bool)let f←(do if e then some true;else let d←ix b.gs (yc .i64 (a+1))some !decide ((d.toNat:Int)=117):Option Bool)if f then some (-1)else let h←(do M.z0w a b 0 (yc .i64 (a+2)):Option (Jn Int Int))match h with|.done r=>some r|.go g=>some g
def M.z0c(b:q0d)(a:Int):Option (Jn (Z×q0d) Unit):=do if decide (a<((B35:Z).length:Int))then let c←ix b.gs (yc .i64 (b.gi+1))let d←ix (B35:Z) a;if decide ((c.toNat:Int)=(d.toNat:Int))then let e←sub ([34,92,47,8,12,10,13,9]:Z) a (yc .i64 (a+1))some (.done (e,q0d.mk b.gs (yc .i64 (b.gi+2)) b.ge))else M.z0c b (yc .i64 (a+1))else some (.go ())partial_fixpoint
def M.q56  (a:q0d):Option (Z×q0d):=do let f←(do if decide (yc .i64 (a.gi+1)<(a.gs.length:Int))then M.z0c a 0;else some (.go ()):Option (Jn (Z×q0d) Unit))match f with|.done r=>some r|.go g=>let b←M.q57 a a.gi;if decide (b<0)||decide (56320≤b)&&decide (b≤57343)then let d←M.q5b a 20;some ([],d)else
   if decide (b<55296)||decide (56319<b)then some (encS (yc .i32 b),q0d.mk a.gs (yc .i64 (a.gi+6)) a.ge)else let c←M.q57 (q0d.mk a.gs (yc .i64 (a.gi+6)) a.ge) (yc .i64 (a.gi+6))if decide (c<56320)||decide (57343<c)then let e←M.q5b (q0d.mk a.gs (yc .i64 (a.gi+6)) a.ge) 20;some ([],e)else some (encS (yc .i32 (yc .i64 (yc .i64 (yc .i64 (65536+yc .i64 (1024*yc .i64 (b-55296)))+c)-56320))),q0d.mk a.gs (yc .i64 (yc .i64 (a.gi+6)+6)) a.ge)
def M.z18(b:List Int)(a:q0d):Option (Jn (Z×q0d) q0d):=do if decide (a.ge=0)then let c←M.q51 a;if decide (c=34)then let e←M.valid b;if !e then let f←M.q5b (q0d.mk a.gs (yc .i64 (a.gi+1)) a.ge) 20;some (.done (byt b,f))else some (.done (byt b,q0d.mk a.gs (yc .i64 (a.gi+1)) a.ge))else
   if decide (c<32)then let g←M.q5b a 20;M.z18 b g;else
    if decide (c=92)then let d←M.q56 a;let h←app 1 b (unb d.1)M.z18 h d.2;else let i←app 1 b [c]M.z18 i (q0d.mk a.gs (yc .i64 (a.gi+1)) a.ge)else some (.go a)partial_fixpoint
def M.q58  (a:q0d):Option (Z×q0d):=do let d←M.q51 a;if !decide (d=34)then let e←M.q5b a 20;some ([],e)else let c←(do M.z18 ([]:List Int) (q0d.mk a.gs (yc .i64 (a.gi+1)) a.ge):Option (Jn (Z×q0d) q0d))match c with|.done r=>some r|.go b=>some ([],b)
def M.z0x(a:q0d)(b:Int):Option (Jn (q04×q0d) Unit):=do if decide (b<3)then let c←ix [(B30:Z),B22,B31] b;let d←(do if decide ((c.length:Int)≤yc .i64 ((a.gs.length:Int)-a.gi))then let e←sub a.gs a.gi (yc .i64 (a.gi+(c.length:Int)))some (decide (e=c))else some false:Option Bool)if d then some (.done (q04.mk b [] [] [],q0d.mk a.gs (yc .i64 (a.gi+(c.length:Int))) a.ge))else M.z0x a (yc .i64 (b+1))else some (.go ())partial_fixpoint
def M.q5a  (b:q0d):Option (q04×q0d):=do let d←(do M.z0x b 0:Option (Jn (q04×q0d) Unit))match d with|.done r=>some r|.go g=>let e←sub b.gs b.gi (b.gs.length:Int)let a←M.q50 e;if decide (a=0)then let c←M.q5b b 20;some (q04.mk 0 [] [] [],c)else let f←sub b.gs (yc .i64 (yc .i64 (b.gi+a)-a)) (yc .i64 (b.gi+a))some (q04.mk 3 f [] [],q0d.mk b.gs (yc .i64 (b.gi+a)) b.ge)
def M.z06(v:Int)(self_q59:q0d→Int→Option (q04×q0d))(w:Int)(u:Bool)(e:q0d)(i:List q04)(j:List Z):Option (q0d×List q04×List Z):=do let q←(do if u then some (decide (e.ge=0))else some false:Option Bool)if q then let c←(do if decide (v=123)then let l←M.q53 e;let d←M.q58 l;let k←app 16 j [d.1]let r←(do let s←(do if decide (d.2.ge=0)then let m←M.q5c k;some m;else some false:Option Bool)if s then let n←M.q5b d.2 20;some n;else some d.2:Option q0d)let f←M.q53 r;let h←(do let o←M.q51 f;if !decide (o=58)then let p←M.q5b f 20;some p;else some f:Option q0d)some (q0d.mk h.gs (yc .i64 (h.gi+1)) h.ge,k)else some (e,j):Option (q0d×List Z))let a←(do if decide (c.1.ge=0)then let b←self_q59 c.1 (yc .i64 (w+1))let t←app 72 i [q04.mk b.1.zf b.1.z09 b.1.zi b.1.zv]some (b.2,t)else some (c.1,i):Option (q0d×List q04))let g←M.q51 a.1;if decide (g=44)then M.z06 v self_q59 w (decide (g=44)) (q0d.mk a.1.gs (yc .i64 (a.1.gi+1)) a.1.ge) a.2 c.2;else M.z06 v self_q59 w (decide (g=44)) a.1 a.2 c.2;else some (e,i,j)partial_fixpoint
def M.q59:Nat→q0d→Int→Option (q04×q0d)|0,_,_=>none|fuel+1,s,q=>do let h←M.q53 s;let p←M.q51 h;let o←(do if decide (p=34)then let f←M.q58 h;some (.go (f.2,4,f.1,[],[]))else let n←(do if decide (p=91)then some (decide (p=91))else some (decide (p=123)):Option Bool)if n then if decide (16≤q)then let i←M.q5b h 21;some (.done (q04.mk 0 [] [] [],i))else let d←(do if decide (p=123)then some (125,6)else some (93,5):Option (Int×Int))let g←M.q53 (q0d.mk h.gs (yc .i64 (h.gi+1)) h.ge)let c←(do let j←M.q51 g;M.z06 p (M.q59 fuel) q (!decide (j=d.1)) g [] []:Option (q0d×List q04×List Z))let e←(do let k←M.q51 c.1;if !decide (k=d.1)then let l←M.q5b c.1 20;some l;else some c.1:Option q0d)some (.go (q0d.mk e.gs (yc .i64 (e.gi+1)) e.ge,d.2,[],c.2.1,c.2.2))else let b←M.q5a h;some (.go (b.2,b.1.zf,b.1.z09,b.1.zi,b.1.zv)):Option (Jn (q04×q0d) (q0d×Int×Z×List q04×List Z)))match o with|.done r=>some r|.go a=>if decide (a.1.ge=0)then let m←M.q53 a.1;some (q04.mk a.2.1 a.2.2.1 a.2.2.2.1 a.2.2.2.2,m)else some (q04.mk a.2.1 a.2.2.1 a.2.2.2.1 a.2.2.2.2,a.1)
def M.q4s(fuel:Nat)(b:Z):Option (q04×Int):=do if decide (16384<(b.length:Int))then some (q04.mk 0 [] [] [],22)else let a←M.q59 fuel (q0d.mk b 0 0) 0;let c←(do if decide (a.2.gi<(b.length:Int))then let d←M.q5b a.2 20;some d;else some a.2:Option q0d)if !decide (c.ge=0)then some (q04.mk 0 [] [] [],c.ge)else some (a.1,0)
def M.z4d(b:q04)(e:Z)(a:Int):Option (Jn (q04×Bool) Unit):=do if decide (a<(b.zv.length:Int))&&decide (a<(b.zi.length:Int))then let c←ix b.zv a;if decide (c=e)then let d←ix b.zi a;some (.done (d,true))else M.z4d b e (yc .i64 (a+1))else some (.go ())partial_fixpoint
def M.q4r  (b:q04)(d:Z):Option (q04×Bool):=do if !decide (b.zf=6)then some (q04.mk 0 [] [] [],false)else let a←(do M.z4d b d 0:Option (Jn (q04×Bool) Unit))match a with|.done r=>some r|.go c=>some (q04.mk 0 [] [] [],false)
def M.z5v(c:q04)(b:List Z)(a:Int):Option (Jn (List Z×Bool) (List Z)):=do if decide (a<(c.zi.length:Int))then let e←ix c.zi a;if !decide (e.zf=4)then some (.done ([],false))else let f←ix c.zi a;let d←app 16 b [f.z09]M.z5v c d (yc .i64 (a+1))else some (.go b)partial_fixpoint
def M.q4w  (c:q04):Option (List Z×Bool):=do if !decide (c.zf=5)then some ([],false)else let b←(do M.z5v c ([]:List Z) 0:Option (Jn (List Z×Bool) (List Z)))match b with|.done r=>some r|.go a=>some (a,true)
def M.z4f(d:q04)(c:List q02)(a:Int):Option (Jn (List q02×Bool) (List q02)):=do if decide (a<(d.zi.length:Int))then let f←ix d.zi a;let b←M.q4w f;if !b.2 then some (.done ([],false))else let g←ix d.zv a;let e←app 40 c [q02.mk g b.1]M.z4f d e (yc .i64 (a+1))else some (.go c)partial_fixpoint
def M.q67  (c:q04):Option (List q02×Bool):=do if !decide (c.zf=6)then some ([],false)else let b←(do M.z4f c ([]:List q02) 0:Option (Jn (List q02×Bool) (List q02)))match b with|.done r=>some r|.go a=>some (a,true)
def M.q5x(fuel:Nat)(a:q0e)(j:q03):Option (q00×Bool):=do let c←M.q6l a j.z00;let h←(do
   if a.zk then let E←M.q6q j.zp;some E;else some []:Option Z)let z←(do if a.z9x then let g←M.q66 j.zp B16;let x←(do if g.2 then if decide ((g.1.length:Int)<7)then some true;else let B←sub g.1 0 7;some !decide (B=B36)else some false:Option Bool)if x then some (.done (q00.mk a.zf c.1 [] [] h [] [] [] [] [] [] [] [] [] [] [] c.2.1 [] [] [] [] [] [] [] 0 0,false))else
     if g.2 then let C←sub g.1 7 (g.1.length:Int)some (.go C)else some (.go [])else some (.go []):Option (Jn (q00×Bool) Z))match z with
 |.done r=>some r|.go b=>
  let A←(do if a.z5r then let e←M.q66 j.zp B34;let y←(do if e.2 then if decide ((e.1.length:Int)<2)then some true;else let v←ix e.1 0;if !decide ((v.toNat:Int)=34)then some true;else let w←ix e.1 (yc .i64 ((e.1.length:Int)-1))some !decide ((w.toNat:Int)=34)else some false:Option Bool)if y then some (.done (q00.mk a.zf c.1 [] [] h [] b [] [] [] [] [] [] [] [] [] c.2.1 [] [] [] [] [] [] [] 0 0,false))else
      if e.2 then let D←sub e.1 1 (yc .i64 ((e.1.length:Int)-1))some (.go D)else some (.go [])else some (.go []):Option (Jn (q00×Bool) Z))
  match A with|.done r=>some r|.go d=>let p←M.q6m h;let t←(do if !p then some true;else
      if a.z9x then let q←M.q5w b 33 126;some !q else some false:Option Bool)let u←(do if t then some true;else let s←M.q6t d;some !s:Option Bool)if u then some (q00.mk a.zf c.1 [] [] h [] b [] [] [] [] [] [] [] [] [] c.2.1 [] [] [] d [] [] [] 0 0,false)else
    if !decide (a.z4m=B32)&&decide (0<(j.z0d.length:Int))||if decide (a.z4m=[])then !decide (j.zx=[])else decide (a.z4m=B32)&&!decide (j.zx=[])then some (q00.mk a.zf c.1 [] [] h [] b [] [] [] [] [] [] [] [] [] c.2.1 [] [] [] d [] [] [] 0 0,false)else
     if decide (a.z4m=B32)then let k←M.q6b a (q00.mk a.zf c.1 [] [] h [] b [] [] [] [] [] [] [] [] [] c.2.1 [] [] [] d [] [] [] 0 0) j.z0d;some (k.1,k.2)else
      if decide (a.z4m=B9)then let l←M.q4e j.zx;if !decide (l.2=0)then some (q00.mk a.zf c.1 [] [] h [] b [] [] [] [] [] [] [] [] [] c.2.1 [] [] [] d [] [] [] 0 0,false)else let m←M.q6b a (q00.mk a.zf c.1 [] [] h [] b [] [] [] [] [] [] [] [] [] c.2.1 [] [] [] d [] [] [] 0 0) l.1;some (m.1,m.2)else
       if decide (a.z4m=B54)then some (q00.mk a.zf c.1 [] [] h [] b [] [] [] [] [] [] [] [] [] c.2.1 [] [] [] d [] j.zx [] 0 0,true)else
        if decide (a.z4m=B60)then let f←M.q4s fuel j.zx;let i←M.q4r f.1 [105,100]let n←M.q4r f.1 B25;let o←M.q67 n.1;if !decide (f.2=0)||!decide ((f.1.zi.length:Int)=2)||!i.2||!n.2||!decide (i.1.zf=4)||!o.2 then some (q00.mk a.zf c.1 [] [] h [] b [] [] [] [] [] [] [] [] [] c.2.1 [] [] [] d [] [] [] 0 0,false)else some (q00.mk a.zf c.1 [] [] h [] b [] [] [] [] [] [] [] [] [] i.1.z09 [] [] [] d [] [] o.1 0 0,true)else some (q00.mk a.zf c.1 [] [] h [] b [] [] [] [] [] [] [] [] [] c.2.1 [] [] [] d [] [] [] 0 0,true)
def M.z5l(e:List q0e)(f:q03)(fuel:Nat)(b:Int)(a:Int):Option (Jn (q00×Int) Int):=do if decide (a<(e.length:Int))then let j←ix e a;let h←M.q6l j f.z00;if !h.2.2 then M.z5l e f fuel b (yc .i64 (a+1))else let i←(do if decide (b=225)then some 226;else some b:Option Int)let k←ix e a;if !decide (k.zt=f.zt)then M.z5l e f fuel i (yc .i64 (a+1))else let d←(do let g←ix e a;let c←M.q5x fuel g f;some (c.2,c.1):Option (Bool×q00))if d.1 then some (.done (d.2,0))else M.z5l e f fuel 227 (yc .i64 (a+1))else some (.go b)partial_fixpoint
def M.q5h(fuel:Nat)(d:q03):Option (q00×Int):=do let c←M.q5p;let b←(do M.z5l c d fuel 225 0:Option (Jn (q00×Int) Int))match b with|.done r=>some r|.go a=>some (q00.mk 0 [] [] [] [] [] [] [] [] [] [] [] [] [] [] [] [] [] [] [] [] [] [] [] 0 0,a)
def M.q6c  (a:q00)(b:Z):Option Z:=do if decide (b=[85,115,101,114])then some a.z3j;else
  if decide (b=[80,97,115,115])then some a.z3h;else
   if decide (b=[67,111,100,101])then some a.z29;else
    if decide (b=[78,97,109,101])then some a.zj;else
     if decide (b=[68,97,116,97])then some a.z3u;else
      if decide (b=[66,111,100,121])then some a.zx;else
       if decide (b=[83,105,103])then some a.z8d;else
        if decide (b=B108)then some a.z0l;else
         if decide (b=B109)then some a.z1n;else
          if decide (b=B99)then some a.z08;else
           if decide (b=B102)then some a.z0o;else
            if decide (b=B83)then some a.z03;else
             if decide (b=B110)then some a.z0b;else
              if decide (b=B84)then some a.z01;else
               if decide (b=B76)then some a.zq;else
                if decide (b=B82)then some a.z04;else
                 if decide (b=B111)then some a.z0t;else
                  if decide (b=B100)then some a.z0n;else
                   if decide (b=B51)then if decide (0<a.z2t)then let c←M.q6h a.z2t;some c;else some []else
                    if decide (b=B41)then if decide (0<a.z11)then let d←M.q6h a.z11;some d;else some []else some []
def M.z25(c:List Z)(d:q00)(a:Int)(b:List Z):Option (List Z):=do if decide (a<(c.length:Int))then let e←ix c a;if decide (e=[79,70])then let f←app 16 b [d.gOf]M.z25 c d (yc .i64 (a+1)) f;else
   if decide (e=B52)then let g←app 16 b [d.zj]M.z25 c d (yc .i64 (a+1)) g;else let i←ix c a;let h←app 16 b [i]M.z25 c d (yc .i64 (a+1)) h;else some b;partial_fixpoint
def M.z2z(i:q0e)(j:q00)(c:List q05)(b:Int):Option (List q05):=do if decide (b<(i.z68.length:Int))then let a←ix i.z68 b;let d←M.q6c j a.z8c;let g←(do if a.zjw then let f←M.q4b d;some f;else some d:Option Z)let e←(do if decide (a.z8c=[])then some a.zi4;else some g:Option Z)if !decide (e=[])then let h←app 32 c [q05.mk a.zj e]M.z2z i j h (yc .i64 (b+1))else M.z2z i j c (yc .i64 (b+1))else some c;partial_fixpoint
def M.q6n(fuel:Nat)(b:q0e)(c:q00):Option (q03×Int):=do let A←sub b.z00 1 (b.z00.length:Int)let z←M.q62 A 47;let h←(do M.z25 z c 0 []:Option (List Z))let q←(do if b.zk&&!decide (c.zk=[])then let v←cat B37 c.zk;let s←app 32 [q05.mk B29 [105,100,112]] [q05.mk B39 v]some s;else some [q05.mk B29 [105,100,112]]:Option (List q05))let r←(do if b.z9x&&!decide (c.z0l=[])then let w←cat B36 c.z0l;let t←app 32 q [q05.mk B16 w]some t;else some q:Option (List q05))let i←(do if b.z5r&&!decide (c.z5r=[])then let x←cat [34] c.z5r;let y←cat x [34]let u←app 32 r [q05.mk B34 y]some u;else some r:Option (List q05))let g←(do M.z2z b c ([]:List q05) 0:Option (List q05))let a←(do if decide (b.z4m=B32)then some (0,g,[])else
    if decide (b.z4m=B9)then let d←M.q4c g;some (d.2,[],d.1)else
     if decide (b.z4m=B54)then some (0,[],c.z1e)else
      if decide (b.z4m=B60)then let j←M.q6u c.zj;let k←M.q6z (q04.mk 0 [] [] []) [105,100] j;let l←M.q6j c.z02;let m←M.q6z k B25 l;let e←M.q4t fuel m;some (e.2,[],e.1)else some (0,[],[]):Option (Int×List q05×Z))let n←M.q5m (q03.mk b.zt h a.2.1 i a.2.2)let f←M.q5h fuel (q03.mk b.zt h a.2.1 i a.2.2)let p←(do if !decide (a.1=0)||!decide (n.2=0)||!decide (f.2=0)then some true;else let o←M.q5r c f.1;some !o:Option Bool)if p then some (q03.mk [] [] [] [] [],224)else some (q03.mk b.zt h a.2.1 i a.2.2,0)
def M.z3o(c:List q0e)(d:q00)(fuel:Nat)(a:Int):Option (Jn (q03×Int) Unit):=do if decide (a<(c.length:Int))then let e←ix c a;if decide (e.zf=d.zf)then let f←ix c a;let b←M.q6n fuel f d;some (.done (b.1,b.2))else M.z3o c d fuel (yc .i64 (a+1))else some (.go ())partial_fixpoint
def M.q5o(fuel:Nat)(d:q00):Option (q03×Int):=do let b←M.q5p;let a←(do M.z3o b d fuel 0:Option (Jn (q03×Int) Unit))match a with|.done r=>some r|.go c=>some (q03.mk [] [] [] [] [],224)
def M.q45(fuel:Nat)(e:q00):Option Bool:=do let c←M.q0w fuel e;let d←M.q5o fuel e;let f←M.q4a fuel;let b←(do if f&&decide (c.2=d.2)then let a←M.q5t c.1 d.1;some a;else some false:Option Bool)some b
end Go.Sen
