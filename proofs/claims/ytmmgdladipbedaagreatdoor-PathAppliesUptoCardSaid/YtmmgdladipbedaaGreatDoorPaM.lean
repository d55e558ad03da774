import Derived.Test.YtmmgdladipbedaaGreatDoorPeN
import Derived.Lib.ValidLaws
import Derived.Lib.SlTrimSet
import Derived.Lib.Bytealg
import Derived.Lib.SlicesCompact
import Derived.Lib.IndexMore
import Derived.Lib.Join
set_option linter.all false
namespace Go.Sen
open IntKind renaming wrap → ya
open Go.Lk Go.Pe
structure q01 where
 zc:Int
 zg:List UInt8
 z07:List UInt8
 zh:List q01
mutual
def q01.enc:q01→List D
 | ⟨a0,a1,a2,a3⟩=>[D.int .i64 a0,D.str a1,D.str a2,D.sl 24 4 (q01.z4d a3)]
def q01.z4d:List q01→List (List D)
 | []=>[]
 | x::xs=>x.enc::q01.z4d xs
end
theorem q01.z03:∀ l:List q01,q01.z4d l=l.map q01.enc
 | []=>rfl
 | x::xs=>by simp [q01.z4d,q01.z03 xs]
theorem q01.z0b:∀ x:q01,q01.enc x=[D.int .i64 x.zc,D.str x.zg,D.str x.z07,D.sl 24 4 (q01.z4d x.zh)]
 | ⟨a0,a1,a2,a3⟩=>by first|rfl|simp [q01.enc]
@[reducible] def q01.v (x:q01):List PV:=[.int .i64 x.zc,.str x.zg,.str x.z07,.sl 24 4 (q01.z4d x.zh)]
@[reducible] def q01.d (x:q01):List D:=[.int .i64 x.zc,.str x.zg,.str x.z07,.sl 24 4 (q01.z4d x.zh)]
structure q00 where
 zc:Int
 zg:List UInt8
 z0i:Bool
 z00:q01
 zf:List (List UInt8)
def q00.enc:q00→List D
 | ⟨a0,a1,a2,a3,a4⟩=>[D.int .i64 a0,D.str a1,D.bool a2]++q01.enc a3++[D.sl 9 1 (a4.map eS)]
theorem q00.z0b:∀ x:q00,q00.enc x=[D.int .i64 x.zc,D.str x.zg,D.bool x.z0i,D.int .i64 x.z00.zc,D.str x.z00.zg,D.str x.z00.z07,D.sl 24 4 (q01.z4d x.z00.zh),D.sl 9 1 (x.zf.map eS)]
 | ⟨a0,a1,a2,⟨a3,a4,a5,a6⟩,a7⟩=>by first|rfl|simp [q00.enc,q01.enc]
@[reducible] def q00.v (x:q00):List PV:=[.int .i64 x.zc,.str x.zg,.bool x.z0i,.int .i64 x.z00.zc,.str x.z00.zg,.str x.z00.z07,.sl 24 4 (q01.z4d x.z00.zh),.sl 9 1 (x.zf.map eS)]
@[reducible] def q00.d (x:q00):List D:=[.int .i64 x.zc,.str x.zg,.bool x.z0i,.int .i64 x.z00.zc,.str x.z00.zg,.str x.z00.z07,.sl 24 4 (q01.z4d x.z00.zh),.sl 9 1 (x.zf.map eS)]
structure q02 where
 zg:List UInt8
 zf:List (List UInt8)
def q02.enc:q02→List D
 | ⟨a0,a1⟩=>[D.str a0,D.sl 9 1 (a1.map eS)]
theorem q02.z0b:∀ x:q02,q02.enc x=[D.str x.zg,D.sl 9 1 (x.zf.map eS)]
 | ⟨a0,a1⟩=>by first|rfl|simp [q02.enc]
@[reducible] def q02.v (x:q02):List PV:=[.str x.zg,.sl 9 1 (x.zf.map eS)]
structure q04 where
 gId:List UInt8
 zc:List UInt8
 z2c:List UInt8
 za:List q02
def q04.enc:q04→List D
 | ⟨a0,a1,a2,a3⟩=>[D.str a0,D.str a1,D.str a2,D.sl 48 2 (a3.map q02.enc)]
theorem q04.z0b:∀ x:q04,q04.enc x=[D.str x.gId,D.str x.zc,D.str x.z2c,D.sl 48 2 (x.za.map q02.enc)]
 | ⟨a0,a1,a2,a3⟩=>by first|rfl|simp [q04.enc]
@[reducible] def q04.v (x:q04):List PV:=[.str x.gId,.str x.zc,.str x.z2c,.sl 48 2 (x.za.map q02.enc)]
@[reducible] def q04.d (x:q04):List D:=[.str x.gId,.str x.zc,.str x.z2c,.sl 48 2 (x.za.map q02.enc)]
structure q07 where
 gs:List UInt8
structure q03 where
 zc:Int
 z0q:List UInt8
 zh:List q03
 z0m:List (List UInt8)
mutual
def q03.enc:q03→List D
 | ⟨a0,a1,a2,a3⟩=>[D.int .i64 a0,D.str a1,D.sl 91 4 (q03.z4d a2),D.sl 9 1 (a3.map eS)]
def q03.z4d:List q03→List (List D)
 | []=>[]
 | x::xs=>x.enc::q03.z4d xs
end
theorem q03.z03:∀ l:List q03,q03.z4d l=l.map q03.enc
 | []=>rfl
 | x::xs=>by simp [q03.z4d,q03.z03 xs]
theorem q03.z0b:∀ x:q03,q03.enc x=[D.int .i64 x.zc,D.str x.z0q,D.sl 91 4 (q03.z4d x.zh),D.sl 9 1 (x.z0m.map eS)]
 | ⟨a0,a1,a2,a3⟩=>by first|rfl|simp [q03.enc]
@[reducible] def q03.v (x:q03):List PV:=[.int .i64 x.zc,.str x.z0q,.sl 91 4 (q03.z4d x.zh),.sl 9 1 (x.z0m.map eS)]
@[reducible] def q03.d (x:q03):List D:=[.int .i64 x.zc,.str x.z0q,.sl 91 4 (q03.z4d x.zh),.sl 9 1 (x.z0m.map eS)]
structure q06 where
 z48:List UInt8
 zl8:Nat
def q06.enc:q06→List D
 | ⟨a0,a1⟩=>[D.str a0,dfn a1]
theorem q06.z0b:∀ x:q06,q06.enc x=[D.str x.z48,dfn x.zl8]
 | ⟨a0,a1⟩=>by first|rfl|simp [q06.enc]
@[reducible] def q06.v (x:q06):List PV:=[.str x.z48,.fn x.zl8 [] []]
structure q05 where
 gs:List UInt8
@[reducible] def _root_.Go.Pe.PV.l5 (l:List Int):PV:=.sl 5 1 (l.map (eI .u8))
@[reducible] def _root_.Go.Pe.PV.l9 (l:List (List UInt8)):PV:=.sl 9 1 (l.map eS)
@[reducible] def _root_.Go.Pe.PV.l24 (l:List q01):PV:=.sl 24 4 (q01.z4d l)
@[reducible] def _root_.Go.Pe.PV.l48 (l:List q02):PV:=.sl 48 2 (l.map q02.enc)
@[reducible] def _root_.Go.Pe.PV.l51 (l:List q00):PV:=.sl 51 8 (l.map q00.enc)
@[reducible] def _root_.Go.Pe.PV.l91 (l:List q03):PV:=.sl 91 4 (q03.z4d l)
@[reducible] def _root_.Go.Pe.PV.zxw (l:List q06):PV:=.sl 113 2 (l.map q06.enc)
@[reducible] def F.q1h:Nat:=143
@[reducible] def F.strings_Contains:Nat:=144
@[reducible] def F.q4d:Nat:=145
@[reducible] def F.q4e:Nat:=146
@[reducible] def F.q1i:Nat:=147
@[reducible] def F.q1j:Nat:=148
@[reducible] def F.q1k:Nat:=149
@[reducible] def F.q1l:Nat:=150
def M.z1p (p0:List Int):Option Unit:=some ()
def M.z0c (p0:List UInt8):Option Bool:=do
 let _←chk (decide (p0.length≤9223372036854775807))
 some (Lib.validD p0)
def M.z08 (p0:List Int):Option (List UInt8):=do
 let _←chk (decide (unb (byt p0)=p0))
 some (byt p0)
def M.indexByte (p0:List UInt8) (p1:Int):Option Int:=some (Lib.indexByte p0 p1.toNat.toUInt8)
def M.trimLeft (p0 p1:List UInt8):Option (List UInt8):=do
 let _←chk (decide (p1.length<4294967281)&&p1.all fun b=>decide (b.toNat<128))
 some (Lib.trimLeftS p0 p1)
def M.trim (p0 p1:List UInt8):Option (List UInt8):=do
 let _←chk (decide (p0.length≤9223372036854775807)&&(decide (p1.length<4294967281)&&p1.all fun b=>decide (b.toNat<128)))
 some (Lib.trimS p0 p1)
def M.single (p0:List (List UInt8)):Option Bool:=do
 let _←chk (decide (p0.length*16≤140737488355328))
 some (decide (((Lib.compact (p0.mergeSort fun x y=>decide (x≤y))).length:Int)=p0.length))
def M.join (p0:List (List UInt8)) (p1:List UInt8):Option (List UInt8):=do
 let _←chk (decide (p0.length≤140737488355328)&&decide ((Lib.join p0 p1).length≤140737488355328))
 some (Lib.join p0 p1)
def M.cut (p0 p1:List UInt8):Option (List UInt8 × List UInt8 × Bool):=do
 let _←chk (decide (p0.length<4294967281))
 some (Lib.cut p0 p1)
def M.contains (p0 p1:List UInt8):Option Bool:=do
 let _←chk (decide (p0.length<4294967281))
 some (Lib.contains p0 p1)
def M.z0s (p0:List (List UInt8)):Option (List (List UInt8)):=do
 let _←chk (decide (p0.length*16≤140737488355328))
 some p0
def M.q44 (p0:List q02):Option (List q02):=do
 let _←chk (decide (p0.length<4611686018427387904)&&decide (p0.map (·.zg)).Nodup)
 some (p0.mergeSort fun x y=>decide (x.zg≤y.zg))
def M.z2h (p0:q04) (x21:Int) (x22:List q02):Option (List q02):=do
 if (decide (x21<(p0.za.length:Int))) then
  let x27←ix p0.za x21
  let x28←ix p0.za x21
  let l29←app 16 ([]:List (List UInt8)) x28.zf
  let l30←app 40 x22 [(q02.mk x27.zg l29)]
  M.z2h p0 (ya .i64 (x21+1)) l30
 else
  some x22
 partial_fixpoint
def M.q2m  (p0:q04):Option q04:=do
 let j16←(do
   M.z2h p0 0 ([]:List q02):Option (List q02))
 some (q04.mk p0.gId p0.zc p0.z2c j16)
def M.z02 (p0:List (List UInt8)) (p1:List UInt8) (x7:Int):Option (Jn Int Unit):=do
 if (decide (x7<(p0.length:Int))) then
  let x9←ix p0 x7
  if (decide (p1=x9)) then
   some (.done x7)
  else
   M.z02 p0 p1 (ya .i64 (x7+1))
 else
  some (.go ())
 partial_fixpoint
def M.q43  (p0:List (List UInt8)) (p1:List UInt8):Option Int:=do
 let q5←(do
   M.z02 p0 p1 0:Option (Jn Int Unit))
 match q5 with
 | .done r=>some r
 | .go j5 =>
  some (-1)
def M.q3n  (p0:List (List UInt8)) (p1:List UInt8):Option Bool:=do
 let a1←M.q43 p0 p1
 some (decide (0≤a1))
def M.q1x  (p0:List UInt8):Option Bool:=do
 let j7←(do
   if ((!decide (p0=[]))&&(decide ((p0.length:Int)≤24))) then
    let c8←ix p0 0
    let a9←M.indexByte ([65,66,67,68,69,70,71,72,73,74,75,76,77,78,79,80,81,82,83,84,85,86,87,88,89,90,97,98,99,100,101,102,103,104,105,106,107,108,109,110,111,112,113,114,115,116,117,118,119,120,121,122]:List UInt8) (c8.toNat:Int)
    some (decide (0≤a9))
   else
    some false:Option Bool)
 let j14←(do
   if j7 then
    let a15←M.trim p0 ([65,66,67,68,69,70,71,72,73,74,75,76,77,78,79,80,81,82,83,84,85,86,87,88,89,90,97,98,99,100,101,102,103,104,105,106,107,108,109,110,111,112,113,114,115,116,117,118,119,120,121,122,48,49,50,51,52,53,54,55,56,57,45,95,46]:List UInt8)
    some (decide (a15=[]))
   else
    some false:Option Bool)
 let j20←(do
   if j14 then
    let a21←M.q3n [([97,110,100]:List UInt8),([111,114]:List UInt8),([110,111,116]:List UInt8)] p0
    some (!a21)
   else
    some false:Option Bool)
 some j20
def M.q2e  (p0:List UInt8):Option Bool:=do
 let j4←(do
   if (decide ((p0.length:Int)≤128)) then
    let a5←M.z0c p0
    some a5
   else
    some false:Option Bool)
 some j4
def M.q2d  (p0:List UInt8):Option Bool:=do
 let a1←M.q2e p0
 some (!a1)
def M.zw (p0:List (List UInt8)) (x15:Int):Option (Jn Int Unit):=do
 if (decide (x15<(p0.length:Int))) then
  let x19←ix p0 x15
  let a20←M.q2d x19
  if a20 then
   some (.done x15)
  else
   M.zw p0 (ya .i64 (x15+1))
 else
  some (.go ())
 partial_fixpoint
def M.q42  (p0:List (List UInt8)):Option Int:=do
 let q11←(do
   M.zw p0 0:Option (Jn Int Unit))
 match q11 with
 | .done r=>some r
 | .go j11 =>
  some (-1)
def M.q3m  (p0:List (List UInt8)):Option Bool:=do
 let a1←M.q42 p0
 some (decide (0≤a1))
def M.z1e (p0:List (List UInt8)):Option Bool:=do
 let _←chk (decide (p0.length*16≤140737488355328))
 if p0.length≤64 then
  if (Lib.compact (p0.mergeSort fun x y=>decide (x≤y))).length=p0.length then
   let a←M.q3m p0
   some (!a)
  else some false
 else some false
def M.z0k (p0:q04) (x63:Int):Option (Jn Int Unit):=do
 if (decide (x63<(p0.za.length:Int))) then
  let x79←ix p0.za x63
  let a80←M.q1x x79.zg
  let j84←(do
    if (!a80) then
     some true
    else
     if (decide (0<x63)) then
      let x85←ix p0.za (ya .i64 (x63 - 1))
      some (!slt x85.zg x79.zg)
     else
      some false:Option Bool)
  let j91←(do
    if (j84||(decide ((x79.zf.length:Int)=0))) then
     some true
    else
     let a92←M.z1e x79.zf
     some (!a92):Option Bool)
  if j91 then
   some (.done 194)
  else
   M.z0k p0 (ya .i64 (x63+1))
 else
  some (.go ())
 partial_fixpoint
def M.q17  (p0:q04):Option Int:=do
 if (decide (32<(p0.za.length:Int))) then
  some 194
 else
  let q47←(do
    M.z0k p0 0:Option (Jn Int Unit))
  match q47 with
  | .done r=>some r
  | .go j47 =>
   some 0
def M.zu (p0:List q01) (self_q1q:q01→Option Bool) (x15:Int):Option (Jn Int Unit):=do
 if (decide (x15<(p0.length:Int))) then
  let x19←ix p0 x15
  let a20←self_q1q x19
  if a20 then
   some (.done x15)
  else
   M.zu p0 self_q1q (ya .i64 (x15+1))
 else
  some (.go ())
 partial_fixpoint
mutual
def M.q1p:Nat→q01→Option Bool
 | 0,_=>none
 | fuel+1,p0=>do
  let q37←(do
    if ((decide (p0.zc<0))||(decide (13≤p0.zc))) then
     some (.done false)
    else
     if (decide (2<p0.zc)) then
      let j43←(do
        if (decide ((p0.zh.length:Int)=0)) then
         let a44←M.q1x p0.zg
         some a44
        else
         some false:Option Bool)
      let j49←(do
        if j43 then
         let a50←M.q2e p0.z07
         some a50
        else
         some false:Option Bool)
      some (.done (j49&&((!decide (p0.zc=3))||(decide (p0.z07=[])))))
     else
      if (decide (p0.zc=2)) then
       some (.go (1,1))
      else
       some (.go (2,(p0.zh.length:Int))):Option (Jn Bool (Int × Int)))
  match q37 with
  | .done r=>some r
  | .go j37 =>
   let s55←cat p0.zg p0.z07
   if (((!decide (s55=[]))||(decide ((p0.zh.length:Int)<j37.1)))||(decide (j37.2<(p0.zh.length:Int)))) then
    some false
   else
    let a60←(M.q3f fuel) p0.zh
    some (!a60)
def M.q1q:Nat→q01→Option Bool
 | 0,_=>none
 | fuel+1,p0=>do
  let a1←(M.q1p fuel) p0
  some (!a1)
def M.q3f:Nat→(List q01)→Option Bool
 | 0,_=>none
 | fuel+1,p0=>do
  let a1←(M.q3r fuel) p0
  some (decide (0≤a1))
def M.q3r:Nat→(List q01)→Option Int
 | 0,_=>none
 | fuel+1,p0=>do
  let q11←(do
    M.zu p0 (M.q1q fuel) 0:Option (Jn Int Unit))
  match q11 with
  | .done r=>some r
  | .go j11 =>
   some (-1)
end
def M.zt (p0:List q01) (self_q1f:q01→Option Bool) (x15:Int):Option (Jn Int Unit):=do
 if (decide (x15<(p0.length:Int))) then
  let x19←ix p0 x15
  let a20←self_q1f x19
  if a20 then
   some (.done x15)
  else
   M.zt p0 self_q1f (ya .i64 (x15+1))
 else
  some (.go ())
 partial_fixpoint
mutual
def M.q1e:Nat→q01→Option Bool
 | 0,_=>none
 | fuel+1,p0=>do
  if (decide (2<p0.zc)) then
   some (decide (p0.zg=[118,97,108,117,101]))
  else
   let a1←(M.q3e fuel) p0.zh
   some (!a1)
def M.q1f:Nat→q01→Option Bool
 | 0,_=>none
 | fuel+1,p0=>do
  let a1←(M.q1e fuel) p0
  some (!a1)
def M.q3e:Nat→(List q01)→Option Bool
 | 0,_=>none
 | fuel+1,p0=>do
  let a1←(M.q3q fuel) p0
  some (decide (0≤a1))
def M.q3q:Nat→(List q01)→Option Int
 | 0,_=>none
 | fuel+1,p0=>do
  let q11←(do
    M.zt p0 (M.q1f fuel) 0:Option (Jn Int Unit))
  match q11 with
  | .done r=>some r
  | .go j11 =>
   some (-1)
end
def M.q1o (fuel:Nat) (p0:q00):Option Bool:=do
 let a13←M.q1x p0.zg
 let j22←(do
   if (((!a13)||(decide (p0.zg=[105,100])))||(decide (p0.zg=[116,97,103]))) then
    some true
   else
    let a23←M.z1e p0.zf
    some (!a23):Option Bool)
 if j22 then
  some false
 else
  let q53←(do
    if p0.z0i then
     let a54←M.q1p fuel p0.z00
     let j59←(do
       if (!a54) then
        some true
       else
        let a60←M.q1e fuel p0.z00
        some (!a60):Option Bool)
     if j59 then
      some (.done false)
     else
      some (.go ())
    else
     let j64←(do
       if (!decide (p0.z00.zc=0)) then
        some true
       else
        let s65←cat p0.z00.zg p0.z00.z07
        some (!decide (s65=[])):Option Bool)
     if (j64||(decide (0<(p0.z00.zh.length:Int)))) then
      some (.done false)
     else
      some (.go ()):Option (Jn Bool Unit))
  match q53 with
  | .done r=>some r
  | .go j53 =>
   if (decide (p0.zc=0)) then
    some ((decide (0<(p0.zf.length:Int)))&&(!p0.z0i))
   else
    if (decide (p0.zc=1)) then
     some (decide ((p0.zf.length:Int)=0))
    else
     if (decide (p0.zc=2)) then
      some ((decide (0<(p0.zf.length:Int)))&&((decide ((p0.zf.length:Int)=1))||(!p0.z0i)))
     else
      some false
def M.q15 (fuel:Nat) (p0:q00):Option Bool:=do
 let a1←M.q1o fuel p0
 some (!a1)
def M.zm (p0:List q00) (fuel:Nat) (x15:Int):Option (Jn Int Unit):=do
 if (decide (x15<(p0.length:Int))) then
  let x19←ix p0 x15
  let a20←M.q15 fuel x19
  if a20 then
   some (.done x15)
  else
   M.zm p0 fuel (ya .i64 (x15+1))
 else
  some (.go ())
 partial_fixpoint
def M.q3o (fuel:Nat) (p0:List q00):Option Int:=do
 let q11←(do
   M.zm p0 fuel 0:Option (Jn Int Unit))
 match q11 with
 | .done r=>some r
 | .go j11 =>
  some (-1)
def M.q3c (fuel:Nat) (p0:List q00):Option Bool:=do
 let a1←M.q3o fuel p0
 some (decide (0≤a1))
def M.q0o  (p0:Bool) (p1:Int):Option (Rs Unit):=do
 if (!p0) then
  some (.pan p1)
 else
  some (.ok ())
def M.q0l  (p0:List UInt8):Option Bool:=do
 let a1←M.z0c p0
 some (!a1)
def M.zp (p0:List (List UInt8)) (x15:Int):Option (Jn Int Unit):=do
 if (decide (x15<(p0.length:Int))) then
  let x19←ix p0 x15
  let a20←M.q0l x19
  if a20 then
   some (.done x15)
  else
   M.zp p0 (ya .i64 (x15+1))
 else
  some (.go ())
 partial_fixpoint
def M.q3x  (p0:List (List UInt8)):Option Int:=do
 let q11←(do
   M.zp p0 0:Option (Jn Int Unit))
 match q11 with
 | .done r=>some r
 | .go j11 =>
  some (-1)
def M.q3j  (p0:List (List UInt8)):Option Bool:=do
 let a1←M.q3x p0
 some (decide (0≤a1))
def M.q0d  (p0 p1:List UInt8):Option Bool:=do
 let j3←(do
   if (decide ((p1.length:Int)≤(p0.length:Int))) then
    let s4←sub p0 0 (p1.length:Int)
    some (decide (s4=p1))
   else
    some false:Option Bool)
 some j3
def M.q4d  (p0 p1:List UInt8):Option Bool:=do
 let a1←M.q0d p0 p1
 some a1
def M.q0m  (p0:List UInt8):Option Int:=do
 let a1←M.trimLeft p0 ([48,49,50,51,52,53,54,55,56,57]:List UInt8)
 some (ya .i64 ((p0.length:Int) - (a1.length:Int)))
def M.q0p  (p0:List UInt8):Option Int:=do
 let j6←(do
   let a7←M.q4d p0 ([45]:List UInt8)
   if a7 then
    some 1
   else
    some 0:Option Int)
 let s9←sub p0 j6 (p0.length:Int)
 let a10←M.q0m s9
 if (decide (a10=0)) then
  some 0
 else
  let j15←(do
    let c16←ix p0 j6
    if (decide ((c16.toNat:Int)=48)) then
     some 1
    else
     some a10:Option Int)
  let j30←(do
    let s31←sub p0 (ya .i64 (j6+j15)) (p0.length:Int)
    let a32←M.q4d s31 ([46]:List UInt8)
    if a32 then
     let s34←sub p0 (ya .i64 ((ya .i64 (j6+j15))+1)) (p0.length:Int)
     let a35←M.q0m s34
     if (decide (0<a35)) then
      some (ya .i64 ((ya .i64 (j6+j15))+(ya .i64 (1+a35))))
     else
      some (ya .i64 (j6+j15))
    else
     some (ya .i64 (j6+j15)):Option Int)
  let j40←(do
    if (decide (j30<(p0.length:Int))) then
     let c41←ix p0 j30
     if (decide ((c41.toNat:Int)=101)) then
      some true
     else
      let c42←ix p0 j30
      some (decide ((c42.toNat:Int)=69))
    else
     some false:Option Bool)
  if j40 then
   let j56←(do
     let j60←(do
       if (decide ((ya .i64 (j30+1))<(p0.length:Int))) then
        let c61←ix p0 (ya .i64 (j30+1))
        if (decide ((c61.toNat:Int)=43)) then
         some true
        else
         let c62←ix p0 (ya .i64 (j30+1))
         some (decide ((c62.toNat:Int)=45))
       else
        some false:Option Bool)
     if j60 then
      some (ya .i64 ((ya .i64 (j30+1))+1))
     else
      some (ya .i64 (j30+1)):Option Int)
   let s63←sub p0 j56 (p0.length:Int)
   let a64←M.q0m s63
   if (decide (0<a64)) then
    some (ya .i64 (j56+a64))
   else
    some j30
  else
   some j30
def M.z0z (p0:q03) (self_q0k:q03→Int→Option (Rs Unit)) (p1:Int) (x108:Int):Option (Rs Unit):=do
 if (decide (x108<(p0.zh.length:Int))) then
  let x114←ix p0.zh x108
  let a115←self_q0k x114 (ya .i64 (p1+1))
  match a115 with
  | .pan e118 =>
   some (.pan e118)
  | .ok a117 =>
   M.z0z p0 self_q0k p1 (ya .i64 (x108+1))
 else
  some (.ok ())
 partial_fixpoint
def M.q0k:Nat→q03→Int→Option (Rs Unit)
 | 0,_,_=>none
 | fuel+1,p0,p1=>do
  let a5←M.q0o ((!((decide (p0.zc=5))||(decide (p0.zc=6))))||(decide (p1<16))) 21
  match a5 with
  | .pan e8 =>
   some (.pan e8)
  | .ok a7 =>
   let a11←M.q0o ((decide (0≤p0.zc))&&(decide (p0.zc<7))) 23
   match a11 with
   | .pan e14 =>
    some (.pan e14)
   | .ok a13 =>
    let a17←M.q0o (((decide (p0.zc=5))||(decide (p0.zc=6)))||(decide ((p0.zh.length:Int)=0))) 23
    match a17 with
    | .pan e20 =>
     some (.pan e20)
    | .ok a19 =>
     let a26←M.q0o (((decide (p0.zc=6))&&(decide ((p0.z0m.length:Int)=(p0.zh.length:Int))))||((decide ((p0.z0m.length:Int)=0))&&(!decide (p0.zc=6)))) 23
     match a26 with
     | .pan e29 =>
      some (.pan e29)
     | .ok a28 =>
      let a30←M.q3j p0.z0m
      let j35←(do
        if (!a30) then
         let a36←M.single p0.z0m
         some a36
        else
         some false:Option Bool)
      let a38←M.q0o j35 23
      match a38 with
      | .pan e41 =>
       some (.pan e41)
      | .ok a40 =>
       let q82←(do
         if (decide (p0.zc=3)) then
          let j86←(do
            if (!decide (p0.z0q=[])) then
             let a87←M.q0p p0.z0q
             some (decide (a87=(p0.z0q.length:Int)))
            else
             some false:Option Bool)
          let a89←M.q0o j86 23
          match a89 with
          | .pan e92 =>
           some (.done (.pan e92))
          | .ok a91 =>
           some (.go ())
         else
          if (decide (p0.zc=4)) then
           let a93←M.z0c p0.z0q
           let a95←M.q0o a93 23
           match a95 with
           | .pan e98 =>
            some (.done (.pan e98))
           | .ok a97 =>
            some (.go ())
          else
           let a99←M.q0o (decide (p0.z0q=[])) 23
           match a99 with
           | .pan e102 =>
            some (.done (.pan e102))
           | .ok a101 =>
            some (.go ()):Option (Jn (Rs Unit) Unit))
       match q82 with
       | .done r=>some r
       | .go j82 =>
        M.z0z p0 (M.q0k fuel) p1 0
def M.q0f (fuel:Nat) (p0:q03):Option Int:=do
 let a1←M.q0k fuel p0 0
 match a1 with
 | .pan e4 =>
  some e4
 | .ok a3 =>
  some 0
def M.q4a  (p0:List Int) (p1:List UInt8):Option (Int × (List Int)):=do
 let a1←M.z1p p0
 let l3←app 1 p0 (unb p1)
 some ((p1.length:Int),l3)
def M.q48  (p0:List Int) (p1:Int):Option (List Int):=do
 let a1←M.z1p p0
 let l3←app 1 p0 [p1]
 some l3
def M.z0n (p1:List UInt8) (x67:Int) (x68:List Int):Option (List Int):=do
 if (decide (x67<((unb p1).length:Int))) then
  let x84←ix (unb p1) x67
  let a85←M.indexByte ([34,92,8,9,10,12,13]:List UInt8) x84
  if (decide (0≤a85)) then
   let s87←sub ([34,92,98,116,110,102,114]:List UInt8) a85 (ya .i64 (a85+1))
   let s88←cat ([92]:List UInt8) s87
   let a89←M.q4a x68 s88
   M.z0n p1 (ya .i64 (x67+1)) a89.2
  else
   if (decide (x84<32)) then
    let s91←sub ([48,49]:List UInt8) (zpk .u8 x84 4) (ya .u8 ((zpk .u8 x84 4)+1))
    let s92←cat ([92,117,48,48]:List UInt8) s91
    let s93←sub ([48,49,50,51,52,53,54,55,56,57,97,98,99,100,101,102]:List UInt8) (zs0 .u8 x84 15) (ya .u8 ((zs0 .u8 x84 15)+1))
    let s94←cat s92 s93
    let a95←M.q4a x68 s94
    M.z0n p1 (ya .i64 (x67+1)) a95.2
   else
    let a97←M.q48 x68 x84
    M.z0n p1 (ya .i64 (x67+1)) a97
 else
  some x68
 partial_fixpoint
def M.q0q  (p0:List Int) (p1:List UInt8):Option (List Int):=do
 let a1←M.q48 p0 34
 let j51←(do
   let _←chk (decide (p1.length≤9223372036854775807))
   M.z0n p1 0 a1:Option (List Int))
 let a99←M.q48 j51 34
 some a99
def M.z1a (p1:q03) (self_q0n:(List Int)→q03→Option (List Int)) (x92:Int) (x93:List Int):Option (List Int):=do
 if (decide (x92<(p1.zh.length:Int))) then
  let x112←ix p1.zh x92
  let j118←(do
    if (decide (0<x92)) then
     let a119←M.q48 x93 44
     some a119
    else
     some x93:Option (List Int))
  if (decide (p1.zc=6)) then
   let x121←ix p1.z0m x92
   let a122←M.q0q j118 x121
   let a124←M.q48 a122 58
   let a126←self_q0n a124 x112
   M.z1a p1 self_q0n (ya .i64 (x92+1)) a126
  else
   let a128←self_q0n j118 x112
   M.z1a p1 self_q0n (ya .i64 (x92+1)) a128
 else
  some x93
 partial_fixpoint
def M.q0n:Nat→(List Int)→q03→Option (List Int)
 | 0,_,_=>none
 | fuel+1,p0,p1=>do
  if (decide (p1.zc=0)) then
   let a1←M.q4a p0 ([110,117,108,108]:List UInt8)
   some a1.2
  else
   if (decide (p1.zc=1)) then
    let a3←M.q4a p0 ([102,97,108,115,101]:List UInt8)
    some a3.2
   else
    if (decide (p1.zc=2)) then
     let a5←M.q4a p0 ([116,114,117,101]:List UInt8)
     some a5.2
    else
     if (decide (p1.zc=3)) then
      let a7←M.q4a p0 p1.z0q
      some a7.2
     else
      if (decide (p1.zc=4)) then
       let a9←M.q0q p0 p1.z0q
       some a9
      else
       let j12←(do
         if (decide (p1.zc=6)) then
          some ([123,125]:List UInt8)
         else
          some ([91,93]:List UInt8):Option (List UInt8))
       let c13←ix j12 0
       let a14←M.q48 p0 (c13.toNat:Int)
       let j73←(do
         M.z1a p1 (M.q0n fuel) 0 a14:Option (List Int))
       let c130←ix j12 1
       let a131←M.q48 j73 (c130.toNat:Int)
       some a131
def M.q46  (p0:List Int):Option Int:=do
 some (p0.length:Int)
def M.q0i (fuel:Nat) (p0:q03):Option ((List UInt8) × Int):=do
 let a3←M.q0f fuel p0
 if (!decide (a3=0)) then
  some ([],a3)
 else
  let a5←M.q0n fuel ([]:List Int) p0
  let a7←M.q46 a5
  if (decide (16384<a7)) then
   some ([],22)
  else
   let a9←M.z08 a5
   some (a9,0)
def M.q1g  : Option (List q06):=do
 some [(q06.mk ([101,113]:List UInt8) F.q1h),(q06.mk ([110,101]:List UInt8) F.q1h),(q06.mk ([99,111]:List UInt8) F.strings_Contains),(q06.mk ([115,119]:List UInt8) F.q4d),(q06.mk ([101,119]:List UInt8) F.q4e),(q06.mk ([103,116]:List UInt8) F.q1i),(q06.mk ([103,101]:List UInt8) F.q1j),(q06.mk ([108,116]:List UInt8) F.q1k),(q06.mk ([108,101]:List UInt8) F.q1l)]
def M.z1u (p0:q01) (self_q2f:q01→Option ((List UInt8) × Int)) (x139:List (List UInt8)) (x140:Int) (x141:Int):Option ((List (List UInt8)) × Int):=do
 if (decide (x141<(p0.zh.length:Int))) then
  let x170←ix p0.zh x141
  let a171←self_q2f x170
  let j189←(do
    if (((decide (p0.zc=2))||(decide (x170.zc=1)))||((decide (x170.zc=0))&&(decide (p0.zc=0)))) then
     let s195←cat ([40]:List UInt8) a171.1
     let s196←cat s195 ([41]:List UInt8)
     some (s196,(ya .i64 (a171.2+1)))
    else
     some (a171.1,a171.2):Option ((List UInt8) × Int))
  let l197←app 16 x139 [j189.1]
  M.z1u p0 self_q2f l197 (zny x140 j189.2) (ya .i64 (x141+1))
 else
  some (x139,x140)
 partial_fixpoint
def M.q2f:Nat→q01→Option ((List UInt8) × Int)
 | 0,_=>none
 | fuel+1,p0=>do
  if (decide (p0.zc=3)) then
   let s11←cat p0.zg ([32,112,114]:List UInt8)
   some (s11,0)
  else
   if (decide (3<p0.zc)) then
    let a12←M.q0i fuel (q03.mk 4 p0.z07 [] [])
    let s14←cat p0.zg ([32]:List UInt8)
    let a15←M.q1g
    let x17←ix a15 (ya .i64 (p0.zc - 4))
    let s18←cat s14 x17.z48
    let s19←cat s18 ([32]:List UInt8)
    let s20←cat s19 a12.1
    some (s20,0)
   else
    let j110←(do
      M.z1u p0 (M.q2f fuel) [] 0 0:Option ((List (List UInt8)) × Int))
    if (decide (p0.zc=2)) then
     let x201←ix j110.1 0
     let x202←ix j110.1 0
     let s203←cat ([110,111,116,32]:List UInt8) x202
     some (s203,j110.2)
    else
     let x204←ix [([32,97,110,100,32]:List UInt8),([32,111,114,32]:List UInt8)] p0.zc
     let a205←M.join j110.1 x204
     some (a205,j110.2)
def M.q12 (fuel:Nat) (p0:q01):Option Int:=do
 let a3←M.q1p fuel p0
 if (!a3) then
  some 194
 else
  let a5←M.q2f fuel p0
  if (decide (16<a5.2)) then
   some 193
  else
   some 0
def M.q16 (fuel:Nat) (p0:q00):Option Bool:=do
 let j4←(do
   if p0.z0i then
    let a5←M.q12 fuel p0.z00
    some (!decide (a5=0))
   else
    some false:Option Bool)
 some j4
def M.zn (p0:List q00) (fuel:Nat) (x15:Int):Option (Jn Int Unit):=do
 if (decide (x15<(p0.length:Int))) then
  let x19←ix p0 x15
  let a20←M.q16 fuel x19
  if a20 then
   some (.done x15)
  else
   M.zn p0 fuel (ya .i64 (x15+1))
 else
  some (.go ())
 partial_fixpoint
def M.q3p (fuel:Nat) (p0:List q00):Option Int:=do
 let q11←(do
   M.zn p0 fuel 0:Option (Jn Int Unit))
 match q11 with
 | .done r=>some r
 | .go j11 =>
  some (-1)
def M.q3d (fuel:Nat) (p0:List q00):Option Bool:=do
 let a1←M.q3p fuel p0
 some (decide (0≤a1))
def M.q14 (fuel:Nat) (p0:List q00):Option Int:=do
 if (decide (16<(p0.length:Int))) then
  some 191
 else
  let a1←M.q3c fuel p0
  if a1 then
   some 194
  else
   let a3←M.q3d fuel p0
   if a3 then
    some 193
   else
    some 0
def M.q2h  (p0:q02) (p1:List UInt8):Option Bool:=do
 some (decide (p0.zg=p1))
def M.zq (p0:List q02) (p1:List UInt8) (x15:Int):Option (Jn Int Unit):=do
 if (decide (x15<(p0.length:Int))) then
  let x19←ix p0 x15
  let a20←M.q2h x19 p1
  if a20 then
   some (.done x15)
  else
   M.zq p0 p1 (ya .i64 (x15+1))
 else
  some (.go ())
 partial_fixpoint
def M.q3u  (p0:List q02) (p1:List UInt8):Option Int:=do
 let q11←(do
   M.zq p0 p1 0:Option (Jn Int Unit))
 match q11 with
 | .done r=>some r
 | .go j11 =>
  some (-1)
def M.q2g  (p0:q04) (p1:List UInt8):Option (List (List UInt8)):=do
 if (decide (p1=[105,100])) then
  some [p0.gId]
 else
  if (decide (p1=[116,97,103])) then
   some [p0.z2c]
  else
   let a1←M.q3u p0.za p1
   if (decide (0≤a1)) then
    let x3←ix p0.za a1
    some x3.zf
   else
    some []
def M.q1u  (p0:List UInt8):Option Bool:=do
 some (!decide (p0=[]))
def M.zx (p0:List (List UInt8)) (x15:Int):Option (Jn Int Unit):=do
 if (decide (x15<(p0.length:Int))) then
  let x19←ix p0 x15
  let a20←M.q1u x19
  if a20 then
   some (.done x15)
  else
   M.zx p0 (ya .i64 (x15+1))
 else
  some (.go ())
 partial_fixpoint
def M.q3z  (p0:List (List UInt8)):Option Int:=do
 let q11←(do
   M.zx p0 0:Option (Jn Int Unit))
 match q11 with
 | .done r=>some r
 | .go j11 =>
  some (-1)
def M.q3k  (p0:List (List UInt8)):Option Bool:=do
 let a1←M.q3z p0
 some (decide (0≤a1))
def M.q1h  (p0 p1:List UInt8):Option Bool:=do
 some (decide (p0=p1))
def M.q0e  (p0 p1:List UInt8):Option Bool:=do
 let j3←(do
   if (decide ((p1.length:Int)≤(p0.length:Int))) then
    let s4←sub p0 (ya .i64 ((p0.length:Int) - (p1.length:Int))) (p0.length:Int)
    some (decide (s4=p1))
   else
    some false:Option Bool)
 some j3
def M.q4e  (p0 p1:List UInt8):Option Bool:=do
 let a1←M.q0e p0 p1
 some a1
def M.q1i  (p0 p1:List UInt8):Option Bool:=do
 some (!(slt p0 p1||decide (p0=p1)))
def M.q1j  (p0 p1:List UInt8):Option Bool:=do
 some (!slt p0 p1)
def M.q1k  (p0 p1:List UInt8):Option Bool:=do
 some (slt p0 p1)
def M.q1l  (p0 p1:List UInt8):Option Bool:=do
 some (slt p0 p1||decide (p0=p1))
def M.q08 (p0:Nat) (p1:List UInt8) (p2:List UInt8):Option Bool :=
 if p0=F.q1h then M.q1h p1 p2
 else if p0=F.strings_Contains then M.contains p1 p2
 else if p0=F.q4d then M.q4d p1 p2
 else if p0=F.q4e then M.q4e p1 p2
 else if p0=F.q1i then M.q1i p1 p2
 else if p0=F.q1j then M.q1j p1 p2
 else if p0=F.q1k then M.q1k p1 p2
 else if p0=F.q1l then M.q1l p1 p2
 else none
def M.q1v  (p0:List UInt8) (p1:Nat) (p2:q01):Option Bool:=do
 let a1←M.q08 p1 p0 p2.z07
 some a1
def M.zy (p0:List (List UInt8)) (p1:Nat) (p2:q01) (x15:Int):Option (Jn Int Unit):=do
 if (decide (x15<(p0.length:Int))) then
  let x19←ix p0 x15
  let a20←M.q1v x19 p1 p2
  if a20 then
   some (.done x15)
  else
   M.zy p0 p1 p2 (ya .i64 (x15+1))
 else
  some (.go ())
 partial_fixpoint
def M.q41  (p0:List (List UInt8)) (p1:Nat) (p2:q01):Option Int:=do
 let q11←(do
   M.zy p0 p1 p2 0:Option (Jn Int Unit))
 match q11 with
 | .done r=>some r
 | .go j11 =>
  some (-1)
def M.q3l  (p0:List (List UInt8)) (p1:Nat) (p2:q01):Option Bool:=do
 let a1←M.q41 p0 p1 p2
 some (decide (0≤a1))
def M.zl (p0:List q01) (self_q1t:q01→q04→Option (Bool × q04)) (x23:Int) (x24:List UInt8) (x25:List UInt8) (x26:List UInt8) (x27:List q02):Option (Jn (Int × q04) ((List UInt8) × (List UInt8) × (List UInt8) × (List q02))):=do
 if (decide (x23<(p0.length:Int))) then
  let x31←ix p0 x23
  let a32←self_q1t x31 (q04.mk x24 x25 x26 x27)
  if a32.1 then
   some (.done (x23,a32.2))
  else
   M.zl p0 self_q1t (ya .i64 (x23+1)) a32.2.gId a32.2.zc a32.2.z2c a32.2.za
 else
  some (.go (x24,x25,x26,x27))
 partial_fixpoint
def M.zk (p0:List q01) (self_q1s:q01→q04→Option (Bool × q04)) (x23:Int) (x24:List UInt8) (x25:List UInt8) (x26:List UInt8) (x27:List q02):Option (Jn (Int × q04) ((List UInt8) × (List UInt8) × (List UInt8) × (List q02))):=do
 if (decide (x23<(p0.length:Int))) then
  let x31←ix p0 x23
  let a32←self_q1s x31 (q04.mk x24 x25 x26 x27)
  if a32.1 then
   some (.done (x23,a32.2))
  else
   M.zk p0 self_q1s (ya .i64 (x23+1)) a32.2.gId a32.2.zc a32.2.z2c a32.2.za
 else
  some (.go (x24,x25,x26,x27))
 partial_fixpoint
mutual
def M.q1r:Nat→q01→q04→Option Bool
 | 0,_,_=>none
 | fuel+1,p0,p1=>do
  if (decide (p0.zc=0)) then
   let a12←(M.q3h fuel) p0.zh p1
   some (!a12.1)
  else
   if (decide (p0.zc=1)) then
    let a14←(M.q3g fuel) p0.zh p1
    some a14.1
   else
    if (decide (p0.zc=2)) then
     let x16←ix p0.zh 0
     let a17←(M.q1t fuel) x16 p1
     some a17.1
    else
     if (decide (p0.zc=3)) then
      let a19←M.q2g p1 p0.zg
      let a21←M.q3k a19
      some a21
     else
      let j27←(do
        let a28←M.q1g
        let x30←ix a28 (ya .i64 (p0.zc - 4))
        some x30.zl8:Option Nat)
      let a31←M.q2g p1 p0.zg
      let a33←M.q3l a31 j27 p0
      some (!(a33==(decide (p0.zc=5))))
def M.q3h:Nat→(List q01)→q04→Option (Bool × q04)
 | 0,_,_=>none
 | fuel+1,p0,p1=>do
  let a1←(M.q3t fuel) p0 p1
  some ((decide (0≤a1.1)),a1.2)
def M.q3g:Nat→(List q01)→q04→Option (Bool × q04)
 | 0,_,_=>none
 | fuel+1,p0,p1=>do
  let a1←(M.q3s fuel) p0 p1
  some ((decide (0≤a1.1)),a1.2)
def M.q1t:Nat→q01→q04→Option (Bool × q04)
 | 0,_,_=>none
 | fuel+1,p0,p1=>do
  let a1←(M.q1r fuel) p0 p1
  some ((!a1),p1)
def M.q3t:Nat→(List q01)→q04→Option (Int × q04)
 | 0,_,_=>none
 | fuel+1,p0,p1=>do
  let q19←(do
    M.zl p0 (M.q1t fuel) 0 p1.gId p1.zc p1.z2c p1.za:Option (Jn (Int × q04) ((List UInt8) × (List UInt8) × (List UInt8) × (List q02))))
  match q19 with
  | .done r=>some r
  | .go j19 =>
   some ((-1),(q04.mk j19.1 j19.2.1 j19.2.2.1 j19.2.2.2))
def M.q3s:Nat→(List q01)→q04→Option (Int × q04)
 | 0,_,_=>none
 | fuel+1,p0,p1=>do
  let q19←(do
    M.zk p0 (M.q1s fuel) 0 p1.gId p1.zc p1.z2c p1.za:Option (Jn (Int × q04) ((List UInt8) × (List UInt8) × (List UInt8) × (List q02))))
  match q19 with
  | .done r=>some r
  | .go j19 =>
   some ((-1),(q04.mk j19.1 j19.2.1 j19.2.2.1 j19.2.2.2))
def M.q1s:Nat→q01→q04→Option (Bool × q04)
 | 0,_,_=>none
 | fuel+1,p0,p1=>do
  let a1←(M.q1r fuel) p0 p1
  some (a1,p1)
end
def M.q1z (fuel:Nat) (p0:q00) (p1:List UInt8):Option Bool:=do
 let j4←(do
   if (!p0.z0i) then
    some true
   else
    let a5←M.q1r fuel p0.z00 (q04.mk [] [] [] [(q02.mk ([118,97,108,117,101]:List UInt8) [p1])])
    some a5:Option Bool)
 some j4
def M.q1n (fuel:Nat) (p0:List UInt8) (p1:q00):Option Bool:=do
 let a1←M.q1z fuel p1 p0
 some a1
def M.z01 (p0:List (List UInt8)) (fuel:Nat) (p1:q00) (x15:Int):Option (Jn Int Unit):=do
 if (decide (x15<(p0.length:Int))) then
  let x19←ix p0 x15
  let a20←M.q1n fuel x19 p1
  if a20 then
   some (.done x15)
  else
   M.z01 p0 fuel p1 (ya .i64 (x15+1))
 else
  some (.go ())
 partial_fixpoint
def M.q3y (fuel:Nat) (p0:List (List UInt8)) (p1:q00):Option Int:=do
 let q11←(do
   M.z01 p0 fuel p1 0:Option (Jn Int Unit))
 match q11 with
 | .done r=>some r
 | .go j11 =>
  some (-1)
def M.z1h (p0:q00) (p1:List (List UInt8)) (x56:List (List UInt8)) (x57:Int):Option (List (List UInt8)):=do
 if (decide (x57<(p0.zf.length:Int))) then
  let x62←ix p0.zf x57
  let a63←M.q3n p1 x62
  if (!a63) then
   let l65←app 16 x56 [x62]
   M.z1h p0 p1 l65 (ya .i64 (x57+1))
  else
   M.z1h p0 p1 x56 (ya .i64 (x57+1))
 else
  some x56
 partial_fixpoint
def M.z1b (p1:List (List UInt8)) (a66:Int) (p0:q00) (fuel:Nat) (x128:List (List UInt8)) (x129:Int):Option (List (List UInt8)):=do
 if (decide (x129<(p1.length:Int))) then
  let x142←ix p1 x129
  if ((decide (x129=a66))&&(decide (p0.zc=2))) then
   let x145←ix p0.zf 0
   let l146←app 16 x128 [x145]
   M.z1b p1 a66 p0 fuel l146 (ya .i64 (x129+1))
  else
   let a147←M.q1z fuel p0 x142
   let j151←(do
     if (!a147) then
      if (decide (p0.zc=1)) then
       some true
      else
       let x152←ix p0.zf 0
       some (!decide (x142=x152))
     else
      some false:Option Bool)
   if j151 then
    let l153←app 16 x128 [x142]
    M.z1b p1 a66 p0 fuel l153 (ya .i64 (x129+1))
   else
    M.z1b p1 a66 p0 fuel x128 (ya .i64 (x129+1))
 else
  some x128
 partial_fixpoint
def M.q1m (fuel:Nat) (p0:q00) (p1:List (List UInt8)):Option ((List (List UInt8)) × Int):=do
 let q33←(do
   if (decide (p0.zc=0)) then
    let a34←M.z0s p1
    let j51←(do
      M.z1h p0 p1 a34 0:Option (List (List UInt8)))
    some (.done (j51,0))
   else
    some (.go ()):Option (Jn ((List (List UInt8)) × Int) Unit))
 match q33 with
 | .done r=>some r
 | .go j33 =>
  let a66←M.q3y fuel p1 p0
  if (p0.z0i&&(decide (a66<0))) then
   some ([],192)
  else
   if (!p0.z0i) then
    let a74←M.z0s p0.zf
    some (a74,0)
   else
    let j115←(do
      M.z1b p1 a66 p0 fuel [] 0:Option (List (List UInt8)))
    some (j115,0)
def M.z0w (p1:q04) (x25:Int) (x26:List ((List UInt8) × (List (List UInt8)))):Option (List ((List UInt8) × (List (List UInt8)))):=do
 if (decide (x25<(p1.za.length:Int))) then
  let x30←ix p1.za x25
  let a31←M.z0s x30.zf
  M.z0w p1 (ya .i64 (x25+1)) (z3b x26 x30.zg a31)
 else
  some x26
 partial_fixpoint
def M.z0x (p0:List q00) (fuel:Nat) (x69:Int) (x70:List ((List UInt8) × (List (List UInt8)))):Option (Jn (q04 × Int) (List ((List UInt8) × (List (List UInt8))))):=do
 if (decide (x69<(p0.length:Int))) then
  let x79←ix p0 x69
  let a80←M.q1m fuel x79 (z2s x70 x79.zg ([]:List (List UInt8)))
  if (!decide (a80.2=0)) then
   some (.done ((q04.mk [] [] [] ([]:List q02)),a80.2))
  else
   let j84←(do
     if (decide (0<(a80.1.length:Int))) then
      some (a80.1,(z3b (z5m x70 x79.zg) x79.zg a80.1))
     else
      some (a80.1,(z5m x70 x79.zg)):Option ((List (List UInt8)) × (List ((List UInt8) × (List (List UInt8))))))
   if ((decide (64<(j84.1.length:Int)))||(decide (32<(j84.2.length:Int)))) then
    some (.done ((q04.mk [] [] [] ([]:List q02)),191))
   else
    M.z0x p0 fuel (ya .i64 (x69+1)) j84.2
 else
  some (.go x70)
 partial_fixpoint
def M.z05 (p1:q04):(List ((List UInt8) × (List (List UInt8))))→(List q02)→Option (q04 × Int)
 | [],x90=>do
   let a97←M.q44 x90
   some ((q04.mk p1.gId p1.zc p1.z2c a97),0)
 | x95::x96,x90=>do
   let l99←app 40 x90 [(q02.mk x95.1 x95.2)]
   M.z05 p1 x96 l99
def M.q0z (fuel:Nat) (p0:List q00) (p1:q04):Option (q04 × Int):=do
 let a3←M.q17 p1
 if (!decide (a3=0)) then
  some ((q04.mk [] [] [] ([]:List q02)),a3)
 else
  let a7←M.q14 fuel p0
  if (!decide (a7=0)) then
   some ((q04.mk [] [] [] ([]:List q02)),a7)
  else
   let j21←(do
     M.z0w p1 0 ([]:List ((List UInt8) × (List (List UInt8)))):Option (List ((List UInt8) × (List (List UInt8)))))
   let q60←(do
     M.z0x p0 fuel 0 j21:Option (Jn (q04 × Int) (List ((List UInt8) × (List (List UInt8))))))
   match q60 with
   | .done r=>some r
   | .go j60 =>
    M.z05 p1 j60 []
def M.q30  (p0:Int):Option Bool:=do
 some (((((((decide (65≤p0))&&(decide (p0≤90)))||((decide (97≤p0))&&(decide (p0≤122))))||((decide (48≤p0))&&(decide (p0≤57))))||(decide (p0=45)))||(decide (p0=95)))||(decide (p0=46)))
def M.z2t (p0:List UInt8) (x59:Int):Option (Jn Bool Unit):=do
 if (decide (x59<(p0.length:Int))) then
  let c63←ix p0 x59
  let a64←M.q30 (c63.toNat:Int)
  if (!a64) then
   some (.done false)
  else
   M.z2t p0 (ya .i64 (x59+1))
 else
  some (.go ())
 partial_fixpoint
def M.q2o  (p0:List UInt8):Option Bool:=do
 let j38←(do
   if (((((decide (p0=[]))||(decide (24<(p0.length:Int))))||(decide (p0=[97,110,100])))||(decide (p0=[111,114])))||(decide (p0=[110,111,116]))) then
    some true
   else
    let c39←ix p0 0
    if (decide (65≤(c39.toNat:Int))) then
     let c40←ix p0 0
     if (decide ((c40.toNat:Int)≤90)) then
      some (!true)
     else
      let c41←ix p0 0
      if (decide (97≤(c41.toNat:Int))) then
       let c42←ix p0 0
       some (!(decide ((c42.toNat:Int)≤122)))
      else
       some (!false)
    else
     let c43←ix p0 0
     if (decide (97≤(c43.toNat:Int))) then
      let c44←ix p0 0
      some (!(decide ((c44.toNat:Int)≤122)))
     else
      some (!false):Option Bool)
 if j38 then
  some false
 else
  let q55←(do
    M.z2t p0 0:Option (Jn Bool Unit))
  match q55 with
  | .done r=>some r
  | .go j55 =>
   some true
def M.q35  (p0:List UInt8):Option Bool:=do
 let j4←(do
   if (decide ((p0.length:Int)≤128)) then
    let a5←M.z0c p0
    some a5
   else
    some false:Option Bool)
 some j4
def M.z1k (x111:Int) (p0:List (List UInt8)) (x161:Int):Option (Jn (Jn Bool Unit) Unit):=do
 if (decide (x161<x111)) then
  let x164←ix p0 x161
  let x165←ix p0 x111
  if (decide (x164=x165)) then
   some (.done (.done false))
  else
   M.z1k x111 p0 (ya .i64 (x161+1))
 else
  some (.go ())
 partial_fixpoint
def M.z1z (p0:List (List UInt8)) (x111:Int):Option (Jn Bool Unit):=do
 if (decide (x111<(p0.length:Int))) then
  let q152←(do
    let x156←ix p0 x111
    let a157←M.q35 x156
    if (!a157) then
     some (.done (.done false))
    else
     M.z1k x111 p0 0:Option (Jn (Jn Bool Unit) Unit))
  match q152 with
  | .done r=>some r
  | .go j152 =>
   M.z1z p0 (ya .i64 (x111+1))
 else
  some (.go ())
 partial_fixpoint
def M.q34  (p0:List (List UInt8)):Option Bool:=do
 let q83←(do
   M.z1z p0 0:Option (Jn Bool Unit))
 match q83 with
 | .done r=>some r
 | .go j83 =>
  some (decide ((p0.length:Int)≤64))
def M.z0p (p0:q04) (x81:Bool) (x82:Int):Option Bool:=do
 if ((decide (x82<(p0.za.length:Int)))&&x81) then
  let x106←ix p0.za x82
  let a107←M.q2o x106.zg
  let j111←(do
    if a107 then
     if (decide (x82=0)) then
      some true
     else
      let x112←ix p0.za (ya .i64 (x82 - 1))
      some (slt x112.zg x106.zg)
    else
     some false:Option Bool)
  let j118←(do
    if (j111&&(decide (0<(x106.zf.length:Int)))) then
     let a119←M.q34 x106.zf
     some a119
    else
     some false:Option Bool)
  M.z0p p0 j118 (ya .i64 (x82+1))
 else
  some x81
 partial_fixpoint
def M.q2l  (p0:q04):Option Int:=do
 let j61←(do
   M.z0p p0 (decide ((p0.za.length:Int)≤32)) 0:Option Bool)
 if (!j61) then
  some 194
 else
  some 0
def M.z2u (p0:q01) (self_q2y:q01→Option Bool) (x97:Int):Option (Jn Bool Unit):=do
 if (decide (x97<(p0.zh.length:Int))) then
  let x101←ix p0.zh x97
  let a102←self_q2y x101
  if (!a102) then
   some (.done false)
  else
   M.z2u p0 self_q2y (ya .i64 (x97+1))
 else
  some (.go ())
 partial_fixpoint
def M.q2y:Nat→q01→Option Bool
 | 0,_=>none
 | fuel+1,p0=>do
  let q55←(do
    if ((decide (p0.zc=0))||(decide (p0.zc=1))) then
     if (((decide ((p0.zh.length:Int)<2))||(!decide (p0.zg=[])))||(!decide (p0.z07=[]))) then
      some (.done false)
     else
      some (.go ())
    else
     if (decide (p0.zc=2)) then
      if (((!decide ((p0.zh.length:Int)=1))||(!decide (p0.zg=[])))||(!decide (p0.z07=[]))) then
       some (.done false)
      else
       some (.go ())
     else
      if ((decide (2<p0.zc))&&(decide (p0.zc<13))) then
       let j71←(do
         if (decide ((p0.zh.length:Int)=0)) then
          let a72←M.q2o p0.zg
          some a72
         else
          some false:Option Bool)
       let j77←(do
         if j71 then
          let a78←M.q35 p0.z07
          some a78
         else
          some false:Option Bool)
       some (.done (j77&&((!decide (p0.zc=3))||(decide (p0.z07=[])))))
      else
       some (.done false):Option (Jn Bool Unit))
  match q55 with
  | .done r=>some r
  | .go j55 =>
   let q93←(do
     M.z2u p0 (M.q2y fuel) 0:Option (Jn Bool Unit))
   match q93 with
   | .done r=>some r
   | .go j93 =>
    some true
def M.z2k (p0:q01) (self_q2r:q01→Option Bool) (x15:Int):Option (Jn Bool Unit):=do
 if (decide (x15<(p0.zh.length:Int))) then
  let x19←ix p0.zh x15
  let a20←self_q2r x19
  if (!a20) then
   some (.done false)
  else
   M.z2k p0 self_q2r (ya .i64 (x15+1))
 else
  some (.go ())
 partial_fixpoint
def M.q2r:Nat→q01→Option Bool
 | 0,_=>none
 | fuel+1,p0=>do
  if (decide ((p0.zh.length:Int)=0)) then
   some (decide (p0.zg=[118,97,108,117,101]))
  else
   let q11←(do
     M.z2k p0 (M.q2r fuel) 0:Option (Jn Bool Unit))
   match q11 with
   | .done r=>some r
   | .go j11 =>
    some true
def M.q3b  (p0:q01):Option Bool:=do
 some ((((decide (p0.zc=0))&&(decide (p0.zg=[])))&&(decide (p0.z07=[])))&&(decide ((p0.zh.length:Int)=0)))
def M.q2v (fuel:Nat) (p0:q00):Option Bool:=do
 let a13←M.q2o p0.zg
 let j22←(do
   if (((!a13)||(decide (p0.zg=[105,100])))||(decide (p0.zg=[116,97,103]))) then
    some true
   else
    let a23←M.q34 p0.zf
    some (!a23):Option Bool)
 if j22 then
  some false
 else
  let j46←(do
    if p0.z0i then
     let a47←M.q2y fuel p0.z00
     if (!a47) then
      some true
     else
      let a49←M.q2r fuel p0.z00
      some (!a49)
    else
     some false:Option Bool)
  let j54←(do
    if j46 then
     some true
    else
     if (!p0.z0i) then
      let a55←M.q3b p0.z00
      some (!a55)
     else
      some false:Option Bool)
  if j54 then
   some false
  else
   if (decide (p0.zc=0)) then
    some ((!p0.z0i)&&(decide (0<(p0.zf.length:Int))))
   else
    if (decide (p0.zc=1)) then
     some (decide ((p0.zf.length:Int)=0))
    else
     if (decide (p0.zc=2)) then
      some ((decide ((p0.zf.length:Int)=1))||((!p0.z0i)&&(decide (1<(p0.zf.length:Int)))))
     else
      some false
def M.q2t  (p0 p1:q01):Option Bool:=do
 some (((decide (p1.zc=2))||(decide (p0.zc=1)))||((decide (p0.zc=0))&&(decide (p1.zc=0))))
def M.z1m (p0:q01) (self_q2u:q01→Option Int) (x29:Int) (x30:Int):Option Int:=do
 if (decide (x30<(p0.zh.length:Int))) then
  let x37←ix p0.zh x30
  let a38←self_q2u x37
  let x40←ix p0.zh x30
  let a41←M.q2t x40 p0
  if a41 then
   M.z1m p0 self_q2u (zny x29 (ya .i64 (a38+1))) (ya .i64 (x30+1))
  else
   M.z1m p0 self_q2u (zny x29 a38) (ya .i64 (x30+1))
 else
  some x29
 partial_fixpoint
def M.q2u:Nat→q01→Option Int
 | 0,_=>none
 | fuel+1,p0=>do
  let j22←(do
    M.z1m p0 (M.q2u fuel) 0 0:Option Int)
  some j22
def M.z0u (p0:List q00) (fuel:Nat) (x15:Int):Option (Jn Int Unit):=do
 if (decide (x15<(p0.length:Int))) then
  let x19←ix p0 x15
  let a20←M.q2v fuel x19
  if (!a20) then
   some (.done 194)
  else
   M.z0u p0 fuel (ya .i64 (x15+1))
 else
  some (.go ())
 partial_fixpoint
def M.z0v (p0:List q00) (fuel:Nat) (x36:Int):Option (Jn Int Unit):=do
 if (decide (x36<(p0.length:Int))) then
  let x40←ix p0 x36
  let a41←M.q2u fuel x40.z00
  if (decide (16<a41)) then
   some (.done 193)
  else
   M.z0v p0 fuel (ya .i64 (x36+1))
 else
  some (.go ())
 partial_fixpoint
def M.q2k (fuel:Nat) (p0:List q00):Option Int:=do
 if (decide (16<(p0.length:Int))) then
  some 191
 else
  let q11←(do
    M.z0u p0 fuel 0:Option (Jn Int Unit))
  match q11 with
  | .done r=>some r
  | .go j11 =>
   let q32←(do
     M.z0v p0 fuel 0:Option (Jn Int Unit))
   match q32 with
   | .done r=>some r
   | .go j32 =>
    some 0
def M.z1r (p0:List q02) (p1:List UInt8) (p2:List (List UInt8)) (x99:List q02) (x100:Bool) (x101:Int):Option ((List q02) × Bool):=do
 if (decide (x101<(p0.length:Int))) then
  let j137←(do
    let j140←(do
      if (!x100) then
       let x141←ix p0 x101
       some (!slt x141.zg p1)
      else
       some false:Option Bool)
    if j140 then
     let l142←app 40 x99 [(q02.mk p1 p2)]
     some (l142,true)
    else
     some (x99,x100):Option ((List q02) × Bool))
  let x143←ix p0 x101
  if (!decide (x143.zg=p1)) then
   let x144←ix p0 x101
   let x145←ix p0 x101
   let l146←app 16 ([]:List (List UInt8)) x145.zf
   let l147←app 40 j137.1 [(q02.mk x144.zg l146)]
   M.z1r p0 p1 p2 l147 j137.2 (ya .i64 (x101+1))
  else
   M.z1r p0 p1 p2 j137.1 j137.2 (ya .i64 (x101+1))
 else
  some (x99,x100)
 partial_fixpoint
def M.q31  (p0:List q02) (p1:List UInt8) (p2:List (List UInt8)):Option (List q02):=do
 let j75←(do
   M.z1r p0 p1 p2 ([]:List q02) (decide ((p2.length:Int)=0)) 0:Option ((List q02) × Bool))
 if (!j75.2) then
  let l148←app 40 j75.1 [(q02.mk p1 p2)]
  some l148
 else
  some j75.1
def M.z29 (p0:q04) (p1:List UInt8) (x11:Int):Option (Jn (List (List UInt8)) Unit):=do
 if (decide (x11<(p0.za.length:Int))) then
  let x14←ix p0.za x11
  if (decide (x14.zg=p1)) then
   let x15←ix p0.za x11
   some (.done x15.zf)
  else
   M.z29 p0 p1 (ya .i64 (x11+1))
 else
  some (.go ())
 partial_fixpoint
def M.q36  (p0:q04) (p1:List UInt8):Option (List (List UInt8)):=do
 if (decide (p1=[105,100])) then
  some [p0.gId]
 else
  if (decide (p1=[116,97,103])) then
   some [p0.z2c]
  else
   let q8←(do
     M.z29 p0 p1 0:Option (Jn (List (List UInt8)) Unit))
   match q8 with
   | .done r=>some r
   | .go j8 =>
    some []
def M.z0y (p1:List UInt8) (p0:List UInt8) (x7:Int):Option (Jn Bool Unit):=do
 if (decide ((ya .i64 (x7+(p1.length:Int)))≤(p0.length:Int))) then
  let s9←sub p0 x7 (ya .i64 (x7+(p1.length:Int)))
  if (decide (s9=p1)) then
   some (.done true)
  else
   M.z0y p1 p0 (ya .i64 (x7+1))
 else
  some (.go ())
 partial_fixpoint
def M.q3a  (p0 p1:List UInt8):Option Bool:=do
 let q5←(do
   M.z0y p1 p0 0:Option (Jn Bool Unit))
 match q5 with
 | .done r=>some r
 | .go j5 =>
  some false
def M.q2s  (p0 p1:List UInt8):Option Bool:=do
 let j3←(do
   if (decide ((p1.length:Int)≤(p0.length:Int))) then
    let s4←sub p0 0 (p1.length:Int)
    some (decide (s4=p1))
   else
    some false:Option Bool)
 some j3
def M.q2w  (p0 p1:List UInt8):Option Bool:=do
 let j3←(do
   if (decide ((p1.length:Int)≤(p0.length:Int))) then
    let s4←sub p0 (ya .i64 ((p0.length:Int) - (p1.length:Int))) (p0.length:Int)
    some (decide (s4=p1))
   else
    some false:Option Bool)
 some j3
def M.q2x  (p0:Int) (p1 p2:List UInt8):Option Bool:=do
 if (decide (p0=3)) then
  some (!decide (p1=[]))
 else
  let j2←(do
    if (decide (p0=4)) then
     some (decide (p0=4))
    else
     some (decide (p0=5)):Option Bool)
  if j2 then
   some (decide (p1=p2))
  else
   if (decide (p0=6)) then
    let a3←M.q3a p1 p2
    some a3
   else
    if (decide (p0=7)) then
     let a5←M.q2s p1 p2
     some a5
    else
     if (decide (p0=8)) then
      let a7←M.q2w p1 p2
      some a7
     else
      if (decide (p0=9)) then
       some (!(slt p1 p2||decide (p1=p2)))
      else
       if (decide (p0=10)) then
        some (!slt p1 p2)
       else
        if (decide (p0=11)) then
         some (slt p1 p2)
        else
         some (slt p1 p2||decide (p1=p2))
def M.z2i (p0:q01) (self_q2n:q01→q04→Option Bool) (p1:q04) (x44:Int):Option (Jn (Jn Bool Unit) Unit):=do
 if (decide (x44<(p0.zh.length:Int))) then
  let x48←ix p0.zh x44
  let a49←self_q2n x48 p1
  if (a49==(decide (p0.zc=1))) then
   some (.done (.done (decide (p0.zc=1))))
  else
   M.z2i p0 self_q2n p1 (ya .i64 (x44+1))
 else
  some (.go ())
 partial_fixpoint
def M.z2j (a54:(List (List UInt8))) (p0:q01) (x70:Int):Option (Jn Bool Unit):=do
 if (decide (x70<(a54.length:Int))) then
  let x74←ix a54 x70
  let a75←M.q2x p0.zc x74 p0.z07
  if a75 then
   some (.done (!decide (p0.zc=5)))
  else
   M.z2j a54 p0 (ya .i64 (x70+1))
 else
  some (.go ())
 partial_fixpoint
def M.q2n:Nat→q01→q04→Option Bool
 | 0,_,_=>none
 | fuel+1,p0,p1=>do
  let q27←(do
    let j29←(do
      if (decide (p0.zc=0)) then
       some (decide (p0.zc=0))
      else
       some (decide (p0.zc=1)):Option Bool)
    if j29 then
     let q40←(do
       M.z2i p0 (M.q2n fuel) p1 0:Option (Jn (Jn Bool Unit) Unit))
     match q40 with
     | .done r=>some r
     | .go j40 =>
      some (.done (decide (p0.zc=0)))
    else
     if (decide (p0.zc=2)) then
      let x51←ix p0.zh 0
      let a52←(M.q2n fuel) x51 p1
      some (.done (!a52))
     else
      some (.go ()):Option (Jn Bool Unit))
  match q27 with
  | .done r=>some r
  | .go j27 =>
   let a54←M.q36 p1 p0.zg
   let q66←(do
     M.z2j a54 p0 0:Option (Jn Bool Unit))
   match q66 with
   | .done r=>some r
   | .go j66 =>
    some (decide (p0.zc=5))
def M.z3h (p0:List (List UInt8)) (p1:List UInt8) (x7:Int):Option (Jn Bool Unit):=do
 if (decide (x7<(p0.length:Int))) then
  let x9←ix p0 x7
  if (decide (x9=p1)) then
   some (.done true)
  else
   M.z3h p0 p1 (ya .i64 (x7+1))
 else
  some (.go ())
 partial_fixpoint
def M.q2z  (p0:List (List UInt8)) (p1:List UInt8):Option Bool:=do
 let q5←(do
   M.z3h p0 p1 0:Option (Jn Bool Unit))
 match q5 with
 | .done r=>some r
 | .go j5 =>
  some false
def M.z1c (p1:List (List UInt8)) (p0:q00) (fuel:Nat) (x127:List (List UInt8)) (x128:Int) (x129:Int):Option ((List (List UInt8)) × Int):=do
 if (decide (x129<(p1.length:Int))) then
  let j172←(do
    if (!p0.z0i) then
     some true
    else
     let l173←sub p1 x129 (ya .i64 (x129+1))
     let a174←M.q2n fuel p0.z00 (q04.mk [] [] [] [(q02.mk ([118,97,108,117,101]:List UInt8) l173)])
     some a174:Option Bool)
  if ((decide (p0.zc=0))||(!j172)) then
   let x182←ix p1 x129
   let l183←app 16 x127 [x182]
   M.z1c p1 p0 fuel l183 x128 (ya .i64 (x129+1))
  else
   if (((decide (p0.zc=2))&&p0.z0i)&&(decide ((ya .i64 (x128+1))=1))) then
    let x188←ix p0.zf 0
    let l189←app 16 x127 [x188]
    M.z1c p1 p0 fuel l189 (ya .i64 (x128+1)) (ya .i64 (x129+1))
   else
    M.z1c p1 p0 fuel x127 (ya .i64 (x128+1)) (ya .i64 (x129+1))
 else
  some (x127,x128)
 partial_fixpoint
def M.z1i (p0:q00) (x214:List (List UInt8)) (x215:Int):Option (List (List UInt8)):=do
 if (decide (x215<(p0.zf.length:Int))) then
  let x221←ix p0.zf x215
  let a222←M.q2z x214 x221
  if (!a222) then
   let x224←ix p0.zf x215
   let l225←app 16 x214 [x224]
   M.z1i p0 l225 (ya .i64 (x215+1))
  else
   M.z1i p0 x214 (ya .i64 (x215+1))
 else
  some x214
 partial_fixpoint
def M.z1w (p1:List (List UInt8)) (fuel:Nat) (p0:q00) (x394:Int) (x395:Int):Option Int:=do
 if (decide (x395<(p1.length:Int))) then
  let l399←sub p1 x395 (ya .i64 (x395+1))
  let a400←M.q2n fuel p0.z00 (q04.mk [] [] [] [(q02.mk ([118,97,108,117,101]:List UInt8) l399)])
  if a400 then
   some x394
  else
   M.z1w p1 fuel p0 (ya .i64 (x394+1)) (ya .i64 (x395+1))
 else
  some (-1)
 partial_fixpoint
def M.z1j (j208:(List (List UInt8))) (j390:Int) (p0:q00) (x482:List (List UInt8)) (x483:Int):Option (List (List UInt8)):=do
 if (decide (x483<(j208.length:Int))) then
  let j515←(do
    if (decide (x483=j390)) then
     some true
    else
     let x516←ix j208 x483
     let x517←ix j208 x483
     let x518←ix p0.zf 0
     some (!decide (x517=x518)):Option Bool)
  if j515 then
   let x519←ix j208 x483
   let x520←ix j208 x483
   let l521←app 16 x482 [x520]
   M.z1j j208 j390 p0 l521 (ya .i64 (x483+1))
  else
   M.z1j j208 j390 p0 x482 (ya .i64 (x483+1))
 else
  some x482
 partial_fixpoint
def M.q2q (fuel:Nat) (p0:q00) (p1:List (List UInt8)):Option ((List (List UInt8)) × Int):=do
 let j96←(do
   M.z1c p1 p0 fuel ([]:List (List UInt8)) 0 0:Option ((List (List UInt8)) × Int))
 let j208←(do
   if (decide (p0.zc=0)) then
    M.z1i p0 j96.1 0
   else
    some j96.1:Option (List (List UInt8)))
 if ((decide (p0.zc=2))&&(!p0.z0i)) then
  let l231←app 16 ([]:List (List UInt8)) p0.zf
  some (l231,j96.2)
 else
  let j377←(do
    if (decide (p0.zc=2)) then
     let j390←(do
       M.z1w p1 fuel p0 0 0:Option Int)
     let j462←(do
       M.z1j j208 j390 p0 ([]:List (List UInt8)) 0:Option (List (List UInt8)))
     some j462
    else
     some j208:Option (List (List UInt8)))
  some (j377,j96.2)
def M.z1v (p0:List q00) (fuel:Nat) (x77:Int) (x78:List q02):Option (Jn (q04 × Int) (List q02)):=do
 if (decide (x77<(p0.length:Int))) then
  let x94←ix p0 x77
  let x95←ix p0 x77
  let a96←M.q36 (q04.mk [] [] [] x78) x95.zg
  let a98←M.q2q fuel x94 a96
  let x103←ix p0 x77
  if (x103.z0i&&(decide (a98.2=0))) then
   some (.done ((q04.mk [] [] [] []),192))
  else
   if (decide (64<(a98.1.length:Int))) then
    some (.done ((q04.mk [] [] [] []),191))
   else
    let x106←ix p0 x77
    let a107←M.q31 x78 x106.zg a98.1
    if (decide (32<(a107.length:Int))) then
     some (.done ((q04.mk [] [] [] []),191))
    else
     M.z1v p0 fuel (ya .i64 (x77+1)) a107
 else
  some (.go x78)
 partial_fixpoint
def M.q2j (fuel:Nat) (p0:List q00) (p1:q04):Option (q04 × Int):=do
 let a3←M.q2l p1
 if (!decide (a3=0)) then
  some ((q04.mk [] [] [] []),194)
 else
  let a5←M.q2k fuel p0
  if (!decide (a5=0)) then
   some ((q04.mk [] [] [] []),a5)
  else
   let j10←(do
     let a11←M.q31 p1.za [] []
     some a11:Option (List q02))
   let q61←(do
     M.z1v p0 fuel 0 j10:Option (Jn (q04 × Int) (List q02)))
   match q61 with
   | .done r=>some r
   | .go j61 =>
    some ((q04.mk p1.gId p1.zc p1.z2c j61),0)
def M.q2b  (p0:q07):Option ((List UInt8) × q07):=do
 let a1←M.trimLeft p0.gs ([32]:List UInt8)
 let a3←M.trimLeft a1 ([65,66,67,68,69,70,71,72,73,74,75,76,77,78,79,80,81,82,83,84,85,86,87,88,89,90,97,98,99,100,101,102,103,104,105,106,107,108,109,110,111,112,113,114,115,116,117,118,119,120,121,122,48,49,50,51,52,53,54,55,56,57,45,95,46]:List UInt8)
 let s5←sub a1 0 (ya .i64 ((a1.length:Int) - (a3.length:Int)))
 some (s5,(q07.mk a1))
def M.q29  (p0:q07) (p1:List UInt8):Option (Bool × q07):=do
 let a9←M.q2b p0
 let j14←(do
   if (!decide (a9.1=p1)) then
    if (!decide (a9.1=[])) then
     some true
    else
     let a15←M.q4d a9.2.gs p1
     some (!a15)
   else
    some false:Option Bool)
 if j14 then
  some (false,a9.2)
 else
  let s17←sub a9.2.gs (p1.length:Int) (a9.2.gs.length:Int)
  some (true,(q07.mk s17))
def M.q1w  (p0:Bool) (p1:Int):Option (Rs Unit):=do
 if (!p0) then
  some (.pan p1)
 else
  some (.ok ())
def M.q22  (p0:q06) (p2:q07):Option (Bool × q07):=do
 let a1←M.q29 p2 p0.z48
 some (a1.1,a1.2)
def M.ze (p0:List q06) (x17:Int) (x18:List UInt8):Option (Jn (Int × q07) (List UInt8)):=do
 if (decide (x17<(p0.length:Int))) then
  let x22←ix p0 x17
  let a23←M.q22 x22 (q07.mk x18)
  if a23.1 then
   some (.done (x17,a23.2))
  else
   M.ze p0 (ya .i64 (x17+1)) a23.2.gs
 else
  some (.go x18)
 partial_fixpoint
def M.q3w  (p0:List q06) (p2:q07):Option (Int × q07):=do
 let q13←(do
   M.ze p0 0 p2.gs:Option (Jn (Int × q07) (List UInt8)))
 match q13 with
 | .done r=>some r
 | .go j13 =>
  some ((-1),(q07.mk j13))
def M.q0r  (p0:q05):Option q05:=do
 let a1←M.trimLeft p0.gs ([32,9,10,13]:List UInt8)
 some (q05.mk a1)
def M.q0b  (p0 p1:List UInt8):Option ((List UInt8) × Bool):=do
 let a3←M.q0d p0 p1
 if (!a3) then
  some (p0,false)
 else
  let s5←sub p0 (p1.length:Int) (p0.length:Int)
  some (s5,true)
def M.q4b  (p0 p1:List UInt8):Option ((List UInt8) × Bool):=do
 let a1←M.q0b p0 p1
 some (a1.1,a1.2)
def M.q0u  (p0:q05) (p1:List UInt8):Option (Bool × q05):=do
 let a1←M.q4b p0.gs p1
 if a1.2 then
  let a3←M.q0r (q05.mk a1.1)
  some (a1.2,a3)
 else
  some (a1.2,p0)
def M.q0a  (p0:Int):Option Int:=do
 some (orI .u8 p0 32)
def M.zv (j65:(List UInt8) × Int) (p1:Int) (j106:Int) (j102:Int) (x301:Bool) (x302:Int) (x303:Int):Option (Jn (Int × Bool) (Bool × Int)):=do
 if (decide (x303<((unb j65.1).length:Int))) then
  let x351←ix (unb j65.1) x303
  let q381←(do
    if ((decide (x351=95))&&(decide (p1=0))) then
     (do
      M.zv j65 p1 j106 j102 true x302 (ya .i64 (x303+1))) >>= fun r=>some (.done r)
    else
     if ((decide (48≤x351))&&(decide (x351≤57))) then
      some (.go (ya .u8 (x351 - 48)))
     else
      let a386←M.q0a x351
      let j391←(do
        if (decide (97≤a386)) then
         let a392←M.q0a x351
         some (decide (a392≤122))
        else
         some false:Option Bool)
      if j391 then
       let a394←M.q0a x351
       some (.go (ya .u8 ((ya .u8 (a394 - 97))+10)))
      else
       some (.done (.done (0,false))):Option (Jn (Jn (Int × Bool) (Bool × Int)) Int))
  match q381 with
  | .done r=>some r
  | .go j381 =>
   if (decide ((ya .u8 j65.2)≤j381)) then
    some (.done (0,false))
   else
    if (decide (j106≤x302)) then
     some (.done ((ya .u64 ((zcn .u64 1 (ya .u64 j102)) - 1)),false))
    else
     if ((decide ((ya .u64 ((ya .u64 (x302*(ya .u64 j65.2)))+(ya .u64 j381)))<(ya .u64 (x302*(ya .u64 j65.2)))))||(decide ((ya .u64 ((zcn .u64 1 (ya .u64 j102)) - 1))<(ya .u64 ((ya .u64 (x302*(ya .u64 j65.2)))+(ya .u64 j381)))))) then
      some (.done ((ya .u64 ((zcn .u64 1 (ya .u64 j102)) - 1)),false))
     else
      M.zv j65 p1 j106 j102 x301 (ya .u64 ((ya .u64 (x302*(ya .u64 j65.2)))+(ya .u64 j381))) (ya .i64 (x303+1))
 else
  some (.go (x301,x302))
 partial_fixpoint
def M.q09  (p0:List UInt8) (p1 p2:Int):Option (Int × Bool):=do
 if (decide (p0=[])) then
  some (0,false)
 else
  let q65←(do
    if ((decide (2≤p1))&&(decide (p1≤36))) then
     some (.go (p0,p1))
    else
     if (decide (p1=0)) then
      let c68←ix p0 0
      if (decide ((c68.toNat:Int)=48)) then
       let j73←(do
         if (decide (3≤(p0.length:Int))) then
          let c74←ix p0 1
          let a75←M.q0a (c74.toNat:Int)
          some (decide (a75=98))
         else
          some false:Option Bool)
       if j73 then
        let s77←sub p0 2 (p0.length:Int)
        some (.go (s77,2))
       else
        let j82←(do
          if (decide (3≤(p0.length:Int))) then
           let c83←ix p0 1
           let a84←M.q0a (c83.toNat:Int)
           some (decide (a84=111))
          else
           some false:Option Bool)
        if j82 then
         let s86←sub p0 2 (p0.length:Int)
         some (.go (s86,8))
        else
         let j91←(do
           if (decide (3≤(p0.length:Int))) then
            let c92←ix p0 1
            let a93←M.q0a (c92.toNat:Int)
            some (decide (a93=120))
           else
            some false:Option Bool)
         if j91 then
          let s95←sub p0 2 (p0.length:Int)
          some (.go (s95,16))
         else
          let s96←sub p0 1 (p0.length:Int)
          some (.go (s96,8))
      else
       some (.go (p0,10))
     else
      some (.done (0,false)):Option (Jn (Int × Bool) ((List UInt8) × Int)))
  match q65 with
  | .done r=>some r
  | .go j65 =>
   let q102←(do
     if (decide (p2=0)) then
      some (.go 64)
     else
      if ((decide (p2<0))||(decide (64<p2))) then
       some (.done (0,false))
      else
       some (.go p2):Option (Jn (Int × Bool) Int))
   match q102 with
   | .done r=>some r
   | .go j102 =>
    let j106←(do
      if (decide (j65.2=10)) then
       some 1844674407370955162
      else
       if (decide (j65.2=16)) then
        some 1152921504606846976
       else
        let _←chk (decide ((ya .u64 j65.2)≠0))
        some (ya .u64 ((ya .u64 (Int.tdiv 18446744073709551615 (ya .u64 j65.2)))+1)):Option Int)
    let _←chk (decide (0≤(ya .u64 j102)))
    let q253←(do
      let _←chk (decide (j65.1.length≤9223372036854775807))
      M.zv j65 p1 j106 j102 false 0 0:Option (Jn (Int × Bool) (Bool × Int)))
    match q253 with
    | .done r=>some r
    | .go j253 =>
     let j398←(do
       if j253.1 then
        none
       else
        some ():Option Unit)
     some (j253.2,true)
def M.q45  (p0:List UInt8) (p1 p2:Int):Option (Int × Bool):=do
 let a1←M.q09 p0 p1 p2
 if (!a1.2) then
  none
 else
  some (a1.1,true)
def M.q0w  (p0:q05):Option (Rs (Int × q05)):=do
 let a1←M.q4b p0.gs ([92,117]:List UInt8)
 let j9←(do
   if (a1.2&&(decide (4≤(a1.1.length:Int)))) then
    let s10←sub a1.1 0 4
    let a11←M.trim s10 ([48,49,50,51,52,53,54,55,56,57,97,98,99,100,101,102,65,66,67,68,69,70]:List UInt8)
    some (decide (a11=[]))
   else
    some false:Option Bool)
 let a13←M.q0o j9 20
 match a13 with
 | .pan e16 =>
  some (.pan e16)
 | .ok a15 =>
  let s17←sub a1.1 0 4
  let a18←M.q45 s17 16 16
  let a20←M.q0o a18.2 20
  match a20 with
  | .pan e23 =>
   some (.pan e23)
  | .ok a22 =>
   let s24←sub a1.1 4 (a1.1.length:Int)
   some (.ok ((ya .i32 a18.1),(q05.mk s24)))
def M.q0s  (p0:q05):Option (Rs ((List UInt8) × q05)):=do
 let a1←M.q0o (decide (2≤(p0.gs.length:Int))) 20
 match a1 with
 | .pan e4 =>
  some (.pan e4)
 | .ok a3 =>
  let c10←ix p0.gs 1
  let a11←M.indexByte ([34,92,47,98,102,110,114,116]:List UInt8) (c10.toNat:Int)
  if (decide (0≤a11)) then
   let s13←sub p0.gs 2 (p0.gs.length:Int)
   let s14←sub ([34,92,47,8,12,10,13,9]:List UInt8) a11 (ya .i64 (a11+1))
   some (.ok (s14,(q05.mk s13)))
  else
   let a15←M.q0w p0
   match a15 with
   | .pan e18 =>
    some (.pan e18)
   | .ok a17 =>
    let a21←M.q0o ((decide (a17.1<56320))||(decide (57343<a17.1))) 20
    match a21 with
    | .pan e24 =>
     some (.pan e24)
    | .ok a23 =>
     if ((decide (a17.1<55296))||(decide (57343<a17.1))) then
      some (.ok ((encS a17.1),a17.2))
     else
      let a29←M.q0w a17.2
      match a29 with
      | .pan e32 =>
       some (.pan e32)
      | .ok a31 =>
       let a35←M.q0o ((decide (56320≤a31.1))&&(decide (a31.1≤57343))) 20
       match a35 with
       | .pan e38 =>
        some (.pan e38)
       | .ok a37 =>
        some (.ok ((encS (ya .i32 ((ya .i32 ((ya .i32 (65536+(zcn .i32 (ya .i32 (a17.1 - 55296)) 10)))+a31.1)) - 56320))),a31.2))
def M.z0o (x37:List UInt8) (x38:List Int):Option (Rs ((List UInt8) × q05)):=do
 let j71←(do
   if (!decide (x37=[])) then
    let c72←ix x37 0
    some (decide (32≤(c72.toNat:Int)))
   else
    some false:Option Bool)
 let a73←M.q0o j71 20
 match a73 with
 | .pan e76 =>
  some (.pan e76)
 | .ok a75 =>
  let c77←ix x37 0
  if (decide ((c77.toNat:Int)=34)) then
   let a78←M.z08 x38
   let a80←M.z0c a78
   let a82←M.q0o a80 20
   match a82 with
   | .pan e85 =>
    some (.pan e85)
   | .ok a84 =>
    let a86←M.q0u (q05.mk x37) ([34]:List UInt8)
    let a88←M.z08 x38
    some (.ok (a88,a86.2))
  else
   if (decide ((c77.toNat:Int)=92)) then
    let a90←M.q0s (q05.mk x37)
    match a90 with
    | .pan e93 =>
     some (.pan e93)
    | .ok a92 =>
     let a94←M.q4a x38 a92.1
     M.z0o a92.2.gs a94.2
   else
    let a96←M.q48 x38 (c77.toNat:Int)
    let s98←sub x37 1 (x37.length:Int)
    M.z0o s98 a96
 partial_fixpoint
def M.q0v  (p0:q05):Option (Rs ((List UInt8) × q05)):=do
 let a1←M.q4b p0.gs ([34]:List UInt8)
 let a3←M.q0o a1.2 20
 match a3 with
 | .pan e6 =>
  some (.pan e6)
 | .ok a5 =>
  M.z0o a1.1 ([]:List Int)
def M.z0a (x53:Int) (x54:List UInt8):Option (Jn (Rs (q03 × q05)) (List UInt8)):=do
 if (decide (x53<([([110,117,108,108]:List UInt8),([102,97,108,115,101]:List UInt8),([116,114,117,101]:List UInt8)].length:Int))) then
  let x58←ix [([110,117,108,108]:List UInt8),([102,97,108,115,101]:List UInt8),([116,114,117,101]:List UInt8)] x53
  let a59←M.q0u (q05.mk x54) x58
  if a59.1 then
   some (.done (.ok ((q03.mk x53 [] ([]:List q03) ([]:List (List UInt8))),a59.2)))
  else
   M.z0a (ya .i64 (x53+1)) a59.2.gs
 else
  some (.go x54)
 partial_fixpoint
def M.z0e (p1:Int) (self_q0x:q05→Int→Option (Rs (q03 × q05))) (p2:Int) (p3:List UInt8) (x79:List UInt8) (x80:List q03) (x81:List (List UInt8)):Option (Rs (q03 × q05)):=do
 let q190←(do
   if (decide (p1=6)) then
    let a191←M.q0v (q05.mk x79)
    match a191 with
    | .pan e194 =>
     some (.done (.pan e194))
    | .ok a193 =>
     let a195←M.q3n x81 a193.1
     let j201←(do
       if (!a195) then
        let a202←M.q0u a193.2 ([58]:List UInt8)
        some (a202.1,a202.2.gs)
       else
        some (false,a193.2.gs):Option (Bool × (List UInt8)))
     let a204←M.q0o j201.1 20
     match a204 with
     | .pan e207 =>
      some (.done (.pan e207))
     | .ok a206 =>
      let l208←app 16 x81 [a193.1]
      some (.go (j201.2,l208))
   else
    some (.go (x79,x81)):Option (Jn (Rs (q03 × q05)) ((List UInt8) × (List (List UInt8)))))
 match q190 with
 | .done r=>some r
 | .go j190 =>
  let a209←self_q0x (q05.mk j190.1) (ya .i64 (p2+1))
  match a209 with
  | .pan e212 =>
   some (.pan e212)
  | .ok a211 =>
   let l213←app 72 x80 [(q03.mk a211.1.zc a211.1.z0q a211.1.zh a211.1.z0m)]
   let a214←M.q0u a211.2 p3
   if a214.1 then
    some (.ok ((q03.mk p1 [] l213 j190.2),a214.2))
   else
    let a216←M.q0u a214.2 ([44]:List UInt8)
    let a218←M.q0o a216.1 20
    match a218 with
    | .pan e221 =>
     some (.pan e221)
    | .ok a220 =>
     M.z0e p1 self_q0x p2 p3 a216.2.gs l213 j190.2
 partial_fixpoint
mutual
def M.q0x:Nat→q05→Int→Option (Rs (q03 × q05))
 | 0,_,_=>none
 | fuel+1,p0,p1=>do
  let a19←M.q4d p0.gs ([34]:List UInt8)
  if a19 then
   let a21←M.q0v p0
   match a21 with
   | .pan e24 =>
    some (.pan e24)
   | .ok a23 =>
    some (.ok ((q03.mk 4 a23.1 ([]:List q03) ([]:List (List UInt8))),a23.2))
  else
   let a25←M.q0u p0 ([91]:List UInt8)
   if a25.1 then
    let a27←(M.q0t fuel) a25.2 5 p1 ([93]:List UInt8)
    match a27 with
    | .pan e30 =>
     some (.pan e30)
    | .ok a29 =>
     some (.ok (a29.1,a29.2))
   else
    let a31←M.q0u a25.2 ([123]:List UInt8)
    if a31.1 then
     let a33←(M.q0t fuel) a31.2 6 p1 ([125]:List UInt8)
     match a33 with
     | .pan e36 =>
      some (.pan e36)
     | .ok a35 =>
      some (.ok (a35.1,a35.2))
    else
     let q49←(do
       M.z0a 0 a31.2.gs:Option (Jn (Rs (q03 × q05)) (List UInt8)))
     match q49 with
     | .done r=>some r
     | .go j49 =>
      let a61←M.q0p j49
      let a63←M.q0o (decide (0<a61)) 20
      match a63 with
      | .pan e66 =>
       some (.pan e66)
      | .ok a65 =>
       let s67←sub j49 0 a61
       let a68←M.q0u (q05.mk j49) s67
       some (.ok ((q03.mk 3 s67 ([]:List q03) ([]:List (List UInt8))),a68.2))
def M.q0t:Nat→q05→Int→Int→(List UInt8)→Option (Rs (q03 × q05))
 | 0,_,_,_,_=>none
 | fuel+1,p0,p1,p2,p3=>do
  let a1←M.q0o (decide (p2<16)) 21
  match a1 with
  | .pan e4 =>
   some (.pan e4)
  | .ok a3 =>
   let a7←M.q0u p0 p3
   if a7.1 then
    some (.ok ((q03.mk p1 [] ([]:List q03) ([]:List (List UInt8))),a7.2))
   else
    M.z0e p1 (M.q0x fuel) p2 p3 a7.2.gs [] []
end
def M.q0h (fuel:Nat) (p0:List UInt8):Option (q03 × Int):=do
 if (decide (16384<(p0.length:Int))) then
  some ((q03.mk 0 [] ([]:List q03) ([]:List (List UInt8))),22)
 else
  let a1←M.q0r (q05.mk p0)
  let a3←M.q0x fuel a1 0
  match a3 with
  | .pan e6 =>
   some ((q03.mk 0 [] ([]:List q03) ([]:List (List UInt8))),e6)
  | .ok a5 =>
   let a7←M.q0o (decide (a5.2.gs=[])) 20
   match a7 with
   | .pan e10 =>
    some ((q03.mk 0 [] ([]:List q03) ([]:List (List UInt8))),e10)
   | .ok a9 =>
    some (a5.1,0)
def M.z0d (a1:(List UInt8) × q07) (x52:Int):Option Int:=do
 let j68←(do
   if (decide (x52<(a1.2.gs.length:Int))) then
    let c69←ix a1.2.gs x52
    some (!decide ((c69.toNat:Int)=34))
   else
    some false:Option Bool)
 if j68 then
  let c70←ix a1.2.gs x52
  if (decide ((c70.toNat:Int)=92)) then
   M.z0d a1 (ya .i64 ((ya .i64 (x52+1))+1))
  else
   M.z0d a1 (ya .i64 (x52+1))
 else
  some x52
 partial_fixpoint
def M.q2a (fuel:Nat) (p0:q07):Option (Rs ((List UInt8) × q07)):=do
 let a1←M.q2b p0
 let j6←(do
   if (decide (a1.1=[])) then
    let a7←M.q4d a1.2.gs ([34]:List UInt8)
    some a7
   else
    some false:Option Bool)
 let a9←M.q1w j6 190
 match a9 with
 | .pan e12 =>
  some (.pan e12)
 | .ok a11 =>
  let j42←(do
    M.z0d a1 1:Option Int)
  let a71←M.q1w (decide (j42<(a1.2.gs.length:Int))) 190
  match a71 with
  | .pan e74 =>
   some (.pan e74)
  | .ok a73 =>
   let s75←sub a1.2.gs 0 (ya .i64 (j42+1))
   let a76←M.q0h fuel s75
   let a80←M.q1w ((decide (a76.2=0))&&(decide ((a76.1.z0q.length:Int)≤128))) 190
   match a80 with
   | .pan e83 =>
    some (.pan e83)
   | .ok a82 =>
    let s84←sub a1.2.gs (ya .i64 (j42+1)) (a1.2.gs.length:Int)
    some (.ok (a76.1.z0q,(q07.mk s84)))
def M.z06 (p2:List UInt8) (self_q26:q07→Int→Option (Rs (q01 × q07 × Int))) (x48:List UInt8) (x49:Int) (x50:List q01):Option (Jn (Rs (q01 × q07 × Int)) ((List UInt8) × Int × (List q01))):=do
 let a62←M.q29 (q07.mk x48) p2
 if a62.1 then
  let a64←self_q26 a62.2 x49
  match a64 with
  | .pan e67 =>
   some (.done (.pan e67))
  | .ok a66 =>
   let l68←app 64 x50 [(q01.mk a66.1.zc a66.1.zg a66.1.z07 a66.1.zh)]
   M.z06 p2 self_q26 a66.2.1.gs a66.2.2 l68
 else
  some (.go (a62.2.gs,x49,x50))
 partial_fixpoint
def M.z04 (p2:List UInt8) (self_q28:q07→Int→Option (Rs (q01 × q07 × Int))) (x48:List UInt8) (x49:Int) (x50:List q01):Option (Jn (Rs (q01 × q07 × Int)) ((List UInt8) × Int × (List q01))):=do
 let a62←M.q29 (q07.mk x48) p2
 if a62.1 then
  let a64←self_q28 a62.2 x49
  match a64 with
  | .pan e67 =>
   some (.done (.pan e67))
  | .ok a66 =>
   let l68←app 64 x50 [(q01.mk a66.1.zc a66.1.zg a66.1.z07 a66.1.zh)]
   M.z04 p2 self_q28 a66.2.1.gs a66.2.2 l68
 else
  some (.go (a62.2.gs,x49,x50))
 partial_fixpoint
mutual
def M.q25:Nat→q07→Int→Option (Rs (q01 × q07))
 | 0,_,_=>none
 | fuel+1,p0,p1=>do
  let a1←(M.q23 fuel) p0 1 ([111,114]:List UInt8) p1
  match a1 with
  | .pan e4 =>
   some (.pan e4)
  | .ok a3 =>
   some (.ok (a3.1,a3.2.1))
def M.q21:Nat→q07→Int→Option (Rs (q01 × q07))
 | 0,_,_=>none
 | fuel+1,p0,p1=>do
  let a1←M.q29 p0 ([110,111,116]:List UInt8)
  let a19←M.q29 a1.2 ([40]:List UInt8)
  if a19.1 then
   let a21←M.q1w (decide (p1<16)) 193
   match a21 with
   | .pan e24 =>
    some (.pan e24)
   | .ok a23 =>
    let a25←(M.q25 fuel) a19.2 (ya .i64 (p1+1))
    match a25 with
    | .pan e28 =>
     some (.pan e28)
    | .ok a27 =>
     let a29←M.q29 a27.2 ([41]:List UInt8)
     let a31←M.q1w a29.1 190
     match a31 with
     | .pan e34 =>
      some (.pan e34)
     | .ok a33 =>
      if a1.1 then
       some (.ok ((q01.mk 2 [] [] [(q01.mk a27.1.zc a27.1.zg a27.1.z07 a27.1.zh)]),a29.2))
      else
       some (.ok (a27.1,a29.2))
  else
   let a35←M.q2b a19.2
   let j40←(do
     if (!a1.1) then
      let a41←M.q1x a35.1
      some a41
     else
      some false:Option Bool)
   let a43←M.q1w j40 190
   match a43 with
   | .pan e46 =>
    some (.pan e46)
   | .ok a45 =>
    let a47←M.q29 a35.2 a35.1
    let a51←M.q29 a47.2 ([112,114]:List UInt8)
    if a51.1 then
     some (.ok ((q01.mk 3 a35.1 [] []),a51.2))
    else
     let a53←M.q1g
     let a55←M.q3w a53 a51.2
     let a57←M.q1w (decide (0≤a55.1)) 190
     match a57 with
     | .pan e60 =>
      some (.pan e60)
     | .ok a59 =>
      let a61←M.q2a fuel a55.2
      match a61 with
      | .pan e64 =>
       some (.pan e64)
      | .ok a63 =>
       some (.ok ((q01.mk (ya .i64 (4+a55.1)) a35.1 a63.1 []),a63.2))
def M.q23:Nat→q07→Int→(List UInt8)→Int→Option (Rs (q01 × q07 × Int))
 | 0,_,_,_,_=>none
 | fuel+1,p0,p1,p2,p4=>do
  let a1←(M.q26 fuel) p0 p4
  match a1 with
  | .pan e4 =>
   some (.pan e4)
  | .ok a3 =>
   let q38←(do
     M.z06 p2 (M.q26 fuel) a3.2.1.gs a3.2.2 [(q01.mk a3.1.zc a3.1.zg a3.1.z07 a3.1.zh)]:Option (Jn (Rs (q01 × q07 × Int)) ((List UInt8) × Int × (List q01))))
   match q38 with
   | .done r=>some r
   | .go j38 =>
    if (decide ((j38.2.2.length:Int)=1)) then
     let x69←ix j38.2.2 0
     let x70←ix j38.2.2 0
     some (.ok (x70,(q07.mk j38.1),j38.2.1))
    else
     some (.ok ((q01.mk p1 [] [] j38.2.2),(q07.mk j38.1),j38.2.1))
def M.q26:Nat→q07→Int→Option (Rs (q01 × q07 × Int))
 | 0,_,_=>none
 | fuel+1,p1,p2=>do
  let a1←(M.q24 fuel) p1 0 ([97,110,100]:List UInt8) p2
  match a1 with
  | .pan e4 =>
   some (.pan e4)
  | .ok a3 =>
   some (.ok (a3.1,a3.2.1,a3.2.2))
def M.q24:Nat→q07→Int→(List UInt8)→Int→Option (Rs (q01 × q07 × Int))
 | 0,_,_,_,_=>none
 | fuel+1,p0,p1,p2,p4=>do
  let a1←(M.q28 fuel) p0 p4
  match a1 with
  | .pan e4 =>
   some (.pan e4)
  | .ok a3 =>
   let q38←(do
     M.z04 p2 (M.q28 fuel) a3.2.1.gs a3.2.2 [(q01.mk a3.1.zc a3.1.zg a3.1.z07 a3.1.zh)]:Option (Jn (Rs (q01 × q07 × Int)) ((List UInt8) × Int × (List q01))))
   match q38 with
   | .done r=>some r
   | .go j38 =>
    if (decide ((j38.2.2.length:Int)=1)) then
     let x69←ix j38.2.2 0
     let x70←ix j38.2.2 0
     some (.ok (x70,(q07.mk j38.1),j38.2.1))
    else
     some (.ok ((q01.mk p1 [] [] j38.2.2),(q07.mk j38.1),j38.2.1))
def M.q28:Nat→q07→Int→Option (Rs (q01 × q07 × Int))
 | 0,_,_=>none
 | fuel+1,p1,p2=>do
  let a1←(M.q21 fuel) p1 p2
  match a1 with
  | .pan e4 =>
   some (.pan e4)
  | .ok a3 =>
   some (.ok (a3.1,a3.2,p2))
end
def M.q1a (fuel:Nat) (p0:List UInt8):Option (q01 × Int):=do
 if (decide (1024<(p0.length:Int))) then
  some ((q01.mk 0 [] [] []),191)
 else
  let a1←M.q25 fuel (q07.mk p0) 0
  match a1 with
  | .pan e4 =>
   some ((q01.mk 0 [] [] []),e4)
  | .ok a3 =>
   let a5←M.q2b a3.2
   let j8←(do
     if (decide (a5.1=[])) then
      some (decide (a5.2.gs=[]))
     else
      some false:Option Bool)
   let a9←M.q1w j8 190
   match a9 with
   | .pan e12 =>
    some ((q01.mk 0 [] [] []),e12)
   | .ok a11 =>
    some (a3.1,0)
def M.q1d (fuel:Nat) (p0:q01):Option ((List UInt8) × Int):=do
 let a3←M.q12 fuel p0
 if (!decide (a3=0)) then
  some ([],a3)
 else
  let a5←M.q2f fuel p0
  if (decide (1024<(a5.1.length:Int))) then
   some ([],191)
  else
   some (a5.1,0)
def M.q0g  (p0:q03) (p1:List UInt8):Option (q03 × Bool):=do
 let a1←M.q43 p0.z0m p1
 if (((decide (p0.zc=6))&&(decide (0≤a1)))&&(decide (a1<(p0.zh.length:Int)))) then
  let x7←ix p0.zh a1
  some (x7,true)
 else
  some ((q03.mk 0 [] [] []),false)
def M.q2c  (p0:q03) (p1:List UInt8):Option ((List UInt8) × Bool):=do
 let a1←M.q0g p0 p1
 some (a1.1.z0q,(a1.2&&(decide (a1.1.zc=4))))
def M.q1c  (p0:q03):Option Bool:=do
 let a1←M.q2c p0 ([111,112]:List UInt8)
 let a3←M.q2c p0 ([112,97,116,104]:List UInt8)
 some ((!a1.2)||(!a3.2))
def M.zo (p0:List q03) (x15:Int):Option (Jn Int Unit):=do
 if (decide (x15<(p0.length:Int))) then
  let x19←ix p0 x15
  let a20←M.q1c x19
  if a20 then
   some (.done x15)
  else
   M.zo p0 (ya .i64 (x15+1))
 else
  some (.go ())
 partial_fixpoint
def M.q3v  (p0:List q03):Option Int:=do
 let q11←(do
   M.zo p0 0:Option (Jn Int Unit))
 match q11 with
 | .done r=>some r
 | .go j11 =>
  some (-1)
def M.q3i  (p0:List q03):Option Bool:=do
 let a1←M.q3v p0
 some (decide (0≤a1))
def M.q1y  : Option (List (List UInt8)):=do
 some [([97,100,100]:List UInt8),([114,101,109,111,118,101]:List UInt8),([114,101,112,108,97,99,101]:List UInt8)]
def M.q0c  (p0 p1:List UInt8):Option ((List UInt8) × Bool):=do
 let a3←M.q0e p0 p1
 if (!a3) then
  some (p0,false)
 else
  let s5←sub p0 0 (ya .i64 ((p0.length:Int) - (p1.length:Int)))
  some (s5,true)
def M.q4c  (p0 p1:List UInt8):Option ((List UInt8) × Bool):=do
 let a1←M.q0c p0 p1
 some (a1.1,a1.2)
def M.z1g (p0:q03) (x13:List (List UInt8)) (x14:Int):Option (Jn ((List (List UInt8)) × Bool) (List (List UInt8))):=do
 if (decide (x14<(p0.zh.length:Int))) then
  let x17←ix p0.zh x14
  if (!decide (x17.zc=4)) then
   some (.done ([],false))
  else
   let l18←app 16 x13 [x17.z0q]
   M.z1g p0 l18 (ya .i64 (x14+1))
 else
  some (.go x13)
 partial_fixpoint
def M.q0j  (p0:q03):Option ((List (List UInt8)) × Bool):=do
 if (!decide (p0.zc=5)) then
  some ([],false)
 else
  let q10←(do
    M.z1g p0 [] 0:Option (Jn ((List (List UInt8)) × Bool) (List (List UInt8))))
  match q10 with
  | .done r=>some r
  | .go j10 =>
   some (j10,true)
def M.q20 (fuel:Nat) (p0:q03):Option (q00 × Int):=do
 let a1←M.q2c p0 ([111,112]:List UInt8)
 let a3←M.q2c p0 ([112,97,116,104]:List UInt8)
 let a5←M.q1y
 let a7←M.q43 a5 a1.1
 let a9←M.cut a3.1 ([91]:List UInt8)
 let a11←M.q4c a9.2.1 ([93]:List UInt8)
 let j25←(do
   if (decide (a7<0)) then
    some true
   else
    let a26←M.q1x a9.1
    some (!a26):Option Bool)
 if (j25||(a9.2.2&&(!a11.2))) then
  some ((q00.mk a7 a9.1 a9.2.2 (q01.mk 0 [] [] []) []),190)
 else
  let q39←(do
    if a9.2.2 then
     let a40←M.q1a fuel a11.1
     if (!decide (a40.2=0)) then
      some (.done ((q00.mk a7 a9.1 a9.2.2 a40.1 []),a40.2))
     else
      some (.go (a40.1.zc,a40.1.zg,a40.1.z07,a40.1.zh))
    else
     some (.go (0,[],[],[])):Option (Jn (q00 × Int) (Int × (List UInt8) × (List UInt8) × (List q01))))
  match q39 with
  | .done r=>some r
  | .go j39 =>
   let a42←M.q0g p0 ([118,97,108,117,101]:List UInt8)
   if (a42.2==(decide (a7=1))) then
    some ((q00.mk a7 a9.1 a9.2.2 (q01.mk j39.1 j39.2.1 j39.2.2.1 j39.2.2.2) []),190)
   else
    let q49←(do
      if (decide (a42.1.zc=4)) then
       some (.go [a42.1.z0q])
      else
       if a42.2 then
        let a50←M.q0j a42.1
        if (!a50.2) then
         some (.done ((q00.mk a7 a9.1 a9.2.2 (q01.mk j39.1 j39.2.1 j39.2.2.1 j39.2.2.2) a50.1),190))
        else
         some (.go a50.1)
       else
        some (.go []):Option (Jn (q00 × Int) (List (List UInt8))))
    match q49 with
    | .done r=>some r
    | .go j49 =>
     let a52←M.q1o fuel (q00.mk a7 a9.1 a9.2.2 (q01.mk j39.1 j39.2.1 j39.2.2.1 j39.2.2.2) j49)
     if (!a52) then
      some ((q00.mk a7 a9.1 a9.2.2 (q01.mk j39.1 j39.2.1 j39.2.2.1 j39.2.2.2) j49),194)
     else
      some ((q00.mk a7 a9.1 a9.2.2 (q01.mk j39.1 j39.2.1 j39.2.2.1 j39.2.2.2) j49),0)
def M.z0l (a3:q03 × Bool) (fuel:Nat) (x45:List q00) (x46:Int):Option (Jn ((List q00) × Int) (List q00)):=do
 if (decide (x46<(a3.1.zh.length:Int))) then
  let x51←ix a3.1.zh x46
  let a52←M.q20 fuel x51
  if (!decide (a52.2=0)) then
   some (.done ([],a52.2))
  else
   let l54←app 120 x45 [(q00.mk a52.1.zc a52.1.zg a52.1.z0i (q01.mk a52.1.z00.zc a52.1.z00.zg a52.1.z00.z07 a52.1.z00.zh) a52.1.zf)]
   M.z0l a3 fuel l54 (ya .i64 (x46+1))
 else
  some (.go x45)
 partial_fixpoint
def M.q1b (fuel:Nat) (p0:List UInt8):Option ((List q00) × Int):=do
 let a1←M.q0h fuel p0
 let a3←M.q0g a1.1 ([79,112,101,114,97,116,105,111,110,115]:List UInt8)
 let j22←(do
   if (((!decide (a1.2=0))||(!a3.2))||(!decide (a3.1.zc=5))) then
    some true
   else
    let a23←M.q3i a3.1.zh
    some a23:Option Bool)
 if j22 then
  some ([],190)
 else
  if (decide (16<(a3.1.zh.length:Int))) then
   some ([],191)
  else
   let q40←(do
     M.z0l a3 fuel [] 0:Option (Jn ((List q00) × Int) (List q00)))
   match q40 with
   | .done r=>some r
   | .go j40 =>
    some (j40,0)
def M.q18 (fuel:Nat) (p0:q01) (p1:q04):Option Bool:=do
 let a1←M.q12 fuel p0
 let j6←(do
   if (decide (a1=0)) then
    let a7←M.q1r fuel p0 p1
    some a7
   else
    some false:Option Bool)
 some j6
def M.q0y (fuel:Nat):Option Bool:=do
 let a1←M.q1a fuel ([97,32,101,113,32,34,120,34,97,110,100,40,32,98,32,112,114,32,111,114,40,110,111,116,40,99,32,99,111,32,34,92,117,48,48,101,57,34,41,41,32,41]:List UInt8)
 let a3←M.q1d fuel a1.1
 let a5←M.q1a fuel ([97]:List UInt8)
 let a7←M.q1b fuel ([123,34,79,112,101,114,97,116,105,111,110,115,34,58,91,123,34,111,112,34,58,34,97,100,100,34,44,34,112,97,116,104,34,58,34,97,34,44,34,118,97,108,117,101,34,58,91,34,122,34,93,125,93,125]:List UInt8)
 let a9←M.q0z fuel a7.1 (q04.mk ([55]:List UInt8) [] [] [(q02.mk ([97]:List UInt8) [([120]:List UInt8),([121]:List UInt8)])])
 let a11←M.q0z fuel [(q00.mk 1 ([97]:List UInt8) true (q01.mk 3 ([118,97,108,117,101]:List UInt8) [] []) []),(q00.mk 1 ([97]:List UInt8) true (q01.mk 3 ([118,97,108,117,101]:List UInt8) [] []) [])] (q04.mk ([55]:List UInt8) [] [] [(q02.mk ([97]:List UInt8) [([120]:List UInt8),([121]:List UInt8)])])
 let j22←(do
   if ((((decide (a1.2=0))&&(decide (a3.1=[97,32,101,113,32,34,120,34,32,97,110,100,32,40,98,32,112,114,32,111,114,32,110,111,116,32,40,99,32,99,111,32,34,195,169,34,41,41])))&&(decide (a3.2=0)))&&(decide (a5.2=190))) then
    let a23←M.q18 fuel (q01.mk 4 ([97]:List UInt8) ([121]:List UInt8) []) (q04.mk ([55]:List UInt8) [] [] [(q02.mk ([97]:List UInt8) [([120]:List UInt8),([121]:List UInt8)])])
    some a23
   else
    some false:Option Bool)
 let j34←(do
   if (((j22&&(decide (a7.2=0)))&&(decide (a9.2=0)))&&(decide ((a9.1.za.length:Int)=1))) then
    let x35←ix a9.1.za 0
    let x36←ix a9.1.za 0
    some (decide ((x36.zf.length:Int)=3))
   else
    some false:Option Bool)
 let j42←(do
   if (j34&&(decide (a11.2=192))) then
    let a43←M.q17 (q04.mk ([55]:List UInt8) [] [] [(q02.mk ([97]:List UInt8) [([120]:List UInt8),([121]:List UInt8)])])
    some (decide (a43=0))
   else
    some false:Option Bool)
 some (((((((((j42&&true)&&true)&&true)&&true)&&true)&&true)&&true)&&true)&&true)
def M.z15 (p0:List (List UInt8)) (p1:List (List UInt8)) (x11:Int):Option (Jn Bool Unit):=do
 if (decide (x11<(p0.length:Int))) then
  let x14←ix p0 x11
  let x15←ix p1 x11
  if (!decide (x14=x15)) then
   some (.done false)
  else
   M.z15 p0 p1 (ya .i64 (x11+1))
 else
  some (.go ())
 partial_fixpoint
def M.q2i  (p0 p1:List (List UInt8)):Option Bool:=do
 if (!decide ((p0.length:Int)=(p1.length:Int))) then
  some false
 else
  let q8←(do
    M.z15 p0 p1 0:Option (Jn Bool Unit))
  match q8 with
  | .done r=>some r
  | .go j8 =>
   some true
def M.z0f (p0:q04) (p1:q04) (x63:Int):Option (Jn Bool Unit):=do
 if (decide (x63<(p0.za.length:Int))) then
  let x76←ix p0.za x63
  let x77←ix p1.za x63
  let j83←(do
    if (!decide (x76.zg=x77.zg)) then
     some true
    else
     let x84←ix p0.za x63
     let x85←ix p1.za x63
     let a86←M.q2i x84.zf x85.zf
     some (!a86):Option Bool)
  if j83 then
   some (.done false)
  else
   M.z0f p0 p1 (ya .i64 (x63+1))
 else
  some (.go ())
 partial_fixpoint
def M.q2p  (p0 p1:q04):Option Bool:=do
 if ((((!decide (p0.gId=p1.gId))||(!decide (p0.zc=p1.zc)))||(!decide (p0.z2c=p1.z2c)))||(!decide ((p0.za.length:Int)=(p1.za.length:Int)))) then
  some false
 else
  let q50←(do
    M.z0f p0 p1 0:Option (Jn Bool Unit))
  match q50 with
  | .done r=>some r
  | .go j50 =>
   some true
end Go.Sen
