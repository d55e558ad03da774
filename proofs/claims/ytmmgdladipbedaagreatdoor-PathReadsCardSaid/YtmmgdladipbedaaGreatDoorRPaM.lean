import Derived.Test.YtmmgdladipbedaaGreatDoorRPeW
import Derived.Lib.ValidLaws
import Derived.Lib.SlTrimSet
import Derived.Lib.Bytealg
import Derived.Lib.SlicesCompact
import Derived.Lib.IndexMore
import Derived.Lib.Join
set_option linter.all false
namespace Go.Sen
open IntKind renaming wrap → ya
open Go.Lk Go.Pe
structure q01 where
 zc:Int
 zk:List UInt8
 z06:List UInt8
 ze:List q01
mutual
def q01.enc:q01→List D
 | ⟨a0,a1,a2,a3⟩=>[D.int .i64 a0,D.str a1,D.str a2,D.sl 24 4 (q01.z2n a3)]
def q01.z2n:List q01→List (List D)
 | []=>[]
 | x::xs=>x.enc::q01.z2n xs
end
theorem q01.z02:∀ l:List q01,q01.z2n l=l.map q01.enc
 | []=>rfl
 | x::xs=>by simp [q01.z2n,q01.z02 xs]
theorem q01.z11:∀ x:q01,q01.enc x=[D.int .i64 x.zc,D.str x.zk,D.str x.z06,D.sl 24 4 (q01.z2n x.ze)]
 | ⟨a0,a1,a2,a3⟩=>by first|rfl|simp [q01.enc]
@[reducible] def q01.v (x:q01):List PV:=[.int .i64 x.zc,.str x.zk,.str x.z06,.sl 24 4 (q01.z2n x.ze)]
@[reducible] def q01.d (x:q01):List D:=[.int .i64 x.zc,.str x.zk,.str x.z06,.sl 24 4 (q01.z2n x.ze)]
structure q02 where
 zk:List UInt8
 zq:List (List UInt8)
def q02.enc:q02→List D
 | ⟨a0,a1⟩=>[D.str a0,D.sl 9 1 (a1.map eS)]
theorem q02.z11:∀ x:q02,q02.enc x=[D.str x.zk,D.sl 9 1 (x.zq.map eS)]
 | ⟨a0,a1⟩=>by first|rfl|simp [q02.enc]
@[reducible] def q02.v (x:q02):List PV:=[.str x.zk,.sl 9 1 (x.zq.map eS)]
structure q04 where
 gId:List UInt8
 zc:List UInt8
 z7b:List UInt8
 zj:List q02
def q04.enc:q04→List D
 | ⟨a0,a1,a2,a3⟩=>[D.str a0,D.str a1,D.str a2,D.sl 48 2 (a3.map q02.enc)]
theorem q04.z11:∀ x:q04,q04.enc x=[D.str x.gId,D.str x.zc,D.str x.z7b,D.sl 48 2 (x.zj.map q02.enc)]
 | ⟨a0,a1,a2,a3⟩=>by first|rfl|simp [q04.enc]
@[reducible] def q04.v (x:q04):List PV:=[.str x.gId,.str x.zc,.str x.z7b,.sl 48 2 (x.zj.map q02.enc)]
@[reducible] def q04.d (x:q04):List D:=[.str x.gId,.str x.zc,.str x.z7b,.sl 48 2 (x.zj.map q02.enc)]
structure q00 where
 zc:Int
 zk:List UInt8
 z3b:Bool
 z09:q01
 zq:List (List UInt8)
def q00.enc:q00→List D
 | ⟨a0,a1,a2,a3,a4⟩=>[D.int .i64 a0,D.str a1,D.bool a2]++q01.enc a3++[D.sl 9 1 (a4.map eS)]
theorem q00.z11:∀ x:q00,q00.enc x=[D.int .i64 x.zc,D.str x.zk,D.bool x.z3b,D.int .i64 x.z09.zc,D.str x.z09.zk,D.str x.z09.z06,D.sl 24 4 (q01.z2n x.z09.ze),D.sl 9 1 (x.zq.map eS)]
 | ⟨a0,a1,a2,⟨a3,a4,a5,a6⟩,a7⟩=>by first|rfl|simp [q00.enc,q01.enc]
@[reducible] def q00.v (x:q00):List PV:=[.int .i64 x.zc,.str x.zk,.bool x.z3b,.int .i64 x.z09.zc,.str x.z09.zk,.str x.z09.z06,.sl 24 4 (q01.z2n x.z09.ze),.sl 9 1 (x.zq.map eS)]
@[reducible] def q00.d (x:q00):List D:=[.int .i64 x.zc,.str x.zk,.bool x.z3b,.int .i64 x.z09.zc,.str x.z09.zk,.str x.z09.z06,.sl 24 4 (q01.z2n x.z09.ze),.sl 9 1 (x.zq.map eS)]
structure q07 where
 gs:List UInt8
structure q03 where
 zc:Int
 z0r:List UInt8
 ze:List q03
 z0m:List (List UInt8)
mutual
def q03.enc:q03→List D
 | ⟨a0,a1,a2,a3⟩=>[D.int .i64 a0,D.str a1,D.sl 91 4 (q03.z2n a2),D.sl 9 1 (a3.map eS)]
def q03.z2n:List q03→List (List D)
 | []=>[]
 | x::xs=>x.enc::q03.z2n xs
end
theorem q03.z02:∀ l:List q03,q03.z2n l=l.map q03.enc
 | []=>rfl
 | x::xs=>by simp [q03.z2n,q03.z02 xs]
theorem q03.z11:∀ x:q03,q03.enc x=[D.int .i64 x.zc,D.str x.z0r,D.sl 91 4 (q03.z2n x.ze),D.sl 9 1 (x.z0m.map eS)]
 | ⟨a0,a1,a2,a3⟩=>by first|rfl|simp [q03.enc]
@[reducible] def q03.v (x:q03):List PV:=[.int .i64 x.zc,.str x.z0r,.sl 91 4 (q03.z2n x.ze),.sl 9 1 (x.z0m.map eS)]
@[reducible] def q03.d (x:q03):List D:=[.int .i64 x.zc,.str x.z0r,.sl 91 4 (q03.z2n x.ze),.sl 9 1 (x.z0m.map eS)]
structure q09 where
 gs:List UInt8
 gi:Int
 ge:Int
@[reducible] def q09.v (x:q09):List PV:=[.str x.gs,.int .i64 x.gi,.int .i64 x.ge]
structure q06 where
 z4f:List UInt8
 zlo:Nat
def q06.enc:q06→List D
 | ⟨a0,a1⟩=>[D.str a0,dfn a1]
theorem q06.z11:∀ x:q06,q06.enc x=[D.str x.z4f,dfn x.zlo]
 | ⟨a0,a1⟩=>by first|rfl|simp [q06.enc]
@[reducible] def q06.v (x:q06):List PV:=[.str x.z4f,.fn x.zlo [] []]
structure q05 where
 gs:List UInt8
structure q08 where
 gs:List UInt8
 gi:Int
 ge:Int
@[reducible] def q08.v (x:q08):List PV:=[.str x.gs,.int .i64 x.gi,.int .i64 x.ge]
structure q0a where
 glo:Int
 ghi:Int
def q0a.enc:q0a→List D
 | ⟨a0,a1⟩=>[D.int .u8 a0,D.int .u8 a1]
theorem q0a.z11:∀ x:q0a,q0a.enc x=[D.int .u8 x.glo,D.int .u8 x.ghi]
 | ⟨a0,a1⟩=>by first|rfl|simp [q0a.enc]
@[reducible] def q0a.v (x:q0a):List PV:=[.int .u8 x.glo,.int .u8 x.ghi]
@[reducible] def _root_.Go.Pe.PV.l5 (l:List Int):PV:=.sl 5 1 (l.map (eI .u8))
@[reducible] def _root_.Go.Pe.PV.l9 (l:List (List UInt8)):PV:=.sl 9 1 (l.map eS)
@[reducible] def _root_.Go.Pe.PV.l24 (l:List q01):PV:=.sl 24 4 (q01.z2n l)
@[reducible] def _root_.Go.Pe.PV.l48 (l:List q02):PV:=.sl 48 2 (l.map q02.enc)
@[reducible] def _root_.Go.Pe.PV.l51 (l:List q00):PV:=.sl 51 8 (l.map q00.enc)
@[reducible] def _root_.Go.Pe.PV.l91 (l:List q03):PV:=.sl 91 4 (q03.z2n l)
@[reducible] def _root_.Go.Pe.PV.zxc (l:List q06):PV:=.sl 113 2 (l.map q06.enc)
@[reducible] def F.q1u:Nat:=143
@[reducible] def F.strings_Contains:Nat:=144
@[reducible] def F.q60:Nat:=145
@[reducible] def F.q61:Nat:=146
@[reducible] def F.q1v:Nat:=147
@[reducible] def F.q1w:Nat:=148
@[reducible] def F.q1x:Nat:=149
@[reducible] def F.q1y:Nat:=150
def utf8First:List Int:=(List.range 256).map fun c=>(Lib.firstT c:Int)
def z8c:List q0a:=(List.range 16).map fun i=>⟨(Lib.accLo i:Int),(Lib.accHi i:Int)⟩
def M.z1u (p0:List Int):Option Unit:=some ()
def M.z0i (p0:List UInt8):Option Bool:=do
 let _←chk (decide (p0.length≤9223372036854775807))
 some (Lib.validD p0)
def M.z0a (p0:List Int):Option (List UInt8):=do
 let _←chk (decide (unb (byt p0)=p0))
 some (byt p0)
def M.indexByte (p0:List UInt8) (p1:Int):Option Int:=some (Lib.indexByte p0 p1.toNat.toUInt8)
def M.trimLeft (p0 p1:List UInt8):Option (List UInt8):=do
 let _←chk (decide (p1.length<4294967281)&&p1.all fun b=>decide (b.toNat<128))
 some (Lib.trimLeftS p0 p1)
def M.trim (p0 p1:List UInt8):Option (List UInt8):=do
 let _←chk (decide (p0.length≤9223372036854775807)&&(decide (p1.length<4294967281)&&p1.all fun b=>decide (b.toNat<128)))
 some (Lib.trimS p0 p1)
def M.single (p0:List (List UInt8)):Option Bool:=do
 let _←chk (decide (p0.length*16≤140737488355328))
 some (decide (((Lib.compact (p0.mergeSort fun x y=>decide (x≤y))).length:Int)=p0.length))
def M.join (p0:List (List UInt8)) (p1:List UInt8):Option (List UInt8):=do
 let _←chk (decide (p0.length≤140737488355328)&&decide ((Lib.join p0 p1).length≤140737488355328))
 some (Lib.join p0 p1)
def M.cut (p0 p1:List UInt8):Option (List UInt8 × List UInt8 × Bool):=do
 let _←chk (decide (p0.length<4294967281))
 some (Lib.cut p0 p1)
def M.contains (p0 p1:List UInt8):Option Bool:=do
 let _←chk (decide (p0.length<4294967281))
 some (Lib.contains p0 p1)
def M.z16 (p0:List (List UInt8)):Option (List (List UInt8)):=do
 let _←chk (decide (p0.length*16≤140737488355328))
 some p0
def M.q5t (p0:List q02):Option (List q02):=do
 let _←chk (decide (p0.length<4611686018427387904)&&decide (p0.map (·.zk)).Nodup)
 some (p0.mergeSort fun x y=>decide (x.zk≤y.zk))
def M.z01 (p0:List (List UInt8)) (p1:List UInt8) (x7:Int):Option (Jn Int Unit):=do
 if (decide (x7<(p0.length:Int))) then
  let x9←ix p0 x7
  if (decide (p1=x9)) then
   some (.done x7)
  else
   M.z01 p0 p1 (ya .i64 (x7+1))
 else
  some (.go ())
 partial_fixpoint
def M.q5s  (p0:List (List UInt8)) (p1:List UInt8):Option Int:=do
 let q5←(do
   M.z01 p0 p1 0:Option (Jn Int Unit))
 match q5 with
 | .done r=>some r
 | .go j5 =>
  some (-1)
def M.q5c  (p0:List (List UInt8)) (p1:List UInt8):Option Bool:=do
 let a1←M.q5s p0 p1
 some (decide (0≤a1))
def M.q2d  (p0:List UInt8):Option Bool:=do
 let j7←(do
   if ((!decide (p0=[]))&&(decide ((p0.length:Int)≤24))) then
    let c8←ix p0 0
    let a9←M.indexByte ([65,66,67,68,69,70,71,72,73,74,75,76,77,78,79,80,81,82,83,84,85,86,87,88,89,90,97,98,99,100,101,102,103,104,105,106,107,108,109,110,111,112,113,114,115,116,117,118,119,120,121,122]:List UInt8) (c8.toNat:Int)
    some (decide (0≤a9))
   else
    some false:Option Bool)
 let j14←(do
   if j7 then
    let a15←M.trim p0 ([65,66,67,68,69,70,71,72,73,74,75,76,77,78,79,80,81,82,83,84,85,86,87,88,89,90,97,98,99,100,101,102,103,104,105,106,107,108,109,110,111,112,113,114,115,116,117,118,119,120,121,122,48,49,50,51,52,53,54,55,56,57,45,95,46]:List UInt8)
    some (decide (a15=[]))
   else
    some false:Option Bool)
 let j20←(do
   if j14 then
    let a21←M.q5c [([97,110,100]:List UInt8),([111,114]:List UInt8),([110,111,116]:List UInt8)] p0
    some (!a21)
   else
    some false:Option Bool)
 some j20
def M.q2v  (p0:List UInt8):Option Bool:=do
 let j4←(do
   if (decide ((p0.length:Int)≤128)) then
    let a5←M.z0i p0
    some a5
   else
    some false:Option Bool)
 some j4
def M.zu (p0:List q01) (self_q23:q01→Option Bool) (x15:Int):Option (Jn Int Unit):=do
 if (decide (x15<(p0.length:Int))) then
  let x19←ix p0 x15
  let a20←self_q23 x19
  if a20 then
   some (.done x15)
  else
   M.zu p0 self_q23 (ya .i64 (x15+1))
 else
  some (.go ())
 partial_fixpoint
mutual
def M.q22:Nat→q01→Option Bool
 | 0,_=>none
 | fuel+1,p0=>do
  let q37←(do
    if ((decide (p0.zc<0))||(decide (13≤p0.zc))) then
     some (.done false)
    else
     if (decide (2<p0.zc)) then
      let j43←(do
        if (decide ((p0.ze.length:Int)=0)) then
         let a44←M.q2d p0.zk
         some a44
        else
         some false:Option Bool)
      let j49←(do
        if j43 then
         let a50←M.q2v p0.z06
         some a50
        else
         some false:Option Bool)
      some (.done (j49&&((!decide (p0.zc=3))||(decide (p0.z06=[])))))
     else
      if (decide (p0.zc=2)) then
       some (.go (1,1))
      else
       some (.go (2,(p0.ze.length:Int))):Option (Jn Bool (Int × Int)))
  match q37 with
  | .done r=>some r
  | .go j37 =>
   let s55←cat p0.zk p0.z06
   if (((!decide (s55=[]))||(decide ((p0.ze.length:Int)<j37.1)))||(decide (j37.2<(p0.ze.length:Int)))) then
    some false
   else
    let a60←(M.q50 fuel) p0.ze
    some (!a60)
def M.q23:Nat→q01→Option Bool
 | 0,_=>none
 | fuel+1,p0=>do
  let a1←(M.q22 fuel) p0
  some (!a1)
def M.q50:Nat→(List q01)→Option Bool
 | 0,_=>none
 | fuel+1,p0=>do
  let a1←(M.q5g fuel) p0
  some (decide (0≤a1))
def M.q5g:Nat→(List q01)→Option Int
 | 0,_=>none
 | fuel+1,p0=>do
  let q11←(do
    M.zu p0 (M.q23 fuel) 0:Option (Jn Int Unit))
  match q11 with
  | .done r=>some r
  | .go j11 =>
   some (-1)
end
def M.q0r  (p0:Bool) (p1:Int):Option (Rs Unit):=do
 if (!p0) then
  some (.pan p1)
 else
  some (.ok ())
def M.q0o  (p0:List UInt8):Option Bool:=do
 let a1←M.z0i p0
 some (!a1)
def M.zo (p0:List (List UInt8)) (x15:Int):Option (Jn Int Unit):=do
 if (decide (x15<(p0.length:Int))) then
  let x19←ix p0 x15
  let a20←M.q0o x19
  if a20 then
   some (.done x15)
  else
   M.zo p0 (ya .i64 (x15+1))
 else
  some (.go ())
 partial_fixpoint
def M.q5n  (p0:List (List UInt8)):Option Int:=do
 let q11←(do
   M.zo p0 0:Option (Jn Int Unit))
 match q11 with
 | .done r=>some r
 | .go j11 =>
  some (-1)
def M.q58  (p0:List (List UInt8)):Option Bool:=do
 let a1←M.q5n p0
 some (decide (0≤a1))
def M.q0g  (p0 p1:List UInt8):Option Bool:=do
 let j3←(do
   if (decide ((p1.length:Int)≤(p0.length:Int))) then
    let s4←sub p0 0 (p1.length:Int)
    some (decide (s4=p1))
   else
    some false:Option Bool)
 some j3
def M.q60  (p0 p1:List UInt8):Option Bool:=do
 let a1←M.q0g p0 p1
 some a1
def M.q0p  (p0:List UInt8):Option Int:=do
 let a1←M.trimLeft p0 ([48,49,50,51,52,53,54,55,56,57]:List UInt8)
 some (ya .i64 ((p0.length:Int) - (a1.length:Int)))
def M.q0s  (p0:List UInt8):Option Int:=do
 let j6←(do
   let a7←M.q60 p0 ([45]:List UInt8)
   if a7 then
    some 1
   else
    some 0:Option Int)
 let s9←sub p0 j6 (p0.length:Int)
 let a10←M.q0p s9
 if (decide (a10=0)) then
  some 0
 else
  let j15←(do
    let c16←ix p0 j6
    if (decide ((c16.toNat:Int)=48)) then
     some 1
    else
     some a10:Option Int)
  let j30←(do
    let s31←sub p0 (ya .i64 (j6+j15)) (p0.length:Int)
    let a32←M.q60 s31 ([46]:List UInt8)
    if a32 then
     let s34←sub p0 (ya .i64 ((ya .i64 (j6+j15))+1)) (p0.length:Int)
     let a35←M.q0p s34
     if (decide (0<a35)) then
      some (ya .i64 ((ya .i64 (j6+j15))+(ya .i64 (1+a35))))
     else
      some (ya .i64 (j6+j15))
    else
     some (ya .i64 (j6+j15)):Option Int)
  let j40←(do
    if (decide (j30<(p0.length:Int))) then
     let c41←ix p0 j30
     if (decide ((c41.toNat:Int)=101)) then
      some true
     else
      let c42←ix p0 j30
      some (decide ((c42.toNat:Int)=69))
    else
     some false:Option Bool)
  if j40 then
   let j56←(do
     let j60←(do
       if (decide ((ya .i64 (j30+1))<(p0.length:Int))) then
        let c61←ix p0 (ya .i64 (j30+1))
        if (decide ((c61.toNat:Int)=43)) then
         some true
        else
         let c62←ix p0 (ya .i64 (j30+1))
         some (decide ((c62.toNat:Int)=45))
       else
        some false:Option Bool)
     if j60 then
      some (ya .i64 ((ya .i64 (j30+1))+1))
     else
      some (ya .i64 (j30+1)):Option Int)
   let s63←sub p0 j56 (p0.length:Int)
   let a64←M.q0p s63
   if (decide (0<a64)) then
    some (ya .i64 (j56+a64))
   else
    some j30
  else
   some j30
def M.z18 (p0:q03) (self_q0n:q03→Int→Option (Rs Unit)) (p1:Int) (x108:Int):Option (Rs Unit):=do
 if (decide (x108<(p0.ze.length:Int))) then
  let x114←ix p0.ze x108
  let a115←self_q0n x114 (ya .i64 (p1+1))
  match a115 with
  | .pan e118 =>
   some (.pan e118)
  | .ok a117 =>
   M.z18 p0 self_q0n p1 (ya .i64 (x108+1))
 else
  some (.ok ())
 partial_fixpoint
def M.q0n:Nat→q03→Int→Option (Rs Unit)
 | 0,_,_=>none
 | fuel+1,p0,p1=>do
  let a5←M.q0r ((!((decide (p0.zc=5))||(decide (p0.zc=6))))||(decide (p1<16))) 21
  match a5 with
  | .pan e8 =>
   some (.pan e8)
  | .ok a7 =>
   let a11←M.q0r ((decide (0≤p0.zc))&&(decide (p0.zc<7))) 23
   match a11 with
   | .pan e14 =>
    some (.pan e14)
   | .ok a13 =>
    let a17←M.q0r (((decide (p0.zc=5))||(decide (p0.zc=6)))||(decide ((p0.ze.length:Int)=0))) 23
    match a17 with
    | .pan e20 =>
     some (.pan e20)
    | .ok a19 =>
     let a26←M.q0r (((decide (p0.zc=6))&&(decide ((p0.z0m.length:Int)=(p0.ze.length:Int))))||((decide ((p0.z0m.length:Int)=0))&&(!decide (p0.zc=6)))) 23
     match a26 with
     | .pan e29 =>
      some (.pan e29)
     | .ok a28 =>
      let a30←M.q58 p0.z0m
      let j35←(do
        if (!a30) then
         let a36←M.single p0.z0m
         some a36
        else
         some false:Option Bool)
      let a38←M.q0r j35 23
      match a38 with
      | .pan e41 =>
       some (.pan e41)
      | .ok a40 =>
       let q82←(do
         if (decide (p0.zc=3)) then
          let j86←(do
            if (!decide (p0.z0r=[])) then
             let a87←M.q0s p0.z0r
             some (decide (a87=(p0.z0r.length:Int)))
            else
             some false:Option Bool)
          let a89←M.q0r j86 23
          match a89 with
          | .pan e92 =>
           some (.done (.pan e92))
          | .ok a91 =>
           some (.go ())
         else
          if (decide (p0.zc=4)) then
           let a93←M.z0i p0.z0r
           let a95←M.q0r a93 23
           match a95 with
           | .pan e98 =>
            some (.done (.pan e98))
           | .ok a97 =>
            some (.go ())
          else
           let a99←M.q0r (decide (p0.z0r=[])) 23
           match a99 with
           | .pan e102 =>
            some (.done (.pan e102))
           | .ok a101 =>
            some (.go ()):Option (Jn (Rs Unit) Unit))
       match q82 with
       | .done r=>some r
       | .go j82 =>
        M.z18 p0 (M.q0n fuel) p1 0
def M.q0i (fuel:Nat) (p0:q03):Option Int:=do
 let a1←M.q0n fuel p0 0
 match a1 with
 | .pan e4 =>
  some e4
 | .ok a3 =>
  some 0
def M.q5x  (p0:List Int) (p1:List UInt8):Option (Int × (List Int)):=do
 let a1←M.z1u p0
 let l3←app 1 p0 (unb p1)
 some ((p1.length:Int),l3)
def M.q5w  (p0:List Int) (p1:Int):Option (List Int):=do
 let a1←M.z1u p0
 let l3←app 1 p0 [p1]
 some l3
def M.z0y (p1:List UInt8) (x67:Int) (x68:List Int):Option (List Int):=do
 if (decide (x67<((unb p1).length:Int))) then
  let x84←ix (unb p1) x67
  let a85←M.indexByte ([34,92,8,9,10,12,13]:List UInt8) x84
  if (decide (0≤a85)) then
   let s87←sub ([34,92,98,116,110,102,114]:List UInt8) a85 (ya .i64 (a85+1))
   let s88←cat ([92]:List UInt8) s87
   let a89←M.q5x x68 s88
   M.z0y p1 (ya .i64 (x67+1)) a89.2
  else
   if (decide (x84<32)) then
    let s91←sub ([48,49]:List UInt8) (zma .u8 x84 4) (ya .u8 ((zma .u8 x84 4)+1))
    let s92←cat ([92,117,48,48]:List UInt8) s91
    let s93←sub ([48,49,50,51,52,53,54,55,56,57,97,98,99,100,101,102]:List UInt8) (zd0 .u8 x84 15) (ya .u8 ((zd0 .u8 x84 15)+1))
    let s94←cat s92 s93
    let a95←M.q5x x68 s94
    M.z0y p1 (ya .i64 (x67+1)) a95.2
   else
    let a97←M.q5w x68 x84
    M.z0y p1 (ya .i64 (x67+1)) a97
 else
  some x68
 partial_fixpoint
def M.q0t  (p0:List Int) (p1:List UInt8):Option (List Int):=do
 let a1←M.q5w p0 34
 let j51←(do
   let _←chk (decide (p1.length≤9223372036854775807))
   M.z0y p1 0 a1:Option (List Int))
 let a99←M.q5w j51 34
 some a99
def M.z1g (p1:q03) (self_q0q:(List Int)→q03→Option (List Int)) (x92:Int) (x93:List Int):Option (List Int):=do
 if (decide (x92<(p1.ze.length:Int))) then
  let x112←ix p1.ze x92
  let j118←(do
    if (decide (0<x92)) then
     let a119←M.q5w x93 44
     some a119
    else
     some x93:Option (List Int))
  if (decide (p1.zc=6)) then
   let x121←ix p1.z0m x92
   let a122←M.q0t j118 x121
   let a124←M.q5w a122 58
   let a126←self_q0q a124 x112
   M.z1g p1 self_q0q (ya .i64 (x92+1)) a126
  else
   let a128←self_q0q j118 x112
   M.z1g p1 self_q0q (ya .i64 (x92+1)) a128
 else
  some x93
 partial_fixpoint
def M.q0q:Nat→(List Int)→q03→Option (List Int)
 | 0,_,_=>none
 | fuel+1,p0,p1=>do
  if (decide (p1.zc=0)) then
   let a1←M.q5x p0 ([110,117,108,108]:List UInt8)
   some a1.2
  else
   if (decide (p1.zc=1)) then
    let a3←M.q5x p0 ([102,97,108,115,101]:List UInt8)
    some a3.2
   else
    if (decide (p1.zc=2)) then
     let a5←M.q5x p0 ([116,114,117,101]:List UInt8)
     some a5.2
    else
     if (decide (p1.zc=3)) then
      let a7←M.q5x p0 p1.z0r
      some a7.2
     else
      if (decide (p1.zc=4)) then
       let a9←M.q0t p0 p1.z0r
       some a9
      else
       let j12←(do
         if (decide (p1.zc=6)) then
          some ([123,125]:List UInt8)
         else
          some ([91,93]:List UInt8):Option (List UInt8))
       let c13←ix j12 0
       let a14←M.q5w p0 (c13.toNat:Int)
       let j73←(do
         M.z1g p1 (M.q0q fuel) 0 a14:Option (List Int))
       let c130←ix j12 1
       let a131←M.q5w j73 (c130.toNat:Int)
       some a131
def M.q5v  (p0:List Int):Option Int:=do
 some (p0.length:Int)
def M.q0l (fuel:Nat) (p0:q03):Option ((List UInt8) × Int):=do
 let a3←M.q0i fuel p0
 if (!decide (a3=0)) then
  some ([],a3)
 else
  let a5←M.q0q fuel ([]:List Int) p0
  let a7←M.q5v a5
  if (decide (16384<a7)) then
   some ([],22)
  else
   let a9←M.z0a a5
   some (a9,0)
def M.q1t  : Option (List q06):=do
 some [(q06.mk ([101,113]:List UInt8) F.q1u),(q06.mk ([110,101]:List UInt8) F.q1u),(q06.mk ([99,111]:List UInt8) F.strings_Contains),(q06.mk ([115,119]:List UInt8) F.q60),(q06.mk ([101,119]:List UInt8) F.q61),(q06.mk ([103,116]:List UInt8) F.q1v),(q06.mk ([103,101]:List UInt8) F.q1w),(q06.mk ([108,116]:List UInt8) F.q1x),(q06.mk ([108,101]:List UInt8) F.q1y)]
def M.z1w (p0:q01) (self_q2w:q01→Option ((List UInt8) × Int)) (x139:List (List UInt8)) (x140:Int) (x141:Int):Option ((List (List UInt8)) × Int):=do
 if (decide (x141<(p0.ze.length:Int))) then
  let x170←ix p0.ze x141
  let a171←self_q2w x170
  let j189←(do
    if (((decide (p0.zc=2))||(decide (x170.zc=1)))||((decide (x170.zc=0))&&(decide (p0.zc=0)))) then
     let s195←cat ([40]:List UInt8) a171.1
     let s196←cat s195 ([41]:List UInt8)
     some (s196,(ya .i64 (a171.2+1)))
    else
     some (a171.1,a171.2):Option ((List UInt8) × Int))
  let l197←app 16 x139 [j189.1]
  M.z1w p0 self_q2w l197 (zo7 x140 j189.2) (ya .i64 (x141+1))
 else
  some (x139,x140)
 partial_fixpoint
def M.q2w:Nat→q01→Option ((List UInt8) × Int)
 | 0,_=>none
 | fuel+1,p0=>do
  if (decide (p0.zc=3)) then
   let s11←cat p0.zk ([32,112,114]:List UInt8)
   some (s11,0)
  else
   if (decide (3<p0.zc)) then
    let a12←M.q0l fuel (q03.mk 4 p0.z06 [] [])
    let s14←cat p0.zk ([32]:List UInt8)
    let a15←M.q1t
    let x17←ix a15 (ya .i64 (p0.zc - 4))
    let s18←cat s14 x17.z4f
    let s19←cat s18 ([32]:List UInt8)
    let s20←cat s19 a12.1
    some (s20,0)
   else
    let j110←(do
      M.z1w p0 (M.q2w fuel) [] 0 0:Option ((List (List UInt8)) × Int))
    if (decide (p0.zc=2)) then
     let x201←ix j110.1 0
     let x202←ix j110.1 0
     let s203←cat ([110,111,116,32]:List UInt8) x202
     some (s203,j110.2)
    else
     let x204←ix [([32,97,110,100,32]:List UInt8),([32,111,114,32]:List UInt8)] p0.zc
     let a205←M.join j110.1 x204
     some (a205,j110.2)
def M.q1f (fuel:Nat) (p0:q01):Option Int:=do
 let a3←M.q22 fuel p0
 if (!a3) then
  some 194
 else
  let a5←M.q2w fuel p0
  if (decide (16<a5.2)) then
   some 193
  else
   some 0
def M.q1p (fuel:Nat) (p0:q01):Option ((List UInt8) × Int):=do
 let a3←M.q1f fuel p0
 if (!decide (a3=0)) then
  some ([],a3)
 else
  let a5←M.q2w fuel p0
  if (decide (1024<(a5.1.length:Int))) then
   some ([],191)
  else
   some (a5.1,0)
def M.q4f  (p0:Int):Option Bool:=do
 some (((((((decide (65≤p0))&&(decide (p0≤90)))||((decide (97≤p0))&&(decide (p0≤122))))||((decide (48≤p0))&&(decide (p0≤57))))||(decide (p0=45)))||(decide (p0=95)))||(decide (p0=46)))
def M.z2w (p0:List UInt8) (x59:Int):Option (Jn Bool Unit):=do
 if (decide (x59<(p0.length:Int))) then
  let c63←ix p0 x59
  let a64←M.q4f (c63.toNat:Int)
  if (!a64) then
   some (.done false)
  else
   M.z2w p0 (ya .i64 (x59+1))
 else
  some (.go ())
 partial_fixpoint
def M.q3t  (p0:List UInt8):Option Bool:=do
 let j38←(do
   if (((((decide (p0=[]))||(decide (24<(p0.length:Int))))||(decide (p0=[97,110,100])))||(decide (p0=[111,114])))||(decide (p0=[110,111,116]))) then
    some true
   else
    let c39←ix p0 0
    if (decide (65≤(c39.toNat:Int))) then
     let c40←ix p0 0
     if (decide ((c40.toNat:Int)≤90)) then
      some (!true)
     else
      let c41←ix p0 0
      if (decide (97≤(c41.toNat:Int))) then
       let c42←ix p0 0
       some (!(decide ((c42.toNat:Int)≤122)))
      else
       some (!false)
    else
     let c43←ix p0 0
     if (decide (97≤(c43.toNat:Int))) then
      let c44←ix p0 0
      some (!(decide ((c44.toNat:Int)≤122)))
     else
      some (!false):Option Bool)
 if j38 then
  some false
 else
  let q55←(do
    M.z2w p0 0:Option (Jn Bool Unit))
  match q55 with
  | .done r=>some r
  | .go j55 =>
   some true
def M.q4s  (p0:List UInt8):Option Bool:=do
 let j4←(do
   if (decide ((p0.length:Int)≤128)) then
    let a5←M.z0i p0
    some a5
   else
    some false:Option Bool)
 some j4
def M.z2x (p0:q01) (self_q4d:q01→Option Bool) (x97:Int):Option (Jn Bool Unit):=do
 if (decide (x97<(p0.ze.length:Int))) then
  let x101←ix p0.ze x97
  let a102←self_q4d x101
  if (!a102) then
   some (.done false)
  else
   M.z2x p0 self_q4d (ya .i64 (x97+1))
 else
  some (.go ())
 partial_fixpoint
def M.q4d:Nat→q01→Option Bool
 | 0,_=>none
 | fuel+1,p0=>do
  let q55←(do
    if ((decide (p0.zc=0))||(decide (p0.zc=1))) then
     if (((decide ((p0.ze.length:Int)<2))||(!decide (p0.zk=[])))||(!decide (p0.z06=[]))) then
      some (.done false)
     else
      some (.go ())
    else
     if (decide (p0.zc=2)) then
      if (((!decide ((p0.ze.length:Int)=1))||(!decide (p0.zk=[])))||(!decide (p0.z06=[]))) then
       some (.done false)
      else
       some (.go ())
     else
      if ((decide (2<p0.zc))&&(decide (p0.zc<13))) then
       let j71←(do
         if (decide ((p0.ze.length:Int)=0)) then
          let a72←M.q3t p0.zk
          some a72
         else
          some false:Option Bool)
       let j77←(do
         if j71 then
          let a78←M.q4s p0.z06
          some a78
         else
          some false:Option Bool)
       some (.done (j77&&((!decide (p0.zc=3))||(decide (p0.z06=[])))))
      else
       some (.done false):Option (Jn Bool Unit))
  match q55 with
  | .done r=>some r
  | .go j55 =>
   let q93←(do
     M.z2x p0 (M.q4d fuel) 0:Option (Jn Bool Unit))
   match q93 with
   | .done r=>some r
   | .go j93 =>
    some true
def M.q46  (p0 p1:q01):Option Bool:=do
 some (((decide (p1.zc=2))||(decide (p0.zc=1)))||((decide (p0.zc=0))&&(decide (p1.zc=0))))
def M.z2a (p0:q01) (self_q48:q01→Option Int) (x29:Int) (x30:Int):Option Int:=do
 if (decide (x30<(p0.ze.length:Int))) then
  let x37←ix p0.ze x30
  let a38←self_q48 x37
  let x40←ix p0.ze x30
  let a41←M.q46 x40 p0
  if a41 then
   M.z2a p0 self_q48 (zo7 x29 (ya .i64 (a38+1))) (ya .i64 (x30+1))
  else
   M.z2a p0 self_q48 (zo7 x29 a38) (ya .i64 (x30+1))
 else
  some x29
 partial_fixpoint
def M.q48:Nat→q01→Option Int
 | 0,_=>none
 | fuel+1,p0=>do
  let j22←(do
    M.z2a p0 (M.q48 fuel) 0 0:Option Int)
  some j22
def M.q3p (fuel:Nat) (p0:q01):Option Int:=do
 let a3←M.q4d fuel p0
 if (!a3) then
  some 194
 else
  let a5←M.q48 fuel p0
  if (decide (16<a5)) then
   some 193
  else
   some 0
def M.q4v  : Option (List (List UInt8)):=do
 some [([101,113]:List UInt8),([110,101]:List UInt8),([99,111]:List UInt8),([115,119]:List UInt8),([101,119]:List UInt8),([103,116]:List UInt8),([103,101]:List UInt8),([108,116]:List UInt8),([108,101]:List UInt8)]
def M.z0u (p0:List UInt8) (x57:List Int) (x58:Int):Option (List Int):=do
 if (decide (x58<(p0.length:Int))) then
  let c72←ix p0 x58
  if ((decide ((c72.toNat:Int)=34))||(decide ((c72.toNat:Int)=92))) then
   let l75←app 1 x57 [92,(c72.toNat:Int)]
   M.z0u p0 l75 (ya .i64 (x58+1))
  else
   if (decide ((c72.toNat:Int)=8)) then
    let l76←app 1 x57 (unb ([92,98]:List UInt8))
    M.z0u p0 l76 (ya .i64 (x58+1))
   else
    if (decide ((c72.toNat:Int)=9)) then
     let l77←app 1 x57 (unb ([92,116]:List UInt8))
     M.z0u p0 l77 (ya .i64 (x58+1))
    else
     if (decide ((c72.toNat:Int)=10)) then
      let l78←app 1 x57 (unb ([92,110]:List UInt8))
      M.z0u p0 l78 (ya .i64 (x58+1))
     else
      if (decide ((c72.toNat:Int)=12)) then
       let l79←app 1 x57 (unb ([92,102]:List UInt8))
       M.z0u p0 l79 (ya .i64 (x58+1))
      else
       if (decide ((c72.toNat:Int)=13)) then
        let l80←app 1 x57 (unb ([92,114]:List UInt8))
        M.z0u p0 l80 (ya .i64 (x58+1))
       else
        if (decide ((c72.toNat:Int)<32)) then
         let c81←ix ([48,49,50,51,52,53,54,55,56,57,97,98,99,100,101,102]:List UInt8) (ya .u8 (Int.tdiv (c72.toNat:Int) 16))
         let c82←ix ([48,49,50,51,52,53,54,55,56,57,97,98,99,100,101,102]:List UInt8) (Int.tmod (c72.toNat:Int) 16)
         let l83←app 1 x57 [92,117,48,48,(c81.toNat:Int),(c82.toNat:Int)]
         M.z0u p0 l83 (ya .i64 (x58+1))
        else
         let l84←app 1 x57 [(c72.toNat:Int)]
         M.z0u p0 l84 (ya .i64 (x58+1))
 else
  some x57
 partial_fixpoint
def M.q36  (p0:List UInt8):Option (List Int):=do
 let j43←(do
   M.z0u p0 [34] 0:Option (List Int))
 let l85←app 1 j43 [34]
 some l85
def M.z1c (p0:q01) (self_q43:q01→Option (List UInt8)) (x347:List UInt8) (x348:Int):Option (List UInt8):=do
 if (decide (x348<(p0.ze.length:Int))) then
  let j388←(do
    if ((decide (0<x348))&&(decide (p0.zc=0))) then
     let s391←cat x347 ([32,97,110,100,32]:List UInt8)
     some s391
    else
     some x347:Option (List UInt8))
  let j399←(do
    if ((decide (0<x348))&&(decide (p0.zc=1))) then
     let s402←cat j388 ([32,111,114,32]:List UInt8)
     some s402
    else
     some j388:Option (List UInt8))
  let x403←ix p0.ze x348
  let a404←self_q43 x403
  let x406←ix p0.ze x348
  let a407←M.q46 x406 p0
  if a407 then
   let s409←cat ([40]:List UInt8) a404
   let s410←cat s409 ([41]:List UInt8)
   let s411←cat j399 s410
   M.z1c p0 self_q43 s411 (ya .i64 (x348+1))
  else
   let s412←cat j399 a404
   M.z1c p0 self_q43 s412 (ya .i64 (x348+1))
 else
  some x347
 partial_fixpoint
def M.q43:Nat→q01→Option (List UInt8)
 | 0,_=>none
 | fuel+1,p0=>do
  let q207←(do
    if (decide (p0.zc=2)) then
     let x208←ix p0.ze 0
     let a209←(M.q43 fuel) x208
     let s211←cat ([110,111,116,32,40]:List UInt8) a209
     let s212←cat s211 ([41]:List UInt8)
     some (.done s212)
    else
     let j214←(do
       if (decide (p0.zc=0)) then
        some (decide (p0.zc=0))
       else
        some (decide (p0.zc=1)):Option Bool)
     if j214 then
      let j314←(do
        M.z1c p0 (M.q43 fuel) [] 0:Option (List UInt8))
      some (.done j314)
     else
      if (decide (p0.zc=3)) then
       let s413←cat p0.zk ([32,112,114]:List UInt8)
       some (.done s413)
      else
       some (.go ()):Option (Jn (List UInt8) Unit))
  match q207 with
  | .done r=>some r
  | .go j207 =>
   let s414←cat p0.zk ([32]:List UInt8)
   let a415←M.q4v
   let x417←ix a415 (ya .i64 (p0.zc - 4))
   let s418←cat s414 x417
   let s419←cat s418 ([32]:List UInt8)
   let a420←M.q36 p0.z06
   let s422←cat s419 (byt a420)
   some s422
def M.q3w (fuel:Nat) (p0:q01):Option ((List UInt8) × Int):=do
 let a1←M.q3p fuel p0
 if (!decide (a1=0)) then
  some ([],a1)
 else
  let a3←M.q43 fuel p0
  if (decide (1024<(a3.length:Int))) then
   some ([],191)
  else
   some (a3,0)
def M.q2r  (p0:q07):Option ((List UInt8) × q07):=do
 let a1←M.trimLeft p0.gs ([32]:List UInt8)
 let a3←M.trimLeft a1 ([65,66,67,68,69,70,71,72,73,74,75,76,77,78,79,80,81,82,83,84,85,86,87,88,89,90,97,98,99,100,101,102,103,104,105,106,107,108,109,110,111,112,113,114,115,116,117,118,119,120,121,122,48,49,50,51,52,53,54,55,56,57,45,95,46]:List UInt8)
 let s5←sub a1 0 (ya .i64 ((a1.length:Int) - (a3.length:Int)))
 some (s5,(q07.mk a1))
def M.q2p  (p0:q07) (p1:List UInt8):Option (Bool × q07):=do
 let a9←M.q2r p0
 let j14←(do
   if (!decide (a9.1=p1)) then
    if (!decide (a9.1=[])) then
     some true
    else
     let a15←M.q60 a9.2.gs p1
     some (!a15)
   else
    some false:Option Bool)
 if j14 then
  some (false,a9.2)
 else
  let s17←sub a9.2.gs (p1.length:Int) (a9.2.gs.length:Int)
  some (true,(q07.mk s17))
def M.q2c  (p0:Bool) (p1:Int):Option (Rs Unit):=do
 if (!p0) then
  some (.pan p1)
 else
  some (.ok ())
def M.q2j  (p0:q06) (p2:q07):Option (Bool × q07):=do
 let a1←M.q2p p2 p0.z4f
 some (a1.1,a1.2)
def M.zb (p0:List q06) (x17:Int) (x18:List UInt8):Option (Jn (Int × q07) (List UInt8)):=do
 if (decide (x17<(p0.length:Int))) then
  let x22←ix p0 x17
  let a23←M.q2j x22 (q07.mk x18)
  if a23.1 then
   some (.done (x17,a23.2))
  else
   M.zb p0 (ya .i64 (x17+1)) a23.2.gs
 else
  some (.go x18)
 partial_fixpoint
def M.q5m  (p0:List q06) (p2:q07):Option (Int × q07):=do
 let q13←(do
   M.zb p0 0 p2.gs:Option (Jn (Int × q07) (List UInt8)))
 match q13 with
 | .done r=>some r
 | .go j13 =>
  some ((-1),(q07.mk j13))
def M.q0u  (p0:q05):Option q05:=do
 let a1←M.trimLeft p0.gs ([32,9,10,13]:List UInt8)
 some (q05.mk a1)
def M.q0e  (p0 p1:List UInt8):Option ((List UInt8) × Bool):=do
 let a3←M.q0g p0 p1
 if (!a3) then
  some (p0,false)
 else
  let s5←sub p0 (p1.length:Int) (p0.length:Int)
  some (s5,true)
def M.q5y  (p0 p1:List UInt8):Option ((List UInt8) × Bool):=do
 let a1←M.q0e p0 p1
 some (a1.1,a1.2)
def M.q0x  (p0:q05) (p1:List UInt8):Option (Bool × q05):=do
 let a1←M.q5y p0.gs p1
 if a1.2 then
  let a3←M.q0u (q05.mk a1.1)
  some (a1.2,a3)
 else
  some (a1.2,p0)
def M.q0d  (p0:Int):Option Int:=do
 some (orI .u8 p0 32)
def M.zv (j65:(List UInt8) × Int) (p1:Int) (j106:Int) (j102:Int) (x301:Bool) (x302:Int) (x303:Int):Option (Jn (Int × Bool) (Bool × Int)):=do
 if (decide (x303<((unb j65.1).length:Int))) then
  let x351←ix (unb j65.1) x303
  let q381←(do
    if ((decide (x351=95))&&(decide (p1=0))) then
     (do
      M.zv j65 p1 j106 j102 true x302 (ya .i64 (x303+1))) >>= fun r=>some (.done r)
    else
     if ((decide (48≤x351))&&(decide (x351≤57))) then
      some (.go (ya .u8 (x351 - 48)))
     else
      let a386←M.q0d x351
      let j391←(do
        if (decide (97≤a386)) then
         let a392←M.q0d x351
         some (decide (a392≤122))
        else
         some false:Option Bool)
      if j391 then
       let a394←M.q0d x351
       some (.go (ya .u8 ((ya .u8 (a394 - 97))+10)))
      else
       some (.done (.done (0,false))):Option (Jn (Jn (Int × Bool) (Bool × Int)) Int))
  match q381 with
  | .done r=>some r
  | .go j381 =>
   if (decide ((ya .u8 j65.2)≤j381)) then
    some (.done (0,false))
   else
    if (decide (j106≤x302)) then
     some (.done ((ya .u64 ((z4p .u64 1 (ya .u64 j102)) - 1)),false))
    else
     if ((decide ((ya .u64 ((ya .u64 (x302*(ya .u64 j65.2)))+(ya .u64 j381)))<(ya .u64 (x302*(ya .u64 j65.2)))))||(decide ((ya .u64 ((z4p .u64 1 (ya .u64 j102)) - 1))<(ya .u64 ((ya .u64 (x302*(ya .u64 j65.2)))+(ya .u64 j381)))))) then
      some (.done ((ya .u64 ((z4p .u64 1 (ya .u64 j102)) - 1)),false))
     else
      M.zv j65 p1 j106 j102 x301 (ya .u64 ((ya .u64 (x302*(ya .u64 j65.2)))+(ya .u64 j381))) (ya .i64 (x303+1))
 else
  some (.go (x301,x302))
 partial_fixpoint
def M.q0c  (p0:List UInt8) (p1 p2:Int):Option (Int × Bool):=do
 if (decide (p0=[])) then
  some (0,false)
 else
  let q65←(do
    if ((decide (2≤p1))&&(decide (p1≤36))) then
     some (.go (p0,p1))
    else
     if (decide (p1=0)) then
      let c68←ix p0 0
      if (decide ((c68.toNat:Int)=48)) then
       let j73←(do
         if (decide (3≤(p0.length:Int))) then
          let c74←ix p0 1
          let a75←M.q0d (c74.toNat:Int)
          some (decide (a75=98))
         else
          some false:Option Bool)
       if j73 then
        let s77←sub p0 2 (p0.length:Int)
        some (.go (s77,2))
       else
        let j82←(do
          if (decide (3≤(p0.length:Int))) then
           let c83←ix p0 1
           let a84←M.q0d (c83.toNat:Int)
           some (decide (a84=111))
          else
           some false:Option Bool)
        if j82 then
         let s86←sub p0 2 (p0.length:Int)
         some (.go (s86,8))
        else
         let j91←(do
           if (decide (3≤(p0.length:Int))) then
            let c92←ix p0 1
            let a93←M.q0d (c92.toNat:Int)
            some (decide (a93=120))
           else
            some false:Option Bool)
         if j91 then
          let s95←sub p0 2 (p0.length:Int)
          some (.go (s95,16))
         else
          let s96←sub p0 1 (p0.length:Int)
          some (.go (s96,8))
      else
       some (.go (p0,10))
     else
      some (.done (0,false)):Option (Jn (Int × Bool) ((List UInt8) × Int)))
  match q65 with
  | .done r=>some r
  | .go j65 =>
   let q102←(do
     if (decide (p2=0)) then
      some (.go 64)
     else
      if ((decide (p2<0))||(decide (64<p2))) then
       some (.done (0,false))
      else
       some (.go p2):Option (Jn (Int × Bool) Int))
   match q102 with
   | .done r=>some r
   | .go j102 =>
    let j106←(do
      if (decide (j65.2=10)) then
       some 1844674407370955162
      else
       if (decide (j65.2=16)) then
        some 1152921504606846976
       else
        let _←chk (decide ((ya .u64 j65.2)≠0))
        some (ya .u64 ((ya .u64 (Int.tdiv 18446744073709551615 (ya .u64 j65.2)))+1)):Option Int)
    let _←chk (decide (0≤(ya .u64 j102)))
    let q253←(do
      let _←chk (decide (j65.1.length≤9223372036854775807))
      M.zv j65 p1 j106 j102 false 0 0:Option (Jn (Int × Bool) (Bool × Int)))
    match q253 with
    | .done r=>some r
    | .go j253 =>
     let j398←(do
       if j253.1 then
        none
       else
        some ():Option Unit)
     some (j253.2,true)
def M.q5u  (p0:List UInt8) (p1 p2:Int):Option (Int × Bool):=do
 let a1←M.q0c p0 p1 p2
 if (!a1.2) then
  none
 else
  some (a1.1,true)
def M.q0z  (p0:q05):Option (Rs (Int × q05)):=do
 let a1←M.q5y p0.gs ([92,117]:List UInt8)
 let j9←(do
   if (a1.2&&(decide (4≤(a1.1.length:Int)))) then
    let s10←sub a1.1 0 4
    let a11←M.trim s10 ([48,49,50,51,52,53,54,55,56,57,97,98,99,100,101,102,65,66,67,68,69,70]:List UInt8)
    some (decide (a11=[]))
   else
    some false:Option Bool)
 let a13←M.q0r j9 20
 match a13 with
 | .pan e16 =>
  some (.pan e16)
 | .ok a15 =>
  let s17←sub a1.1 0 4
  let a18←M.q5u s17 16 16
  let a20←M.q0r a18.2 20
  match a20 with
  | .pan e23 =>
   some (.pan e23)
  | .ok a22 =>
   let s24←sub a1.1 4 (a1.1.length:Int)
   some (.ok ((ya .i32 a18.1),(q05.mk s24)))
def M.q0v  (p0:q05):Option (Rs ((List UInt8) × q05)):=do
 let a1←M.q0r (decide (2≤(p0.gs.length:Int))) 20
 match a1 with
 | .pan e4 =>
  some (.pan e4)
 | .ok a3 =>
  let c10←ix p0.gs 1
  let a11←M.indexByte ([34,92,47,98,102,110,114,116]:List UInt8) (c10.toNat:Int)
  if (decide (0≤a11)) then
   let s13←sub p0.gs 2 (p0.gs.length:Int)
   let s14←sub ([34,92,47,8,12,10,13,9]:List UInt8) a11 (ya .i64 (a11+1))
   some (.ok (s14,(q05.mk s13)))
  else
   let a15←M.q0z p0
   match a15 with
   | .pan e18 =>
    some (.pan e18)
   | .ok a17 =>
    let a21←M.q0r ((decide (a17.1<56320))||(decide (57343<a17.1))) 20
    match a21 with
    | .pan e24 =>
     some (.pan e24)
    | .ok a23 =>
     if ((decide (a17.1<55296))||(decide (57343<a17.1))) then
      some (.ok ((encS a17.1),a17.2))
     else
      let a29←M.q0z a17.2
      match a29 with
      | .pan e32 =>
       some (.pan e32)
      | .ok a31 =>
       let a35←M.q0r ((decide (56320≤a31.1))&&(decide (a31.1≤57343))) 20
       match a35 with
       | .pan e38 =>
        some (.pan e38)
       | .ok a37 =>
        some (.ok ((encS (ya .i32 ((ya .i32 ((ya .i32 (65536+(z4p .i32 (ya .i32 (a17.1 - 55296)) 10)))+a31.1)) - 56320))),a31.2))
def M.z10 (x37:List UInt8) (x38:List Int):Option (Rs ((List UInt8) × q05)):=do
 let j71←(do
   if (!decide (x37=[])) then
    let c72←ix x37 0
    some (decide (32≤(c72.toNat:Int)))
   else
    some false:Option Bool)
 let a73←M.q0r j71 20
 match a73 with
 | .pan e76 =>
  some (.pan e76)
 | .ok a75 =>
  let c77←ix x37 0
  if (decide ((c77.toNat:Int)=34)) then
   let a78←M.z0a x38
   let a80←M.z0i a78
   let a82←M.q0r a80 20
   match a82 with
   | .pan e85 =>
    some (.pan e85)
   | .ok a84 =>
    let a86←M.q0x (q05.mk x37) ([34]:List UInt8)
    let a88←M.z0a x38
    some (.ok (a88,a86.2))
  else
   if (decide ((c77.toNat:Int)=92)) then
    let a90←M.q0v (q05.mk x37)
    match a90 with
    | .pan e93 =>
     some (.pan e93)
    | .ok a92 =>
     let a94←M.q5x x38 a92.1
     M.z10 a92.2.gs a94.2
   else
    let a96←M.q5w x38 (c77.toNat:Int)
    let s98←sub x37 1 (x37.length:Int)
    M.z10 s98 a96
 partial_fixpoint
def M.q0y  (p0:q05):Option (Rs ((List UInt8) × q05)):=do
 let a1←M.q5y p0.gs ([34]:List UInt8)
 let a3←M.q0r a1.2 20
 match a3 with
 | .pan e6 =>
  some (.pan e6)
 | .ok a5 =>
  M.z10 a1.1 ([]:List Int)
def M.z0e (x53:Int) (x54:List UInt8):Option (Jn (Rs (q03 × q05)) (List UInt8)):=do
 if (decide (x53<([([110,117,108,108]:List UInt8),([102,97,108,115,101]:List UInt8),([116,114,117,101]:List UInt8)].length:Int))) then
  let x58←ix [([110,117,108,108]:List UInt8),([102,97,108,115,101]:List UInt8),([116,114,117,101]:List UInt8)] x53
  let a59←M.q0x (q05.mk x54) x58
  if a59.1 then
   some (.done (.ok ((q03.mk x53 [] ([]:List q03) ([]:List (List UInt8))),a59.2)))
  else
   M.z0e (ya .i64 (x53+1)) a59.2.gs
 else
  some (.go x54)
 partial_fixpoint
def M.z0n (p1:Int) (self_q12:q05→Int→Option (Rs (q03 × q05))) (p2:Int) (p3:List UInt8) (x79:List UInt8) (x80:List q03) (x81:List (List UInt8)):Option (Rs (q03 × q05)):=do
 let q190←(do
   if (decide (p1=6)) then
    let a191←M.q0y (q05.mk x79)
    match a191 with
    | .pan e194 =>
     some (.done (.pan e194))
    | .ok a193 =>
     let a195←M.q5c x81 a193.1
     let j201←(do
       if (!a195) then
        let a202←M.q0x a193.2 ([58]:List UInt8)
        some (a202.1,a202.2.gs)
       else
        some (false,a193.2.gs):Option (Bool × (List UInt8)))
     let a204←M.q0r j201.1 20
     match a204 with
     | .pan e207 =>
      some (.done (.pan e207))
     | .ok a206 =>
      let l208←app 16 x81 [a193.1]
      some (.go (j201.2,l208))
   else
    some (.go (x79,x81)):Option (Jn (Rs (q03 × q05)) ((List UInt8) × (List (List UInt8)))))
 match q190 with
 | .done r=>some r
 | .go j190 =>
  let a209←self_q12 (q05.mk j190.1) (ya .i64 (p2+1))
  match a209 with
  | .pan e212 =>
   some (.pan e212)
  | .ok a211 =>
   let l213←app 72 x80 [(q03.mk a211.1.zc a211.1.z0r a211.1.ze a211.1.z0m)]
   let a214←M.q0x a211.2 p3
   if a214.1 then
    some (.ok ((q03.mk p1 [] l213 j190.2),a214.2))
   else
    let a216←M.q0x a214.2 ([44]:List UInt8)
    let a218←M.q0r a216.1 20
    match a218 with
    | .pan e221 =>
     some (.pan e221)
    | .ok a220 =>
     M.z0n p1 self_q12 p2 p3 a216.2.gs l213 j190.2
 partial_fixpoint
mutual
def M.q12:Nat→q05→Int→Option (Rs (q03 × q05))
 | 0,_,_=>none
 | fuel+1,p0,p1=>do
  let a19←M.q60 p0.gs ([34]:List UInt8)
  if a19 then
   let a21←M.q0y p0
   match a21 with
   | .pan e24 =>
    some (.pan e24)
   | .ok a23 =>
    some (.ok ((q03.mk 4 a23.1 ([]:List q03) ([]:List (List UInt8))),a23.2))
  else
   let a25←M.q0x p0 ([91]:List UInt8)
   if a25.1 then
    let a27←(M.q0w fuel) a25.2 5 p1 ([93]:List UInt8)
    match a27 with
    | .pan e30 =>
     some (.pan e30)
    | .ok a29 =>
     some (.ok (a29.1,a29.2))
   else
    let a31←M.q0x a25.2 ([123]:List UInt8)
    if a31.1 then
     let a33←(M.q0w fuel) a31.2 6 p1 ([125]:List UInt8)
     match a33 with
     | .pan e36 =>
      some (.pan e36)
     | .ok a35 =>
      some (.ok (a35.1,a35.2))
    else
     let q49←(do
       M.z0e 0 a31.2.gs:Option (Jn (Rs (q03 × q05)) (List UInt8)))
     match q49 with
     | .done r=>some r
     | .go j49 =>
      let a61←M.q0s j49
      let a63←M.q0r (decide (0<a61)) 20
      match a63 with
      | .pan e66 =>
       some (.pan e66)
      | .ok a65 =>
       let s67←sub j49 0 a61
       let a68←M.q0x (q05.mk j49) s67
       some (.ok ((q03.mk 3 s67 ([]:List q03) ([]:List (List UInt8))),a68.2))
def M.q0w:Nat→q05→Int→Int→(List UInt8)→Option (Rs (q03 × q05))
 | 0,_,_,_,_=>none
 | fuel+1,p0,p1,p2,p3=>do
  let a1←M.q0r (decide (p2<16)) 21
  match a1 with
  | .pan e4 =>
   some (.pan e4)
  | .ok a3 =>
   let a7←M.q0x p0 p3
   if a7.1 then
    some (.ok ((q03.mk p1 [] ([]:List q03) ([]:List (List UInt8))),a7.2))
   else
    M.z0n p1 (M.q12 fuel) p2 p3 a7.2.gs [] []
end
def M.q0k (fuel:Nat) (p0:List UInt8):Option (q03 × Int):=do
 if (decide (16384<(p0.length:Int))) then
  some ((q03.mk 0 [] ([]:List q03) ([]:List (List UInt8))),22)
 else
  let a1←M.q0u (q05.mk p0)
  let a3←M.q12 fuel a1 0
  match a3 with
  | .pan e6 =>
   some ((q03.mk 0 [] ([]:List q03) ([]:List (List UInt8))),e6)
  | .ok a5 =>
   let a7←M.q0r (decide (a5.2.gs=[])) 20
   match a7 with
   | .pan e10 =>
    some ((q03.mk 0 [] ([]:List q03) ([]:List (List UInt8))),e10)
   | .ok a9 =>
    some (a5.1,0)
def M.z0j (a1:(List UInt8) × q07) (x52:Int):Option Int:=do
 let j68←(do
   if (decide (x52<(a1.2.gs.length:Int))) then
    let c69←ix a1.2.gs x52
    some (!decide ((c69.toNat:Int)=34))
   else
    some false:Option Bool)
 if j68 then
  let c70←ix a1.2.gs x52
  if (decide ((c70.toNat:Int)=92)) then
   M.z0j a1 (ya .i64 ((ya .i64 (x52+1))+1))
  else
   M.z0j a1 (ya .i64 (x52+1))
 else
  some x52
 partial_fixpoint
def M.q2q (fuel:Nat) (p0:q07):Option (Rs ((List UInt8) × q07)):=do
 let a1←M.q2r p0
 let j6←(do
   if (decide (a1.1=[])) then
    let a7←M.q60 a1.2.gs ([34]:List UInt8)
    some a7
   else
    some false:Option Bool)
 let a9←M.q2c j6 190
 match a9 with
 | .pan e12 =>
  some (.pan e12)
 | .ok a11 =>
  let j42←(do
    M.z0j a1 1:Option Int)
  let a71←M.q2c (decide (j42<(a1.2.gs.length:Int))) 190
  match a71 with
  | .pan e74 =>
   some (.pan e74)
  | .ok a73 =>
   let s75←sub a1.2.gs 0 (ya .i64 (j42+1))
   let a76←M.q0k fuel s75
   let a80←M.q2c ((decide (a76.2=0))&&(decide ((a76.1.z0r.length:Int)≤128))) 190
   match a80 with
   | .pan e83 =>
    some (.pan e83)
   | .ok a82 =>
    let s84←sub a1.2.gs (ya .i64 (j42+1)) (a1.2.gs.length:Int)
    some (.ok (a76.1.z0r,(q07.mk s84)))
def M.z05 (p2:List UInt8) (self_q2n:q07→Int→Option (Rs (q01 × q07 × Int))) (x48:List UInt8) (x49:Int) (x50:List q01):Option (Jn (Rs (q01 × q07 × Int)) ((List UInt8) × Int × (List q01))):=do
 let a62←M.q2p (q07.mk x48) p2
 if a62.1 then
  let a64←self_q2n a62.2 x49
  match a64 with
  | .pan e67 =>
   some (.done (.pan e67))
  | .ok a66 =>
   let l68←app 64 x50 [(q01.mk a66.1.zc a66.1.zk a66.1.z06 a66.1.ze)]
   M.z05 p2 self_q2n a66.2.1.gs a66.2.2 l68
 else
  some (.go (a62.2.gs,x49,x50))
 partial_fixpoint
def M.z04 (p2:List UInt8) (self_q2o:q07→Int→Option (Rs (q01 × q07 × Int))) (x48:List UInt8) (x49:Int) (x50:List q01):Option (Jn (Rs (q01 × q07 × Int)) ((List UInt8) × Int × (List q01))):=do
 let a62←M.q2p (q07.mk x48) p2
 if a62.1 then
  let a64←self_q2o a62.2 x49
  match a64 with
  | .pan e67 =>
   some (.done (.pan e67))
  | .ok a66 =>
   let l68←app 64 x50 [(q01.mk a66.1.zc a66.1.zk a66.1.z06 a66.1.ze)]
   M.z04 p2 self_q2o a66.2.1.gs a66.2.2 l68
 else
  some (.go (a62.2.gs,x49,x50))
 partial_fixpoint
mutual
def M.q2m:Nat→q07→Int→Option (Rs (q01 × q07))
 | 0,_,_=>none
 | fuel+1,p0,p1=>do
  let a1←(M.q2k fuel) p0 1 ([111,114]:List UInt8) p1
  match a1 with
  | .pan e4 =>
   some (.pan e4)
  | .ok a3 =>
   some (.ok (a3.1,a3.2.1))
def M.q2h:Nat→q07→Int→Option (Rs (q01 × q07))
 | 0,_,_=>none
 | fuel+1,p0,p1=>do
  let a1←M.q2p p0 ([110,111,116]:List UInt8)
  let a19←M.q2p a1.2 ([40]:List UInt8)
  if a19.1 then
   let a21←M.q2c (decide (p1<16)) 193
   match a21 with
   | .pan e24 =>
    some (.pan e24)
   | .ok a23 =>
    let a25←(M.q2m fuel) a19.2 (ya .i64 (p1+1))
    match a25 with
    | .pan e28 =>
     some (.pan e28)
    | .ok a27 =>
     let a29←M.q2p a27.2 ([41]:List UInt8)
     let a31←M.q2c a29.1 190
     match a31 with
     | .pan e34 =>
      some (.pan e34)
     | .ok a33 =>
      if a1.1 then
       some (.ok ((q01.mk 2 [] [] [(q01.mk a27.1.zc a27.1.zk a27.1.z06 a27.1.ze)]),a29.2))
      else
       some (.ok (a27.1,a29.2))
  else
   let a35←M.q2r a19.2
   let j40←(do
     if (!a1.1) then
      let a41←M.q2d a35.1
      some a41
     else
      some false:Option Bool)
   let a43←M.q2c j40 190
   match a43 with
   | .pan e46 =>
    some (.pan e46)
   | .ok a45 =>
    let a47←M.q2p a35.2 a35.1
    let a51←M.q2p a47.2 ([112,114]:List UInt8)
    if a51.1 then
     some (.ok ((q01.mk 3 a35.1 [] []),a51.2))
    else
     let a53←M.q1t
     let a55←M.q5m a53 a51.2
     let a57←M.q2c (decide (0≤a55.1)) 190
     match a57 with
     | .pan e60 =>
      some (.pan e60)
     | .ok a59 =>
      let a61←M.q2q fuel a55.2
      match a61 with
      | .pan e64 =>
       some (.pan e64)
      | .ok a63 =>
       some (.ok ((q01.mk (ya .i64 (4+a55.1)) a35.1 a63.1 []),a63.2))
def M.q2k:Nat→q07→Int→(List UInt8)→Int→Option (Rs (q01 × q07 × Int))
 | 0,_,_,_,_=>none
 | fuel+1,p0,p1,p2,p4=>do
  let a1←(M.q2n fuel) p0 p4
  match a1 with
  | .pan e4 =>
   some (.pan e4)
  | .ok a3 =>
   let q38←(do
     M.z05 p2 (M.q2n fuel) a3.2.1.gs a3.2.2 [(q01.mk a3.1.zc a3.1.zk a3.1.z06 a3.1.ze)]:Option (Jn (Rs (q01 × q07 × Int)) ((List UInt8) × Int × (List q01))))
   match q38 with
   | .done r=>some r
   | .go j38 =>
    if (decide ((j38.2.2.length:Int)=1)) then
     let x69←ix j38.2.2 0
     let x70←ix j38.2.2 0
     some (.ok (x70,(q07.mk j38.1),j38.2.1))
    else
     some (.ok ((q01.mk p1 [] [] j38.2.2),(q07.mk j38.1),j38.2.1))
def M.q2n:Nat→q07→Int→Option (Rs (q01 × q07 × Int))
 | 0,_,_=>none
 | fuel+1,p1,p2=>do
  let a1←(M.q2l fuel) p1 0 ([97,110,100]:List UInt8) p2
  match a1 with
  | .pan e4 =>
   some (.pan e4)
  | .ok a3 =>
   some (.ok (a3.1,a3.2.1,a3.2.2))
def M.q2l:Nat→q07→Int→(List UInt8)→Int→Option (Rs (q01 × q07 × Int))
 | 0,_,_,_,_=>none
 | fuel+1,p0,p1,p2,p4=>do
  let a1←(M.q2o fuel) p0 p4
  match a1 with
  | .pan e4 =>
   some (.pan e4)
  | .ok a3 =>
   let q38←(do
     M.z04 p2 (M.q2o fuel) a3.2.1.gs a3.2.2 [(q01.mk a3.1.zc a3.1.zk a3.1.z06 a3.1.ze)]:Option (Jn (Rs (q01 × q07 × Int)) ((List UInt8) × Int × (List q01))))
   match q38 with
   | .done r=>some r
   | .go j38 =>
    if (decide ((j38.2.2.length:Int)=1)) then
     let x69←ix j38.2.2 0
     let x70←ix j38.2.2 0
     some (.ok (x70,(q07.mk j38.1),j38.2.1))
    else
     some (.ok ((q01.mk p1 [] [] j38.2.2),(q07.mk j38.1),j38.2.1))
def M.q2o:Nat→q07→Int→Option (Rs (q01 × q07 × Int))
 | 0,_,_=>none
 | fuel+1,p1,p2=>do
  let a1←(M.q2h fuel) p1 p2
  match a1 with
  | .pan e4 =>
   some (.pan e4)
  | .ok a3 =>
   some (.ok (a3.1,a3.2,p2))
end
def M.q1m (fuel:Nat) (p0:List UInt8):Option (q01 × Int):=do
 if (decide (1024<(p0.length:Int))) then
  some ((q01.mk 0 [] [] []),191)
 else
  let a1←M.q2m fuel (q07.mk p0) 0
  match a1 with
  | .pan e4 =>
   some ((q01.mk 0 [] [] []),e4)
  | .ok a3 =>
   let a5←M.q2r a3.2
   let j8←(do
     if (decide (a5.1=[])) then
      some (decide (a5.2.gs=[]))
     else
      some false:Option Bool)
   let a9←M.q2c j8 190
   match a9 with
   | .pan e12 =>
    some ((q01.mk 0 [] [] []),e12)
   | .ok a11 =>
    some (a3.1,0)
def M.q0j  (p0:q03) (p1:List UInt8):Option (q03 × Bool):=do
 let a1←M.q5s p0.z0m p1
 if (((decide (p0.zc=6))&&(decide (0≤a1)))&&(decide (a1<(p0.ze.length:Int)))) then
  let x7←ix p0.ze a1
  some (x7,true)
 else
  some ((q03.mk 0 [] [] []),false)
def M.q2t  (p0:q03) (p1:List UInt8):Option ((List UInt8) × Bool):=do
 let a1←M.q0j p0 p1
 some (a1.1.z0r,(a1.2&&(decide (a1.1.zc=4))))
def M.q1o  (p0:q03):Option Bool:=do
 let a1←M.q2t p0 ([111,112]:List UInt8)
 let a3←M.q2t p0 ([112,97,116,104]:List UInt8)
 some ((!a1.2)||(!a3.2))
def M.zn (p0:List q03) (x15:Int):Option (Jn Int Unit):=do
 if (decide (x15<(p0.length:Int))) then
  let x19←ix p0 x15
  let a20←M.q1o x19
  if a20 then
   some (.done x15)
  else
   M.zn p0 (ya .i64 (x15+1))
 else
  some (.go ())
 partial_fixpoint
def M.q5l  (p0:List q03):Option Int:=do
 let q11←(do
   M.zn p0 0:Option (Jn Int Unit))
 match q11 with
 | .done r=>some r
 | .go j11 =>
  some (-1)
def M.q56  (p0:List q03):Option Bool:=do
 let a1←M.q5l p0
 some (decide (0≤a1))
def M.q2e  : Option (List (List UInt8)):=do
 some [([97,100,100]:List UInt8),([114,101,109,111,118,101]:List UInt8),([114,101,112,108,97,99,101]:List UInt8)]
def M.q0h  (p0 p1:List UInt8):Option Bool:=do
 let j3←(do
   if (decide ((p1.length:Int)≤(p0.length:Int))) then
    let s4←sub p0 (ya .i64 ((p0.length:Int) - (p1.length:Int))) (p0.length:Int)
    some (decide (s4=p1))
   else
    some false:Option Bool)
 some j3
def M.q0f  (p0 p1:List UInt8):Option ((List UInt8) × Bool):=do
 let a3←M.q0h p0 p1
 if (!a3) then
  some (p0,false)
 else
  let s5←sub p0 0 (ya .i64 ((p0.length:Int) - (p1.length:Int)))
  some (s5,true)
def M.q5z  (p0 p1:List UInt8):Option ((List UInt8) × Bool):=do
 let a1←M.q0f p0 p1
 some (a1.1,a1.2)
def M.z1n (p0:q03) (x13:List (List UInt8)) (x14:Int):Option (Jn ((List (List UInt8)) × Bool) (List (List UInt8))):=do
 if (decide (x14<(p0.ze.length:Int))) then
  let x17←ix p0.ze x14
  if (!decide (x17.zc=4)) then
   some (.done ([],false))
  else
   let l18←app 16 x13 [x17.z0r]
   M.z1n p0 l18 (ya .i64 (x14+1))
 else
  some (.go x13)
 partial_fixpoint
def M.q0m  (p0:q03):Option ((List (List UInt8)) × Bool):=do
 if (!decide (p0.zc=5)) then
  some ([],false)
 else
  let q10←(do
    M.z1n p0 [] 0:Option (Jn ((List (List UInt8)) × Bool) (List (List UInt8))))
  match q10 with
  | .done r=>some r
  | .go j10 =>
   some (j10,true)
def M.q2u  (p0:List UInt8):Option Bool:=do
 let a1←M.q2v p0
 some (!a1)
def M.zw (p0:List (List UInt8)) (x15:Int):Option (Jn Int Unit):=do
 if (decide (x15<(p0.length:Int))) then
  let x19←ix p0 x15
  let a20←M.q2u x19
  if a20 then
   some (.done x15)
  else
   M.zw p0 (ya .i64 (x15+1))
 else
  some (.go ())
 partial_fixpoint
def M.q5r  (p0:List (List UInt8)):Option Int:=do
 let q11←(do
   M.zw p0 0:Option (Jn Int Unit))
 match q11 with
 | .done r=>some r
 | .go j11 =>
  some (-1)
def M.q5b  (p0:List (List UInt8)):Option Bool:=do
 let a1←M.q5r p0
 some (decide (0≤a1))
def M.z1k (p0:List (List UInt8)):Option Bool:=do
 let _←chk (decide (p0.length*16≤140737488355328))
 if p0.length≤64 then
  if (Lib.compact (p0.mergeSort fun x y=>decide (x≤y))).length=p0.length then
   let a←M.q5b p0
   some (!a)
  else some false
 else some false
def M.zt (p0:List q01) (self_q1s:q01→Option Bool) (x15:Int):Option (Jn Int Unit):=do
 if (decide (x15<(p0.length:Int))) then
  let x19←ix p0 x15
  let a20←self_q1s x19
  if a20 then
   some (.done x15)
  else
   M.zt p0 self_q1s (ya .i64 (x15+1))
 else
  some (.go ())
 partial_fixpoint
mutual
def M.q1r:Nat→q01→Option Bool
 | 0,_=>none
 | fuel+1,p0=>do
  if (decide (2<p0.zc)) then
   some (decide (p0.zk=[118,97,108,117,101]))
  else
   let a1←(M.q4z fuel) p0.ze
   some (!a1)
def M.q1s:Nat→q01→Option Bool
 | 0,_=>none
 | fuel+1,p0=>do
  let a1←(M.q1r fuel) p0
  some (!a1)
def M.q4z:Nat→(List q01)→Option Bool
 | 0,_=>none
 | fuel+1,p0=>do
  let a1←(M.q5f fuel) p0
  some (decide (0≤a1))
def M.q5f:Nat→(List q01)→Option Int
 | 0,_=>none
 | fuel+1,p0=>do
  let q11←(do
    M.zt p0 (M.q1s fuel) 0:Option (Jn Int Unit))
  match q11 with
  | .done r=>some r
  | .go j11 =>
   some (-1)
end
def M.q21 (fuel:Nat) (p0:q00):Option Bool:=do
 let a13←M.q2d p0.zk
 let j22←(do
   if (((!a13)||(decide (p0.zk=[105,100])))||(decide (p0.zk=[116,97,103]))) then
    some true
   else
    let a23←M.z1k p0.zq
    some (!a23):Option Bool)
 if j22 then
  some false
 else
  let q53←(do
    if p0.z3b then
     let a54←M.q22 fuel p0.z09
     let j59←(do
       if (!a54) then
        some true
       else
        let a60←M.q1r fuel p0.z09
        some (!a60):Option Bool)
     if j59 then
      some (.done false)
     else
      some (.go ())
    else
     let j64←(do
       if (!decide (p0.z09.zc=0)) then
        some true
       else
        let s65←cat p0.z09.zk p0.z09.z06
        some (!decide (s65=[])):Option Bool)
     if (j64||(decide (0<(p0.z09.ze.length:Int)))) then
      some (.done false)
     else
      some (.go ()):Option (Jn Bool Unit))
  match q53 with
  | .done r=>some r
  | .go j53 =>
   if (decide (p0.zc=0)) then
    some ((decide (0<(p0.zq.length:Int)))&&(!p0.z3b))
   else
    if (decide (p0.zc=1)) then
     some (decide ((p0.zq.length:Int)=0))
    else
     if (decide (p0.zc=2)) then
      some ((decide (0<(p0.zq.length:Int)))&&((decide ((p0.zq.length:Int)=1))||(!p0.z3b)))
     else
      some false
def M.q2g (fuel:Nat) (p0:q03):Option (q00 × Int):=do
 let a1←M.q2t p0 ([111,112]:List UInt8)
 let a3←M.q2t p0 ([112,97,116,104]:List UInt8)
 let a5←M.q2e
 let a7←M.q5s a5 a1.1
 let a9←M.cut a3.1 ([91]:List UInt8)
 let a11←M.q5z a9.2.1 ([93]:List UInt8)
 let j25←(do
   if (decide (a7<0)) then
    some true
   else
    let a26←M.q2d a9.1
    some (!a26):Option Bool)
 if (j25||(a9.2.2&&(!a11.2))) then
  some ((q00.mk a7 a9.1 a9.2.2 (q01.mk 0 [] [] []) []),190)
 else
  let q39←(do
    if a9.2.2 then
     let a40←M.q1m fuel a11.1
     if (!decide (a40.2=0)) then
      some (.done ((q00.mk a7 a9.1 a9.2.2 a40.1 []),a40.2))
     else
      some (.go (a40.1.zc,a40.1.zk,a40.1.z06,a40.1.ze))
    else
     some (.go (0,[],[],[])):Option (Jn (q00 × Int) (Int × (List UInt8) × (List UInt8) × (List q01))))
  match q39 with
  | .done r=>some r
  | .go j39 =>
   let a42←M.q0j p0 ([118,97,108,117,101]:List UInt8)
   if (a42.2==(decide (a7=1))) then
    some ((q00.mk a7 a9.1 a9.2.2 (q01.mk j39.1 j39.2.1 j39.2.2.1 j39.2.2.2) []),190)
   else
    let q49←(do
      if (decide (a42.1.zc=4)) then
       some (.go [a42.1.z0r])
      else
       if a42.2 then
        let a50←M.q0m a42.1
        if (!a50.2) then
         some (.done ((q00.mk a7 a9.1 a9.2.2 (q01.mk j39.1 j39.2.1 j39.2.2.1 j39.2.2.2) a50.1),190))
        else
         some (.go a50.1)
       else
        some (.go []):Option (Jn (q00 × Int) (List (List UInt8))))
    match q49 with
    | .done r=>some r
    | .go j49 =>
     let a52←M.q21 fuel (q00.mk a7 a9.1 a9.2.2 (q01.mk j39.1 j39.2.1 j39.2.2.1 j39.2.2.2) j49)
     if (!a52) then
      some ((q00.mk a7 a9.1 a9.2.2 (q01.mk j39.1 j39.2.1 j39.2.2.1 j39.2.2.2) j49),194)
     else
      some ((q00.mk a7 a9.1 a9.2.2 (q01.mk j39.1 j39.2.1 j39.2.2.1 j39.2.2.2) j49),0)
def M.z0x (a3:q03 × Bool) (fuel:Nat) (x45:List q00) (x46:Int):Option (Jn ((List q00) × Int) (List q00)):=do
 if (decide (x46<(a3.1.ze.length:Int))) then
  let x51←ix a3.1.ze x46
  let a52←M.q2g fuel x51
  if (!decide (a52.2=0)) then
   some (.done ([],a52.2))
  else
   let l54←app 120 x45 [(q00.mk a52.1.zc a52.1.zk a52.1.z3b (q01.mk a52.1.z09.zc a52.1.z09.zk a52.1.z09.z06 a52.1.z09.ze) a52.1.zq)]
   M.z0x a3 fuel l54 (ya .i64 (x46+1))
 else
  some (.go x45)
 partial_fixpoint
def M.q1n (fuel:Nat) (p0:List UInt8):Option ((List q00) × Int):=do
 let a1←M.q0k fuel p0
 let a3←M.q0j a1.1 ([79,112,101,114,97,116,105,111,110,115]:List UInt8)
 let j22←(do
   if (((!decide (a1.2=0))||(!a3.2))||(!decide (a3.1.zc=5))) then
    some true
   else
    let a23←M.q56 a3.1.ze
    some a23:Option Bool)
 if j22 then
  some ([],190)
 else
  if (decide (16<(a3.1.ze.length:Int))) then
   some ([],191)
  else
   let q40←(do
     M.z0x a3 fuel [] 0:Option (Jn ((List q00) × Int) (List q00)))
   match q40 with
   | .done r=>some r
   | .go j40 =>
    some (j40,0)
def M.z0w (p0:q04) (x63:Int):Option (Jn Int Unit):=do
 if (decide (x63<(p0.zj.length:Int))) then
  let x79←ix p0.zj x63
  let a80←M.q2d x79.zk
  let j84←(do
    if (!a80) then
     some true
    else
     if (decide (0<x63)) then
      let x85←ix p0.zj (ya .i64 (x63 - 1))
      some (!slt x85.zk x79.zk)
     else
      some false:Option Bool)
  let j91←(do
    if (j84||(decide ((x79.zq.length:Int)=0))) then
     some true
    else
     let a92←M.z1k x79.zq
     some (!a92):Option Bool)
  if j91 then
   some (.done 194)
  else
   M.z0w p0 (ya .i64 (x63+1))
 else
  some (.go ())
 partial_fixpoint
def M.q1k  (p0:q04):Option Int:=do
 if (decide (32<(p0.zj.length:Int))) then
  some 194
 else
  let q47←(do
    M.z0w p0 0:Option (Jn Int Unit))
  match q47 with
  | .done r=>some r
  | .go j47 =>
   some 0
def M.q1h (fuel:Nat) (p0:q00):Option Bool:=do
 let a1←M.q21 fuel p0
 some (!a1)
def M.zl (p0:List q00) (fuel:Nat) (x15:Int):Option (Jn Int Unit):=do
 if (decide (x15<(p0.length:Int))) then
  let x19←ix p0 x15
  let a20←M.q1h fuel x19
  if a20 then
   some (.done x15)
  else
   M.zl p0 fuel (ya .i64 (x15+1))
 else
  some (.go ())
 partial_fixpoint
def M.q5d (fuel:Nat) (p0:List q00):Option Int:=do
 let q11←(do
   M.zl p0 fuel 0:Option (Jn Int Unit))
 match q11 with
 | .done r=>some r
 | .go j11 =>
  some (-1)
def M.q4x (fuel:Nat) (p0:List q00):Option Bool:=do
 let a1←M.q5d fuel p0
 some (decide (0≤a1))
def M.q1j (fuel:Nat) (p0:q00):Option Bool:=do
 let j4←(do
   if p0.z3b then
    let a5←M.q1f fuel p0.z09
    some (!decide (a5=0))
   else
    some false:Option Bool)
 some j4
def M.zm (p0:List q00) (fuel:Nat) (x15:Int):Option (Jn Int Unit):=do
 if (decide (x15<(p0.length:Int))) then
  let x19←ix p0 x15
  let a20←M.q1j fuel x19
  if a20 then
   some (.done x15)
  else
   M.zm p0 fuel (ya .i64 (x15+1))
 else
  some (.go ())
 partial_fixpoint
def M.q5e (fuel:Nat) (p0:List q00):Option Int:=do
 let q11←(do
   M.zm p0 fuel 0:Option (Jn Int Unit))
 match q11 with
 | .done r=>some r
 | .go j11 =>
  some (-1)
def M.q4y (fuel:Nat) (p0:List q00):Option Bool:=do
 let a1←M.q5e fuel p0
 some (decide (0≤a1))
def M.q1g (fuel:Nat) (p0:List q00):Option Int:=do
 if (decide (16<(p0.length:Int))) then
  some 191
 else
  let a1←M.q4x fuel p0
  if a1 then
   some 194
  else
   let a3←M.q4y fuel p0
   if a3 then
    some 193
   else
    some 0
def M.q2y  (p0:q02) (p1:List UInt8):Option Bool:=do
 some (decide (p0.zk=p1))
def M.zp (p0:List q02) (p1:List UInt8) (x15:Int):Option (Jn Int Unit):=do
 if (decide (x15<(p0.length:Int))) then
  let x19←ix p0 x15
  let a20←M.q2y x19 p1
  if a20 then
   some (.done x15)
  else
   M.zp p0 p1 (ya .i64 (x15+1))
 else
  some (.go ())
 partial_fixpoint
def M.q5k  (p0:List q02) (p1:List UInt8):Option Int:=do
 let q11←(do
   M.zp p0 p1 0:Option (Jn Int Unit))
 match q11 with
 | .done r=>some r
 | .go j11 =>
  some (-1)
def M.q2x  (p0:q04) (p1:List UInt8):Option (List (List UInt8)):=do
 if (decide (p1=[105,100])) then
  some [p0.gId]
 else
  if (decide (p1=[116,97,103])) then
   some [p0.z7b]
  else
   let a1←M.q5k p0.zj p1
   if (decide (0≤a1)) then
    let x3←ix p0.zj a1
    some x3.zq
   else
    some []
def M.q2a  (p0:List UInt8):Option Bool:=do
 some (!decide (p0=[]))
def M.zx (p0:List (List UInt8)) (x15:Int):Option (Jn Int Unit):=do
 if (decide (x15<(p0.length:Int))) then
  let x19←ix p0 x15
  let a20←M.q2a x19
  if a20 then
   some (.done x15)
  else
   M.zx p0 (ya .i64 (x15+1))
 else
  some (.go ())
 partial_fixpoint
def M.q5p  (p0:List (List UInt8)):Option Int:=do
 let q11←(do
   M.zx p0 0:Option (Jn Int Unit))
 match q11 with
 | .done r=>some r
 | .go j11 =>
  some (-1)
def M.q59  (p0:List (List UInt8)):Option Bool:=do
 let a1←M.q5p p0
 some (decide (0≤a1))
def M.q1u  (p0 p1:List UInt8):Option Bool:=do
 some (decide (p0=p1))
def M.q61  (p0 p1:List UInt8):Option Bool:=do
 let a1←M.q0h p0 p1
 some a1
def M.q1v  (p0 p1:List UInt8):Option Bool:=do
 some (!(slt p0 p1||decide (p0=p1)))
def M.q1w  (p0 p1:List UInt8):Option Bool:=do
 some (!slt p0 p1)
def M.q1x  (p0 p1:List UInt8):Option Bool:=do
 some (slt p0 p1)
def M.q1y  (p0 p1:List UInt8):Option Bool:=do
 some (slt p0 p1||decide (p0=p1))
def M.q0b (p0:Nat) (p1:List UInt8) (p2:List UInt8):Option Bool :=
 if p0=F.q1u then M.q1u p1 p2
 else if p0=F.strings_Contains then M.contains p1 p2
 else if p0=F.q60 then M.q60 p1 p2
 else if p0=F.q61 then M.q61 p1 p2
 else if p0=F.q1v then M.q1v p1 p2
 else if p0=F.q1w then M.q1w p1 p2
 else if p0=F.q1x then M.q1x p1 p2
 else if p0=F.q1y then M.q1y p1 p2
 else none
def M.q2b  (p0:List UInt8) (p1:Nat) (p2:q01):Option Bool:=do
 let a1←M.q0b p1 p0 p2.z06
 some a1
def M.zy (p0:List (List UInt8)) (p1:Nat) (p2:q01) (x15:Int):Option (Jn Int Unit):=do
 if (decide (x15<(p0.length:Int))) then
  let x19←ix p0 x15
  let a20←M.q2b x19 p1 p2
  if a20 then
   some (.done x15)
  else
   M.zy p0 p1 p2 (ya .i64 (x15+1))
 else
  some (.go ())
 partial_fixpoint
def M.q5q  (p0:List (List UInt8)) (p1:Nat) (p2:q01):Option Int:=do
 let q11←(do
   M.zy p0 p1 p2 0:Option (Jn Int Unit))
 match q11 with
 | .done r=>some r
 | .go j11 =>
  some (-1)
def M.q5a  (p0:List (List UInt8)) (p1:Nat) (p2:q01):Option Bool:=do
 let a1←M.q5q p0 p1 p2
 some (decide (0≤a1))
def M.zi (p0:List q01) (self_q28:q01→q04→Option (Bool × q04)) (x23:Int) (x24:List UInt8) (x25:List UInt8) (x26:List UInt8) (x27:List q02):Option (Jn (Int × q04) ((List UInt8) × (List UInt8) × (List UInt8) × (List q02))):=do
 if (decide (x23<(p0.length:Int))) then
  let x31←ix p0 x23
  let a32←self_q28 x31 (q04.mk x24 x25 x26 x27)
  if a32.1 then
   some (.done (x23,a32.2))
  else
   M.zi p0 self_q28 (ya .i64 (x23+1)) a32.2.gId a32.2.zc a32.2.z7b a32.2.zj
 else
  some (.go (x24,x25,x26,x27))
 partial_fixpoint
def M.zh (p0:List q01) (self_q25:q01→q04→Option (Bool × q04)) (x23:Int) (x24:List UInt8) (x25:List UInt8) (x26:List UInt8) (x27:List q02):Option (Jn (Int × q04) ((List UInt8) × (List UInt8) × (List UInt8) × (List q02))):=do
 if (decide (x23<(p0.length:Int))) then
  let x31←ix p0 x23
  let a32←self_q25 x31 (q04.mk x24 x25 x26 x27)
  if a32.1 then
   some (.done (x23,a32.2))
  else
   M.zh p0 self_q25 (ya .i64 (x23+1)) a32.2.gId a32.2.zc a32.2.z7b a32.2.zj
 else
  some (.go (x24,x25,x26,x27))
 partial_fixpoint
mutual
def M.q24:Nat→q01→q04→Option Bool
 | 0,_,_=>none
 | fuel+1,p0,p1=>do
  if (decide (p0.zc=0)) then
   let a12←(M.q54 fuel) p0.ze p1
   some (!a12.1)
  else
   if (decide (p0.zc=1)) then
    let a14←(M.q51 fuel) p0.ze p1
    some a14.1
   else
    if (decide (p0.zc=2)) then
     let x16←ix p0.ze 0
     let a17←(M.q28 fuel) x16 p1
     some a17.1
    else
     if (decide (p0.zc=3)) then
      let a19←M.q2x p1 p0.zk
      let a21←M.q59 a19
      some a21
     else
      let j27←(do
        let a28←M.q1t
        let x30←ix a28 (ya .i64 (p0.zc - 4))
        some x30.zlo:Option Nat)
      let a31←M.q2x p1 p0.zk
      let a33←M.q5a a31 j27 p0
      some (!(a33==(decide (p0.zc=5))))
def M.q54:Nat→(List q01)→q04→Option (Bool × q04)
 | 0,_,_=>none
 | fuel+1,p0,p1=>do
  let a1←(M.q5j fuel) p0 p1
  some ((decide (0≤a1.1)),a1.2)
def M.q51:Nat→(List q01)→q04→Option (Bool × q04)
 | 0,_,_=>none
 | fuel+1,p0,p1=>do
  let a1←(M.q5h fuel) p0 p1
  some ((decide (0≤a1.1)),a1.2)
def M.q28:Nat→q01→q04→Option (Bool × q04)
 | 0,_,_=>none
 | fuel+1,p0,p1=>do
  let a1←(M.q24 fuel) p0 p1
  some ((!a1),p1)
def M.q5j:Nat→(List q01)→q04→Option (Int × q04)
 | 0,_,_=>none
 | fuel+1,p0,p1=>do
  let q19←(do
    M.zi p0 (M.q28 fuel) 0 p1.gId p1.zc p1.z7b p1.zj:Option (Jn (Int × q04) ((List UInt8) × (List UInt8) × (List UInt8) × (List q02))))
  match q19 with
  | .done r=>some r
  | .go j19 =>
   some ((-1),(q04.mk j19.1 j19.2.1 j19.2.2.1 j19.2.2.2))
def M.q5h:Nat→(List q01)→q04→Option (Int × q04)
 | 0,_,_=>none
 | fuel+1,p0,p1=>do
  let q19←(do
    M.zh p0 (M.q25 fuel) 0 p1.gId p1.zc p1.z7b p1.zj:Option (Jn (Int × q04) ((List UInt8) × (List UInt8) × (List UInt8) × (List q02))))
  match q19 with
  | .done r=>some r
  | .go j19 =>
   some ((-1),(q04.mk j19.1 j19.2.1 j19.2.2.1 j19.2.2.2))
def M.q25:Nat→q01→q04→Option (Bool × q04)
 | 0,_,_=>none
 | fuel+1,p0,p1=>do
  let a1←(M.q24 fuel) p0 p1
  some (a1,p1)
end
def M.q2f (fuel:Nat) (p0:q00) (p1:List UInt8):Option Bool:=do
 let j4←(do
   if (!p0.z3b) then
    some true
   else
    let a5←M.q24 fuel p0.z09 (q04.mk [] [] [] [(q02.mk ([118,97,108,117,101]:List UInt8) [p1])])
    some a5:Option Bool)
 some j4
def M.q20 (fuel:Nat) (p0:List UInt8) (p1:q00):Option Bool:=do
 let a1←M.q2f fuel p1 p0
 some a1
def M.z00 (p0:List (List UInt8)) (fuel:Nat) (p1:q00) (x15:Int):Option (Jn Int Unit):=do
 if (decide (x15<(p0.length:Int))) then
  let x19←ix p0 x15
  let a20←M.q20 fuel x19 p1
  if a20 then
   some (.done x15)
  else
   M.z00 p0 fuel p1 (ya .i64 (x15+1))
 else
  some (.go ())
 partial_fixpoint
def M.q5o (fuel:Nat) (p0:List (List UInt8)) (p1:q00):Option Int:=do
 let q11←(do
   M.z00 p0 fuel p1 0:Option (Jn Int Unit))
 match q11 with
 | .done r=>some r
 | .go j11 =>
  some (-1)
def M.z1q (p0:q00) (p1:List (List UInt8)) (x56:List (List UInt8)) (x57:Int):Option (List (List UInt8)):=do
 if (decide (x57<(p0.zq.length:Int))) then
  let x62←ix p0.zq x57
  let a63←M.q5c p1 x62
  if (!a63) then
   let l65←app 16 x56 [x62]
   M.z1q p0 p1 l65 (ya .i64 (x57+1))
  else
   M.z1q p0 p1 x56 (ya .i64 (x57+1))
 else
  some x56
 partial_fixpoint
def M.z1h (p1:List (List UInt8)) (a66:Int) (p0:q00) (fuel:Nat) (x128:List (List UInt8)) (x129:Int):Option (List (List UInt8)):=do
 if (decide (x129<(p1.length:Int))) then
  let x142←ix p1 x129
  if ((decide (x129=a66))&&(decide (p0.zc=2))) then
   let x145←ix p0.zq 0
   let l146←app 16 x128 [x145]
   M.z1h p1 a66 p0 fuel l146 (ya .i64 (x129+1))
  else
   let a147←M.q2f fuel p0 x142
   let j151←(do
     if (!a147) then
      if (decide (p0.zc=1)) then
       some true
      else
       let x152←ix p0.zq 0
       some (!decide (x142=x152))
     else
      some false:Option Bool)
   if j151 then
    let l153←app 16 x128 [x142]
    M.z1h p1 a66 p0 fuel l153 (ya .i64 (x129+1))
   else
    M.z1h p1 a66 p0 fuel x128 (ya .i64 (x129+1))
 else
  some x128
 partial_fixpoint
def M.q1z (fuel:Nat) (p0:q00) (p1:List (List UInt8)):Option ((List (List UInt8)) × Int):=do
 let q33←(do
   if (decide (p0.zc=0)) then
    let a34←M.z16 p1
    let j51←(do
      M.z1q p0 p1 a34 0:Option (List (List UInt8)))
    some (.done (j51,0))
   else
    some (.go ()):Option (Jn ((List (List UInt8)) × Int) Unit))
 match q33 with
 | .done r=>some r
 | .go j33 =>
  let a66←M.q5o fuel p1 p0
  if (p0.z3b&&(decide (a66<0))) then
   some ([],192)
  else
   if (!p0.z3b) then
    let a74←M.z16 p0.zq
    some (a74,0)
   else
    let j115←(do
      M.z1h p1 a66 p0 fuel [] 0:Option (List (List UInt8)))
    some (j115,0)
def M.z1o (p1:q04) (x25:Int) (x26:List ((List UInt8) × (List (List UInt8)))):Option (List ((List UInt8) × (List (List UInt8)))):=do
 if (decide (x25<(p1.zj.length:Int))) then
  let x30←ix p1.zj x25
  let a31←M.z16 x30.zq
  M.z1o p1 (ya .i64 (x25+1)) (z3r x26 x30.zk a31)
 else
  some x26
 partial_fixpoint
def M.z1p (p0:List q00) (fuel:Nat) (x65:Int) (x66:List ((List UInt8) × (List (List UInt8)))):Option (Jn (q04 × Int) (List ((List UInt8) × (List (List UInt8))))):=do
 if (decide (x65<(p0.length:Int))) then
  let x74←ix p0 x65
  let a75←M.q1z fuel x74 (z3q x66 x74.zk ([]:List (List UInt8)))
  if (!decide (a75.2=0)) then
   some (.done ((q04.mk [] [] [] []),a75.2))
  else
   let j78←(do
     if (decide (0<(a75.1.length:Int))) then
      some (z3r (z7c x66 x74.zk) x74.zk a75.1)
     else
      some (z7c x66 x74.zk):Option (List ((List UInt8) × (List (List UInt8)))))
   if ((decide (64<(a75.1.length:Int)))||(decide (32<(j78.length:Int)))) then
    some (.done ((q04.mk [] [] [] []),191))
   else
    M.z1p p0 fuel (ya .i64 (x65+1)) j78
 else
  some (.go x66)
 partial_fixpoint
def M.z0f (p1:q04):(List ((List UInt8) × (List (List UInt8))))→(List q02)→Option (q04 × Int)
 | [],x84=>do
   let a91←M.q5t x84
   some ((q04.mk p1.gId p1.zc p1.z7b a91),0)
 | x89::x90,x84=>do
   let l93←app 40 x84 [(q02.mk x89.1 x89.2)]
   M.z0f p1 x90 l93
def M.q1e (fuel:Nat) (p0:List q00) (p1:q04):Option (q04 × Int):=do
 let a3←M.q1k p1
 if (!decide (a3=0)) then
  some ((q04.mk [] [] [] []),a3)
 else
  let a7←M.q1g fuel p0
  if (!decide (a7=0)) then
   some ((q04.mk [] [] [] []),a7)
  else
   let j21←(do
     M.z1o p1 0 ([]:List ((List UInt8) × (List (List UInt8)))):Option (List ((List UInt8) × (List (List UInt8)))))
   let q57←(do
     M.z1p p0 fuel 0 j21:Option (Jn (q04 × Int) (List ((List UInt8) × (List (List UInt8))))))
   match q57 with
   | .done r=>some r
   | .go j57 =>
    M.z0f p1 j57 []
def M.q1l (fuel:Nat) (p0:q01) (p1:q04):Option Bool:=do
 let a1←M.q1f fuel p0
 let j6←(do
   if (decide (a1=0)) then
    let a7←M.q24 fuel p0 p1
    some a7
   else
    some false:Option Bool)
 some j6
def M.q1d (fuel:Nat):Option Bool:=do
 let a1←M.q1m fuel ([97,32,101,113,32,34,120,34,97,110,100,40,32,98,32,112,114,32,111,114,40,110,111,116,40,99,32,99,111,32,34,92,117,48,48,101,57,34,41,41,32,41]:List UInt8)
 let a3←M.q1p fuel a1.1
 let a5←M.q1m fuel ([97]:List UInt8)
 let a7←M.q1n fuel ([123,34,79,112,101,114,97,116,105,111,110,115,34,58,91,123,34,111,112,34,58,34,97,100,100,34,44,34,112,97,116,104,34,58,34,97,34,44,34,118,97,108,117,101,34,58,91,34,122,34,93,125,93,125]:List UInt8)
 let a9←M.q1e fuel a7.1 (q04.mk ([55]:List UInt8) [] [] [(q02.mk ([97]:List UInt8) [([120]:List UInt8),([121]:List UInt8)])])
 let a11←M.q1e fuel [(q00.mk 1 ([97]:List UInt8) true (q01.mk 3 ([118,97,108,117,101]:List UInt8) [] []) []),(q00.mk 1 ([97]:List UInt8) true (q01.mk 3 ([118,97,108,117,101]:List UInt8) [] []) [])] (q04.mk ([55]:List UInt8) [] [] [(q02.mk ([97]:List UInt8) [([120]:List UInt8),([121]:List UInt8)])])
 let j22←(do
   if ((((decide (a1.2=0))&&(decide (a3.1=[97,32,101,113,32,34,120,34,32,97,110,100,32,40,98,32,112,114,32,111,114,32,110,111,116,32,40,99,32,99,111,32,34,195,169,34,41,41])))&&(decide (a3.2=0)))&&(decide (a5.2=190))) then
    let a23←M.q1l fuel (q01.mk 4 ([97]:List UInt8) ([121]:List UInt8) []) (q04.mk ([55]:List UInt8) [] [] [(q02.mk ([97]:List UInt8) [([120]:List UInt8),([121]:List UInt8)])])
    some a23
   else
    some false:Option Bool)
 let j33←(do
   if (((j22&&(decide (a7.2=0)))&&(decide (a9.2=0)))&&(decide ((a9.1.zj.length:Int)=1))) then
    let x34←ix a9.1.zj 0
    some (decide ((x34.zq.length:Int)=3))
   else
    some false:Option Bool)
 let j40←(do
   if (j33&&(decide (a11.2=192))) then
    let a41←M.q1k (q04.mk ([55]:List UInt8) [] [] [(q02.mk ([97]:List UInt8) [([120]:List UInt8),([121]:List UInt8)])])
    some (decide (a41=0))
   else
    some false:Option Bool)
 some (((((((((j40&&true)&&true)&&true)&&true)&&true)&&true)&&true)&&true)&&true)
def M.q15 (fuel:Nat) (p0:q01):Option Bool:=do
 let a1←M.q1p fuel p0
 let a3←M.q3w fuel p0
 let a5←M.q1d fuel
 let j12←(do
   if a5 then
    let a13←M.q1f fuel p0
    let a15←M.q3p fuel p0
    some (decide (a13=a15))
   else
    some false:Option Bool)
 some ((j12&&(decide (a1.1=a3.1)))&&(decide (a1.2=a3.2)))
def M.q4t_k1 (p0:q04) (p1:List UInt8) (x11:Int):Option (Jn (List (List UInt8)) Unit):=do
 if (decide (x11<(p0.zj.length:Int))) then
  let x14←ix p0.zj x11
  if (decide (x14.zk=p1)) then
   let x15←ix p0.zj x11
   some (.done x15.zq)
  else
   M.q4t_k1 p0 p1 (ya .i64 (x11+1))
 else
  some (.go ())
 partial_fixpoint
def M.q4t  (p0:q04) (p1:List UInt8):Option (List (List UInt8)):=do
 if (decide (p1=[105,100])) then
  some [p0.gId]
 else
  if (decide (p1=[116,97,103])) then
   some [p0.z7b]
  else
   let q8←(do
     M.q4t_k1 p0 p1 0:Option (Jn (List (List UInt8)) Unit))
   match q8 with
   | .done r=>some r
   | .go j8 =>
    some []
def M.q4u_k1 (p1:List UInt8) (p0:List UInt8) (x7:Int):Option (Jn Bool Unit):=do
 if (decide ((ya .i64 (x7+(p1.length:Int)))≤(p0.length:Int))) then
  let s9←sub p0 x7 (ya .i64 (x7+(p1.length:Int)))
  if (decide (s9=p1)) then
   some (.done true)
  else
   M.q4u_k1 p1 p0 (ya .i64 (x7+1))
 else
  some (.go ())
 partial_fixpoint
def M.q4u  (p0 p1:List UInt8):Option Bool:=do
 let q5←(do
   M.q4u_k1 p1 p0 0:Option (Jn Bool Unit))
 match q5 with
 | .done r=>some r
 | .go j5 =>
  some false
def M.q45  (p0 p1:List UInt8):Option Bool:=do
 let j3←(do
   if (decide ((p1.length:Int)≤(p0.length:Int))) then
    let s4←sub p0 0 (p1.length:Int)
    some (decide (s4=p1))
   else
    some false:Option Bool)
 some j3
def M.q4b  (p0 p1:List UInt8):Option Bool:=do
 let j3←(do
   if (decide ((p1.length:Int)≤(p0.length:Int))) then
    let s4←sub p0 (ya .i64 ((p0.length:Int) - (p1.length:Int))) (p0.length:Int)
    some (decide (s4=p1))
   else
    some false:Option Bool)
 some j3
def M.q4c  (p0:Int) (p1 p2:List UInt8):Option Bool:=do
 if (decide (p0=3)) then
  some (!decide (p1=[]))
 else
  let j2←(do
    if (decide (p0=4)) then
     some (decide (p0=4))
    else
     some (decide (p0=5)):Option Bool)
  if j2 then
   some (decide (p1=p2))
  else
   if (decide (p0=6)) then
    let a3←M.q4u p1 p2
    some a3
   else
    if (decide (p0=7)) then
     let a5←M.q45 p1 p2
     some a5
    else
     if (decide (p0=8)) then
      let a7←M.q4b p1 p2
      some a7
     else
      if (decide (p0=9)) then
       some (!(slt p1 p2||decide (p1=p2)))
      else
       if (decide (p0=10)) then
        some (!slt p1 p2)
       else
        if (decide (p0=11)) then
         some (slt p1 p2)
        else
         some (slt p1 p2||decide (p1=p2))
def M.q3r_k1 (p0:q01) (self_q3r:q01→q04→Option Bool) (p1:q04) (x44:Int):Option (Jn (Jn Bool Unit) Unit):=do
 if (decide (x44<(p0.ze.length:Int))) then
  let x48←ix p0.ze x44
  let a49←self_q3r x48 p1
  if (a49==(decide (p0.zc=1))) then
   some (.done (.done (decide (p0.zc=1))))
  else
   M.q3r_k1 p0 self_q3r p1 (ya .i64 (x44+1))
 else
  some (.go ())
 partial_fixpoint
def M.q3r_k2 (a54:(List (List UInt8))) (p0:q01) (x70:Int):Option (Jn Bool Unit):=do
 if (decide (x70<(a54.length:Int))) then
  let x74←ix a54 x70
  let a75←M.q4c p0.zc x74 p0.z06
  if a75 then
   some (.done (!decide (p0.zc=5)))
  else
   M.q3r_k2 a54 p0 (ya .i64 (x70+1))
 else
  some (.go ())
 partial_fixpoint
def M.q3r:Nat→q01→q04→Option Bool
 | 0,_,_=>none
 | fuel+1,p0,p1=>do
  let q27←(do
    let j29←(do
      if (decide (p0.zc=0)) then
       some (decide (p0.zc=0))
      else
       some (decide (p0.zc=1)):Option Bool)
    if j29 then
     let q40←(do
       M.q3r_k1 p0 (M.q3r fuel) p1 0:Option (Jn (Jn Bool Unit) Unit))
     match q40 with
     | .done r=>some r
     | .go j40 =>
      some (.done (decide (p0.zc=0)))
    else
     if (decide (p0.zc=2)) then
      let x51←ix p0.ze 0
      let a52←(M.q3r fuel) x51 p1
      some (.done (!a52))
     else
      some (.go ()):Option (Jn Bool Unit))
  match q27 with
  | .done r=>some r
  | .go j27 =>
   let a54←M.q4t p1 p0.zk
   let q66←(do
     M.q3r_k2 a54 p0 0:Option (Jn Bool Unit))
   match q66 with
   | .done r=>some r
   | .go j66 =>
    some (decide (p0.zc=5))
def M.z1a (p0:q01) (p1:q01) (self_q3z:q01→q01→Option Bool) (x31:Int):Option (Jn Bool Unit):=do
 if (decide (x31<(p0.ze.length:Int))) then
  let x36←ix p0.ze x31
  let x37←ix p1.ze x31
  let a38←self_q3z x36 x37
  if (!a38) then
   some (.done false)
  else
   M.z1a p0 p1 self_q3z (ya .i64 (x31+1))
 else
  some (.go ())
 partial_fixpoint
def M.q3z:Nat→q01→q01→Option Bool
 | 0,_,_=>none
 | fuel+1,p0,p1=>do
  if ((((!decide (p0.zc=p1.zc))||(!decide (p0.zk=p1.zk)))||(!decide (p0.z06=p1.z06)))||(!decide ((p0.ze.length:Int)=(p1.ze.length:Int)))) then
   some false
  else
   let q26←(do
     M.z1a p0 p1 (M.q3z fuel) 0:Option (Jn Bool Unit))
   match q26 with
   | .done r=>some r
   | .go j26 =>
    some true
def M.z0v (p0:q09) (x9:Int):Option q09:=do
 let j24←(do
   if (decide (x9<(p0.gs.length:Int))) then
    let c25←ix p0.gs x9
    some (decide ((c25.toNat:Int)=32))
   else
    some false:Option Bool)
 if j24 then
  M.z0v p0 (ya .i64 (x9+1))
 else
  some (q09.mk p0.gs x9 p0.ge)
 partial_fixpoint
def M.q4j  (p0:q09):Option q09:=do
 M.z0v p0 p0.gi
def M.z14 (a1:q09) (x38:Int):Option Int:=do
 let j51←(do
   if (decide (x38<(a1.gs.length:Int))) then
    let c52←ix a1.gs x38
    let a53←M.q4f (c52.toNat:Int)
    some a53
   else
    some false:Option Bool)
 if j51 then
  M.z14 a1 (ya .i64 (x38+1))
 else
  some x38
 partial_fixpoint
def M.q4o  (p0:q09):Option ((List UInt8) × q09):=do
 let a1←M.q4j p0
 let j29←(do
   M.z14 a1 a1.gi:Option Int)
 let s55←sub a1.gs a1.gi j29
 some (s55,a1)
def M.q4m  (p0:q09) (p1:List UInt8):Option (Bool × q09):=do
 let a1←M.q4o p0
 if (decide (a1.1=p1)) then
  some ((decide (a1.1=p1)),(q09.mk a1.2.gs (ya .i64 (a1.2.gi+(p1.length:Int))) a1.2.ge))
 else
  some ((decide (a1.1=p1)),a1.2)
def M.q4h  (p0:q09) (p1:Int):Option (Bool × q09):=do
 let a1←M.q4j p0
 let j9←(do
   if (decide (a1.gi<(a1.gs.length:Int))) then
    let c10←ix a1.gs a1.gi
    some (decide ((c10.toNat:Int)=p1))
   else
    some false:Option Bool)
 if j9 then
  some (j9,(q09.mk a1.gs (ya .i64 (a1.gi+1)) a1.ge))
 else
  some (j9,a1)
def M.q4p  (p0:q09) (p1:Int):Option q09:=do
 if (decide (p0.ge=0)) then
  some (q09.mk p0.gs p0.gi p1)
 else
  some p0
def M.z0k (p0:q08) (x21:Int):Option q08:=do
 let j57←(do
   if (decide (x21<(p0.gs.length:Int))) then
    let c58←ix p0.gs x21
    if (decide ((c58.toNat:Int)=32)) then
     some true
    else
     let c59←ix p0.gs x21
     if (decide ((c59.toNat:Int)=9)) then
      some true
     else
      let c60←ix p0.gs x21
      if (decide ((c60.toNat:Int)=10)) then
       some true
      else
       let c61←ix p0.gs x21
       some (decide ((c61.toNat:Int)=13))
   else
    some false:Option Bool)
 if j57 then
  M.z0k p0 (ya .i64 (x21+1))
 else
  some (q08.mk p0.gs x21 p0.ge)
 partial_fixpoint
def M.q3g  (p0:q08):Option q08:=do
 M.z0k p0 p0.gi
def M.q3f  (p0:q08):Option Int:=do
 if (decide (p0.gi<(p0.gs.length:Int))) then
  let c1←ix p0.gs p0.gi
  some (c1.toNat:Int)
 else
  some 0
def M.q3n  (p0:q08) (p1:Int):Option q08:=do
 if (decide (p0.ge=0)) then
  some (q08.mk p0.gs p0.gi p1)
 else
  some p0
def M.word  (p0:List Int):Option Int:=do
 let x1←ix p0 0
 let x2←ix p0 1
 let x3←ix p0 2
 let x4←ix p0 3
 let x5←ix p0 4
 let x6←ix p0 5
 let x7←ix p0 6
 let x8←ix p0 7
 some (orI .u64 (orI .u64 (orI .u64 (orI .u64 (orI .u64 (orI .u64 (orI .u64 (ya .u64 x1) (z4p .u64 (ya .u64 x2) 8)) (z4p .u64 (ya .u64 x3) 16)) (z4p .u64 (ya .u64 x4) 24)) (z4p .u64 (ya .u64 x5) 32)) (z4p .u64 (ya .u64 x6) 40)) (z4p .u64 (ya .u64 x7) 48)) (z4p .u64 (ya .u64 x8) 56))
def M.z5x (x2859:List Int):Option (List Int):=do
 let j2897←(do
   if (decide (32<(x2859.length:Int))) then
    let l2898←sub x2859 8 (x2859.length:Int)
    let l2899←sub x2859 16 (x2859.length:Int)
    let l2900←sub x2859 24 (x2859.length:Int)
    let a2901←M.word x2859
    let a2903←M.word l2898
    let a2905←M.word l2899
    let a2907←M.word l2900
    some (decide ((zd0 .u64 (orI .u64 (orI .u64 a2901 a2903) (orI .u64 a2905 a2907)) 9259542123273814144)=0))
   else
    some false:Option Bool)
 if j2897 then
  let l2909←sub x2859 32 (x2859.length:Int)
  M.z5x l2909
 else
  some x2859
 partial_fixpoint
def M.z2v (x1976:List Int):Option (Jn Bool Unit):=do
 if (decide (0<(x1976.length:Int))) then
  let x2470←ix x1976 0
  let q2690←(do
    if (decide (x2470<128)) then
     let l2691←sub x1976 1 (x1976.length:Int)
     let j2801←(do
       let j2805←(do
         if (decide (8<(l2691.length:Int))) then
          let a2806←M.word l2691
          some (decide ((zd0 .u64 a2806 9259542123273814144)=0))
         else
          some false:Option Bool)
       if j2805 then
        let l2808←sub l2691 8 (l2691.length:Int)
        let j2827←(do
          if (decide (16<(l2808.length:Int))) then
           let l2828←sub l2808 8 (l2808.length:Int)
           let a2829←M.word l2808
           let a2831←M.word l2828
           some (decide ((zd0 .u64 (orI .u64 a2829 a2831) 9259542123273814144)=0))
          else
           some false:Option Bool)
        if j2827 then
         let l2833←sub l2808 16 (l2808.length:Int)
         M.z5x l2833
        else
         some l2808
       else
        some l2691:Option (List Int))
     (do
      M.z2v j2801) >>= fun r=>some (.done r)
    else
     some (.go ()):Option (Jn (Jn Bool Unit) Unit))
  match q2690 with
  | .done r=>some r
  | .go j2690 =>
   let x2910←ix utf8First x2470
   let x2911←ix z8c (zma .u8 x2910 4)
   if (decide ((ya .i64 (zd0 .u8 x2910 7))=2)) then
    let j2914←(do
      if (decide ((x1976.length:Int)<2)) then
       some true
      else
       let x2915←ix x1976 1
       some (decide (x2915<x2911.glo)):Option Bool)
    let j2918←(do
      if j2914 then
       some true
      else
       let x2919←ix x1976 1
       some (decide (x2911.ghi<x2919)):Option Bool)
    if j2918 then
     some (.done false)
    else
     let l2920←sub x1976 2 (x1976.length:Int)
     M.z2v l2920
   else
    if (decide ((ya .i64 (zd0 .u8 x2910 7))=3)) then
     let j2923←(do
       if (decide ((x1976.length:Int)<3)) then
        some true
       else
        let x2924←ix x1976 1
        some (decide (x2924<x2911.glo)):Option Bool)
     let j2927←(do
       if j2923 then
        some true
       else
        let x2928←ix x1976 1
        some (decide (x2911.ghi<x2928)):Option Bool)
     let j2931←(do
       if j2927 then
        some true
       else
        let x2932←ix x1976 2
        some (decide (x2932<128)):Option Bool)
     let j2935←(do
       if j2931 then
        some true
       else
        let x2936←ix x1976 2
        some (decide (191<x2936)):Option Bool)
     if j2935 then
      some (.done false)
     else
      let l2937←sub x1976 3 (x1976.length:Int)
      M.z2v l2937
    else
     if (decide ((ya .i64 (zd0 .u8 x2910 7))=4)) then
      let j2940←(do
        if (decide ((x1976.length:Int)<4)) then
         some true
        else
         let x2941←ix x1976 1
         some (decide (x2941<x2911.glo)):Option Bool)
      let j2944←(do
        if j2940 then
         some true
        else
         let x2945←ix x1976 1
         some (decide (x2911.ghi<x2945)):Option Bool)
      let j2948←(do
        if j2944 then
         some true
        else
         let x2949←ix x1976 2
         some (decide (x2949<128)):Option Bool)
      let j2952←(do
        if j2948 then
         some true
        else
         let x2953←ix x1976 2
         some (decide (191<x2953)):Option Bool)
      let j2956←(do
        if j2952 then
         some true
        else
         let x2957←ix x1976 3
         some (decide (x2957<128)):Option Bool)
      let j2960←(do
        if j2956 then
         some true
        else
         let x2961←ix x1976 3
         some (decide (191<x2961)):Option Bool)
      if j2960 then
       some (.done false)
      else
       let l2962←sub x1976 4 (x1976.length:Int)
       M.z2v l2962
     else
      some (.done false)
 else
  some (.go ())
 partial_fixpoint
def M.valid  (p0:List Int):Option Bool:=do
 let _←chk (decide ((p0.length:Int)≤(p0.length:Int))&&decide ((p0.length:Int)≤(p0.length:Int)))
 let l1←sub p0 0 (p0.length:Int)
 let q1482←(do
   M.z2v l1:Option (Jn Bool Unit))
 match q1482 with
 | .done r=>some r
 | .go j1482 =>
  some true
def M.q3c  (p0:Int):Option Bool:=do
 some ((decide (48≤p0))&&(decide (p0≤57)))
def M.z0c (p1:Int) (p0:q08) (x49:Int) (x50:Int):Option (Jn Int Int):=do
 if (decide (x50<(ya .i64 (p1+6)))) then
  let c58←ix p0.gs x50
  let a59←M.q3c (c58.toNat:Int)
  if a59 then
   M.z0c p1 p0 (ya .i64 ((ya .i64 (16*x49))+(ya .i64 (ya .u8 ((c58.toNat:Int) - 48))))) (ya .i64 (x50+1))
  else
   if ((decide (97≤(c58.toNat:Int)))&&(decide ((c58.toNat:Int)≤102))) then
    M.z0c p1 p0 (ya .i64 ((ya .i64 ((ya .i64 (16*x49))+(ya .i64 (ya .u8 ((c58.toNat:Int) - 97)))))+10)) (ya .i64 (x50+1))
   else
    if ((decide (65≤(c58.toNat:Int)))&&(decide ((c58.toNat:Int)≤70))) then
     M.z0c p1 p0 (ya .i64 ((ya .i64 ((ya .i64 (16*x49))+(ya .i64 (ya .u8 ((c58.toNat:Int) - 65)))))+10)) (ya .i64 (x50+1))
    else
     some (.done (-1))
 else
  some (.go x49)
 partial_fixpoint
def M.q3j  (p0:q08) (p1:Int):Option Int:=do
 let j11←(do
   if (decide ((p0.gs.length:Int)<(ya .i64 (p1+6)))) then
    some true
   else
    let c12←ix p0.gs p1
    some (!decide ((c12.toNat:Int)=92)):Option Bool)
 let j15←(do
   if j11 then
    some true
   else
    let c16←ix p0.gs (ya .i64 (p1+1))
    some (!decide ((c16.toNat:Int)=117)):Option Bool)
 if j15 then
  some (-1)
 else
  let q41←(do
    M.z0c p1 p0 0 (ya .i64 (p1+2)):Option (Jn Int Int))
  match q41 with
  | .done r=>some r
  | .go j41 =>
   some j41
def M.z08 (p0:q08) (x15:Int):Option (Jn ((List UInt8) × q08) Unit):=do
 if (decide (x15<(([34,92,47,98,102,110,114,116]:List UInt8).length:Int))) then
  let c19←ix p0.gs (ya .i64 (p0.gi+1))
  let c20←ix ([34,92,47,98,102,110,114,116]:List UInt8) x15
  if (decide ((c19.toNat:Int)=(c20.toNat:Int))) then
   let s21←sub ([34,92,47,8,12,10,13,9]:List UInt8) x15 (ya .i64 (x15+1))
   some (.done (s21,(q08.mk p0.gs (ya .i64 (p0.gi+2)) p0.ge)))
  else
   M.z08 p0 (ya .i64 (x15+1))
 else
  some (.go ())
 partial_fixpoint
def M.q3h  (p0:q08):Option ((List UInt8) × q08):=do
 let q11←(do
   if (decide ((ya .i64 (p0.gi+1))<(p0.gs.length:Int))) then
    M.z08 p0 0
   else
    some (.go ()):Option (Jn ((List UInt8) × q08) Unit))
 match q11 with
 | .done r=>some r
 | .go j11 =>
  let a22←M.q3j p0 p0.gi
  if ((decide (a22<0))||((decide (56320≤a22))&&(decide (a22≤57343)))) then
   let a32←M.q3n p0 20
   some ([],a32)
  else
   if ((decide (a22<55296))||(decide (56319<a22))) then
    some ((encS (ya .i32 a22)),(q08.mk p0.gs (ya .i64 (p0.gi+6)) p0.ge))
   else
    let a38←M.q3j (q08.mk p0.gs (ya .i64 (p0.gi+6)) p0.ge) (ya .i64 (p0.gi+6))
    if ((decide (a38<56320))||(decide (57343<a38))) then
     let a46←M.q3n (q08.mk p0.gs (ya .i64 (p0.gi+6)) p0.ge) 20
     some ([],a46)
    else
     some ((encS (ya .i32 (ya .i64 ((ya .i64 ((ya .i64 (65536+(ya .i64 (1024*(ya .i64 (a22 - 55296))))))+a38)) - 56320)))),(q08.mk p0.gs (ya .i64 ((ya .i64 (p0.gi+6))+6)) p0.ge))
def M.z0g (x65:List Int) (x66:List UInt8) (x67:Int) (x68:Int):Option (Jn ((List UInt8) × q08) ((List UInt8) × Int × Int)):=do
 if (decide (x68=0)) then
  let a81←M.q3f (q08.mk x66 x67 x68)
  if (decide (a81=34)) then
   let a83←M.valid x65
   if (!a83) then
    let a85←M.q3n (q08.mk x66 (ya .i64 (x67+1)) x68) 20
    some (.done ((byt x65),a85))
   else
    some (.done ((byt x65),(q08.mk x66 (ya .i64 (x67+1)) x68)))
  else
   if (decide (a81<32)) then
    let a87←M.q3n (q08.mk x66 x67 x68) 20
    M.z0g x65 a87.gs a87.gi a87.ge
   else
    if (decide (a81=92)) then
     let a89←M.q3h (q08.mk x66 x67 x68)
     let l91←app 1 x65 (unb a89.1)
     M.z0g l91 a89.2.gs a89.2.gi a89.2.ge
    else
     let l92←app 1 x65 [a81]
     M.z0g l92 x66 (ya .i64 (x67+1)) x68
 else
  some (.go (x66,x67,x68))
 partial_fixpoint
def M.q3k  (p0:q08):Option ((List UInt8) × q08):=do
 let a5←M.q3f p0
 if (!decide (a5=34)) then
  let a7←M.q3n p0 20
  some ([],a7)
 else
  let q52←(do
    M.z0g ([]:List Int) p0.gs (ya .i64 (p0.gi+1)) p0.ge:Option (Jn ((List UInt8) × q08) ((List UInt8) × Int × Int)))
  match q52 with
  | .done r=>some r
  | .go j52 =>
   some ([],(q08.mk j52.1 j52.2.1 j52.2.2))
def M.z1y (x63:Int) (p0:List (List UInt8)) (x89:Int):Option (Jn (Jn Bool Unit) Unit):=do
 if (decide (x89<x63)) then
  let x92←ix p0 x63
  let x93←ix p0 x89
  if (decide (x92=x93)) then
   some (.done (.done true))
  else
   M.z1y x63 p0 (ya .i64 (x89+1))
 else
  some (.go ())
 partial_fixpoint
def M.z1x (p0:List (List UInt8)) (x63:Int):Option (Jn Bool Unit):=do
 if (decide (x63<(p0.length:Int))) then
  let q86←(do
    M.z1y x63 p0 0:Option (Jn (Jn Bool Unit) Unit))
  match q86 with
  | .done r=>some r
  | .go j86 =>
   M.z1x p0 (ya .i64 (x63+1))
 else
  some (.go ())
 partial_fixpoint
def M.q3o  (p0:List (List UInt8)):Option Bool:=do
 let q47←(do
   M.z1x p0 0:Option (Jn Bool Unit))
 match q47 with
 | .done r=>some r
 | .go j47 =>
  some false
def M.z13 (p0:List UInt8) (j10:Int) (x66:Int):Option Int:=do
 let j83←(do
   if (decide (x66<(p0.length:Int))) then
    let c84←ix p0 x66
    let a85←M.q3c (c84.toNat:Int)
    some a85
   else
    some false:Option Bool)
 let j89←(do
   if j83 then
    if (decide (x66=j10)) then
     some true
    else
     let c90←ix p0 j10
     some (!decide ((c90.toNat:Int)=48))
   else
    some false:Option Bool)
 if j89 then
  M.z13 p0 j10 (ya .i64 (x66+1))
 else
  some x66
 partial_fixpoint
def M.z1r (p0:List UInt8) (x150:Int):Option Int:=do
 let j163←(do
   if (decide (x150<(p0.length:Int))) then
    let c164←ix p0 x150
    let a165←M.q3c (c164.toNat:Int)
    some a165
   else
    some false:Option Bool)
 if j163 then
  M.z1r p0 (ya .i64 (x150+1))
 else
  some x150
 partial_fixpoint
def M.z29 (p0:List UInt8) (x308:Int):Option Int:=do
 let j321←(do
   if (decide (x308<(p0.length:Int))) then
    let c322←ix p0 x308
    let a323←M.q3c (c322.toNat:Int)
    some a323
   else
    some false:Option Bool)
 if j321 then
  M.z29 p0 (ya .i64 (x308+1))
 else
  some x308
 partial_fixpoint
def M.q3e  (p0:List UInt8):Option Int:=do
 let j10←(do
   let j13←(do
     if (decide (0<(p0.length:Int))) then
      let c14←ix p0 0
      some (decide ((c14.toNat:Int)=45))
     else
      some false:Option Bool)
   if j13 then
    some (ya .i64 (0+1))
   else
    some 0:Option Int)
 let j53←(do
   M.z13 p0 j10 j10:Option Int)
 if (decide (j53=j10)) then
  some 0
 else
  let j129←(do
    let j132←(do
      if (decide ((ya .i64 (j53+1))<(p0.length:Int))) then
       let c133←ix p0 j53
       some (decide ((c133.toNat:Int)=46))
      else
       some false:Option Bool)
    let j138←(do
      if j132 then
       let c139←ix p0 (ya .i64 (j53+1))
       let a140←M.q3c (c139.toNat:Int)
       some a140
      else
       some false:Option Bool)
    if j138 then
     M.z1r p0 (ya .i64 (j53+1))
    else
     some j53:Option Int)
  let j246←(do
    let j250←(do
      if (decide (j129<(p0.length:Int))) then
       let c251←ix p0 j129
       if (decide ((c251.toNat:Int)=101)) then
        some true
       else
        let c252←ix p0 j129
        some (decide ((c252.toNat:Int)=69))
      else
       some false:Option Bool)
    if j250 then
     let j266←(do
       let j270←(do
         if (decide ((ya .i64 (j129+1))<(p0.length:Int))) then
          let c271←ix p0 (ya .i64 (j129+1))
          if (decide ((c271.toNat:Int)=43)) then
           some true
          else
           let c272←ix p0 (ya .i64 (j129+1))
           some (decide ((c272.toNat:Int)=45))
         else
          some false:Option Bool)
       if j270 then
        some (ya .i64 ((ya .i64 (j129+1))+1))
       else
        some (ya .i64 (j129+1)):Option Int)
     let j299←(do
       M.z29 p0 j266:Option Int)
     if (decide (j266<j299)) then
      some j299
     else
      some j129
    else
     some j129:Option Int)
  some j246
def M.z0d (p0:q08) (x39:Int):Option (Jn (q03 × q08) Unit):=do
 if (decide (x39<3)) then
  let x49←ix [([110,117,108,108]:List UInt8),([102,97,108,115,101]:List UInt8),([116,114,117,101]:List UInt8)] x39
  let j56←(do
    if (decide ((x49.length:Int)≤(ya .i64 ((p0.gs.length:Int) - p0.gi)))) then
     let s57←sub p0.gs p0.gi (ya .i64 (p0.gi+(x49.length:Int)))
     some (decide (s57=x49))
    else
     some false:Option Bool)
  if j56 then
   some (.done ((q03.mk x39 [] [] []),(q08.mk p0.gs (ya .i64 (p0.gi+(x49.length:Int))) p0.ge)))
  else
   M.z0d p0 (ya .i64 (x39+1))
 else
  some (.go ())
 partial_fixpoint
def M.q3m  (p0:q08):Option (q03 × q08):=do
 let q29←(do
   M.z0d p0 0:Option (Jn (q03 × q08) Unit))
 match q29 with
 | .done r=>some r
 | .go j29 =>
  let s58←sub p0.gs p0.gi (p0.gs.length:Int)
  let a59←M.q3e s58
  if (decide (a59=0)) then
   let a63←M.q3n p0 20
   some ((q03.mk 0 [] [] []),a63)
  else
   let s65←sub p0.gs (ya .i64 ((ya .i64 (p0.gi+a59)) - a59)) (ya .i64 (p0.gi+a59))
   some ((q03.mk 3 s65 [] []),(q08.mk p0.gs (ya .i64 (p0.gi+a59)) p0.ge))
def M.z03 (a3:Int) (self_q3l:q08→Int→Option (q03 × q08)) (p1:Int) (x1875:Bool) (x1876:List UInt8) (x1877:Int) (x1878:Int) (x1879:List q03) (x1880:List (List UInt8)):Option ((List UInt8) × Int × Int × (List q03) × (List (List UInt8))):=do
 let j2062←(do
   if x1875 then
    some (decide (x1878=0))
   else
    some false:Option Bool)
 if j2062 then
  let j2169←(do
    if (decide (a3=123)) then
     let a2170←M.q3g (q08.mk x1876 x1877 x1878)
     let a2172←M.q3k a2170
     let l2174←app 16 x1880 [a2172.1]
     let j2194←(do
       let j2198←(do
         if (decide (a2172.2.ge=0)) then
          let a2199←M.q3o l2174
          some a2199
         else
          some false:Option Bool)
       if j2198 then
        let a2201←M.q3n a2172.2 20
        some (a2201.gs,a2201.gi,a2201.ge)
       else
        some (a2172.2.gs,a2172.2.gi,a2172.2.ge):Option ((List UInt8) × Int × Int))
     let a2203←M.q3g (q08.mk j2194.1 j2194.2.1 j2194.2.2)
     let j2216←(do
       let a2217←M.q3f a2203
       if (!decide (a2217=58)) then
        let a2219←M.q3n a2203 20
        some (a2219.gs,a2219.gi,a2219.ge)
       else
        some (a2203.gs,a2203.gi,a2203.ge):Option ((List UInt8) × Int × Int))
     some (j2216.1,(ya .i64 (j2216.2.1+1)),j2216.2.2,l2174)
    else
     some (x1876,x1877,x1878,x1880):Option ((List UInt8) × Int × Int × (List (List UInt8))))
  let j2231←(do
    if (decide (j2169.2.2.1=0)) then
     let a2232←self_q3l (q08.mk j2169.1 j2169.2.1 j2169.2.2.1) (ya .i64 (p1+1))
     let l2234←app 72 x1879 [(q03.mk a2232.1.zc a2232.1.z0r a2232.1.ze a2232.1.z0m)]
     some (a2232.2.gs,a2232.2.gi,a2232.2.ge,l2234)
    else
     some (j2169.1,j2169.2.1,j2169.2.2.1,x1879):Option ((List UInt8) × Int × Int × (List q03)))
  let a2235←M.q3f (q08.mk j2231.1 j2231.2.1 j2231.2.2.1)
  if (decide (a2235=44)) then
   M.z03 a3 self_q3l p1 (decide (a2235=44)) j2231.1 (ya .i64 (j2231.2.1+1)) j2231.2.2.1 j2231.2.2.2 j2169.2.2.2
  else
   M.z03 a3 self_q3l p1 (decide (a2235=44)) j2231.1 j2231.2.1 j2231.2.2.1 j2231.2.2.2 j2169.2.2.2
 else
  some (x1876,x1877,x1878,x1879,x1880)
 partial_fixpoint
def M.q3l:Nat→q08→Int→Option (q03 × q08)
 | 0,_,_=>none
 | fuel+1,p0,p1=>do
  let a1←M.q3g p0
  let a3←M.q3f a1
  let q1133←(do
    if (decide (a3=34)) then
     let a1134←M.q3k a1
     some (.go (a1134.2.gs,a1134.2.gi,a1134.2.ge,4,a1134.1,[],[]))
    else
     let j1137←(do
       if (decide (a3=91)) then
        some (decide (a3=91))
       else
        some (decide (a3=123)):Option Bool)
     if j1137 then
      if (decide (16≤p1)) then
       let a1140←M.q3n a1 21
       some (.done ((q03.mk 0 [] [] []),a1140))
      else
       let j1144←(do
         if (decide (a3=123)) then
          some (125,6)
         else
          some (93,5):Option (Int × Int))
       let a1145←M.q3g (q08.mk a1.gs (ya .i64 (a1.gi+1)) a1.ge)
       let j1694←(do
         let a1695←M.q3f a1145
         M.z03 a3 (M.q3l fuel) p1 (!decide (a1695=j1144.1)) a1145.gs a1145.gi a1145.ge [] []:Option ((List UInt8) × Int × Int × (List q03) × (List (List UInt8))))
       let j2248←(do
         let a2249←M.q3f (q08.mk j1694.1 j1694.2.1 j1694.2.2.1)
         if (!decide (a2249=j1144.1)) then
          let a2251←M.q3n (q08.mk j1694.1 j1694.2.1 j1694.2.2.1) 20
          some (a2251.gs,a2251.gi,a2251.ge)
         else
          some (j1694.1,j1694.2.1,j1694.2.2.1):Option ((List UInt8) × Int × Int))
       some (.go (j2248.1,(ya .i64 (j2248.2.1+1)),j2248.2.2,j1144.2,[],j1694.2.2.2.1,j1694.2.2.2.2))
     else
      let a2253←M.q3m a1
      some (.go (a2253.2.gs,a2253.2.gi,a2253.2.ge,a2253.1.zc,a2253.1.z0r,a2253.1.ze,a2253.1.z0m)):Option (Jn (q03 × q08) ((List UInt8) × Int × Int × Int × (List UInt8) × (List q03) × (List (List UInt8)))))
  match q1133 with
  | .done r=>some r
  | .go j1133 =>
   if (decide (j1133.2.2.1=0)) then
    let a2255←M.q3g (q08.mk j1133.1 j1133.2.1 j1133.2.2.1)
    some ((q03.mk j1133.2.2.2.1 j1133.2.2.2.2.1 j1133.2.2.2.2.2.1 j1133.2.2.2.2.2.2),a2255)
   else
    some ((q03.mk j1133.2.2.2.1 j1133.2.2.2.2.1 j1133.2.2.2.2.2.1 j1133.2.2.2.2.2.2),(q08.mk j1133.1 j1133.2.1 j1133.2.2.1))
def M.q32 (fuel:Nat) (p0:List UInt8):Option (q03 × Int):=do
 if (decide (16384<(p0.length:Int))) then
  some ((q03.mk 0 [] [] []),22)
 else
  let a1←M.q3l fuel (q08.mk p0 0 0) 0
  let j10←(do
    if (decide (a1.2.gi<(p0.length:Int))) then
     let a11←M.q3n a1.2 20
     some (a11.gs,a11.gi,a11.ge)
    else
     some (a1.2.gs,a1.2.gi,a1.2.ge):Option ((List UInt8) × Int × Int))
  if (!decide (j10.2.2=0)) then
   some ((q03.mk 0 [] [] []),j10.2.2)
  else
   some (a1.1,0)
def M.z0p (a1:q09) (x54:Int):Option Int:=do
 let j70←(do
   if (decide (x54<(a1.gs.length:Int))) then
    let c71←ix a1.gs x54
    some (!decide ((c71.toNat:Int)=34))
   else
    some false:Option Bool)
 if j70 then
  let c72←ix a1.gs x54
  if (decide ((c72.toNat:Int)=92)) then
   M.z0p a1 (ya .i64 ((ya .i64 (x54+1))+1))
  else
   M.z0p a1 (ya .i64 (x54+1))
 else
  some x54
 partial_fixpoint
def M.q4n (fuel:Nat) (p0:q09):Option ((List UInt8) × q09):=do
 let a1←M.q4j p0
 let j11←(do
   if (decide ((a1.gs.length:Int)≤a1.gi)) then
    some true
   else
    let c12←ix a1.gs a1.gi
    some (!decide ((c12.toNat:Int)=34)):Option Bool)
 if j11 then
  let a13←M.q4p a1 190
  some ([],a13)
 else
  let j44←(do
    M.z0p a1 (ya .i64 (a1.gi+1)):Option Int)
  if (decide ((a1.gs.length:Int)≤j44)) then
   let a75←M.q4p a1 190
   some ([],a75)
  else
   let j85←(do
     let s86←sub a1.gs a1.gi (ya .i64 (j44+1))
     let a87←M.q32 fuel s86
     some (a87.2,a87.1.zc,a87.1.z0r,a87.1.ze,a87.1.z0m):Option (Int × Int × (List UInt8) × (List q03) × (List (List UInt8))))
   let j100←(do
     if ((!decide (j85.1=0))||(decide (128<(j85.2.2.1.length:Int)))) then
      let a103←M.q4p a1 190
      some (a103.gs,a103.gi,a103.ge)
     else
      some (a1.gs,a1.gi,a1.ge):Option ((List UInt8) × Int × Int))
   some (j85.2.2.1,(q09.mk j100.1 (ya .i64 (j44+1)) j100.2.2))
def M.q4e  (p0:Int) (p1:List q01):Option q01:=do
 if (decide ((p1.length:Int)=1)) then
  let x1←ix p1 0
  some x1
 else
  some (q01.mk p0 [] [] p1)
def M.z07 (self_q4k:q09→Int→Option (q01 × q09)) (p1:Int) (x892:List q01) (x893:List UInt8) (x894:Int) (x895:Int):Option ((List q01) × (List UInt8) × Int × Int):=do
 let j932←(do
   if (decide (x895=0)) then
    let a933←M.q4m (q09.mk x893 x894 x895) ([97,110,100]:List UInt8)
    some (a933.1,a933.2.gs,a933.2.gi,a933.2.ge)
   else
    some (false,x893,x894,x895):Option (Bool × (List UInt8) × Int × Int))
 if j932.1 then
  let a935←self_q4k (q09.mk j932.2.1 j932.2.2.1 j932.2.2.2) p1
  let l937←app 64 x892 [(q01.mk a935.1.zc a935.1.zk a935.1.z06 a935.1.ze)]
  M.z07 self_q4k p1 l937 a935.2.gs a935.2.gi a935.2.ge
 else
  some (x892,j932.2.1,j932.2.2.1,j932.2.2.2)
 partial_fixpoint
def M.z0h (self_q4k:q09→Int→Option (q01 × q09)) (p1:Int) (x631:List q01) (x632:Bool) (x633:List UInt8) (x634:Int) (x635:Int):Option ((List q01) × (List UInt8) × Int × Int):=do
 let j796←(do
   if x632 then
    some (decide (x635=0))
   else
    some false:Option Bool)
 if j796 then
  let a797←self_q4k (q09.mk x633 x634 x635) p1
  let j870←(do
    M.z07 self_q4k p1 [(q01.mk a797.1.zc a797.1.zk a797.1.z06 a797.1.ze)] a797.2.gs a797.2.gi a797.2.ge:Option ((List q01) × (List UInt8) × Int × Int))
  let a938←M.q4e 0 j870.1
  let l940←app 64 x631 [(q01.mk a938.zc a938.zk a938.z06 a938.ze)]
  let j947←(do
    if (decide (j870.2.2.2=0)) then
     let a948←M.q4m (q09.mk j870.2.1 j870.2.2.1 j870.2.2.2) ([111,114]:List UInt8)
     some (a948.1,a948.2.gs,a948.2.gi,a948.2.ge)
    else
     some (false,j870.2.1,j870.2.2.1,j870.2.2.2):Option (Bool × (List UInt8) × Int × Int))
  M.z0h self_q4k p1 l940 j947.1 j947.2.1 j947.2.2.1 j947.2.2.2
 else
  some (x631,x633,x634,x635)
 partial_fixpoint
def M.z0s (a73:(List (List UInt8))) (fuel:Nat) (a51:(List UInt8) × q09) (x103:Int) (x104:List UInt8) (x105:Int) (x106:Int):Option (Jn (q01 × q09) ((List UInt8) × Int × Int)):=do
 if (decide (x103<(a73.length:Int))) then
  let x112←ix a73 x103
  let a113←M.q4m (q09.mk x104 x105 x106) x112
  if a113.1 then
   let a115←M.q4n fuel a113.2
   some (.done ((q01.mk (ya .i64 (4+x103)) a51.1 a115.1 []),a115.2))
  else
   M.z0s a73 fuel a51 (ya .i64 (x103+1)) a113.2.gs a113.2.gi a113.2.ge
 else
  some (.go (x104,x105,x106))
 partial_fixpoint
mutual
def M.q4l:Nat→q09→Int→Option (q01 × q09)
 | 0,_,_=>none
 | fuel+1,p0,p1=>do
  let j477←(do
    M.z0h (M.q4k fuel) p1 ([]:List q01) true p0.gs p0.gi p0.ge:Option ((List q01) × (List UInt8) × Int × Int))
  let a950←M.q4e 1 j477.1
  some (a950,(q09.mk j477.2.1 j477.2.2.1 j477.2.2.2))
def M.q4k:Nat→q09→Int→Option (q01 × q09)
 | 0,_,_=>none
 | fuel+1,p0,p1=>do
  let a1←M.q4m p0 ([110,111,116]:List UInt8)
  let a27←M.q4h a1.2 40
  if a27.1 then
   if (decide (16≤p1)) then
    let a31←M.q4p a27.2 193
    some ((q01.mk 0 [] [] []),a31)
   else
    let a33←(M.q4l fuel) a27.2 (ya .i64 (p1+1))
    let j46←(do
      let a47←M.q4h a33.2 41
      if (!a47.1) then
       let a49←M.q4p a47.2 190
       some (a49.gs,a49.gi,a49.ge)
      else
       some (a47.2.gs,a47.2.gi,a47.2.ge):Option ((List UInt8) × Int × Int))
    if a1.1 then
     some ((q01.mk 2 [] [] [(q01.mk a33.1.zc a33.1.zk a33.1.z06 a33.1.ze)]),(q09.mk j46.1 j46.2.1 j46.2.2))
    else
     some (a33.1,(q09.mk j46.1 j46.2.1 j46.2.2))
  else
   let a51←M.q4o a27.2
   let j64←(do
     if a1.1 then
      some true
     else
      let a65←M.q3t a51.1
      some (!a65):Option Bool)
   if j64 then
    let a67←M.q4p a51.2 190
    some ((q01.mk 0 [] [] []),a67)
   else
    let a71←M.q4m (q09.mk a51.2.gs (ya .i64 (a51.2.gi+(a51.1.length:Int))) a51.2.ge) ([112,114]:List UInt8)
    if a71.1 then
     some ((q01.mk 3 a51.1 [] []),a71.2)
    else
     let a73←M.q4v
     let q97←(do
       M.z0s a73 fuel a51 0 a71.2.gs a71.2.gi a71.2.ge:Option (Jn (q01 × q09) ((List UInt8) × Int × Int)))
     match q97 with
     | .done r=>some r
     | .go j97 =>
      let a117←M.q4p (q09.mk j97.1 j97.2.1 j97.2.2) 190
      some ((q01.mk 0 [] [] []),a117)
end
def M.q3u (fuel:Nat) (p0:List UInt8):Option (q01 × Int):=do
 if (decide (1024<(p0.length:Int))) then
  some ((q01.mk 0 [] [] []),191)
 else
  let a1←M.q4l fuel (q09.mk p0 0 0) 0
  let a3←M.q4j a1.2
  let j12←(do
    if (decide (a3.gi<(p0.length:Int))) then
     let a13←M.q4p a3 190
     some (a13.gs,a13.gi,a13.ge)
    else
     some (a3.gs,a3.gi,a3.ge):Option ((List UInt8) × Int × Int))
  if (!decide (j12.2.2=0)) then
   some ((q01.mk 0 [] [] []),j12.2.2)
  else
   some (a1.1,0)
def M.q1b (fuel:Nat) (p0:List UInt8):Option Bool:=do
 let a1←M.q1m fuel p0
 let a3←M.q3u fuel p0
 let a5←M.q1d fuel
 let j12←(do
   if (a5&&(decide (a1.2=a3.2))) then
    let a13←M.q3z fuel a1.1 a3.1
    some a13
   else
    some false:Option Bool)
 some j12
end Go.Sen
