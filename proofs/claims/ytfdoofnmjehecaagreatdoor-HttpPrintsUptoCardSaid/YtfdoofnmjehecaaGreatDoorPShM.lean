import Derived.Test.YtfdoofnmjehecaaGreatDoorPHtM
import Derived.Test.YtfdoofnmjehecaaGreatDoorPShL
set_option linter.all false
set_option maxRecDepth 1000000
namespace Go.Sen
open IntKind renaming wrap → ya
open Go.Lk Go.Pe
noncomputable section
def MB.z0u (n:Nat) (ih:Z→(Int)→(Int)→(Int)→Option (Jn Bool Unit)) (p0:Z) (p1:Int) (p2:Int) (x23:Int):Option (Jn Bool Unit):=do
 if (decide (x23<(p0.length:Int))) then
  let c29←ix p0 x23
  let j32←(do
    if (decide ((c29.toNat:Int)<p1)) then
     none
    else
     let c33←ix p0 x23
     some (decide (p2<(c33.toNat:Int))):Option Bool)
  if j32 then
   none
  else
   ih p0 p1 p2 (ya .i64 (x23+1))
 else
  some (.go ())
def MF.z0u (n:Nat):=rc MB.z0u (fun _ _ _ _=>none) n
theorem MF.z0u.le:∀ (n:Nat) (p0:Z) (p1:Int) (p2:Int) (x23:Int),Le (MF.z0u n p0 p1 p2 x23) (M.z0u p0 p1 p2 x23):=by
 intro n;induction n with
 | zero=>intros;exact Le.none _
 | succ n ih =>
  intro p0 p1 p2 x23
  show Le (MB.z0u n (MF.z0u n) p0 p1 p2 x23) _
  rw [M.z0u];unfold MB.z0u
  repeat' first|with_reducible first|apply Le.none|apply Le.refl|apply ih|apply Le.jn|apply Le.rs|apply Le.rb|apply Le.bind|apply Le.ite|intro _|dsimp only|split
def MF.q1x (n:Nat) (p0:Z) (p1:Int) (p2:Int):Option Bool:=do
 let q17←(do
   MF.z0u n p0 p1 p2 0:Option (Jn Bool Unit))
 match q17 with
 | .done r=>some r
 | .go j17 =>
  some true
theorem MF.q1x.le (n:Nat) (p0:Z) (p1:Int) (p2:Int):Le (MF.q1x n p0 p1 p2) (M.q1x p0 p1 p2):=by
 unfold MF.q1x M.q1x
 repeat' first|with_reducible first|apply Le.none|apply Le.refl|apply MF.z0u.le n|apply Le.jn|apply Le.rs|apply Le.rb|apply Le.bind|apply Le.ite|intro _|dsimp only|split
def MB.zw (n:Nat) (ih:Z→(List Int)→Option (Z × Int)) (x22:Z) (x23:List Int):Option (Z × Int):=do
 let a45←M.cut x22 [37]
 let a47←M.q71 x23 a45.1
 if (!a45.2.2) then
  let a51←M.zj a47.2
  some (a51,0)
 else
  none
def MF.zw (n:Nat):=rc MB.zw (fun _ _=>none) n
theorem MF.zw.le:∀ (n:Nat) (x22:Z) (x23:List Int),Le (MF.zw n x22 x23) (M.zw x22 x23):=by
 intro n;induction n with
 | zero=>intros;exact Le.none _
 | succ n ih =>
  intro x22 x23
  show Le (MB.zw n (MF.zw n) x22 x23) _
  rw [M.zw];unfold MB.zw
  repeat' first|with_reducible first|apply Le.none|apply Le.refl|apply ih|apply Le.jn|apply Le.rs|apply Le.rb|apply Le.bind|apply Le.ite|intro _|dsimp only|split
def MF.q0l (n:Nat) (p0:Z):Option (Z × Int):=do
 MF.zw n p0 ([]:List Int)
theorem MF.q0l.le (n:Nat) (p0:Z):Le (MF.q0l n p0) (M.q0l p0):=by
 unfold MF.q0l M.q0l
 repeat' first|with_reducible first|apply Le.none|apply Le.refl|apply MF.zw.le n|apply Le.jn|apply Le.rs|apply Le.rb|apply Le.bind|apply Le.ite|intro _|dsimp only|split
def MB.z1g (n:Nat) (ih:((List Z))→(Int)→(List Z)→Option (Jn (Rs q03) (List Z))) (a71:(List Z)) (x81:Int) (x82:List Z):Option (Jn (Rs q03) (List Z)):=do
 if (decide (x81<(a71.length:Int))) then
  let x91←ix a71 x81
  let a92←MF.q0l n x91
  let a94←M.q1p (decide (a92.2=0)) 220
  match a94 with
  | .pan e97 =>
   none
  | .ok a96 =>
   let l98←app 16 x82 [a92.1]
   ih a71 (ya .i64 (x81+1)) l98
 else
  some (.go x82)
def MF.z1g (n:Nat):=rc MB.z1g (fun _ _ _=>none) n
theorem MF.z1g.le:∀ (n:Nat) (a71:(List Z)) (x81:Int) (x82:List Z),Le (MF.z1g n a71 x81 x82) (M.z1g a71 x81 x82):=by
 intro n;induction n with
 | zero=>intros;exact Le.none _
 | succ n ih =>
  intro a71 x81 x82
  show Le (MB.z1g n (MF.z1g n) a71 x81 x82) _
  rw [M.z1g];unfold MB.z1g
  repeat' first|with_reducible first|apply Le.none|apply Le.refl|apply ih|apply MF.q0l.le n|apply Le.jn|apply Le.rs|apply Le.rb|apply Le.bind|apply Le.ite|intro _|dsimp only|split
def MB.z08 (n:Nat) (ih:((List Z))→(List q05)→(Int)→Option (Jn ((List q05) × Int) (List q05))) (a1:(List Z)) (x67:List q05) (x68:Int):Option (Jn ((List q05) × Int) (List q05)):=do
 if (decide (x68<(a1.length:Int))) then
  let x83←ix a1 x68
  if (decide (x83=[])) then
   none
  else
   let a84←M.replaceAll x83 [43] [32]
   let a86←M.cut a84 [61]
   let a88←MF.q0l n a86.1
   let a90←MF.q0l n a86.2.1
   if ((!decide (a88.2=0))||(!decide (a90.2=0))) then
    none
   else
    let l96←app 32 x67 [(q05.mk a88.1 a90.1)]
    ih a1 l96 (ya .i64 (x68+1))
 else
  some (.go x67)
def MF.z08 (n:Nat):=rc MB.z08 (fun _ _ _=>none) n
theorem MF.z08.le:∀ (n:Nat) (a1:(List Z)) (x67:List q05) (x68:Int),Le (MF.z08 n a1 x67 x68) (M.z08 a1 x67 x68):=by
 intro n;induction n with
 | zero=>intros;exact Le.none _
 | succ n ih =>
  intro a1 x67 x68
  show Le (MB.z08 n (MF.z08 n) a1 x67 x68) _
  rw [M.z08];unfold MB.z08
  repeat' first|with_reducible first|apply Le.none|apply Le.refl|apply ih|apply MF.q0l.le n|apply Le.jn|apply Le.rs|apply Le.rb|apply Le.bind|apply Le.ite|intro _|dsimp only|split
def MF.q0k (n:Nat) (p0:Z):Option ((List q05) × Int):=do
 let a1←M.split p0 [38]
 if ((decide (8192<(p0.length:Int)))||(decide (64<(a1.length:Int)))) then
  none
 else
  if (decide (p0=[])) then
   some ([],0)
  else
   let q52←(do
     MF.z08 n a1 [] 0:Option (Jn ((List q05) × Int) (List q05)))
   match q52 with
   | .done r=>some r
   | .go j52 =>
    some (j52,0)
theorem MF.q0k.le (n:Nat) (p0:Z):Le (MF.q0k n p0) (M.q0k p0):=by
 unfold MF.q0k M.q0k
 repeat' first|with_reducible first|apply Le.none|apply Le.refl|apply MF.z08.le n|apply Le.jn|apply Le.rs|apply Le.rb|apply Le.bind|apply Le.ite|intro _|dsimp only|split
def MF.q2r (n:Nat) (p0:Z):Option (Rs q03):=do
 let a1←M.split p0 [32]
 let j7←(do
   if (decide ((a1.length:Int)=3)) then
    let x8←ix a1 0
    let a9←M.q1o x8
    some a9
   else
    none:Option Bool)
 let j13←(do
   if j7 then
    let x14←ix a1 2
    some (decide (x14=[72,84,84,80,47,49,46,49]))
   else
    none:Option Bool)
 let j19←(do
   if j13 then
    let x20←ix a1 1
    let a21←M.q73 x20 [47]
    some a21
   else
    some false:Option Bool)
 let j27←(do
   if j19 then
    let x28←ix a1 1
    let a29←MF.q1x n x28 33 126
    some a29
   else
    some false:Option Bool)
 let a31←M.q1p j27 220
 match a31 with
 | .pan e34 =>
  some (.pan e34)
 | .ok a33 =>
  let x35←ix a1 0
  let x36←ix a1 1
  let a37←M.cut x36 [63]
  let q69←(do
    let s70←sub a37.1 1 (a37.1.length:Int)
    let a71←M.split s70 [47]
    MF.z1g n a71 0 []:Option (Jn (Rs q03) (List Z)))
  match q69 with
  | .done r=>some r
  | .go j69 =>
   let a99←MF.q0k n a37.2.1
   let a103←M.q1p ((decide (a99.2=0))&&(decide ((j69.length:Int)≤64))) 220
   match a103 with
   | .pan e106 =>
    none
   | .ok a105 =>
    some (.ok (q03.mk x35 j69 a99.1 ([]:List q05) []))
theorem MF.q2r.le (n:Nat) (p0:Z):Le (MF.q2r n p0) (M.q2r p0):=by
 unfold MF.q2r M.q2r
 repeat' first|with_reducible first|apply Le.none|apply Le.refl|apply MF.q1x.le n|apply MF.z1g.le n|apply MF.q0k.le n|apply Le.jn|apply Le.rs|apply Le.rb|apply Le.bind|apply Le.ite|intro _|dsimp only|split
def MF.q2t (n:Nat) (p0:Z):Option Bool:=do
 let a1←MF.q1x n p0 32 126
 let j6←(do
   if a1 then
    let a7←M.trim p0 [32]
    some (decide (a7=p0))
   else
    none:Option Bool)
 some j6
theorem MF.q2t.le (n:Nat) (p0:Z):Le (MF.q2t n p0) (M.q2t p0):=by
 unfold MF.q2t M.q2t
 repeat' first|with_reducible first|apply Le.none|apply Le.refl|apply MF.q1x.le n|apply Le.jn|apply Le.rs|apply Le.rb|apply Le.bind|apply Le.ite|intro _|dsimp only|split
def MB.z0t (n:Nat) (ih:(List Z)→(Int)→(Int)→(List q05)→(List (Z × Bool))→Option (Jn (q03 × Int × Int) (Int × (List q05) × (List (Z × Bool))))) (l145:List Z) (x184:Int) (x185:Int) (x186:List q05) (x187:List (Z × Bool)):Option (Jn (q03 × Int × Int) (Int × (List q05) × (List (Z × Bool)))):=do
 if (decide (x185<(l145.length:Int))) then
  let x226←ix l145 x185
  let a227←M.q1p (decide (x185<32)) 222
  match a227 with
  | .pan e230 =>
   none
  | .ok a229 =>
   let a231←M.cut x226 [58]
   let a233←M.z3y a231.1
   let a235←M.trim a231.2.1 [32]
   let j240←(do
     if a231.2.2 then
      let a241←M.q1q a233
      some a241
     else
      none:Option Bool)
   let j246←(do
     if j240 then
      let a247←MF.q2t n a235
      some a247
     else
      none:Option Bool)
   let j250←(do
     if j246 then
      some (!(z4n x187 a233 false))
     else
      none:Option Bool)
   let a251←M.q1p j250 220
   match a251 with
   | .pan e254 =>
    none
   | .ok a253 =>
    let m255←some (z2i x187 a233 true)
    if (!decide (a233=[99,111,110,116,101,110,116,45,108,101,110,103,116,104])) then
     let l257←app 32 x186 [(q05.mk a233 a235)]
     ih l145 x184 (ya .i64 (x185+1)) l257 m255
    else
     let a258←M.q1t a235 9
     let a260←M.q1p a258.2 220
     match a260 with
     | .pan e263 =>
      none
     | .ok a262 =>
      ih l145 a258.1 (ya .i64 (x185+1)) x186 m255
 else
  some (.go (x184,x186,x187))
def MF.z0t (n:Nat):=rc MB.z0t (fun _ _ _ _ _=>none) n
theorem MF.z0t.le:∀ (n:Nat) (l145:List Z) (x184:Int) (x185:Int) (x186:List q05) (x187:List (Z × Bool)),Le (MF.z0t n l145 x184 x185 x186 x187) (M.z0t l145 x184 x185 x186 x187):=by
 intro n;induction n with
 | zero=>intros;exact Le.none _
 | succ n ih =>
  intro l145 x184 x185 x186 x187
  show Le (MB.z0t n (MF.z0t n) l145 x184 x185 x186 x187) _
  rw [M.z0t];unfold MB.z0t
  repeat' first|with_reducible first|apply Le.none|apply Le.refl|apply ih|apply MF.q2t.le n|apply Le.jn|apply Le.rs|apply Le.rb|apply Le.bind|apply Le.ite|intro _|dsimp only|split
def MF.q0s (n:Nat) (p0:Z):Option (q03 × Int × Int):=do
 let a1←M.q1f p0
 let a5←M.q1p ((decide (0<a1))||(decide ((p0.length:Int)<8192))) 222
 match a5 with
 | .pan e8 =>
  none
 | .ok a7 =>
  let a9←M.q1p (decide (0<a1)) 223
  match a9 with
  | .pan e12 =>
   none
  | .ok a11 =>
   let s13←sub p0 0 (ya .i64 (a1 - 4))
   let a14←M.split s13 [13,10]
   let x16←ix a14 0
   let a17←MF.q2r n x16
   match a17 with
   | .pan e20 =>
    some ((q03.mk [] [] [] [] []),0,e20)
   | .ok a19 =>
    let m21←some (z2i ([]:List (Z × Bool)) [116,114,97,110,115,102,101,114,45,101,110,99,111,100,105,110,103] true)
    let q144←(do
      let l145←sub a14 1 (a14.length:Int)
      MF.z0t n l145 0 0 a19.zl m21:Option (Jn (q03 × Int × Int) (Int × (List q05) × (List (Z × Bool)))))
    match q144 with
    | .done r=>some r
    | .go j144 =>
     let a264←M.q1p (z4n j144.2.2 [104,111,115,116] false) 220
     match a264 with
     | .pan e267 =>
      none
     | .ok a266 =>
      let a268←M.q1p (decide (j144.1≤16384)) 221
      match a268 with
      | .pan e271 =>
       none
      | .ok a270 =>
       let a272←M.q1p (decide (j144.1≤(ya .i64 ((p0.length:Int) - a1)))) 223
       match a272 with
       | .pan e275 =>
        some ((q03.mk [] [] [] [] []),0,e275)
       | .ok a274 =>
        let s276←sub p0 a1 (ya .i64 (a1+j144.1))
        some ((q03.mk a19.zo a19.zu a19.z0s j144.2.1 s276),(ya .i64 (a1+j144.1)),0)
theorem MF.q0s.le (n:Nat) (p0:Z):Le (MF.q0s n p0) (M.q0s p0):=by
 unfold MF.q0s M.q0s
 repeat' first|with_reducible first|apply Le.none|apply Le.refl|apply MF.q2r.le n|apply MF.z0t.le n|apply Le.jn|apply Le.rs|apply Le.rb|apply Le.bind|apply Le.ite|intro _|dsimp only|split
def MB.z07 (n:Nat) (ih:(List Z)→((List Z))→(q00)→(Int)→Z→Z→Option (Jn (Bool × q00) (Z × Z))) (p1:List Z) (a2:(List Z)) (p2:q00) (x50:Int) (x51:Z) (x52:Z):Option (Jn (Bool × q00) (Z × Z)):=do
 if (decide (x50<(p1.length:Int))) then
  let x63←ix p1 x50
  let x64←ix a2 x50
  if ((decide (x64=[79,70]))&&(!decide (x63=[]))) then
   none
  else
   let x67←ix a2 x50
   if (decide (x67=[78,65,77,69])) then
    none
   else
    let x68←ix a2 x50
    let j71←(do
      if (!decide (x68=x63)) then
       some true
      else
       let x72←ix a2 x50
       some (decide (x72=[79,70])):Option Bool)
    if j71 then
     some (.done (false,(q00.mk p2.zi x51 p2.z2h p2.z2g p2.z0r p2.z1f p2.z1u p2.z1m p2.z02 p2.z10 p2.z05 p2.z09 p2.z04 p2.zt p2.z06 p2.z0n x52 p2.z2l p2.zv p2.z5a p2.z4t p2.z0z p2.z1o p2.z0v p2.z2p p2.z1q)))
    else
     ih p1 a2 p2 (ya .i64 (x50+1)) x51 x52
 else
  some (.go (x51,x52))
def MF.z07 (n:Nat):=rc MB.z07 (fun _ _ _ _ _ _=>none) n
theorem MF.z07.le:∀ (n:Nat) (p1:List Z) (a2:(List Z)) (p2:q00) (x50:Int) (x51:Z) (x52:Z),Le (MF.z07 n p1 a2 p2 x50 x51 x52) (M.z07 p1 a2 p2 x50 x51 x52):=by
 intro n;induction n with
 | zero=>intros;exact Le.none _
 | succ n ih =>
  intro p1 a2 p2 x50 x51 x52
  show Le (MB.z07 n (MF.z07 n) p1 a2 p2 x50 x51 x52) _
  rw [M.z07];unfold MB.z07
  repeat' first|with_reducible first|apply Le.none|apply Le.refl|apply ih|apply Le.jn|apply Le.rs|apply Le.rb|apply Le.bind|apply Le.ite|intro _|dsimp only|split
def MF.q29 (n:Nat) (p0:q0a) (p1:List Z) (p2:q00):Option (Bool × q00):=do
 let s1←sub p0.zaa 1 (p0.zaa.length:Int)
 let a2←M.split s1 [47]
 if (!decide ((a2.length:Int)=(p1.length:Int))) then
  some (false,p2)
 else
  let q39←(do
    MF.z07 n p1 a2 p2 0 p2.gOf p2.z03:Option (Jn (Bool × q00) (Z × Z)))
  match q39 with
  | .done r=>some r
  | .go j39 =>
   some (true,(q00.mk p2.zi j39.1 p2.z2h p2.z2g p2.z0r p2.z1f p2.z1u p2.z1m p2.z02 p2.z10 p2.z05 p2.z09 p2.z04 p2.zt p2.z06 p2.z0n j39.2 p2.z2l p2.zv p2.z5a p2.z4t p2.z0z p2.z1o p2.z0v p2.z2p p2.z1q))
theorem MF.q29.le (n:Nat) (p0:q0a) (p1:List Z) (p2:q00):Le (MF.q29 n p0 p1 p2) (M.q29 p0 p1 p2):=by
 unfold MF.q29 M.q29
 repeat' first|with_reducible first|apply Le.none|apply Le.refl|apply MF.z07.le n|apply Le.jn|apply Le.rs|apply Le.rb|apply Le.bind|apply Le.ite|intro _|dsimp only|split
def MB.z14 (n:Nat) (ih:(List q05)→Z→Z→(Int)→(Int)→Option (Z × Int)) (p0:List q05) (p1:Z) (x15:Z) (x16:Int) (x17:Int):Option (Z × Int):=do
 if (decide (0≤x17)) then
  let x20←ix p0 x17
  if (decide (x20.z03=p1)) then
   let x21←ix p0 x17
   ih p0 p1 x21.z1d (ya .i64 (x16+1)) (ya .i64 (x17 - 1))
  else
   ih p0 p1 x15 x16 (ya .i64 (x17 - 1))
 else
  some (x15,x16)
def MF.z14 (n:Nat):=rc MB.z14 (fun _ _ _ _ _=>none) n
theorem MF.z14.le:∀ (n:Nat) (p0:List q05) (p1:Z) (x15:Z) (x16:Int) (x17:Int),Le (MF.z14 n p0 p1 x15 x16 x17) (M.z14 p0 p1 x15 x16 x17):=by
 intro n;induction n with
 | zero=>intros;exact Le.none _
 | succ n ih =>
  intro p0 p1 x15 x16 x17
  show Le (MB.z14 n (MF.z14 n) p0 p1 x15 x16 x17) _
  rw [M.z14];unfold MB.z14
  repeat' first|with_reducible first|apply Le.none|apply Le.refl|apply ih|apply Le.jn|apply Le.rs|apply Le.rb|apply Le.bind|apply Le.ite|intro _|dsimp only|split
def MF.q0m (n:Nat) (p0:List q05) (p1:Z):Option (Z × Int):=do
 let j12←(do
   MF.z14 n p0 p1 [] 0 (ya .i64 ((p0.length:Int) - 1)):Option (Z × Int))
 some (j12.1,j12.2)
theorem MF.q0m.le (n:Nat) (p0:List q05) (p1:Z):Le (MF.q0m n p0 p1) (M.q0m p0 p1):=by
 unfold MF.q0m M.q0m
 repeat' first|with_reducible first|apply Le.none|apply Le.refl|apply MF.z14.le n|apply Le.jn|apply Le.rs|apply Le.rb|apply Le.bind|apply Le.ite|intro _|dsimp only|split
def MF.q1h (n:Nat) (p0:List q05) (p1:Z):Option (Z × Bool):=do
 let a1←MF.q0m n p0 p1
 some (a1.1,(decide (0<a1.2)))
theorem MF.q1h.le (n:Nat) (p0:List q05) (p1:Z):Le (MF.q1h n p0 p1) (M.q1h p0 p1):=by
 unfold MF.q1h M.q1h
 repeat' first|with_reducible first|apply Le.none|apply Le.refl|apply MF.q0m.le n|apply Le.jn|apply Le.rs|apply Le.rb|apply Le.bind|apply Le.ite|intro _|dsimp only|split
def MF.q2c (n:Nat) (p0:q0a) (p1:List q05) (p2:q00):Option (Rb q00 q00):=do
 let q18←(do
   if (!decide ((zb2 .i64 p0.z7g 1)=0)) then
    none
   else
    some (.go p2.z0r):Option (Jn (Rb q00 q00) Z))
 match q18 with
 | .done r=>some r
 | .go j18 =>
  let q60←(do
    let a61←MF.q1h n p1 [97,117,116,104,111,114,105,122,97,116,105,111,110]
    if (a61.2&&(!decide ((zb2 .i64 p0.z7g 2)=0))) then
     none
    else
     some (.go p2.z1u):Option (Jn (Rb q00 q00) Z))
  match q60 with
  | .done r=>some r
  | .go j60 =>
   let a77←MF.q1h n p1 [105,102,45,109,97,116,99,104]
   if (a77.2&&(!decide ((zb2 .i64 p0.z7g 4)=0))) then
    none
   else
    some (.ok (q00.mk p2.zi p2.gOf p2.z2h p2.z2g j18 p2.z1f j60 p2.z1m p2.z02 p2.z10 p2.z05 p2.z09 p2.z04 p2.zt p2.z06 p2.z0n p2.z03 p2.z2l p2.zv p2.z5a p2.z4t p2.z0z p2.z1o p2.z0v p2.z2p p2.z1q))
theorem MF.q2c.le (n:Nat) (p0:q0a) (p1:List q05) (p2:q00):Le (MF.q2c n p0 p1 p2) (M.q2c p0 p1 p2):=by
 unfold MF.q2c M.q2c
 repeat' first|with_reducible first|apply Le.none|apply Le.refl|apply MF.q1h.le n|apply Le.jn|apply Le.rs|apply Le.rb|apply Le.bind|apply Le.ite|intro _|dsimp only|split
def MB.zb (n:Nat) (ih:(List q0b)→(q05)→(Int)→Option (Jn Int Unit)) (p0:List q0b) (p1:q05) (x15:Int):Option (Jn Int Unit):=do
 if (decide (x15<(p0.length:Int))) then
  let x19←ix p0 x15
  let a20←M.q2b x19 p1
  if a20 then
   some (.done x15)
  else
   ih p0 p1 (ya .i64 (x15+1))
 else
  none
def MF.zb (n:Nat):=rc MB.zb (fun _ _ _=>none) n
theorem MF.zb.le:∀ (n:Nat) (p0:List q0b) (p1:q05) (x15:Int),Le (MF.zb n p0 p1 x15) (M.zb p0 p1 x15):=by
 intro n;induction n with
 | zero=>intros;exact Le.none _
 | succ n ih =>
  intro p0 p1 x15
  show Le (MB.zb n (MF.zb n) p0 p1 x15) _
  rw [M.zb];unfold MB.zb
  repeat' first|with_reducible first|apply Le.none|apply Le.refl|apply ih|apply Le.jn|apply Le.rs|apply Le.rb|apply Le.bind|apply Le.ite|intro _|dsimp only|split
def MF.q6v (n:Nat) (p0:List q0b) (p1:q05):Option Int:=do
 let q11←(do
   MF.zb n p0 p1 0:Option (Jn Int Unit))
 match q11 with
 | .done r=>some r
 | .go j11 =>
  none
theorem MF.q6v.le (n:Nat) (p0:List q0b) (p1:q05):Le (MF.q6v n p0 p1) (M.q6v p0 p1):=by
 unfold MF.q6v M.q6v
 repeat' first|with_reducible first|apply Le.none|apply Le.refl|apply MF.zb.le n|apply Le.jn|apply Le.rs|apply Le.rb|apply Le.bind|apply Le.ite|intro _|dsimp only|split
def MF.q6q (n:Nat) (p0:List q0b) (p1:q05):Option Bool:=do
 let a1←MF.q6v n p0 p1
 some (decide (0≤a1))
theorem MF.q6q.le (n:Nat) (p0:List q0b) (p1:q05):Le (MF.q6q n p0 p1) (M.q6q p0 p1):=by
 unfold MF.q6q M.q6q
 repeat' first|with_reducible first|apply Le.none|apply Le.refl|apply MF.q6v.le n|apply Le.jn|apply Le.rs|apply Le.rb|apply Le.bind|apply Le.ite|intro _|dsimp only|split
def MB.z0b (n:Nat) (ih:(List q05)→(q0a)→(q00)→(Int)→Option (Jn (Rb q00 q00) Unit)) (p1:List q05) (p0:q0a) (p2:q00) (x55:Int):Option (Jn (Rb q00 q00) Unit):=do
 if (decide (x55<(p1.length:Int))) then
  let x69←ix p1 x55
  let a70←MF.q0m n p1 x69.z03
  let j75←(do
    if (decide (a70.2=1)) then
     let a76←MF.q6q n p0.z1s x69
     some a76
    else
     none:Option Bool)
  let a78←M.q1p j75 227
  match a78 with
  | .pan e81 =>
   none
  | .ok a80 =>
   ih p1 p0 p2 (ya .i64 (x55+1))
 else
  some (.go ())
def MF.z0b (n:Nat):=rc MB.z0b (fun _ _ _ _=>none) n
theorem MF.z0b.le:∀ (n:Nat) (p1:List q05) (p0:q0a) (p2:q00) (x55:Int),Le (MF.z0b n p1 p0 p2 x55) (M.z0b p1 p0 p2 x55):=by
 intro n;induction n with
 | zero=>intros;exact Le.none _
 | succ n ih =>
  intro p1 p0 p2 x55
  show Le (MB.z0b n (MF.z0b n) p1 p0 p2 x55) _
  rw [M.z0b];unfold MB.z0b
  repeat' first|with_reducible first|apply Le.none|apply Le.refl|apply ih|apply MF.q0m.le n|apply MF.q6q.le n|apply Le.jn|apply Le.rs|apply Le.rb|apply Le.bind|apply Le.ite|intro _|dsimp only|split
def MB.zq (n:Nat) (ih:(q0a)→(List q05)→(Int)→(q00)→Option (Rb q00 q00)) (p0:q0a) (p1:List q05) (x117:Int) (x118:q00):Option (Rb q00 q00):=do
 if (decide (x117<(p0.z1s.length:Int))) then
  let x154←ix p0.z1s x117
  let a155←MF.q1h n p1 x154.zee
  let a157←M.q2q x154 x118
  if a157=24 then
   none
  else
   if a157=25 then
    none
   else
    if a157=1000000 then
     if (Nat.beq x154.z5b NF) then
      none
     else
      if x154.zil then
       none
      else
       let a186←M.q0q x154.z5b x118
       let x188←q00.setAt x118 a186 a155.1
       ih p0 p1 (ya .i64 (x117+1)) x188
    else
     none
 else
  some (.ok x118)
def MF.zq (n:Nat):=rc MB.zq (fun _ _ _ _=>none) n
theorem MF.zq.le:∀ (n:Nat) (p0:q0a) (p1:List q05) (x117:Int) (x118:q00),Le (MF.zq n p0 p1 x117 x118) (M.zq p0 p1 x117 x118):=by
 intro n;induction n with
 | zero=>intros;exact Le.none _
 | succ n ih =>
  intro p0 p1 x117 x118
  show Le (MB.zq n (MF.zq n) p0 p1 x117 x118) _
  rw [M.zq];unfold MB.zq
  repeat' first|with_reducible first|apply Le.none|apply Le.refl|apply ih|apply MF.q1h.le n|apply Le.jn|apply Le.rs|apply Le.rb|apply Le.bind|apply Le.ite|intro _|dsimp only|split
def MF.q2a (n:Nat) (p0:q0a) (p1:List q05) (p2:q00):Option (Rb q00 q00):=do
 let q41←(do
   MF.z0b n p1 p0 p2 0:Option (Jn (Rb q00 q00) Unit))
 match q41 with
 | .done r=>some r
 | .go j41 =>
  MF.zq n p0 p1 0 p2
theorem MF.q2a.le (n:Nat) (p0:q0a) (p1:List q05) (p2:q00):Le (MF.q2a n p0 p1 p2) (M.q2a p0 p1 p2):=by
 unfold MF.q2a M.q2a
 repeat' first|with_reducible first|apply Le.none|apply Le.refl|apply MF.z0b.le n|apply MF.zq.le n|apply Le.jn|apply Le.rs|apply Le.rb|apply Le.bind|apply Le.ite|intro _|dsimp only|split
def MF.q28 (n:Nat) (fuel:Nat) (p0:q0a) (p1:q03):Option (q00 × Int):=do
 let a1←MF.q29 n p0 p1.zu (q00.mk p0.zed [] [] [] [] [] [] [] [] [] [] [] [] [] [] [] [] [] [] [] [] [] [] [] 0 0)
 let a3←MF.q2c n p0 p1.zl a1.2
 match a3 with
 | .pan e6 p7 =>
  none
 | .ok a5 =>
  let a10←M.q1p ((decide (p0.z3j=2))||(decide ((p1.z0s.length:Int)=0))) 227
  match a10 with
  | .pan e13 =>
   none
  | .ok a12 =>
   if (decide (p0.z3j=0)) then
    none
   else
    if (decide (p0.z3j=2)) then
     none
    else
     if (decide (p0.z3j=1)) then
      let a27←MF.q0k n p1.zv
      let a29←M.q1p (decide (a27.2=0)) 227
      match a29 with
      | .pan e32 =>
       none
      | .ok a31 =>
       let a33←MF.q2a n p0 a27.1 a5
       match a33 with
       | .pan e36 p37 =>
        none
       | .ok a35 =>
        some (a35,0)
     else
      none
theorem MF.q28.le (n:Nat) (fuel:Nat) (p0:q0a) (p1:q03):Le (MF.q28 n fuel p0 p1) (M.q28 fuel p0 p1):=by
 unfold MF.q28 M.q28
 repeat' first|with_reducible first|apply Le.none|apply Le.refl|apply MF.q29.le n|apply MF.q2c.le n|apply MF.q0k.le n|apply MF.q2a.le n|apply Le.jn|apply Le.rs|apply Le.rb|apply Le.bind|apply Le.ite|intro _|dsimp only|split
def MB.z16 (n:Nat) (ih:((List q0a))→(q03)→(Nat)→(Int)→(Int)→Option (Jn (q00 × Int) Int)) (a28:(List q0a)) (p0:q03) (fuel:Nat) (x37:Int) (x38:Int):Option (Jn (q00 × Int) Int):=do
 if (decide (x38<(a28.length:Int))) then
  let x46←ix a28 x38
  let a49←MF.q29 n x46 p0.zu (q00.mk 0 [] [] [] [] [] [] [] [] [] [] [] [] [] [] [] [] [] [] [] [] [] [] [] 0 0)
  if (!a49.1) then
   ih a28 p0 fuel x37 (ya .i64 (x38+1))
  else
   if (!decide (x46.z4m=p0.zo)) then
    if (decide (x37=225)) then
     ih a28 p0 fuel 226 (ya .i64 (x38+1))
    else
     none
   else
    let a51←MF.q28 n fuel x46 p0
    if (decide (a51.2=0)) then
     some (.done (a51.1,0))
    else
     none
 else
  some (.go x37)
def MF.z16 (n:Nat):=rc MB.z16 (fun _ _ _ _ _=>none) n
theorem MF.z16.le:∀ (n:Nat) (a28:(List q0a)) (p0:q03) (fuel:Nat) (x37:Int) (x38:Int),Le (MF.z16 n a28 p0 fuel x37 x38) (M.z16 a28 p0 fuel x37 x38):=by
 intro n;induction n with
 | zero=>intros;exact Le.none _
 | succ n ih =>
  intro a28 p0 fuel x37 x38
  show Le (MB.z16 n (MF.z16 n) a28 p0 fuel x37 x38) _
  rw [M.z16];unfold MB.z16
  repeat' first|with_reducible first|apply Le.none|apply Le.refl|apply ih|apply MF.q29.le n|apply MF.q28.le n|apply Le.jn|apply Le.rs|apply Le.rb|apply Le.bind|apply Le.ite|intro _|dsimp only|split
def MF.q0r (n:Nat) (fuel:Nat) (p0:q03):Option (q00 × Int):=do
 let q27←(do
   let a28←M.q2f
   MF.z16 n a28 p0 fuel 225 0:Option (Jn (q00 × Int) Int))
 match q27 with
 | .done r=>some r
 | .go j27 =>
  some ((q00.mk 0 [] [] [] [] [] [] [] [] [] [] [] [] [] [] [] [] [] [] [] [] [] [] [] 0 0),j27)
theorem MF.q0r.le (n:Nat) (fuel:Nat) (p0:q03):Le (MF.q0r n fuel p0) (M.q0r fuel p0):=by
 unfold MF.q0r M.q0r
 repeat' first|with_reducible first|apply Le.none|apply Le.refl|apply MF.z16.le n|apply Le.jn|apply Le.rs|apply Le.rb|apply Le.bind|apply Le.ite|intro _|dsimp only|split
def MB.z0w (n:Nat) (ih:(q06)→(Int)→Option (Jn (Z × Int) Unit)) (p0:q06) (x15:Int):Option (Jn (Z × Int) Unit):=do
 if (decide (x15<([p0.z1f,p0.z1p,p0.z1n,p0.z39].length:Int))) then
  let x19←ix [p0.z1f,p0.z1p,p0.z1n,p0.z39] x15
  if ((decide (x19<0))||(decide (1000000000000000≤x19))) then
   none
  else
   ih p0 (ya .i64 (x15+1))
 else
  some (.go ())
def MF.z0w (n:Nat):=rc MB.z0w (fun _ _=>none) n
theorem MF.z0w.le:∀ (n:Nat) (p0:q06) (x15:Int),Le (MF.z0w n p0 x15) (M.z0w p0 x15):=by
 intro n;induction n with
 | zero=>intros;exact Le.none _
 | succ n ih =>
  intro p0 x15
  show Le (MB.z0w n (MF.z0w n) p0 x15) _
  rw [M.z0w];unfold MB.z0w
  repeat' first|with_reducible first|apply Le.none|apply Le.refl|apply ih|apply Le.jn|apply Le.rs|apply Le.rb|apply Le.bind|apply Le.ite|intro _|dsimp only|split
def MB.z1a (n:Nat) (ih:(q06)→(Int)→(Int)→Z→(List q04)→(List Z)→Option (Int × Z × (List q04) × (List Z))) (p0:q06) (x37:Int) (x38:Int) (x39:Z) (x40:List q04) (x41:List Z):Option (Int × Z × (List q04) × (List Z)):=do
 if (decide (x37<([(q05.mk [103,114,97,110,116] p0.z3p),(q05.mk [97,99,99,101,115,115,95,116,111,107,101,110] p0.z2v),(q05.mk [114,101,102,114,101,115,104,95,116,111,107,101,110] p0.z25),(q05.mk [105,100,95,116,111,107,101,110] p0.gId),(q05.mk [116,101,120,116] p0.z0l)].length:Int))) then
  let x47←ix [(q05.mk [103,114,97,110,116] p0.z3p),(q05.mk [97,99,99,101,115,115,95,116,111,107,101,110] p0.z2v),(q05.mk [114,101,102,114,101,115,104,95,116,111,107,101,110] p0.z25),(q05.mk [105,100,95,116,111,107,101,110] p0.gId),(q05.mk [116,101,120,116] p0.z0l)] x37
  let a48←M.q2n x47.z1d
  let a50←M.q1n (q08.mk (q04.mk x38 x39 x40 x41)) (!decide (x47.z1d=[])) x47.z03 a48
  ih p0 (ya .i64 (x37+1)) a50.zk.zi a50.zk.z0l a50.zk.z0c a50.zk.z1e
 else
  some (x38,x39,x40,x41)
def MF.z1a (n:Nat):=rc MB.z1a (fun _ _ _ _ _ _=>none) n
theorem MF.z1a.le:∀ (n:Nat) (p0:q06) (x37:Int) (x38:Int) (x39:Z) (x40:List q04) (x41:List Z),Le (MF.z1a n p0 x37 x38 x39 x40 x41) (M.z1a p0 x37 x38 x39 x40 x41):=by
 intro n;induction n with
 | zero=>intros;exact Le.none _
 | succ n ih =>
  intro p0 x37 x38 x39 x40 x41
  show Le (MB.z1a n (MF.z1a n) p0 x37 x38 x39 x40 x41) _
  rw [M.z1a];unfold MB.z1a
  repeat' first|with_reducible first|apply Le.none|apply Le.refl|apply ih|apply Le.jn|apply Le.rs|apply Le.rb|apply Le.bind|apply Le.ite|intro _|dsimp only|split
def MB.z0y (n:Nat) (ih:(List Z)→(Int)→(List q04)→Option (List q04)) (p0:List Z) (x21:Int) (x22:List q04):Option (List q04):=do
 if (decide (x21<(p0.length:Int))) then
  none
 else
  some x22
def MF.z0y (n:Nat):=rc MB.z0y (fun _ _ _=>none) n
theorem MF.z0y.le:∀ (n:Nat) (p0:List Z) (x21:Int) (x22:List q04),Le (MF.z0y n p0 x21 x22) (M.z0y p0 x21 x22):=by
 intro n;induction n with
 | zero=>intros;exact Le.none _
 | succ n ih =>
  intro p0 x21 x22
  show Le (MB.z0y n (MF.z0y n) p0 x21 x22) _
  rw [M.z0y];unfold MB.z0y
  repeat' first|with_reducible first|apply Le.none|apply Le.refl|apply ih|apply Le.jn|apply Le.rs|apply Le.rb|apply Le.bind|apply Le.ite|intro _|dsimp only|split
def MF.q2o (n:Nat) (p0:List Z):Option q04:=do
 let j16←(do
   MF.z0y n p0 0 []:Option (List q04))
 some (q04.mk 5 [] j16 [])
theorem MF.q2o.le (n:Nat) (p0:List Z):Le (MF.q2o n p0) (M.q2o p0):=by
 unfold MF.q2o M.q2o
 repeat' first|with_reducible first|apply Le.none|apply Le.refl|apply MF.z0y.le n|apply Le.jn|apply Le.rs|apply Le.rb|apply Le.bind|apply Le.ite|intro _|dsimp only|split
def MB.z0j (n:Nat) (ih:(q01)→(Int)→(Int)→Z→(List q04)→(List Z)→Option (Int × Z × (List q04) × (List Z))) (p0:q01) (x33:Int) (x34:Int) (x35:Z) (x36:List q04) (x37:List Z):Option (Int × Z × (List q04) × (List Z)):=do
 if (decide (x33<([(q05.mk [105,115,115] p0.zb4),(q05.mk [115,117,98] p0.zb6),(q05.mk [97,117,100] p0.zb3),(q05.mk [99,108,105,101,110,116,95,105,100] p0.z02),(q05.mk [106,116,105] p0.zb5),(q05.mk [110,111,110,99,101] p0.z0n)].length:Int))) then
  let x43←ix [(q05.mk [105,115,115] p0.zb4),(q05.mk [115,117,98] p0.zb6),(q05.mk [97,117,100] p0.zb3),(q05.mk [99,108,105,101,110,116,95,105,100] p0.z02),(q05.mk [106,116,105] p0.zb5),(q05.mk [110,111,110,99,101] p0.z0n)] x33
  let a44←M.q2n x43.z1d
  let a46←M.q1n (q08.mk (q04.mk x34 x35 x36 x37)) true x43.z03 a44
  ih p0 (ya .i64 (x33+1)) a46.zk.zi a46.zk.z0l a46.zk.z0c a46.zk.z1e
 else
  some (x34,x35,x36,x37)
def MF.z0j (n:Nat):=rc MB.z0j (fun _ _ _ _ _ _=>none) n
theorem MF.z0j.le:∀ (n:Nat) (p0:q01) (x33:Int) (x34:Int) (x35:Z) (x36:List q04) (x37:List Z),Le (MF.z0j n p0 x33 x34 x35 x36 x37) (M.z0j p0 x33 x34 x35 x36 x37):=by
 intro n;induction n with
 | zero=>intros;exact Le.none _
 | succ n ih =>
  intro p0 x33 x34 x35 x36 x37
  show Le (MB.z0j n (MF.z0j n) p0 x33 x34 x35 x36 x37) _
  rw [M.z0j];unfold MB.z0j
  repeat' first|with_reducible first|apply Le.none|apply Le.refl|apply ih|apply Le.jn|apply Le.rs|apply Le.rb|apply Le.bind|apply Le.ite|intro _|dsimp only|split
def MF.q19 (n:Nat) (p0:q01):Option (q04 × Bool):=do
 let a1←M.q1v
 let j27←(do
   MF.z0j n p0 0 a1.zk.zi a1.zk.z0l a1.zk.z0c a1.zk.z1e:Option (Int × Z × (List q04) × (List Z)))
 let a48←M.q1e p0.zik
 let a50←M.q1n (q08.mk (q04.mk j27.1 j27.2.1 j27.2.2.1 j27.2.2.2)) true [105,97,116] a48
 let a52←M.q1e p0.zij
 let a54←M.q1n a50 true [101,120,112] a52
 let a56←M.q1e p0.z1n
 let a58←M.q1n a54 true [108,101,118,101,108] a56
 let a60←MF.q2o n p0.z09
 let a62←M.q1n a58 true [115,99,111,112,101] a60
 let a64←MF.q2o n p0.zcw
 let a66←M.q1n a62 true [97,99,116] a64
 let s68←cat p0.zb4 p0.zb6
 let s69←cat s68 p0.zb3
 let s70←cat s69 p0.z02
 let s71←cat s70 p0.zb5
 let s72←cat s71 p0.z0n
 some (a66.zk,(!((((((decide (s72=[]))&&(decide (p0.zik=0)))&&(decide (p0.zij=0)))&&(decide (p0.z1n=0)))&&(decide ((p0.z09.length:Int)=0)))&&(decide ((p0.zcw.length:Int)=0)))))
theorem MF.q19.le (n:Nat) (p0:q01):Le (MF.q19 n p0) (M.q19 p0):=by
 unfold MF.q19 M.q19
 repeat' first|with_reducible first|apply Le.none|apply Le.refl|apply MF.z0j.le n|apply MF.q2o.le n|apply Le.jn|apply Le.rs|apply Le.rb|apply Le.bind|apply Le.ite|intro _|dsimp only|split
def MB.z1b (n:Nat) (ih:(q06)→(Int)→(List q04)→Option (List q04)) (p0:q06) (x158:Int) (x159:List q04):Option (List q04):=do
 if (decide (x158<(p0.z3t.length:Int))) then
  none
 else
  some x159
def MF.z1b (n:Nat):=rc MB.z1b (fun _ _ _=>none) n
theorem MF.z1b.le:∀ (n:Nat) (p0:q06) (x158:Int) (x159:List q04),Le (MF.z1b n p0 x158 x159) (M.z1b p0 x158 x159):=by
 intro n;induction n with
 | zero=>intros;exact Le.none _
 | succ n ih =>
  intro p0 x158 x159
  show Le (MB.z1b n (MF.z1b n) p0 x158 x159) _
  rw [M.z1b];unfold MB.z1b
  repeat' first|with_reducible first|apply Le.none|apply Le.refl|apply ih|apply Le.jn|apply Le.rs|apply Le.rb|apply Le.bind|apply Le.ite|intro _|dsimp only|split
def MF.q13 (n:Nat) (p0:q06):Option q04:=do
 let a1←M.q1v
 let a3←M.q1e p0.z1f
 let a5←M.q1n a1 (!decide (p0.z1f=0)) [101,114,114,111,114] a3
 let j31←(do
   MF.z1a n p0 0 a5.zk.zi a5.zk.z0l a5.zk.z0c a5.zk.z1e:Option (Int × Z × (List q04) × (List Z)))
 let a52←MF.q2o n p0.z09
 let a54←M.q1n (q08.mk (q04.mk j31.1 j31.2.1 j31.2.2.1 j31.2.2.2)) (decide (0<(p0.z09.length:Int))) [115,99,111,112,101] a52
 let a56←M.q1e p0.z1p
 let a58←M.q1n a54 (!decide (p0.z1p=0)) [101,120,112,105,114,101,115,95,105,110] a56
 let a60←M.q1e p0.z1n
 let a62←M.q1n a58 (!decide (p0.z1n=0)) [108,101,118,101,108] a60
 let a64←M.q1e p0.z39
 let a66←M.q1n a62 (!decide (p0.z39=0)) [116,111,116,97,108] a64
 let a68←M.q1n a66 p0.z4y [97,99,116,105,118,101] (q04.mk 2 [] [] [])
 let a70←MF.q19 n p0.z0e
 let a72←M.q1n a68 a70.2 [99,108,97,105,109,115] a70.1
 let j137←(do
   MF.z1b n p0 0 []:Option (List q04))
 let a200←M.q1n a72 (decide (0<(j137.length:Int))) [116,104,105,110,103,115] (q04.mk 5 [] j137 [])
 some a200.zk
theorem MF.q13.le (n:Nat) (p0:q06):Le (MF.q13 n p0) (M.q13 p0):=by
 unfold MF.q13 M.q13
 repeat' first|with_reducible first|apply Le.none|apply Le.refl|apply MF.z1a.le n|apply MF.q2o.le n|apply MF.q19.le n|apply MF.z1b.le n|apply Le.jn|apply Le.rs|apply Le.rb|apply Le.bind|apply Le.ite|intro _|dsimp only|split
def MB.ze (n:Nat) (ih:(List Z)→(Int)→Option (Jn Int Unit)) (p0:List Z) (x15:Int):Option (Jn Int Unit):=do
 if (decide (x15<(p0.length:Int))) then
  let x19←ix p0 x15
  let a20←M.q3b x19
  if a20 then
   none
  else
   ih p0 (ya .i64 (x15+1))
 else
  some (.go ())
def MF.ze (n:Nat):=rc MB.ze (fun _ _=>none) n
theorem MF.ze.le:∀ (n:Nat) (p0:List Z) (x15:Int),Le (MF.ze n p0 x15) (M.ze p0 x15):=by
 intro n;induction n with
 | zero=>intros;exact Le.none _
 | succ n ih =>
  intro p0 x15
  show Le (MB.ze n (MF.ze n) p0 x15) _
  rw [M.ze];unfold MB.ze
  repeat' first|with_reducible first|apply Le.none|apply Le.refl|apply ih|apply Le.jn|apply Le.rs|apply Le.rb|apply Le.bind|apply Le.ite|intro _|dsimp only|split
def MF.q6w (n:Nat) (p0:List Z):Option Int:=do
 let q11←(do
   MF.ze n p0 0:Option (Jn Int Unit))
 match q11 with
 | .done r=>some r
 | .go j11 =>
  some (-1)
theorem MF.q6w.le (n:Nat) (p0:List Z):Le (MF.q6w n p0) (M.q6w p0):=by
 unfold MF.q6w M.q6w
 repeat' first|with_reducible first|apply Le.none|apply Le.refl|apply MF.ze.le n|apply Le.jn|apply Le.rs|apply Le.rb|apply Le.bind|apply Le.ite|intro _|dsimp only|split
def MF.q6r (n:Nat) (p0:List Z):Option Bool:=do
 let a1←MF.q6w n p0
 some (decide (0≤a1))
theorem MF.q6r.le (n:Nat) (p0:List Z):Le (MF.q6r n p0) (M.q6r p0):=by
 unfold MF.q6r M.q6r
 repeat' first|with_reducible first|apply Le.none|apply Le.refl|apply MF.q6w.le n|apply Le.jn|apply Le.rs|apply Le.rb|apply Le.bind|apply Le.ite|intro _|dsimp only|split
def MB.z0k (n:Nat) (ih:(q04)→(q04→Int→Option (Rs Unit))→(Int)→(Int)→Option (Rs Unit)) (p0:q04) (self_q3a:q04→Int→Option (Rs Unit)) (p1:Int) (x108:Int):Option (Rs Unit):=do
 if (decide (x108<(p0.z0c.length:Int))) then
  let x114←ix p0.z0c x108
  let a115←self_q3a x114 (ya .i64 (p1+1))
  match a115 with
  | .pan e118 =>
   none
  | .ok a117 =>
   ih p0 self_q3a p1 (ya .i64 (x108+1))
 else
  some (.ok ())
def MF.z0k (n:Nat):=rc MB.z0k (fun _ _ _ _=>none) n
theorem MF.z0k.le {self_q3a:q04→Int→Option (Rs Unit)} {self_json_checked':q04→Int→Option (Rs Unit)} (hs0:∀ a0 a1,Le (self_q3a a0 a1) (self_json_checked' a0 a1)):∀ (n:Nat) (p0:q04) (p1:Int) (x108:Int),Le (MF.z0k n p0 self_q3a p1 x108) (M.z0k p0 self_json_checked' p1 x108):=by
 intro n;induction n with
 | zero=>intros;exact Le.none _
 | succ n ih =>
  intro p0 p1 x108
  show Le (MB.z0k n (MF.z0k n) p0 self_q3a p1 x108) _
  rw [M.z0k];unfold MB.z0k
  repeat' first|with_reducible first|apply Le.none|apply Le.refl|apply hs0|apply ih|apply Le.jn|apply Le.rs|apply Le.rb|apply Le.bind|apply Le.ite|intro _|dsimp only|split
def MF.q3a (n:Nat):Nat→q04→Int→Option (Rs Unit)
 | 0,_,_=>none
 | fuel+1,p0,p1=>do
  let a5←M.q3e ((!((decide (p0.zi=5))||(decide (p0.zi=6))))||(decide (p1<16))) 21
  match a5 with
  | .pan e8 =>
   none
  | .ok a7 =>
   let a11←M.q3e ((decide (0≤p0.zi))&&(decide (p0.zi<7))) 23
   match a11 with
   | .pan e14 =>
    none
   | .ok a13 =>
    let a17←M.q3e (((decide (p0.zi=5))||(decide (p0.zi=6)))||(decide ((p0.z0c.length:Int)=0))) 23
    match a17 with
    | .pan e20 =>
     none
    | .ok a19 =>
     let a26←M.q3e (((decide (p0.zi=6))&&(decide ((p0.z1e.length:Int)=(p0.z0c.length:Int))))||((decide ((p0.z1e.length:Int)=0))&&(!decide (p0.zi=6)))) 23
     match a26 with
     | .pan e29 =>
      none
     | .ok a28 =>
      let a30←MF.q6r n p0.z1e
      let j35←(do
        if (!a30) then
         let a36←M.single p0.z1e
         some a36
        else
         none:Option Bool)
      let a38←M.q3e j35 23
      match a38 with
      | .pan e41 =>
       none
      | .ok a40 =>
       let q82←(do
         if (decide (p0.zi=3)) then
          let j86←(do
            if (!decide (p0.z0l=[])) then
             let a87←M.q3f p0.z0l
             some (decide (a87=(p0.z0l.length:Int)))
            else
             none:Option Bool)
          let a89←M.q3e j86 23
          match a89 with
          | .pan e92 =>
           none
          | .ok a91 =>
           some (.go ())
         else
          if (decide (p0.zi=4)) then
           none
          else
           let a99←M.q3e (decide (p0.z0l=[])) 23
           match a99 with
           | .pan e102 =>
            none
           | .ok a101 =>
            some (.go ()):Option (Jn (Rs Unit) Unit))
       match q82 with
       | .done r=>some r
       | .go j82 =>
        MF.z0k n p0 (MF.q3a n fuel) p1 0
theorem MF.q3a.les (n:Nat):∀ fuel:Nat,(∀ a1 a2,Le (MF.q3a n fuel a1 a2) (M.q3a fuel a1 a2)):=by
 intro fuel;induction fuel with
 | zero=>exact fun _ _=>Le.zmy (by first|rfl|simp [MF.q3a])
 | succ fuel ih =>
  ·intro a1 a2
   rw [MF.q3a,M.q3a]
   repeat' first|with_reducible first|apply Le.none|apply Le.refl|apply ih|apply MF.q6r.le n|apply MF.z0k.le (ih) n|apply Le.jn|apply Le.rs|apply Le.rb|apply Le.bind|apply Le.ite|intro _|dsimp only|split
theorem MF.q3a.le (n fuel:Nat) (a1:q04) (a2:Int):Le (MF.q3a n fuel a1 a2) (M.q3a fuel a1 a2):=(MF.q3a.les n fuel) a1 a2
def MF.q33 (n:Nat) (fuel:Nat) (p0:q04):Option Int:=do
 let a1←MF.q3a n fuel p0 0
 match a1 with
 | .pan e4 =>
  none
 | .ok a3 =>
  some 0
theorem MF.q33.le (n:Nat) (fuel:Nat) (p0:q04):Le (MF.q33 n fuel p0) (M.q33 fuel p0):=by
 unfold MF.q33 M.q33
 repeat' first|with_reducible first|apply Le.none|apply Le.refl|apply MF.q3a.le n|apply Le.jn|apply Le.rs|apply Le.rb|apply Le.bind|apply Le.ite|intro _|dsimp only|split
def MB.z0i (n:Nat) (ih:Z→(Int)→(List Int)→Option (List Int)) (p1:Z) (x67:Int) (x68:List Int):Option (List Int):=do
 if (decide (x67<((unb p1).length:Int))) then
  let x84←ix (unb p1) x67
  let a85←M.indexByte [34,92,8,9,10,12,13] x84
  if (decide (0≤a85)) then
   none
  else
   if (decide (x84<32)) then
    none
   else
    let a97←M.q70 x68 x84
    ih p1 (ya .i64 (x67+1)) a97
 else
  some x68
def MF.z0i (n:Nat):=rc MB.z0i (fun _ _ _=>none) n
theorem MF.z0i.le:∀ (n:Nat) (p1:Z) (x67:Int) (x68:List Int),Le (MF.z0i n p1 x67 x68) (M.z0i p1 x67 x68):=by
 intro n;induction n with
 | zero=>intros;exact Le.none _
 | succ n ih =>
  intro p1 x67 x68
  show Le (MB.z0i n (MF.z0i n) p1 x67 x68) _
  rw [M.z0i];unfold MB.z0i
  repeat' first|with_reducible first|apply Le.none|apply Le.refl|apply ih|apply Le.jn|apply Le.rs|apply Le.rb|apply Le.bind|apply Le.ite|intro _|dsimp only|split
def MF.q3g (n:Nat) (p0:List Int) (p1:Z):Option (List Int):=do
 let a1←M.q70 p0 34
 let j51←(do
   let _←chk (decide (p1.length≤9223372036854775807))
   MF.z0i n p1 0 a1:Option (List Int))
 let a99←M.q70 j51 34
 some a99
theorem MF.q3g.le (n:Nat) (p0:List Int) (p1:Z):Le (MF.q3g n p0 p1) (M.q3g p0 p1):=by
 unfold MF.q3g M.q3g
 repeat' first|with_reducible first|apply Le.none|apply Le.refl|apply MF.z0i.le n|apply Le.jn|apply Le.rs|apply Le.rb|apply Le.bind|apply Le.ite|intro _|dsimp only|split
def MB.z15 (n:Nat) (ih:(q04)→((List Int)→q04→Option (List Int))→(Int)→(List Int)→Option (List Int)) (p1:q04) (self_q3d:(List Int)→q04→Option (List Int)) (x92:Int) (x93:List Int):Option (List Int):=do
 if (decide (x92<(p1.z0c.length:Int))) then
  let x112←ix p1.z0c x92
  let j118←(do
    if (decide (0<x92)) then
     none
    else
     some x93:Option (List Int))
  if (decide (p1.zi=6)) then
   let x121←ix p1.z1e x92
   let a122←MF.q3g n j118 x121
   let a124←M.q70 a122 58
   let a126←self_q3d a124 x112
   ih p1 self_q3d (ya .i64 (x92+1)) a126
  else
   none
 else
  some x93
def MF.z15 (n:Nat):=rc MB.z15 (fun _ _ _ _=>none) n
theorem MF.z15.le {self_q3d:(List Int)→q04→Option (List Int)} {self_json_laid':(List Int)→q04→Option (List Int)} (hs0:∀ a0 a1,Le (self_q3d a0 a1) (self_json_laid' a0 a1)):∀ (n:Nat) (p1:q04) (x92:Int) (x93:List Int),Le (MF.z15 n p1 self_q3d x92 x93) (M.z15 p1 self_json_laid' x92 x93):=by
 intro n;induction n with
 | zero=>intros;exact Le.none _
 | succ n ih =>
  intro p1 x92 x93
  show Le (MB.z15 n (MF.z15 n) p1 self_q3d x92 x93) _
  rw [M.z15];unfold MB.z15
  repeat' first|with_reducible first|apply Le.none|apply Le.refl|apply hs0|apply ih|apply MF.q3g.le n|apply Le.jn|apply Le.rs|apply Le.rb|apply Le.bind|apply Le.ite|intro _|dsimp only|split
def MF.q3d (n:Nat):Nat→(List Int)→q04→Option (List Int)
 | 0,_,_=>none
 | fuel+1,p0,p1=>do
  if (decide (p1.zi=0)) then
   none
  else
   if (decide (p1.zi=1)) then
    none
   else
    if (decide (p1.zi=2)) then
     none
    else
     if (decide (p1.zi=3)) then
      let a7←M.q71 p0 p1.z0l
      some a7.2
     else
      if (decide (p1.zi=4)) then
       none
      else
       let j12←(do
         if (decide (p1.zi=6)) then
          some [123,125]
         else
          none:Option Z)
       let c13←ix j12 0
       let a14←M.q70 p0 (c13.toNat:Int)
       let j73←(do
         MF.z15 n p1 (MF.q3d n fuel) 0 a14:Option (List Int))
       let c130←ix j12 1
       let a131←M.q70 j73 (c130.toNat:Int)
       some a131
theorem MF.q3d.les (n:Nat):∀ fuel:Nat,(∀ a1 a2,Le (MF.q3d n fuel a1 a2) (M.q3d fuel a1 a2)):=by
 intro fuel;induction fuel with
 | zero=>exact fun _ _=>Le.zmy (by first|rfl|simp [MF.q3d])
 | succ fuel ih =>
  ·intro a1 a2
   rw [MF.q3d,M.q3d]
   repeat' first|with_reducible first|apply Le.none|apply Le.refl|apply ih|apply MF.z15.le (ih) n|apply Le.jn|apply Le.rs|apply Le.rb|apply Le.bind|apply Le.ite|intro _|dsimp only|split
theorem MF.q3d.le (n fuel:Nat) (a1:(List Int)) (a2:q04):Le (MF.q3d n fuel a1 a2) (M.q3d fuel a1 a2):=(MF.q3d.les n fuel) a1 a2
def MF.q37 (n:Nat) (fuel:Nat) (p0:q04):Option (Z × Int):=do
 let a3←MF.q33 n fuel p0
 if (!decide (a3=0)) then
  none
 else
  let a5←MF.q3d n fuel ([]:List Int) p0
  let a7←M.q6z a5
  if (decide (16384<a7)) then
   none
  else
   let a9←M.zj a5
   some (a9,0)
theorem MF.q37.le (n:Nat) (fuel:Nat) (p0:q04):Le (MF.q37 n fuel p0) (M.q37 fuel p0):=by
 unfold MF.q37 M.q37
 repeat' first|with_reducible first|apply Le.none|apply Le.refl|apply MF.q33.le n|apply MF.q3d.le n|apply Le.jn|apply Le.rs|apply Le.rb|apply Le.bind|apply Le.ite|intro _|dsimp only|split
def MB.z0p (n:Nat) (ih:(List Z)→(Int)→Option (Jn Int Unit)) (l16:List Z) (x21:Int):Option (Jn Int Unit):=do
 if (decide (x21<(l16.length:Int))) then
  let x26←ix l16 x21
  let x27←ix l16 x21
  let a28←M.q76 x27
  if (!a28) then
   none
  else
   ih l16 (ya .i64 (x21+1))
 else
  some (.go ())
def MF.z0p (n:Nat):=rc MB.z0p (fun _ _=>none) n
theorem MF.z0p.le:∀ (n:Nat) (l16:List Z) (x21:Int),Le (MF.z0p n l16 x21) (M.z0p l16 x21):=by
 intro n;induction n with
 | zero=>intros;exact Le.none _
 | succ n ih =>
  intro l16 x21
  show Le (MB.z0p n (MF.z0p n) l16 x21) _
  rw [M.z0p];unfold MB.z0p
  repeat' first|with_reducible first|apply Le.none|apply Le.refl|apply ih|apply Le.jn|apply Le.rs|apply Le.rb|apply Le.bind|apply Le.ite|intro _|dsimp only|split
def MB.zh (n:Nat) (ih:(List Z)→Z→(Int)→Option (Jn Int Unit)) (p0:List Z) (p1:Z) (x7:Int):Option (Jn Int Unit):=do
 if (decide (x7<(p0.length:Int))) then
  let x9←ix p0 x7
  if (decide (p1=x9)) then
   some (.done x7)
  else
   ih p0 p1 (ya .i64 (x7+1))
 else
  some (.go ())
def MF.zh (n:Nat):=rc MB.zh (fun _ _ _=>none) n
theorem MF.zh.le:∀ (n:Nat) (p0:List Z) (p1:Z) (x7:Int),Le (MF.zh n p0 p1 x7) (M.zh p0 p1 x7):=by
 intro n;induction n with
 | zero=>intros;exact Le.none _
 | succ n ih =>
  intro p0 p1 x7
  show Le (MB.zh n (MF.zh n) p0 p1 x7) _
  rw [M.zh];unfold MB.zh
  repeat' first|with_reducible first|apply Le.none|apply Le.refl|apply ih|apply Le.jn|apply Le.rs|apply Le.rb|apply Le.bind|apply Le.ite|intro _|dsimp only|split
def MF.q6x (n:Nat) (p0:List Z) (p1:Z):Option Int:=do
 let q5←(do
   MF.zh n p0 p1 0:Option (Jn Int Unit))
 match q5 with
 | .done r=>some r
 | .go j5 =>
  some (-1)
theorem MF.q6x.le (n:Nat) (p0:List Z) (p1:Z):Le (MF.q6x n p0 p1) (M.q6x p0 p1):=by
 unfold MF.q6x M.q6x
 repeat' first|with_reducible first|apply Le.none|apply Le.refl|apply MF.zh.le n|apply Le.jn|apply Le.rs|apply Le.rb|apply Le.bind|apply Le.ite|intro _|dsimp only|split
def MF.q6s (n:Nat) (p0:List Z) (p1:Z):Option Bool:=do
 let a1←MF.q6x n p0 p1
 some (decide (0≤a1))
theorem MF.q6s.le (n:Nat) (p0:List Z) (p1:Z):Le (MF.q6s n p0 p1) (M.q6s p0 p1):=by
 unfold MF.q6s M.q6s
 repeat' first|with_reducible first|apply Le.none|apply Le.refl|apply MF.q6x.le n|apply Le.jn|apply Le.rs|apply Le.rb|apply Le.bind|apply Le.ite|intro _|dsimp only|split
def MB.z0q (n:Nat) (ih:(q01)→(Int)→Option (Jn Int Unit)) (p0:q01) (x104:Int):Option (Jn Int Unit):=do
 if (decide (x104<(p0.z09.length:Int))) then
  none
 else
  some (.go ())
def MF.z0q (n:Nat):=rc MB.z0q (fun _ _=>none) n
theorem MF.z0q.le:∀ (n:Nat) (p0:q01) (x104:Int),Le (MF.z0q n p0 x104) (M.z0q p0 x104):=by
 intro n;induction n with
 | zero=>intros;exact Le.none _
 | succ n ih =>
  intro p0 x104
  show Le (MB.z0q n (MF.z0q n) p0 x104) _
  rw [M.z0q];unfold MB.z0q
  repeat' first|with_reducible first|apply Le.none|apply Le.refl|apply ih|apply Le.jn|apply Le.rs|apply Le.rb|apply Le.bind|apply Le.ite|intro _|dsimp only|split
def MF.q75 (n:Nat) (p0:q01):Option Int:=do
 let q15←(do
   let l16←app 16 [p0.zb4,p0.zb6,p0.zb3,p0.z02,p0.zb5,p0.z0n] p0.zcw
   MF.z0p n l16 0:Option (Jn Int Unit))
 match q15 with
 | .done r=>some r
 | .go j15 =>
  let a52←M.q77 p0.zik
  let j57←(do
    if (!a52) then
     none
    else
     let a58←M.q77 p0.zij
     some (!a58):Option Bool)
  let j71←(do
    if ((((j57||(decide (p0.z1n<0)))||(decide (9<p0.z1n)))||(decide (16<(p0.z09.length:Int))))||(decide (4<(p0.zcw.length:Int)))) then
     none
    else
     let a72←MF.q6s n p0.zcw []
     some a72:Option Bool)
  if j71 then
   none
  else
   let q96←(do
     MF.z0q n p0 0:Option (Jn Int Unit))
   match q96 with
   | .done r=>some r
   | .go j96 =>
    some 0
theorem MF.q75.le (n:Nat) (p0:q01):Le (MF.q75 n p0) (M.q75 p0):=by
 unfold MF.q75 M.q75
 repeat' first|with_reducible first|apply Le.none|apply Le.refl|apply MF.z0p.le n|apply MF.q6s.le n|apply MF.z0q.le n|apply Le.jn|apply Le.rs|apply Le.rb|apply Le.bind|apply Le.ite|intro _|dsimp only|split
def MF.q0v (n:Nat) (fuel:Nat) (p0:q06):Option (Z × Int):=do
 let q11←(do
   MF.z0w n p0 0:Option (Jn (Z × Int) Unit))
 match q11 with
 | .done r=>some r
 | .go j11 =>
  let a22←MF.q13 n p0
  let a24←MF.q37 n fuel a22
  let j47←(do
    if (!decide (a24.2=0)) then
     none
    else
     let a48←M.q2w p0.z6e
     some (decide (a48=[])):Option Bool)
  let j53←(do
    if j47 then
     none
    else
     let a54←M.trim p0.z0r [65,66,67,68,69,70,71,72,73,74,75,76,77,78,79,80,81,82,83,84,85,86,87,88,89,90,97,98,99,100,101,102,103,104,105,106,107,108,109,110,111,112,113,114,115,116,117,118,119,120,121,122,48,49,50,51,52,53,54,55,56,57,45,95]
     some (!decide (a54=[])):Option Bool)
  let j59←(do
    if j53 then
     none
    else
     let a60←MF.q75 n p0.z0e
     some (!decide (a60=0)):Option Bool)
  if j59 then
   none
  else
   let a62←M.q1j p0.z6e p0.z0r (a24.1.length:Int)
   if (decide (8192<(a62.length:Int))) then
    none
   else
    let s64←cat a62 a24.1
    some (s64,0)
theorem MF.q0v.le (n:Nat) (fuel:Nat) (p0:q06):Le (MF.q0v n fuel p0) (M.q0v fuel p0):=by
 unfold MF.q0v M.q0v
 repeat' first|with_reducible first|apply Le.none|apply Le.refl|apply MF.z0w.le n|apply MF.q13.le n|apply MF.q37.le n|apply MF.q75.le n|apply Le.jn|apply Le.rs|apply Le.rb|apply Le.bind|apply Le.ite|intro _|dsimp only|split
def MB.z00 (n:Nat) (ih:Z→(List Int)→Option (Rs (Z × q0c))) (x37:Z) (x38:List Int):Option (Rs (Z × q0c)):=do
 let j71←(do
   if (!decide (x37=[])) then
    let c72←ix x37 0
    some (decide (32≤(c72.toNat:Int)))
   else
    none:Option Bool)
 let a73←M.q3e j71 20
 match a73 with
 | .pan e76 =>
  none
 | .ok a75 =>
  let c77←ix x37 0
  if (decide ((c77.toNat:Int)=34)) then
   let a78←M.zj x38
   let a80←M.z1h a78
   let a82←M.q3e a80 20
   match a82 with
   | .pan e85 =>
    none
   | .ok a84 =>
    let a86←M.q3k (q0c.mk x37) [34]
    let a88←M.zj x38
    some (.ok (a88,a86.2))
  else
   if (decide ((c77.toNat:Int)=92)) then
    none
   else
    let a96←M.q70 x38 (c77.toNat:Int)
    let s98←sub x37 1 (x37.length:Int)
    ih s98 a96
def MF.z00 (n:Nat):=rc MB.z00 (fun _ _=>none) n
theorem MF.z00.le:∀ (n:Nat) (x37:Z) (x38:List Int),Le (MF.z00 n x37 x38) (M.z00 x37 x38):=by
 intro n;induction n with
 | zero=>intros;exact Le.none _
 | succ n ih =>
  intro x37 x38
  show Le (MB.z00 n (MF.z00 n) x37 x38) _
  rw [M.z00];unfold MB.z00
  repeat' first|with_reducible first|apply Le.none|apply Le.refl|apply ih|apply Le.jn|apply Le.rs|apply Le.rb|apply Le.bind|apply Le.ite|intro _|dsimp only|split
def MF.q3l (n:Nat) (p0:q0c):Option (Rs (Z × q0c)):=do
 let a1←M.q72 p0.gs [34]
 let a3←M.q3e a1.2 20
 match a3 with
 | .pan e6 =>
  none
 | .ok a5 =>
  MF.z00 n a1.1 ([]:List Int)
theorem MF.q3l.le (n:Nat) (p0:q0c):Le (MF.q3l n p0) (M.q3l p0):=by
 unfold MF.q3l M.q3l
 repeat' first|with_reducible first|apply Le.none|apply Le.refl|apply MF.z00.le n|apply Le.jn|apply Le.rs|apply Le.rb|apply Le.bind|apply Le.ite|intro _|dsimp only|split
def MB.zp (n:Nat) (ih:(Int)→(q0c→Int→Option (Rs (q04 × q0c)))→(Int)→Z→Z→(List q04)→(List Z)→Option (Rs (q04 × q0c))) (p1:Int) (self_q3n:q0c→Int→Option (Rs (q04 × q0c))) (p2:Int) (p3:Z) (x79:Z) (x80:List q04) (x81:List Z):Option (Rs (q04 × q0c)):=do
 let q190←(do
   if (decide (p1=6)) then
    let a191←MF.q3l n (q0c.mk x79)
    match a191 with
    | .pan e194 =>
     none
    | .ok a193 =>
     let a195←MF.q6s n x81 a193.1
     let j201←(do
       if (!a195) then
        let a202←M.q3k a193.2 [58]
        some (a202.1,a202.2.gs)
       else
        none:Option (Bool × Z))
     let a204←M.q3e j201.1 20
     match a204 with
     | .pan e207 =>
      none
     | .ok a206 =>
      let l208←app 16 x81 [a193.1]
      some (.go (j201.2,l208))
   else
    none:Option (Jn (Rs (q04 × q0c)) (Z × (List Z))))
 match q190 with
 | .done r=>some r
 | .go j190 =>
  let a209←self_q3n (q0c.mk j190.1) (ya .i64 (p2+1))
  match a209 with
  | .pan e212 =>
   none
  | .ok a211 =>
   let l213←app 72 x80 [(q04.mk a211.1.zi a211.1.z0l a211.1.z0c a211.1.z1e)]
   let a214←M.q3k a211.2 p3
   if a214.1 then
    some (.ok ((q04.mk p1 [] l213 j190.2),a214.2))
   else
    none
def MF.zp (n:Nat):=rc MB.zp (fun _ _ _ _ _ _ _=>none) n
theorem MF.zp.le {self_q3n:q0c→Int→Option (Rs (q04 × q0c))} {self_json_reader_value':q0c→Int→Option (Rs (q04 × q0c))} (hs0:∀ a0 a1,Le (self_q3n a0 a1) (self_json_reader_value' a0 a1)):∀ (n:Nat) (p1:Int) (p2:Int) (p3:Z) (x79:Z) (x80:List q04) (x81:List Z),Le (MF.zp n p1 self_q3n p2 p3 x79 x80 x81) (M.zp p1 self_json_reader_value' p2 p3 x79 x80 x81):=by
 intro n;induction n with
 | zero=>intros;exact Le.none _
 | succ n ih =>
  intro p1 p2 p3 x79 x80 x81
  show Le (MB.zp n (MF.zp n) p1 self_q3n p2 p3 x79 x80 x81) _
  rw [M.zp];unfold MB.zp
  repeat' first|with_reducible first|apply Le.none|apply Le.refl|apply hs0|apply ih|apply MF.q3l.le n|apply MF.q6s.le n|apply Le.jn|apply Le.rs|apply Le.rb|apply Le.bind|apply Le.ite|intro _|dsimp only|split
def MB.zx (n:Nat) (ih:(Int)→Z→Option (Jn (Rs (q04 × q0c)) Z)) (x53:Int) (x54:Z):Option (Jn (Rs (q04 × q0c)) Z):=do
 if (decide (x53<([([110,117,108,108]:Z),[102,97,108,115,101],[116,114,117,101]].length:Int))) then
  let x58←ix [([110,117,108,108]:Z),[102,97,108,115,101],[116,114,117,101]] x53
  let a59←M.q3k (q0c.mk x54) x58
  if a59.1 then
   none
  else
   ih (ya .i64 (x53+1)) a59.2.gs
 else
  some (.go x54)
def MF.zx (n:Nat):=rc MB.zx (fun _ _=>none) n
theorem MF.zx.le:∀ (n:Nat) (x53:Int) (x54:Z),Le (MF.zx n x53 x54) (M.zx x53 x54):=by
 intro n;induction n with
 | zero=>intros;exact Le.none _
 | succ n ih =>
  intro x53 x54
  show Le (MB.zx n (MF.zx n) x53 x54) _
  rw [M.zx];unfold MB.zx
  repeat' first|with_reducible first|apply Le.none|apply Le.refl|apply ih|apply Le.jn|apply Le.rs|apply Le.rb|apply Le.bind|apply Le.ite|intro _|dsimp only|split
mutual
def MF.q3j (n:Nat):Nat→q0c→Int→Int→Z→Option (Rs (q04 × q0c))
 | 0,_,_,_,_=>none
 | fuel+1,p0,p1,p2,p3=>do
  let a1←M.q3e (decide (p2<16)) 21
  match a1 with
  | .pan e4 =>
   none
  | .ok a3 =>
   let a7←M.q3k p0 p3
   if a7.1 then
    none
   else
    MF.zp n p1 (MF.q3n n fuel) p2 p3 a7.2.gs [] []
def MF.q3n (n:Nat):Nat→q0c→Int→Option (Rs (q04 × q0c))
 | 0,_,_=>none
 | fuel+1,p0,p1=>do
  let a19←M.q73 p0.gs [34]
  if a19 then
   none
  else
   let a25←M.q3k p0 [91]
   if a25.1 then
    none
   else
    let a31←M.q3k a25.2 [123]
    if a31.1 then
     let a33←(MF.q3j n fuel) a31.2 6 p1 [125]
     match a33 with
     | .pan e36 =>
      none
     | .ok a35 =>
      some (.ok (a35.1,a35.2))
    else
     let q49←(do
       MF.zx n 0 a31.2.gs:Option (Jn (Rs (q04 × q0c)) Z))
     match q49 with
     | .done r=>some r
     | .go j49 =>
      let a61←M.q3f j49
      let a63←M.q3e (decide (0<a61)) 20
      match a63 with
      | .pan e66 =>
       none
      | .ok a65 =>
       let s67←sub j49 0 a61
       let a68←M.q3k (q0c.mk j49) s67
       some (.ok ((q04.mk 3 s67 ([]:List q04) ([]:List Z)),a68.2))
end
theorem MF.q3j.les (n:Nat):∀ fuel:Nat,(∀ a1 a2 a3 a4,Le (MF.q3j n fuel a1 a2 a3 a4) (M.q3j fuel a1 a2 a3 a4))∧(∀ a1 a2,Le (MF.q3n n fuel a1 a2) (M.q3n fuel a1 a2)):=by
 intro fuel;induction fuel with
 | zero=>exact ⟨fun _ _ _ _=>Le.zmy (by first|rfl|simp [MF.q3j]),fun _ _=>Le.zmy (by first|rfl|simp [MF.q3n])⟩
 | succ fuel ih =>
  refine ⟨?_,?_⟩
  ·intro a1 a2 a3 a4
   rw [MF.q3j,M.q3j]
   repeat' first|with_reducible first|apply Le.none|apply Le.refl|apply ih.1|apply ih.2|apply MF.zp.le (ih.2) n|apply Le.jn|apply Le.rs|apply Le.rb|apply Le.bind|apply Le.ite|intro _|dsimp only|split
  ·intro a1 a2
   rw [MF.q3n,M.q3n]
   repeat' first|with_reducible first|apply Le.none|apply Le.refl|apply ih.1|apply ih.2|apply MF.zx.le n|apply Le.jn|apply Le.rs|apply Le.rb|apply Le.bind|apply Le.ite|intro _|dsimp only|split
theorem MF.q3n.le (n fuel:Nat) (a1:q0c) (a2:Int):Le (MF.q3n n fuel a1 a2) (M.q3n fuel a1 a2):=(MF.q3j.les n fuel).2 a1 a2
def MF.q36 (n:Nat) (fuel:Nat) (p0:Z):Option (q04 × Int):=do
 if (decide (16384<(p0.length:Int))) then
  none
 else
  let a1←M.q3h (q0c.mk p0)
  let a3←MF.q3n n fuel a1 0
  match a3 with
  | .pan e6 =>
   none
  | .ok a5 =>
   let a7←M.q3e (decide (a5.2.gs=[])) 20
   match a7 with
   | .pan e10 =>
    none
   | .ok a9 =>
    some (a5.1,0)
theorem MF.q36.le (n:Nat) (fuel:Nat) (p0:Z):Le (MF.q36 n fuel p0) (M.q36 fuel p0):=by
 unfold MF.q36 M.q36
 repeat' first|with_reducible first|apply Le.none|apply Le.refl|apply MF.q3n.le n|apply Le.jn|apply Le.rs|apply Le.rb|apply Le.bind|apply Le.ite|intro _|dsimp only|split
def MF.q35 (n:Nat) (p0:q04) (p1:Z):Option (q04 × Bool):=do
 let a1←MF.q6x n p0.z1e p1
 if (((decide (p0.zi=6))&&(decide (0≤a1)))&&(decide (a1<(p0.z0c.length:Int)))) then
  let x7←ix p0.z0c a1
  some (x7,true)
 else
  some ((q04.mk 0 [] [] []),false)
theorem MF.q35.le (n:Nat) (p0:q04) (p1:Z):Le (MF.q35 n p0 p1) (M.q35 p0 p1):=by
 unfold MF.q35 M.q35
 repeat' first|with_reducible first|apply Le.none|apply Le.refl|apply MF.q6x.le n|apply Le.jn|apply Le.rs|apply Le.rb|apply Le.bind|apply Le.ite|intro _|dsimp only|split
def MF.q1z (n:Nat) (p0:q09) (p1:Z):Option q09:=do
 let a1←MF.q35 n p0.gv p1
 some (q09.mk a1.1)
theorem MF.q1z.le (n:Nat) (p0:q09) (p1:Z):Le (MF.q1z n p0 p1) (M.q1z p0 p1):=by
 unfold MF.q1z M.q1z
 repeat' first|with_reducible first|apply Le.none|apply Le.refl|apply MF.q35.le n|apply Le.jn|apply Le.rs|apply Le.rb|apply Le.bind|apply Le.ite|intro _|dsimp only|split
def MF.q22 (n:Nat) (p0:q09) (p1:Z):Option Int:=do
 let a1←MF.q1z n p0 p1
 let a3←M.q34 a1.gv
 some a3.1
theorem MF.q22.le (n:Nat) (p0:q09) (p1:Z):Le (MF.q22 n p0 p1) (M.q22 p0 p1):=by
 unfold MF.q22 M.q22
 repeat' first|with_reducible first|apply Le.none|apply Le.refl|apply MF.q1z.le n|apply Le.jn|apply Le.rs|apply Le.rb|apply Le.bind|apply Le.ite|intro _|dsimp only|split
def MF.q23 (n:Nat) (p0:q09) (p1:Z):Option Z:=do
 let a1←MF.q1z n p0 p1
 if (decide (a1.gv.zi=4)) then
  none
 else
  some []
theorem MF.q23.le (n:Nat) (p0:q09) (p1:Z):Le (MF.q23 n p0 p1) (M.q23 p0 p1):=by
 unfold MF.q23 M.q23
 repeat' first|with_reducible first|apply Le.none|apply Le.refl|apply MF.q1z.le n|apply Le.jn|apply Le.rs|apply Le.rb|apply Le.bind|apply Le.ite|intro _|dsimp only|split
def MF.q24 (n:Nat) (p0:q09) (p1:Z):Option (List Z):=do
 let a1←MF.q1z n p0 p1
 let a3←M.q38 a1.gv
 some a3.1
theorem MF.q24.le (n:Nat) (p0:q09) (p1:Z):Le (MF.q24 n p0 p1) (M.q24 p0 p1):=by
 unfold MF.q24 M.q24
 repeat' first|with_reducible first|apply Le.none|apply Le.refl|apply MF.q1z.le n|apply Le.jn|apply Le.rs|apply Le.rb|apply Le.bind|apply Le.ite|intro _|dsimp only|split
def MB.z0x (n:Nat) (ih:(q09)→(Int)→(List q07)→Option (List q07)) (a89:q09) (x103:Int) (x104:List q07):Option (List q07):=do
 if (decide (x103<(a89.gv.z0c.length:Int))) then
  none
 else
  some x104
def MF.z0x (n:Nat):=rc MB.z0x (fun _ _ _=>none) n
theorem MF.z0x.le:∀ (n:Nat) (a89:q09) (x103:Int) (x104:List q07),Le (MF.z0x n a89 x103 x104) (M.z0x a89 x103 x104):=by
 intro n;induction n with
 | zero=>intros;exact Le.none _
 | succ n ih =>
  intro a89 x103 x104
  show Le (MB.z0x n (MF.z0x n) a89 x103 x104) _
  rw [M.z0x];unfold MB.z0x
  repeat' first|with_reducible first|apply Le.none|apply Le.refl|apply ih|apply Le.jn|apply Le.rs|apply Le.rb|apply Le.bind|apply Le.ite|intro _|dsimp only|split
def MF.q1l (n:Nat) (p0:q09):Option q06:=do
 let a1←MF.q22 n p0 [101,114,114,111,114]
 let a3←MF.q23 n p0 [103,114,97,110,116]
 let a5←MF.q23 n p0 [97,99,99,101,115,115,95,116,111,107,101,110]
 let a7←MF.q23 n p0 [114,101,102,114,101,115,104,95,116,111,107,101,110]
 let a9←MF.q23 n p0 [105,100,95,116,111,107,101,110]
 let a11←MF.q23 n p0 [116,101,120,116]
 let a13←MF.q24 n p0 [115,99,111,112,101]
 let a15←MF.q22 n p0 [101,120,112,105,114,101,115,95,105,110]
 let a17←MF.q22 n p0 [108,101,118,101,108]
 let a19←MF.q22 n p0 [116,111,116,97,108]
 let a21←MF.q1z n p0 [97,99,116,105,118,101]
 let a23←MF.q1z n p0 [99,108,97,105,109,115]
 let a25←MF.q23 n a23 [105,115,115]
 let a27←MF.q23 n a23 [115,117,98]
 let a29←MF.q23 n a23 [97,117,100]
 let a31←MF.q23 n a23 [99,108,105,101,110,116,95,105,100]
 let a33←MF.q23 n a23 [106,116,105]
 let a35←MF.q23 n a23 [110,111,110,99,101]
 let a37←MF.q22 n a23 [105,97,116]
 let a39←MF.q22 n a23 [101,120,112]
 let a41←MF.q22 n a23 [108,101,118,101,108]
 let a43←MF.q24 n a23 [115,99,111,112,101]
 let a45←MF.q24 n a23 [97,99,116]
 let j88←(do
   let a89←MF.q1z n p0 [116,104,105,110,103,115]
   MF.z0x n a89 0 []:Option (List q07))
 some (q06.mk 0 a1 [] a3 a5 a7 a9 a11 a13 a15 a17 a19 (decide (a21.gv.zi=2)) (q01.mk a25 a27 a29 a31 a33 a35 a37 a39 a41 a43 a45) j88)
theorem MF.q1l.le (n:Nat) (p0:q09):Le (MF.q1l n p0) (M.q1l p0):=by
 unfold MF.q1l M.q1l
 repeat' first|with_reducible first|apply Le.none|apply Le.refl|apply MF.q22.le n|apply MF.q23.le n|apply MF.q24.le n|apply MF.q1z.le n|apply MF.z0x.le n|apply Le.jn|apply Le.rs|apply Le.rb|apply Le.bind|apply Le.ite|intro _|dsimp only|split
def MF.q0t (n:Nat) (fuel:Nat) (p0:Z):Option (q06 × Int × Int):=do
 let a1←M.q1f p0
 let a5←M.q1p ((decide (0<a1))||(decide ((p0.length:Int)<8192))) 220
 match a5 with
 | .pan e8 =>
  none
 | .ok a7 =>
  let a9←M.q1p (decide (0<a1)) 223
  match a9 with
  | .pan e12 =>
   none
  | .ok a11 =>
   let s13←sub p0 0 (ya .i64 (a1 - 4))
   let a14←M.split s13 [13,10]
   let j18←(do
     if (decide (3≤(a14.length:Int))) then
      let x19←ix a14 0
      some (decide (12<(x19.length:Int)))
     else
      none:Option Bool)
   let a20←M.q1p j18 220
   match a20 with
   | .pan e23 =>
    none
   | .ok a22 =>
    let x24←ix a14 0
    let s25←sub x24 9 12
    let a26←M.q1t s25 3
    let j31←(do
      if a26.2 then
       let a32←M.q2w a26.1
       some (!decide (a32=[]))
      else
       none:Option Bool)
    let a34←M.q1p j31 220
    match a34 with
    | .pan e37 =>
     none
    | .ok a36 =>
     let j49←(do
       if (decide ((a14.length:Int)=4)) then
        none
       else
        some []:Option Z)
     let a55←M.trim j49 [65,66,67,68,69,70,71,72,73,74,75,76,77,78,79,80,81,82,83,84,85,86,87,88,89,90,97,98,99,100,101,102,103,104,105,106,107,108,109,110,111,112,113,114,115,116,117,118,119,120,121,122,48,49,50,51,52,53,54,55,56,57,45,95]
     let a57←M.q1p (decide (a55=[])) 220
     match a57 with
     | .pan e60 =>
      none
     | .ok a59 =>
      let x61←ix a14 (ya .i64 ((a14.length:Int) - 1))
      let a62←M.q74 x61 [99,111,110,116,101,110,116,45,108,101,110,103,116,104,58,32]
      let a64←M.q1t a62 5
      let q96←(do
        if a64.2 then
         if (decide (a64.1≤16384)) then
          let s97←sub p0 0 a1
          let a98←M.q1j a26.1 j49 a64.1
          let a100←M.q1p (decide (a98=s97)) 220
          match a100 with
          | .pan e103 =>
           none
          | .ok a102 =>
           some (.go ())
         else
          none
        else
         none:Option (Jn (q06 × Int × Int) Unit))
      match q96 with
      | .done r=>some r
      | .go j96 =>
       let a112←M.q1p (decide (a64.1≤(ya .i64 ((p0.length:Int) - a1)))) 223
       match a112 with
       | .pan e115 =>
        none
       | .ok a114 =>
        let s116←sub p0 a1 (ya .i64 (a1+a64.1))
        let a117←MF.q36 n fuel s116
        let a119←M.q1p (decide (a117.2=0)) 220
        match a119 with
        | .pan e122 =>
         none
        | .ok a121 =>
         let a123←MF.q1l n (q09.mk a117.1)
         let a125←MF.q0v n fuel (q06.mk a26.1 a123.z1f j49 a123.z3p a123.z2v a123.z25 a123.gId a123.z0l a123.z09 a123.z1p a123.z1n a123.z39 a123.z4y a123.z0e a123.z3t)
         let j129←(do
           if (decide (a125.2=0)) then
            let s130←sub p0 0 (ya .i64 (a1+a64.1))
            some (decide (a125.1=s130))
           else
            none:Option Bool)
         let a131←M.q1p j129 220
         match a131 with
         | .pan e134 =>
          none
         | .ok a133 =>
          some ((q06.mk a26.1 a123.z1f j49 a123.z3p a123.z2v a123.z25 a123.gId a123.z0l a123.z09 a123.z1p a123.z1n a123.z39 a123.z4y a123.z0e a123.z3t),(ya .i64 (a1+a64.1)),0)
theorem MF.q0t.le (n:Nat) (fuel:Nat) (p0:Z):Le (MF.q0t n fuel p0) (M.q0t fuel p0):=by
 unfold MF.q0t M.q0t
 repeat' first|with_reducible first|apply Le.none|apply Le.refl|apply MF.q36.le n|apply MF.q1l.le n|apply MF.q0v.le n|apply Le.jn|apply Le.rs|apply Le.rb|apply Le.bind|apply Le.ite|intro _|dsimp only|split
def MB.z01 (n:Nat) (ih:((List Z))→(q00)→(Int)→(List Z)→Option (List Z)) (a21:(List Z)) (p1:q00) (x27:Int) (x28:List Z):Option (List Z):=do
 if (decide (x27<(a21.length:Int))) then
  let x33←ix a21 x27
  let j35←(do
    if (decide (x33=[79,70])) then
     none
    else
     if (decide (x33=[78,65,77,69])) then
      none
     else
      some x33:Option Z)
  let l36←app 16 x28 [j35]
  ih a21 p1 (ya .i64 (x27+1)) l36
 else
  some x28
def MF.z01 (n:Nat):=rc MB.z01 (fun _ _ _ _=>none) n
theorem MF.z01.le:∀ (n:Nat) (a21:(List Z)) (p1:q00) (x27:Int) (x28:List Z),Le (MF.z01 n a21 p1 x27 x28) (M.z01 a21 p1 x27 x28):=by
 intro n;induction n with
 | zero=>intros;exact Le.none _
 | succ n ih =>
  intro a21 p1 x27 x28
  show Le (MB.z01 n (MF.z01 n) a21 p1 x27 x28) _
  rw [M.z01];unfold MB.z01
  repeat' first|with_reducible first|apply Le.none|apply Le.refl|apply ih|apply Le.jn|apply Le.rs|apply Le.rb|apply Le.bind|apply Le.ite|intro _|dsimp only|split
def MB.zy (n:Nat) (ih:(q0a)→(q00)→(List q05)→(Int)→Option (List q05)) (p0:q0a) (p1:q00) (x235:List q05) (x236:Int):Option (List q05):=do
 if (decide (x236<(p0.z1s.length:Int))) then
  let x283←ix p0.z1s x236
  let j313←(do
    let a314←M.q2q x283 p1
    if a314=24 then
     none
    else
     if a314=25 then
      none
     else
      if a314=1000000 then
       if x283.zil then
        none
       else
        if (!Nat.beq x283.z5b NF) then
         let a325←M.q0q x283.z5b p1
         let s327←q00.zlk p1 a325
         some s327
        else
         none
      else
       none:Option Z)
  if (!decide (j313=[])) then
   let l328←app 32 x235 [(q05.mk x283.zee j313)]
   ih p0 p1 l328 (ya .i64 (x236+1))
  else
   none
 else
  some x235
def MF.zy (n:Nat):=rc MB.zy (fun _ _ _ _=>none) n
theorem MF.zy.le:∀ (n:Nat) (p0:q0a) (p1:q00) (x235:List q05) (x236:Int),Le (MF.zy n p0 p1 x235 x236) (M.zy p0 p1 x235 x236):=by
 intro n;induction n with
 | zero=>intros;exact Le.none _
 | succ n ih =>
  intro p0 p1 x235 x236
  show Le (MB.zy n (MF.zy n) p0 p1 x235 x236) _
  rw [M.zy];unfold MB.zy
  repeat' first|with_reducible first|apply Le.none|apply Le.refl|apply ih|apply Le.jn|apply Le.rs|apply Le.rb|apply Le.bind|apply Le.ite|intro _|dsimp only|split
def MB.zm (n:Nat) (ih:Z→Z→(Int)→(List Int)→Option (List Int)) (p0:Z) (p1:Z) (x105:Int) (x106:List Int):Option (List Int):=do
 if (decide (x105<((unb p0).length:Int))) then
  let x132←ix (unb p0) x105
  let j144←(do
    if ((((decide (65≤x132))&&(decide (x132≤90)))||((decide (97≤x132))&&(decide (x132≤122))))||((decide (48≤x132))&&(decide (x132≤57)))) then
     some true
    else
     none:Option Bool)
  if j144 then
   let a147←M.q70 x106 x132
   ih p0 p1 (ya .i64 (x105+1)) a147
  else
   none
 else
  some x106
def MF.zm (n:Nat):=rc MB.zm (fun _ _ _ _=>none) n
theorem MF.zm.le:∀ (n:Nat) (p0:Z) (p1:Z) (x105:Int) (x106:List Int),Le (MF.zm n p0 p1 x105 x106) (M.zm p0 p1 x105 x106):=by
 intro n;induction n with
 | zero=>intros;exact Le.none _
 | succ n ih =>
  intro p0 p1 x105 x106
  show Le (MB.zm n (MF.zm n) p0 p1 x105 x106) _
  rw [M.zm];unfold MB.zm
  repeat' first|with_reducible first|apply Le.none|apply Le.refl|apply ih|apply Le.jn|apply Le.rs|apply Le.rb|apply Le.bind|apply Le.ite|intro _|dsimp only|split
def MF.q0p (n:Nat) (p0:Z) (p1:Z):Option Z:=do
 let j79←(do
   let _←chk (decide (p0.length≤9223372036854775807))
   MF.zm n p0 p1 0 ([]:List Int):Option (List Int))
 let a157←M.zj j79
 some a157
theorem MF.q0p.le (n:Nat) (p0:Z) (p1:Z):Le (MF.q0p n p0 p1) (M.q0p p0 p1):=by
 unfold MF.q0p M.q0p
 repeat' first|with_reducible first|apply Le.none|apply Le.refl|apply MF.zm.le n|apply Le.jn|apply Le.rs|apply Le.rb|apply Le.bind|apply Le.ite|intro _|dsimp only|split
def MB.z0f (n:Nat) (ih:(List q05)→(List Z)→(Int)→Option (List Z)) (p0:List q05) (x37:List Z) (x38:Int):Option (List Z):=do
 if (decide (x38<(p0.length:Int))) then
  let x47←ix p0 x38
  let a48←MF.q0p n x47.z03 [43]
  let s50←cat a48 [61]
  let a51←MF.q0p n x47.z1d [43]
  let s53←cat s50 a51
  let l54←app 16 x37 [s53]
  ih p0 l54 (ya .i64 (x38+1))
 else
  some x37
def MF.z0f (n:Nat):=rc MB.z0f (fun _ _ _=>none) n
theorem MF.z0f.le:∀ (n:Nat) (p0:List q05) (x37:List Z) (x38:Int),Le (MF.z0f n p0 x37 x38) (M.z0f p0 x37 x38):=by
 intro n;induction n with
 | zero=>intros;exact Le.none _
 | succ n ih =>
  intro p0 x37 x38
  show Le (MB.z0f n (MF.z0f n) p0 x37 x38) _
  rw [M.z0f];unfold MB.z0f
  repeat' first|with_reducible first|apply Le.none|apply Le.refl|apply ih|apply MF.q0p.le n|apply Le.jn|apply Le.rs|apply Le.rb|apply Le.bind|apply Le.ite|intro _|dsimp only|split
def MF.q0i (n:Nat) (p0:List q05):Option (Z × Int):=do
 if (decide (64<(p0.length:Int))) then
  none
 else
  let j28←(do
    MF.z0f n p0 [] 0:Option (List Z))
  let a55←M.join j28 [38]
  if (decide (8192<(a55.length:Int))) then
   none
  else
   some (a55,0)
theorem MF.q0i.le (n:Nat) (p0:List q05):Le (MF.q0i n p0) (M.q0i p0):=by
 unfold MF.q0i M.q0i
 repeat' first|with_reducible first|apply Le.none|apply Le.refl|apply MF.z0f.le n|apply Le.jn|apply Le.rs|apply Le.rb|apply Le.bind|apply Le.ite|intro _|dsimp only|split
def MF.q2d (n:Nat) (fuel:Nat) (p0:q0a) (p1:q00):Option (q03 × Int):=do
 let j19←(do
   let s20←sub p0.zaa 1 (p0.zaa.length:Int)
   let a21←M.split s20 [47]
   MF.z01 n a21 p1 0 []:Option (List Z))
 let s37←cat [115,101,115,115,105,111,110,61] p1.z0r
 let a38←M.q2e 1 p1.z0r [99,111,111,107,105,101] s37 p0 (q03.mk p0.z4m j19 [] [(q05.mk [104,111,115,116] [105,100,112])] [])
 let s40←cat [66,101,97,114,101,114,32] p1.z1u
 let a41←M.q2e 2 p1.z1u [97,117,116,104,111,114,105,122,97,116,105,111,110] s40 p0 (q03.mk a38.zo a38.zu [] a38.zl a38.zv)
 let s43←cat [34] p1.z4t
 let s44←cat s43 [34]
 let a45←M.q2e 4 p1.z4t [105,102,45,109,97,116,99,104] s44 p0 (q03.mk a41.zo a41.zu [] a41.zl a41.zv)
 let j188←(do
   MF.zy n p0 p1 [] 0:Option (List q05))
 if (decide (p0.z3j=2)) then
  none
 else
  if (decide (p0.z3j=1)) then
   let a329←MF.q0i n j188
   some ((q03.mk a45.zo a45.zu [] a45.zl a329.1),a329.2)
  else
   none
theorem MF.q2d.le (n:Nat) (fuel:Nat) (p0:q0a) (p1:q00):Le (MF.q2d n fuel p0 p1) (M.q2d fuel p0 p1):=by
 unfold MF.q2d M.q2d
 repeat' first|with_reducible first|apply Le.none|apply Le.refl|apply MF.z01.le n|apply MF.zy.le n|apply MF.q0i.le n|apply Le.jn|apply Le.rs|apply Le.rb|apply Le.bind|apply Le.ite|intro _|dsimp only|split
def MB.z0a (n:Nat) (ih:(List q05)→(Int)→(List (Z × Bool))→Option (Jn Bool (List (Z × Bool)))) (p0:List q05) (x55:Int) (x56:List (Z × Bool)):Option (Jn Bool (List (Z × Bool))):=do
 if (decide (x55<(p0.length:Int))) then
  let x69←ix p0 x55
  let a70←M.q1q x69.z03
  let j75←(do
    if (!a70) then
     none
    else
     let a76←MF.q2t n x69.z1d
     some (!a76):Option Bool)
  let j79←(do
    if j75 then
     none
    else
     some (z4n x56 x69.z03 false):Option Bool)
  if j79 then
   none
  else
   let m80←some (z2i x56 x69.z03 true)
   ih p0 (ya .i64 (x55+1)) m80
 else
  some (.go x56)
def MF.z0a (n:Nat):=rc MB.z0a (fun _ _ _=>none) n
theorem MF.z0a.le:∀ (n:Nat) (p0:List q05) (x55:Int) (x56:List (Z × Bool)),Le (MF.z0a n p0 x55 x56) (M.z0a p0 x55 x56):=by
 intro n;induction n with
 | zero=>intros;exact Le.none _
 | succ n ih =>
  intro p0 x55 x56
  show Le (MB.z0a n (MF.z0a n) p0 x55 x56) _
  rw [M.z0a];unfold MB.z0a
  repeat' first|with_reducible first|apply Le.none|apply Le.refl|apply ih|apply MF.q2t.le n|apply Le.jn|apply Le.rs|apply Le.rb|apply Le.bind|apply Le.ite|intro _|dsimp only|split
def MF.q1k (n:Nat) (p0:List q05):Option Bool:=do
 let m1←some (z2i ([]:List (Z × Bool)) [99,111,110,116,101,110,116,45,108,101,110,103,116,104] true)
 let m2←some (z2i m1 [116,114,97,110,115,102,101,114,45,101,110,99,111,100,105,110,103] true)
 let q42←(do
   MF.z0a n p0 0 m2:Option (Jn Bool (List (Z × Bool))))
 match q42 with
 | .done r=>some r
 | .go j42 =>
  let j82←(do
    if (decide ((p0.length:Int)≤32)) then
     some (z4n j42 [104,111,115,116] false)
    else
     none:Option Bool)
  some j82
theorem MF.q1k.le (n:Nat) (p0:List q05):Le (MF.q1k n p0) (M.q1k p0):=by
 unfold MF.q1k M.q1k
 repeat' first|with_reducible first|apply Le.none|apply Le.refl|apply MF.z0a.le n|apply Le.jn|apply Le.rs|apply Le.rb|apply Le.bind|apply Le.ite|intro _|dsimp only|split
def MF.q0n (n:Nat) (p0:Z):Option Z:=do
 let a1←MF.q0p n p0 [37,50,48]
 some a1
theorem MF.q0n.le (n:Nat) (p0:Z):Le (MF.q0n n p0) (M.q0n p0):=by
 unfold MF.q0n M.q0n
 repeat' first|with_reducible first|apply Le.none|apply Le.refl|apply MF.q0p.le n|apply Le.jn|apply Le.rs|apply Le.rb|apply Le.bind|apply Le.ite|intro _|dsimp only|split
def MB.z0g (n:Nat) (ih:(q03)→(Int)→(List Int)→Option (List Int)) (p0:q03) (x76:Int) (x77:List Int):Option (List Int):=do
 if (decide (x76<(p0.zu.length:Int))) then
  let x84←ix p0.zu x76
  let a85←MF.q0n n x84
  let s87←cat [47] a85
  let a88←M.q71 x77 s87
  ih p0 (ya .i64 (x76+1)) a88.2
 else
  some x77
def MF.z0g (n:Nat):=rc MB.z0g (fun _ _ _=>none) n
theorem MF.z0g.le:∀ (n:Nat) (p0:q03) (x76:Int) (x77:List Int),Le (MF.z0g n p0 x76 x77) (M.z0g p0 x76 x77):=by
 intro n;induction n with
 | zero=>intros;exact Le.none _
 | succ n ih =>
  intro p0 x76 x77
  show Le (MB.z0g n (MF.z0g n) p0 x76 x77) _
  rw [M.z0g];unfold MB.z0g
  repeat' first|with_reducible first|apply Le.none|apply Le.refl|apply ih|apply MF.q0n.le n|apply Le.jn|apply Le.rs|apply Le.rb|apply Le.bind|apply Le.ite|intro _|dsimp only|split
def MB.z0h (n:Nat) (ih:(q03)→(Int)→(List Int)→Option (List Int)) (p0:q03) (x131:Int) (x132:List Int):Option (List Int):=do
 if (decide (x131<(p0.zl.length:Int))) then
  let x139←ix p0.zl x131
  let s140←cat x139.z03 [58,32]
  let s141←cat s140 x139.z1d
  let s142←cat s141 [13,10]
  let a143←M.q71 x132 s142
  ih p0 (ya .i64 (x131+1)) a143.2
 else
  some x132
def MF.z0h (n:Nat):=rc MB.z0h (fun _ _ _=>none) n
theorem MF.z0h.le:∀ (n:Nat) (p0:q03) (x131:Int) (x132:List Int),Le (MF.z0h n p0 x131 x132) (M.z0h p0 x131 x132):=by
 intro n;induction n with
 | zero=>intros;exact Le.none _
 | succ n ih =>
  intro p0 x131 x132
  show Le (MB.z0h n (MF.z0h n) p0 x131 x132) _
  rw [M.z0h];unfold MB.z0h
  repeat' first|with_reducible first|apply Le.none|apply Le.refl|apply ih|apply Le.jn|apply Le.rs|apply Le.rb|apply Le.bind|apply Le.ite|intro _|dsimp only|split
def MF.q0u (n:Nat) (p0:q03):Option (Z × Int):=do
 let a1←MF.q0i n p0.z0s
 let j27←(do
   if (!decide (a1.2=0)) then
    none
   else
    let a28←M.q1o p0.zo
    some (!a28):Option Bool)
 let j37←(do
   if ((j27||(decide ((p0.zu.length:Int)=0)))||(decide (64<(p0.zu.length:Int)))) then
    none
   else
    let a38←MF.q1k n p0.zl
    some (!a38):Option Bool)
 if ((j37||((decide ((p0.zl.length:Int)=32))&&(!decide (p0.zv=[]))))||(decide (16384<(p0.zv.length:Int)))) then
  none
 else
  let s45←cat p0.zo [32]
  let a46←M.q71 ([]:List Int) s45
  let j69←(do
    MF.z0g n p0 0 a46.2:Option (List Int))
  let j97←(do
    if (!decide (a1.1=[])) then
     none
    else
     some j69:Option (List Int))
  let a101←M.q71 j97 [32,72,84,84,80,47,49,46,49,13,10]
  let j124←(do
    MF.z0h n p0 0 a101.2:Option (List Int))
  let j158←(do
    if (!decide (p0.zv=[])) then
     let a159←M.itoa (p0.zv.length:Int)
     let s161←cat [99,111,110,116,101,110,116,45,108,101,110,103,116,104,58,32] a159
     let s162←cat s161 [13,10]
     let a163←M.q71 j124 s162
     some a163.2
    else
     none:Option (List Int))
  let a165←M.q71 j158 [13,10]
  let a169←M.q6z a165.2
  if (decide (8192<a169)) then
   none
  else
   let a171←M.zj a165.2
   let s173←cat a171 p0.zv
   some (s173,0)
theorem MF.q0u.le (n:Nat) (p0:q03):Le (MF.q0u n p0) (M.q0u p0):=by
 unfold MF.q0u M.q0u
 repeat' first|with_reducible first|apply Le.none|apply Le.refl|apply MF.q0i.le n|apply MF.q1k.le n|apply MF.z0g.le n|apply MF.z0h.le n|apply Le.jn|apply Le.rs|apply Le.rb|apply Le.bind|apply Le.ite|intro _|dsimp only|split
def MB.za (n:Nat) (ih:(List q02)→(List q02)→(Int)→Option (Jn Bool Unit)) (p0:List q02) (p1:List q02) (x19:Int):Option (Jn Bool Unit):=do
 if (decide (x19<(p0.length:Int))) then
  none
 else
  some (.go ())
def MF.za (n:Nat):=rc MB.za (fun _ _ _=>none) n
theorem MF.za.le:∀ (n:Nat) (p0:List q02) (p1:List q02) (x19:Int),Le (MF.za n p0 p1 x19) (M.za p0 p1 x19):=by
 intro n;induction n with
 | zero=>intros;exact Le.none _
 | succ n ih =>
  intro p0 p1 x19
  show Le (MB.za n (MF.za n) p0 p1 x19) _
  rw [M.za];unfold MB.za
  repeat' first|with_reducible first|apply Le.none|apply Le.refl|apply ih|apply Le.jn|apply Le.rs|apply Le.rb|apply Le.bind|apply Le.ite|intro _|dsimp only|split
def MF.q6t (n:Nat) (p0:List q02) (p1:List q02):Option Bool:=do
 if (!decide ((p0.length:Int)=(p1.length:Int))) then
  none
 else
  let q14←(do
    MF.za n p0 p1 0:Option (Jn Bool Unit))
  match q14 with
  | .done r=>some r
  | .go j14 =>
   some true
theorem MF.q6t.le (n:Nat) (p0:List q02) (p1:List q02):Le (MF.q6t n p0 p1) (M.q6t p0 p1):=by
 unfold MF.q6t M.q6t
 repeat' first|with_reducible first|apply Le.none|apply Le.refl|apply MF.za.le n|apply Le.jn|apply Le.rs|apply Le.rb|apply Le.bind|apply Le.ite|intro _|dsimp only|split
def MF.q2h (n:Nat) (p0:q00) (p1:q00):Option Bool:=do
 let a3←MF.q6t n p0.z0v p1.z0v
 if (!a3) then
  none
 else
  let a5←M.q2j p0
  let a7←M.q2j p1
  some ((((decide ((a5.getD 0 [])=(a7.getD 0 []))&&(decide ((a5.getD 1 [])=(a7.getD 1 []))&&(decide ((a5.getD 2 [])=(a7.getD 2 []))&&(decide ((a5.getD 3 [])=(a7.getD 3 []))&&(decide ((a5.getD 4 [])=(a7.getD 4 []))&&(decide ((a5.getD 5 [])=(a7.getD 5 []))&&(decide ((a5.getD 6 [])=(a7.getD 6 []))&&(decide ((a5.getD 7 [])=(a7.getD 7 []))&&(decide ((a5.getD 8 [])=(a7.getD 8 []))&&(decide ((a5.getD 9 [])=(a7.getD 9 []))&&(decide ((a5.getD 10 [])=(a7.getD 10 []))&&(decide ((a5.getD 11 [])=(a7.getD 11 []))&&(decide ((a5.getD 12 [])=(a7.getD 12 []))&&(decide ((a5.getD 13 [])=(a7.getD 13 []))&&(decide ((a5.getD 14 [])=(a7.getD 14 []))&&(decide ((a5.getD 15 [])=(a7.getD 15 []))&&(decide ((a5.getD 16 [])=(a7.getD 16 []))&&(decide ((a5.getD 17 [])=(a7.getD 17 []))&&(decide ((a5.getD 18 [])=(a7.getD 18 []))&&(decide ((a5.getD 19 [])=(a7.getD 19 []))&&(decide ((a5.getD 20 [])=(a7.getD 20 []))&&(decide ((a5.getD 21 [])=(a7.getD 21 []))&&true))))))))))))))))))))))&&(decide (p0.zi=p1.zi)))&&(decide (p0.z2p=p1.z2p)))&&(decide (p0.z1q=p1.z1q)))
theorem MF.q2h.le (n:Nat) (p0:q00) (p1:q00):Le (MF.q2h n p0 p1) (M.q2h p0 p1):=by
 unfold MF.q2h M.q2h
 repeat' first|with_reducible first|apply Le.none|apply Le.refl|apply MF.q6t.le n|apply Le.jn|apply Le.rs|apply Le.rb|apply Le.bind|apply Le.ite|intro _|dsimp only|split
def MB.z0d (n:Nat) (ih:((List q0a))→(q00)→(Nat)→(Int)→Option (Jn (q03 × Int) Unit)) (a56:(List q0a)) (p0:q00) (fuel:Nat) (x75:Int):Option (Jn (q03 × Int) Unit):=do
 if (decide (x75<(a56.length:Int))) then
  let x93←ix a56 x75
  if (!decide (x93.zed=p0.zi)) then
   none
  else
   let a94←MF.q2d n fuel x93 p0
   let a96←MF.q0u n a94.1
   let a98←MF.q0r n fuel a94.1
   let j107←(do
     if (((decide (a94.2=0))&&(decide (a96.2=0)))&&(decide (a98.2=0))) then
      let a108←MF.q2h n p0 a98.1
      some a108
     else
      none:Option Bool)
   if j107 then
    some (.done (a94.1,0))
   else
    none
 else
  none
def MF.z0d (n:Nat):=rc MB.z0d (fun _ _ _ _=>none) n
theorem MF.z0d.le:∀ (n:Nat) (a56:(List q0a)) (p0:q00) (fuel:Nat) (x75:Int),Le (MF.z0d n a56 p0 fuel x75) (M.z0d a56 p0 fuel x75):=by
 intro n;induction n with
 | zero=>intros;exact Le.none _
 | succ n ih =>
  intro a56 p0 fuel x75
  show Le (MB.z0d n (MF.z0d n) a56 p0 fuel x75) _
  rw [M.z0d];unfold MB.z0d
  repeat' first|with_reducible first|apply Le.none|apply Le.refl|apply ih|apply MF.q2d.le n|apply MF.q0u.le n|apply MF.q0r.le n|apply MF.q2h.le n|apply Le.jn|apply Le.rs|apply Le.rb|apply Le.bind|apply Le.ite|intro _|dsimp only|split
def MF.q0w (n:Nat) (fuel:Nat) (p0:q00):Option (q03 × Int):=do
 let q55←(do
   let a56←M.q2f
   MF.z0d n a56 p0 fuel 0:Option (Jn (q03 × Int) Unit))
 match q55 with
 | .done r=>some r
 | .go j55 =>
  none
theorem MF.q0w.le (n:Nat) (fuel:Nat) (p0:q00):Le (MF.q0w n fuel p0) (M.q0w fuel p0):=by
 unfold MF.q0w M.q0w
 repeat' first|with_reducible first|apply Le.none|apply Le.refl|apply MF.z0d.le n|apply Le.jn|apply Le.rs|apply Le.rb|apply Le.bind|apply Le.ite|intro _|dsimp only|split
def MF.q3x (n:Nat) (fuel:Nat):Option Bool:=do
 let a1←MF.q0s n [80,79,83,84,32,47,108,111,103,105,110,32,72,84,84,80,47,49,46,49,13,10,72,111,115,116,58,32,120,13,10,67,111,110,116,101,110,116,45,76,101,110,103,116,104,58,32,49,53,13,10,13,10,117,115,101,114,61,97,110,110,38,112,97,115,115,61,112,109,111,114,101]
 let a3←MF.q0r n fuel a1.1
 let s5←sub [80,79,83,84,32,47,108,111,103,105,110,32,72,84,84,80,47,49,46,49,13,10,72,111,115,116,58,32,120,13,10,67,111,110,116,101,110,116,45,76,101,110,103,116,104,58,32,49,53,13,10,13,10,117,115,101,114,61,97,110,110,38,112,97,115,115,61,112] 0 60
 let a6←MF.q0s n s5
 let a8←MF.q0s n [71,69,84,32,47,32,72,84,84,80,47,49,46,48,13,10,104,111,115,116,58,120,13,10,13,10]
 let a10←MF.q0r n fuel (q03.mk [71,69,84] [([108,111,103,105,110]:Z)] [] [] [])
 let a12←MF.q0r n fuel (q03.mk [71,69,84] [([120]:Z)] [] [] [])
 let a14←MF.q0v n fuel (q06.mk 401 171 [] [] [] [] [] [] [] 0 0 0 false (q01.mk [] [] [] [] [] [] 0 0 0 [] []) [])
 let a16←MF.q0t n fuel a14.1
 let a18←MF.q0w n fuel (q00.mk 1 [] [97,110,110] [112] [] [] [] [] [] [] [] [] [] [] [] [] [] [] [] [] [] [] [] [] 0 0)
 let a20←MF.q0u n a18.1
 let j61←(do
   if (((((((((((((((((((decide (a1.2.2=0))&&(decide (a1.2.1=68)))&&(decide (a3.2=0)))&&(decide (a3.1.zi=1)))&&(decide (a3.1.z2h=[97,110,110])))&&(decide (a3.1.z2g=[112])))&&(decide (a6.2.2=223)))&&(decide (a8.2.2=220)))&&(decide (a10.2=226)))&&(decide (a12.2=225)))&&(decide (a14.2=0)))&&(decide (a14.1=[72,84,84,80,47,49,46,49,32,52,48,49,32,85,110,97,117,116,104,111,114,105,122,101,100,13,10,99,111,110,116,101,110,116,45,116,121,112,101,58,32,97,112,112,108,105,99,97,116,105,111,110,47,106,115,111,110,13,10,99,111,110,116,101,110,116,45,108,101,110,103,116,104,58,32,49,51,13,10,13,10,123,34,101,114,114,111,114,34,58,49,55,49,125])))&&(decide (a16.2.2=0)))&&(decide (a16.2.1=(a14.1.length:Int))))&&(decide (a16.1.z1f=171)))&&(decide (a16.1.z6e=401)))&&(decide (a18.2=0)))&&(decide (a20.2=0)))&&(decide (a20.1=[80,79,83,84,32,47,108,111,103,105,110,32,72,84,84,80,47,49,46,49,13,10,104,111,115,116,58,32,105,100,112,13,10,99,111,110,116,101,110,116,45,108,101,110,103,116,104,58,32,49,53,13,10,13,10,117,115,101,114,61,97,110,110,38,112,97,115,115,61,112]))) then
    let a62←M.q0x 221
    some (decide (a62=413))
   else
    none:Option Bool)
 some (((((((j61&&true)&&true)&&true)&&true)&&true)&&true)&&true)
theorem MF.q3x.le (n:Nat) (fuel:Nat):Le (MF.q3x n fuel) (M.q3x fuel):=by
 unfold MF.q3x M.q3x
 repeat' first|with_reducible first|apply Le.none|apply Le.refl|apply MF.q0s.le n|apply MF.q0r.le n|apply MF.q0v.le n|apply MF.q0t.le n|apply MF.q0w.le n|apply MF.q0u.le n|apply Le.jn|apply Le.rs|apply Le.rb|apply Le.bind|apply Le.ite|intro _|dsimp only|split
end
end Go.Sen
