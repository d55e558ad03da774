import Derived.Test.YtfdoofnmjehecaaGreatDoorAShJ
set_option linter.all false
set_option maxRecDepth 1000000
namespace Go.Sen
open IntKind renaming wrap → ya
open Go.Lk Go.Pe
noncomputable section
def MB.z0s (n:Nat) (ih:(q06)→(Int)→Option (Jn (Z × Int) Unit)) (p0:q06) (x15:Int):Option (Jn (Z × Int) Unit):=do
 if (decide (x15<([p0.z22,p0.z4p,p0.z3v,p0.z7d].length:Int))) then
  let x19←ix [p0.z22,p0.z4p,p0.z3v,p0.z7d] x15
  if ((decide (x19<0))||(decide (1000000000000000≤x19))) then
   none
  else
   ih p0 (ya .i64 (x15+1))
 else
  some (.go ())
def MF.z0s (n:Nat):=rc MB.z0s (fun _ _=>none) n
theorem MF.z0s.le:∀ (n:Nat) (p0:q06) (x15:Int),Le (MF.z0s n p0 x15) (M.z0s p0 x15):=by
 intro n;induction n with
 | zero=>intros;exact Le.none _
 | succ n ih =>
  intro p0 x15
  show Le (MB.z0s n (MF.z0s n) p0 x15) _
  rw [M.z0s];unfold MB.z0s
  repeat' first|with_reducible first|apply Le.none|apply Le.refl|apply ih|apply Le.jn|apply Le.rs|apply Le.rb|apply Le.bind|apply Le.ite|intro _|dsimp only|split
def MB.z16 (n:Nat) (ih:(q06)→(Int)→(Int)→Z→(List q04)→(List Z)→Option (Int × Z × (List q04) × (List Z))) (p0:q06) (x37:Int) (x38:Int) (x39:Z) (x40:List q04) (x41:List Z):Option (Int × Z × (List q04) × (List Z)):=do
 if (decide (x37<([(q05.mk B52 p0.zay),(q05.mk B23 p0.z7k),(q05.mk B11 p0.z5z),(q05.mk B34 p0.gId),(q05.mk B63 p0.z0i)].length:Int))) then
  let x47←ix [(q05.mk B52 p0.zay),(q05.mk B23 p0.z7k),(q05.mk B11 p0.z5z),(q05.mk B34 p0.gId),(q05.mk B63 p0.z0i)] x37
  let a48←M.q2r x47.z3g
  let a50←M.q1q (q08.mk (q04.mk x38 x39 x40 x41)) (!decide (x47.z3g=[])) x47.zo a48
  ih p0 (ya .i64 (x37+1)) a50.z1n.zh a50.z1n.z0i a50.z1n.zk a50.z1n.z08
 else
  some (x38,x39,x40,x41)
def MF.z16 (n:Nat):=rc MB.z16 (fun _ _ _ _ _ _=>none) n
theorem MF.z16.le:∀ (n:Nat) (p0:q06) (x37:Int) (x38:Int) (x39:Z) (x40:List q04) (x41:List Z),Le (MF.z16 n p0 x37 x38 x39 x40 x41) (M.z16 p0 x37 x38 x39 x40 x41):=by
 intro n;induction n with
 | zero=>intros;exact Le.none _
 | succ n ih =>
  intro p0 x37 x38 x39 x40 x41
  show Le (MB.z16 n (MF.z16 n) p0 x37 x38 x39 x40 x41) _
  rw [M.z16];unfold MB.z16
  repeat' first|with_reducible first|apply Le.none|apply Le.refl|apply ih|apply Le.jn|apply Le.rs|apply Le.rb|apply Le.bind|apply Le.ite|intro _|dsimp only|split
def MB.z0u (n:Nat) (ih:(List Z)→(Int)→(List q04)→Option (List q04)) (p0:List Z) (x21:Int) (x22:List q04):Option (List q04):=do
 if (decide (x21<(p0.length:Int))) then
  none
 else
  some x22
def MF.z0u (n:Nat):=rc MB.z0u (fun _ _ _=>none) n
theorem MF.z0u.le:∀ (n:Nat) (p0:List Z) (x21:Int) (x22:List q04),Le (MF.z0u n p0 x21 x22) (M.z0u p0 x21 x22):=by
 intro n;induction n with
 | zero=>intros;exact Le.none _
 | succ n ih =>
  intro p0 x21 x22
  show Le (MB.z0u n (MF.z0u n) p0 x21 x22) _
  rw [M.z0u];unfold MB.z0u
  repeat' first|with_reducible first|apply Le.none|apply Le.refl|apply ih|apply Le.jn|apply Le.rs|apply Le.rb|apply Le.bind|apply Le.ite|intro _|dsimp only|split
def MF.q2s (n:Nat) (p0:List Z):Option q04:=do
 let j16←(do
   MF.z0u n p0 0 []:Option (List q04))
 some (q04.mk 5 [] j16 [])
theorem MF.q2s.le (n:Nat) (p0:List Z):Le (MF.q2s n p0) (M.q2s p0):=by
 unfold MF.q2s M.q2s
 repeat' first|with_reducible first|apply Le.none|apply Le.refl|apply MF.z0u.le n|apply Le.jn|apply Le.rs|apply Le.rb|apply Le.bind|apply Le.ite|intro _|dsimp only|split
def MB.z0b (n:Nat) (ih:(q01)→(Int)→(Int)→Z→(List q04)→(List Z)→Option (Int × Z × (List q04) × (List Z))) (p0:q01) (x33:Int) (x34:Int) (x35:Z) (x36:List q04) (x37:List Z):Option (Int × Z × (List q04) × (List Z)):=do
 if (decide (x33<([(q05.mk [105,115,115] p0.ztl),(q05.mk [115,117,98] p0.ztn),(q05.mk [97,117,100] p0.ztk),(q05.mk B12 p0.z03),(q05.mk [106,116,105] p0.ztm),(q05.mk B38 p0.z0q)].length:Int))) then
  let x43←ix [(q05.mk [105,115,115] p0.ztl),(q05.mk [115,117,98] p0.ztn),(q05.mk [97,117,100] p0.ztk),(q05.mk B12 p0.z03),(q05.mk [106,116,105] p0.ztm),(q05.mk B38 p0.z0q)] x33
  let a44←M.q2r x43.z3g
  let a46←M.q1q (q08.mk (q04.mk x34 x35 x36 x37)) true x43.zo a44
  ih p0 (ya .i64 (x33+1)) a46.z1n.zh a46.z1n.z0i a46.z1n.zk a46.z1n.z08
 else
  some (x34,x35,x36,x37)
def MF.z0b (n:Nat):=rc MB.z0b (fun _ _ _ _ _ _=>none) n
theorem MF.z0b.le:∀ (n:Nat) (p0:q01) (x33:Int) (x34:Int) (x35:Z) (x36:List q04) (x37:List Z),Le (MF.z0b n p0 x33 x34 x35 x36 x37) (M.z0b p0 x33 x34 x35 x36 x37):=by
 intro n;induction n with
 | zero=>intros;exact Le.none _
 | succ n ih =>
  intro p0 x33 x34 x35 x36 x37
  show Le (MB.z0b n (MF.z0b n) p0 x33 x34 x35 x36 x37) _
  rw [M.z0b];unfold MB.z0b
  repeat' first|with_reducible first|apply Le.none|apply Le.refl|apply ih|apply Le.jn|apply Le.rs|apply Le.rb|apply Le.bind|apply Le.ite|intro _|dsimp only|split
def MF.q1b (n:Nat) (p0:q01):Option (q04 × Bool):=do
 let a1←M.q1y
 let j27←(do
   MF.z0b n p0 0 a1.z1n.zh a1.z1n.z0i a1.z1n.zk a1.z1n.z08:Option (Int × Z × (List q04) × (List Z)))
 let a48←M.q1g p0.zzc
 let a50←M.q1q (q08.mk (q04.mk j27.1 j27.2.1 j27.2.2.1 j27.2.2.2)) true [105,97,116] a48
 let a52←M.q1g p0.zzb
 let a54←M.q1q a50 true [101,120,112] a52
 let a56←M.q1g p0.z3v
 let a58←M.q1q a54 true B42 a56
 let a60←MF.q2s n p0.z0a
 let a62←M.q1q a58 true B20 a60
 let a64←MF.q2s n p0.znz
 let a66←M.q1q a62 true [97,99,116] a64
 let s68←cat p0.ztl p0.ztn
 let s69←cat s68 p0.ztk
 let s70←cat s69 p0.z03
 let s71←cat s70 p0.ztm
 let s72←cat s71 p0.z0q
 some (a66.z1n,(!((((((decide (s72=[]))&&(decide (p0.zzc=0)))&&(decide (p0.zzb=0)))&&(decide (p0.z3v=0)))&&(decide ((p0.z0a.length:Int)=0)))&&(decide ((p0.znz.length:Int)=0)))))
theorem MF.q1b.le (n:Nat) (p0:q01):Le (MF.q1b n p0) (M.q1b p0):=by
 unfold MF.q1b M.q1b
 repeat' first|with_reducible first|apply Le.none|apply Le.refl|apply MF.z0b.le n|apply MF.q2s.le n|apply Le.jn|apply Le.rs|apply Le.rb|apply Le.bind|apply Le.ite|intro _|dsimp only|split
def MB.z18 (n:Nat) (ih:(q06)→(Int)→(List q04)→Option (List q04)) (p0:q06) (x158:Int) (x159:List q04):Option (List q04):=do
 if (decide (x158<(p0.z9o.length:Int))) then
  none
 else
  some x159
def MF.z18 (n:Nat):=rc MB.z18 (fun _ _ _=>none) n
theorem MF.z18.le:∀ (n:Nat) (p0:q06) (x158:Int) (x159:List q04),Le (MF.z18 n p0 x158 x159) (M.z18 p0 x158 x159):=by
 intro n;induction n with
 | zero=>intros;exact Le.none _
 | succ n ih =>
  intro p0 x158 x159
  show Le (MB.z18 n (MF.z18 n) p0 x158 x159) _
  rw [M.z18];unfold MB.z18
  repeat' first|with_reducible first|apply Le.none|apply Le.refl|apply ih|apply Le.jn|apply Le.rs|apply Le.rb|apply Le.bind|apply Le.ite|intro _|dsimp only|split
def MF.q13 (n:Nat) (p0:q06):Option q04:=do
 let a1←M.q1y
 let a3←M.q1g p0.z22
 let a5←M.q1q a1 (!decide (p0.z22=0)) B88 a3
 let j31←(do
   MF.z16 n p0 0 a5.z1n.zh a5.z1n.z0i a5.z1n.zk a5.z1n.z08:Option (Int × Z × (List q04) × (List Z)))
 let a52←MF.q2s n p0.z0a
 let a54←M.q1q (q08.mk (q04.mk j31.1 j31.2.1 j31.2.2.1 j31.2.2.2)) (decide (0<(p0.z0a.length:Int))) B20 a52
 let a56←M.q1g p0.z4p
 let a58←M.q1q a54 (!decide (p0.z4p=0)) B45 a56
 let a60←M.q1g p0.z3v
 let a62←M.q1q a58 (!decide (p0.z3v=0)) B42 a60
 let a64←M.q1g p0.z7d
 let a66←M.q1q a62 (!decide (p0.z7d=0)) B89 a64
 let a68←M.q1q a66 p0.zbi B81 (q04.mk 2 [] [] [])
 let a70←MF.q1b n p0.z47
 let a72←M.q1q a68 a70.2 B82 a70.1
 let j137←(do
   MF.z18 n p0 0 []:Option (List q04))
 let a200←M.q1q a72 (decide (0<(j137.length:Int))) B78 (q04.mk 5 [] j137 [])
 some a200.z1n
theorem MF.q13.le (n:Nat) (p0:q06):Le (MF.q13 n p0) (M.q13 p0):=by
 unfold MF.q13 M.q13
 repeat' first|with_reducible first|apply Le.none|apply Le.refl|apply MF.z16.le n|apply MF.q2s.le n|apply MF.q1b.le n|apply MF.z18.le n|apply Le.jn|apply Le.rs|apply Le.rb|apply Le.bind|apply Le.ite|intro _|dsimp only|split
def MB.z0f (n:Nat) (ih:(List Z)→(Int)→Option (Jn Int Unit)) (l16:List Z) (x21:Int):Option (Jn Int Unit):=do
 if (decide (x21<(l16.length:Int))) then
  let x26←ix l16 x21
  let x27←ix l16 x21
  let a28←M.q7g x27
  if (!a28) then
   none
  else
   ih l16 (ya .i64 (x21+1))
 else
  some (.go ())
def MF.z0f (n:Nat):=rc MB.z0f (fun _ _=>none) n
theorem MF.z0f.le:∀ (n:Nat) (l16:List Z) (x21:Int),Le (MF.z0f n l16 x21) (M.z0f l16 x21):=by
 intro n;induction n with
 | zero=>intros;exact Le.none _
 | succ n ih =>
  intro l16 x21
  show Le (MB.z0f n (MF.z0f n) l16 x21) _
  rw [M.z0f];unfold MB.z0f
  repeat' first|with_reducible first|apply Le.none|apply Le.refl|apply ih|apply Le.jn|apply Le.rs|apply Le.rb|apply Le.bind|apply Le.ite|intro _|dsimp only|split
def MB.zf (n:Nat) (ih:(List Z)→Z→(Int)→Option (Jn Int Unit)) (p0:List Z) (p1:Z) (x7:Int):Option (Jn Int Unit):=do
 if (decide (x7<(p0.length:Int))) then
  let x9←ix p0 x7
  if (decide (p1=x9)) then
   some (.done x7)
  else
   ih p0 p1 (ya .i64 (x7+1))
 else
  some (.go ())
def MF.zf (n:Nat):=rc MB.zf (fun _ _ _=>none) n
theorem MF.zf.le:∀ (n:Nat) (p0:List Z) (p1:Z) (x7:Int),Le (MF.zf n p0 p1 x7) (M.zf p0 p1 x7):=by
 intro n;induction n with
 | zero=>intros;exact Le.none _
 | succ n ih =>
  intro p0 p1 x7
  show Le (MB.zf n (MF.zf n) p0 p1 x7) _
  rw [M.zf];unfold MB.zf
  repeat' first|with_reducible first|apply Le.none|apply Le.refl|apply ih|apply Le.jn|apply Le.rs|apply Le.rb|apply Le.bind|apply Le.ite|intro _|dsimp only|split
def MF.q76 (n:Nat) (p0:List Z) (p1:Z):Option Int:=do
 let q5←(do
   MF.zf n p0 p1 0:Option (Jn Int Unit))
 match q5 with
 | .done r=>some r
 | .go j5 =>
  some (-1)
theorem MF.q76.le (n:Nat) (p0:List Z) (p1:Z):Le (MF.q76 n p0 p1) (M.q76 p0 p1):=by
 unfold MF.q76 M.q76
 repeat' first|with_reducible first|apply Le.none|apply Le.refl|apply MF.zf.le n|apply Le.jn|apply Le.rs|apply Le.rb|apply Le.bind|apply Le.ite|intro _|dsimp only|split
def MF.q71 (n:Nat) (p0:List Z) (p1:Z):Option Bool:=do
 let a1←MF.q76 n p0 p1
 some (decide (0≤a1))
theorem MF.q71.le (n:Nat) (p0:List Z) (p1:Z):Le (MF.q71 n p0 p1) (M.q71 p0 p1):=by
 unfold MF.q71 M.q71
 repeat' first|with_reducible first|apply Le.none|apply Le.refl|apply MF.q76.le n|apply Le.jn|apply Le.rs|apply Le.rb|apply Le.bind|apply Le.ite|intro _|dsimp only|split
def MB.z0g (n:Nat) (ih:(q01)→(Int)→Option (Jn Int Unit)) (p0:q01) (x104:Int):Option (Jn Int Unit):=do
 if (decide (x104<(p0.z0a.length:Int))) then
  none
 else
  some (.go ())
def MF.z0g (n:Nat):=rc MB.z0g (fun _ _=>none) n
theorem MF.z0g.le:∀ (n:Nat) (p0:q01) (x104:Int),Le (MF.z0g n p0 x104) (M.z0g p0 x104):=by
 intro n;induction n with
 | zero=>intros;exact Le.none _
 | succ n ih =>
  intro p0 x104
  show Le (MB.z0g n (MF.z0g n) p0 x104) _
  rw [M.z0g];unfold MB.z0g
  repeat' first|with_reducible first|apply Le.none|apply Le.refl|apply ih|apply Le.jn|apply Le.rs|apply Le.rb|apply Le.bind|apply Le.ite|intro _|dsimp only|split
def MF.q7f (n:Nat) (p0:q01):Option Int:=do
 let q15←(do
   let l16←app 16 [p0.ztl,p0.ztn,p0.ztk,p0.z03,p0.ztm,p0.z0q] p0.znz
   MF.z0f n l16 0:Option (Jn Int Unit))
 match q15 with
 | .done r=>some r
 | .go j15 =>
  let a52←M.q7h p0.zzc
  let j57←(do
    if (!a52) then
     none
    else
     let a58←M.q7h p0.zzb
     some (!a58):Option Bool)
  let j71←(do
    if ((((j57||(decide (p0.z3v<0)))||(decide (9<p0.z3v)))||(decide (16<(p0.z0a.length:Int))))||(decide (4<(p0.znz.length:Int)))) then
     none
    else
     let a72←MF.q71 n p0.znz []
     some a72:Option Bool)
  if j71 then
   none
  else
   let q96←(do
     MF.z0g n p0 0:Option (Jn Int Unit))
   match q96 with
   | .done r=>some r
   | .go j96 =>
    some 0
theorem MF.q7f.le (n:Nat) (p0:q01):Le (MF.q7f n p0) (M.q7f p0):=by
 unfold MF.q7f M.q7f
 repeat' first|with_reducible first|apply Le.none|apply Le.refl|apply MF.z0f.le n|apply MF.q71.le n|apply MF.z0g.le n|apply Le.jn|apply Le.rs|apply Le.rb|apply Le.bind|apply Le.ite|intro _|dsimp only|split
def MF.q0v (n:Nat) (fuel:Nat) (p0:q06):Option (Z × Int):=do
 let q11←(do
   MF.z0s n p0 0:Option (Jn (Z × Int) Unit))
 match q11 with
 | .done r=>some r
 | .go j11 =>
  let a22←MF.q13 n p0
  let a24←MF.q3e n fuel a22
  let j47←(do
    if (!decide (a24.2=0)) then
     none
    else
     let a48←M.q30 p0.zbk
     some (decide (a48=[])):Option Bool)
  let j53←(do
    if j47 then
     none
    else
     let a54←M.trim p0.zq B1
     some (!decide (a54=[])):Option Bool)
  let j59←(do
    if j53 then
     none
    else
     let a60←MF.q7f n p0.z47
     some (!decide (a60=0)):Option Bool)
  if j59 then
   none
  else
   let a62←M.q1m p0.zbk p0.zq (a24.1.length:Int)
   if (decide (8192<(a62.length:Int))) then
    none
   else
    let s64←cat a62 a24.1
    some (s64,0)
theorem MF.q0v.le (n:Nat) (fuel:Nat) (p0:q06):Le (MF.q0v n fuel p0) (M.q0v fuel p0):=by
 unfold MF.q0v M.q0v
 repeat' first|with_reducible first|apply Le.none|apply Le.refl|apply MF.z0s.le n|apply MF.q13.le n|apply MF.q3e.le n|apply MF.q7f.le n|apply Le.jn|apply Le.rs|apply Le.rb|apply Le.bind|apply Le.ite|intro _|dsimp only|split
def MF.q3c (n:Nat) (p0:q04) (p1:Z):Option (q04 × Bool):=do
 let a1←MF.q76 n p0.z08 p1
 if (((decide (p0.zh=6))&&(decide (0≤a1)))&&(decide (a1<(p0.zk.length:Int)))) then
  let x7←ix p0.zk a1
  some (x7,true)
 else
  some ((q04.mk 0 [] [] []),false)
theorem MF.q3c.le (n:Nat) (p0:q04) (p1:Z):Le (MF.q3c n p0 p1) (M.q3c p0 p1):=by
 unfold MF.q3c M.q3c
 repeat' first|with_reducible first|apply Le.none|apply Le.refl|apply MF.q76.le n|apply Le.jn|apply Le.rs|apply Le.rb|apply Le.bind|apply Le.ite|intro _|dsimp only|split
def MF.q25 (n:Nat) (p0:q09) (p1:Z):Option q09:=do
 let a1←MF.q3c n p0.gv p1
 some (q09.mk a1.1)
theorem MF.q25.le (n:Nat) (p0:q09) (p1:Z):Le (MF.q25 n p0 p1) (M.q25 p0 p1):=by
 unfold MF.q25 M.q25
 repeat' first|with_reducible first|apply Le.none|apply Le.refl|apply MF.q3c.le n|apply Le.jn|apply Le.rs|apply Le.rb|apply Le.bind|apply Le.ite|intro _|dsimp only|split
def MF.q26 (n:Nat) (p0:q09) (p1:Z):Option Int:=do
 let a1←MF.q25 n p0 p1
 let a3←M.q3b a1.gv
 some a3.1
theorem MF.q26.le (n:Nat) (p0:q09) (p1:Z):Le (MF.q26 n p0 p1) (M.q26 p0 p1):=by
 unfold MF.q26 M.q26
 repeat' first|with_reducible first|apply Le.none|apply Le.refl|apply MF.q25.le n|apply Le.jn|apply Le.rs|apply Le.rb|apply Le.bind|apply Le.ite|intro _|dsimp only|split
def MF.q28 (n:Nat) (p0:q09) (p1:Z):Option Z:=do
 let a1←MF.q25 n p0 p1
 if (decide (a1.gv.zh=4)) then
  none
 else
  some []
theorem MF.q28.le (n:Nat) (p0:q09) (p1:Z):Le (MF.q28 n p0 p1) (M.q28 p0 p1):=by
 unfold MF.q28 M.q28
 repeat' first|with_reducible first|apply Le.none|apply Le.refl|apply MF.q25.le n|apply Le.jn|apply Le.rs|apply Le.rb|apply Le.bind|apply Le.ite|intro _|dsimp only|split
def MF.q2a (n:Nat) (p0:q09) (p1:Z):Option (List Z):=do
 let a1←MF.q25 n p0 p1
 let a3←M.q3f a1.gv
 some a3.1
theorem MF.q2a.le (n:Nat) (p0:q09) (p1:Z):Le (MF.q2a n p0 p1) (M.q2a p0 p1):=by
 unfold MF.q2a M.q2a
 repeat' first|with_reducible first|apply Le.none|apply Le.refl|apply MF.q25.le n|apply Le.jn|apply Le.rs|apply Le.rb|apply Le.bind|apply Le.ite|intro _|dsimp only|split
def MB.z0t (n:Nat) (ih:(q09)→(Int)→(List q07)→Option (List q07)) (a89:q09) (x103:Int) (x104:List q07):Option (List q07):=do
 if (decide (x103<(a89.gv.zk.length:Int))) then
  none
 else
  some x104
def MF.z0t (n:Nat):=rc MB.z0t (fun _ _ _=>none) n
theorem MF.z0t.le:∀ (n:Nat) (a89:q09) (x103:Int) (x104:List q07),Le (MF.z0t n a89 x103 x104) (M.z0t a89 x103 x104):=by
 intro n;induction n with
 | zero=>intros;exact Le.none _
 | succ n ih =>
  intro a89 x103 x104
  show Le (MB.z0t n (MF.z0t n) a89 x103 x104) _
  rw [M.z0t];unfold MB.z0t
  repeat' first|with_reducible first|apply Le.none|apply Le.refl|apply ih|apply Le.jn|apply Le.rs|apply Le.rb|apply Le.bind|apply Le.ite|intro _|dsimp only|split
def MF.q1o (n:Nat) (p0:q09):Option q06:=do
 let a1←MF.q26 n p0 B88
 let a3←MF.q28 n p0 B52
 let a5←MF.q28 n p0 B23
 let a7←MF.q28 n p0 B11
 let a9←MF.q28 n p0 B34
 let a11←MF.q28 n p0 B63
 let a13←MF.q2a n p0 B20
 let a15←MF.q26 n p0 B45
 let a17←MF.q26 n p0 B42
 let a19←MF.q26 n p0 B89
 let a21←MF.q25 n p0 B81
 let a23←MF.q25 n p0 B82
 let a25←MF.q28 n a23 [105,115,115]
 let a27←MF.q28 n a23 [115,117,98]
 let a29←MF.q28 n a23 [97,117,100]
 let a31←MF.q28 n a23 B12
 let a33←MF.q28 n a23 [106,116,105]
 let a35←MF.q28 n a23 B38
 let a37←MF.q26 n a23 [105,97,116]
 let a39←MF.q26 n a23 [101,120,112]
 let a41←MF.q26 n a23 B42
 let a43←MF.q2a n a23 B20
 let a45←MF.q2a n a23 [97,99,116]
 let j88←(do
   let a89←MF.q25 n p0 B78
   MF.z0t n a89 0 []:Option (List q07))
 some (q06.mk 0 a1 [] a3 a5 a7 a9 a11 a13 a15 a17 a19 (decide (a21.gv.zh=2)) (q01.mk a25 a27 a29 a31 a33 a35 a37 a39 a41 a43 a45) j88)
theorem MF.q1o.le (n:Nat) (p0:q09):Le (MF.q1o n p0) (M.q1o p0):=by
 unfold MF.q1o M.q1o
 repeat' first|with_reducible first|apply Le.none|apply Le.refl|apply MF.q26.le n|apply MF.q28.le n|apply MF.q2a.le n|apply MF.q25.le n|apply MF.z0t.le n|apply Le.jn|apply Le.rs|apply Le.rb|apply Le.bind|apply Le.ite|intro _|dsimp only|split
def MF.q0t (n:Nat) (fuel:Nat) (p0:Z):Option (q06 × Int × Int):=do
 let a1←M.q1h p0
 let a5←M.q1s ((decide (0<a1))||(decide ((p0.length:Int)<8192))) 220
 match a5 with
 | .pan e8 =>
  none
 | .ok a7 =>
  let a9←M.q1s (decide (0<a1)) 223
  match a9 with
  | .pan e12 =>
   none
  | .ok a11 =>
   let s13←sub p0 0 (ya .i64 (a1 - 4))
   let a14←M.split s13 [13,10]
   let j18←(do
     if (decide (3≤(a14.length:Int))) then
      let x19←ix a14 0
      some (decide (12<(x19.length:Int)))
     else
      none:Option Bool)
   let a20←M.q1s j18 220
   match a20 with
   | .pan e23 =>
    none
   | .ok a22 =>
    let x24←ix a14 0
    let s25←sub x24 9 12
    let a26←M.q1w s25 3
    let j31←(do
      if a26.2 then
       let a32←M.q30 a26.1
       some (!decide (a32=[]))
      else
       none:Option Bool)
    let a34←M.q1s j31 220
    match a34 with
    | .pan e37 =>
     none
    | .ok a36 =>
     let j49←(do
       if (decide ((a14.length:Int)=4)) then
        none
       else
        some []:Option Z)
     let a55←M.trim j49 B1
     let a57←M.q1s (decide (a55=[])) 220
     match a57 with
     | .pan e60 =>
      none
     | .ok a59 =>
      let x61←ix a14 (ya .i64 ((a14.length:Int) - 1))
      let a62←M.q7e x61 B25
      let a64←M.q1w a62 5
      let q96←(do
        if a64.2 then
         if (decide (a64.1≤16384)) then
          let s97←sub p0 0 a1
          let a98←M.q1m a26.1 j49 a64.1
          let a100←M.q1s (decide (a98=s97)) 220
          match a100 with
          | .pan e103 =>
           none
          | .ok a102 =>
           some (.go ())
         else
          none
        else
         none:Option (Jn (q06 × Int × Int) Unit))
      match q96 with
      | .done r=>some r
      | .go j96 =>
       let a112←M.q1s (decide (a64.1≤(ya .i64 ((p0.length:Int) - a1)))) 223
       match a112 with
       | .pan e115 =>
        none
       | .ok a114 =>
        let s116←sub p0 a1 (ya .i64 (a1+a64.1))
        let a117←MF.q3d n fuel s116
        let a119←M.q1s (decide (a117.2=0)) 220
        match a119 with
        | .pan e122 =>
         none
        | .ok a121 =>
         let a123←MF.q1o n (q09.mk a117.1)
         let a125←MF.q0v n fuel (q06.mk a26.1 a123.z22 j49 a123.zay a123.z7k a123.z5z a123.gId a123.z0i a123.z0a a123.z4p a123.z3v a123.z7d a123.zbi a123.z47 a123.z9o)
         let j129←(do
           if (decide (a125.2=0)) then
            let s130←sub p0 0 (ya .i64 (a1+a64.1))
            some (decide (a125.1=s130))
           else
            none:Option Bool)
         let a131←M.q1s j129 220
         match a131 with
         | .pan e134 =>
          none
         | .ok a133 =>
          some ((q06.mk a26.1 a123.z22 j49 a123.zay a123.z7k a123.z5z a123.gId a123.z0i a123.z0a a123.z4p a123.z3v a123.z7d a123.zbi a123.z47 a123.z9o),(ya .i64 (a1+a64.1)),0)
theorem MF.q0t.le (n:Nat) (fuel:Nat) (p0:Z):Le (MF.q0t n fuel p0) (M.q0t fuel p0):=by
 unfold MF.q0t M.q0t
 repeat' first|with_reducible first|apply Le.none|apply Le.refl|apply MF.q3d.le n|apply MF.q1o.le n|apply MF.q0v.le n|apply Le.jn|apply Le.rs|apply Le.rb|apply Le.bind|apply Le.ite|intro _|dsimp only|split
def MB.zv (n:Nat) (ih:((List Z))→(q00)→(Int)→(List Z)→Option (List Z)) (a21:(List Z)) (p1:q00) (x27:Int) (x28:List Z):Option (List Z):=do
 if (decide (x27<(a21.length:Int))) then
  let x33←ix a21 x27
  let j35←(do
    if (decide (x33=[79,70])) then
     none
    else
     if (decide (x33=B67)) then
      none
     else
      some x33:Option Z)
  let l36←app 16 x28 [j35]
  ih a21 p1 (ya .i64 (x27+1)) l36
 else
  some x28
def MF.zv (n:Nat):=rc MB.zv (fun _ _ _ _=>none) n
theorem MF.zv.le:∀ (n:Nat) (a21:(List Z)) (p1:q00) (x27:Int) (x28:List Z),Le (MF.zv n a21 p1 x27 x28) (M.zv a21 p1 x27 x28):=by
 intro n;induction n with
 | zero=>intros;exact Le.none _
 | succ n ih =>
  intro a21 p1 x27 x28
  show Le (MB.zv n (MF.zv n) a21 p1 x27 x28) _
  rw [M.zv];unfold MB.zv
  repeat' first|with_reducible first|apply Le.none|apply Le.refl|apply ih|apply Le.jn|apply Le.rs|apply Le.rb|apply Le.bind|apply Le.ite|intro _|dsimp only|split
def MB.zp (n:Nat) (ih:(q0a)→(q00)→(List q05)→(Int)→Option (List q05)) (p0:q0a) (p1:q00) (x235:List q05) (x236:Int):Option (List q05):=do
 if (decide (x236<(p0.z84.length:Int))) then
  let x283←ix p0.z84 x236
  let j313←(do
    let a314←M.q2u x283 p1
    if a314=24 then
     none
    else
     if a314=25 then
      none
     else
      if a314=1000000 then
       if x283.zsf then
        none
       else
        if (!Nat.beq x283.z83 NF) then
         let a325←M.q0q x283.z83 p1
         let s327←q00.zxs p1 a325
         some s327
        else
         none
      else
       none:Option Z)
  if (!decide (j313=[])) then
   let l328←app 32 x235 [(q05.mk x283.zfu j313)]
   ih p0 p1 l328 (ya .i64 (x236+1))
  else
   none
 else
  some x235
def MF.zp (n:Nat):=rc MB.zp (fun _ _ _ _=>none) n
theorem MF.zp.le:∀ (n:Nat) (p0:q0a) (p1:q00) (x235:List q05) (x236:Int),Le (MF.zp n p0 p1 x235 x236) (M.zp p0 p1 x235 x236):=by
 intro n;induction n with
 | zero=>intros;exact Le.none _
 | succ n ih =>
  intro p0 p1 x235 x236
  show Le (MB.zp n (MF.zp n) p0 p1 x235 x236) _
  rw [M.zp];unfold MB.zp
  repeat' first|with_reducible first|apply Le.none|apply Le.refl|apply ih|apply Le.jn|apply Le.rs|apply Le.rb|apply Le.bind|apply Le.ite|intro _|dsimp only|split
def MB.zl (n:Nat) (ih:Z→Z→(Int)→(List Int)→Option (List Int)) (p0:Z) (p1:Z) (x105:Int) (x106:List Int):Option (List Int):=do
 if (decide (x105<((unb p0).length:Int))) then
  let x132←ix (unb p0) x105
  let j144←(do
    if ((((decide (65≤x132))&&(decide (x132≤90)))||((decide (97≤x132))&&(decide (x132≤122))))||((decide (48≤x132))&&(decide (x132≤57)))) then
     some true
    else
     none:Option Bool)
  if j144 then
   let a147←M.q7a x106 x132
   ih p0 p1 (ya .i64 (x105+1)) a147
  else
   none
 else
  some x106
def MF.zl (n:Nat):=rc MB.zl (fun _ _ _ _=>none) n
theorem MF.zl.le:∀ (n:Nat) (p0:Z) (p1:Z) (x105:Int) (x106:List Int),Le (MF.zl n p0 p1 x105 x106) (M.zl p0 p1 x105 x106):=by
 intro n;induction n with
 | zero=>intros;exact Le.none _
 | succ n ih =>
  intro p0 p1 x105 x106
  show Le (MB.zl n (MF.zl n) p0 p1 x105 x106) _
  rw [M.zl];unfold MB.zl
  repeat' first|with_reducible first|apply Le.none|apply Le.refl|apply ih|apply Le.jn|apply Le.rs|apply Le.rb|apply Le.bind|apply Le.ite|intro _|dsimp only|split
def MF.q0p (n:Nat) (p0:Z) (p1:Z):Option Z:=do
 let j79←(do
   let _←chk (decide (p0.length≤9223372036854775807))
   MF.zl n p0 p1 0 ([]:List Int):Option (List Int))
 let a157←M.zn j79
 some a157
theorem MF.q0p.le (n:Nat) (p0:Z) (p1:Z):Le (MF.q0p n p0 p1) (M.q0p p0 p1):=by
 unfold MF.q0p M.q0p
 repeat' first|with_reducible first|apply Le.none|apply Le.refl|apply MF.zl.le n|apply Le.jn|apply Le.rs|apply Le.rb|apply Le.bind|apply Le.ite|intro _|dsimp only|split
def MB.z07 (n:Nat) (ih:(List q05)→(List Z)→(Int)→Option (List Z)) (p0:List q05) (x37:List Z) (x38:Int):Option (List Z):=do
 if (decide (x38<(p0.length:Int))) then
  let x47←ix p0 x38
  let a48←MF.q0p n x47.zo [43]
  let s50←cat a48 [61]
  let a51←MF.q0p n x47.z3g [43]
  let s53←cat s50 a51
  let l54←app 16 x37 [s53]
  ih p0 l54 (ya .i64 (x38+1))
 else
  some x37
def MF.z07 (n:Nat):=rc MB.z07 (fun _ _ _=>none) n
theorem MF.z07.le:∀ (n:Nat) (p0:List q05) (x37:List Z) (x38:Int),Le (MF.z07 n p0 x37 x38) (M.z07 p0 x37 x38):=by
 intro n;induction n with
 | zero=>intros;exact Le.none _
 | succ n ih =>
  intro p0 x37 x38
  show Le (MB.z07 n (MF.z07 n) p0 x37 x38) _
  rw [M.z07];unfold MB.z07
  repeat' first|with_reducible first|apply Le.none|apply Le.refl|apply ih|apply MF.q0p.le n|apply Le.jn|apply Le.rs|apply Le.rb|apply Le.bind|apply Le.ite|intro _|dsimp only|split
def MF.q0i (n:Nat) (p0:List q05):Option (Z × Int):=do
 if (decide (64<(p0.length:Int))) then
  none
 else
  let j28←(do
    MF.z07 n p0 [] 0:Option (List Z))
  let a55←M.join j28 [38]
  if (decide (8192<(a55.length:Int))) then
   none
  else
   some (a55,0)
theorem MF.q0i.le (n:Nat) (p0:List q05):Le (MF.q0i n p0) (M.q0i p0):=by
 unfold MF.q0i M.q0i
 repeat' first|with_reducible first|apply Le.none|apply Le.refl|apply MF.z07.le n|apply Le.jn|apply Le.rs|apply Le.rb|apply Le.bind|apply Le.ite|intro _|dsimp only|split
def MF.q2h (n:Nat) (fuel:Nat) (p0:q0a) (p1:q00):Option (q03 × Int):=do
 let j19←(do
   let s20←sub p0.zhb 1 (p0.zhb.length:Int)
   let a21←M.split s20 [47]
   MF.zv n a21 p1 0 []:Option (List Z))
 let s37←cat B57 p1.zq
 let a38←M.q2i 1 p1.zq B50 s37 p0 (q03.mk p0.z8r j19 [] [(q05.mk B47 [105,100,112])] [])
 let s40←cat B46 p1.z1p
 let a41←M.q2i 2 p1.z1p B24 s40 p0 (q03.mk a38.z02 a38.z09 [] a38.z0h a38.z01)
 let s43←cat [34] p1.z5v
 let s44←cat s43 [34]
 let a45←M.q2i 4 p1.z5v B39 s44 p0 (q03.mk a41.z02 a41.z09 [] a41.z0h a41.z01)
 let j188←(do
   MF.zp n p0 p1 [] 0:Option (List q05))
 if (decide (p0.z5b=2)) then
  none
 else
  if (decide (p0.z5b=1)) then
   let a329←MF.q0i n j188
   some ((q03.mk a45.z02 a45.z09 [] a45.z0h a329.1),a329.2)
  else
   none
theorem MF.q2h.le (n:Nat) (fuel:Nat) (p0:q0a) (p1:q00):Le (MF.q2h n fuel p0 p1) (M.q2h fuel p0 p1):=by
 unfold MF.q2h M.q2h
 repeat' first|with_reducible first|apply Le.none|apply Le.refl|apply MF.zv.le n|apply MF.zp.le n|apply MF.q0i.le n|apply Le.jn|apply Le.rs|apply Le.rb|apply Le.bind|apply Le.ite|intro _|dsimp only|split
def MB.zb (n:Nat) (ih:(List q02)→(List q02)→(Int)→Option (Jn Bool Unit)) (p0:List q02) (p1:List q02) (x19:Int):Option (Jn Bool Unit):=do
 if (decide (x19<(p0.length:Int))) then
  none
 else
  some (.go ())
def MF.zb (n:Nat):=rc MB.zb (fun _ _ _=>none) n
theorem MF.zb.le:∀ (n:Nat) (p0:List q02) (p1:List q02) (x19:Int),Le (MF.zb n p0 p1 x19) (M.zb p0 p1 x19):=by
 intro n;induction n with
 | zero=>intros;exact Le.none _
 | succ n ih =>
  intro p0 p1 x19
  show Le (MB.zb n (MF.zb n) p0 p1 x19) _
  rw [M.zb];unfold MB.zb
  repeat' first|with_reducible first|apply Le.none|apply Le.refl|apply ih|apply Le.jn|apply Le.rs|apply Le.rb|apply Le.bind|apply Le.ite|intro _|dsimp only|split
def MF.q72 (n:Nat) (p0:List q02) (p1:List q02):Option Bool:=do
 if (!decide ((p0.length:Int)=(p1.length:Int))) then
  none
 else
  let q14←(do
    MF.zb n p0 p1 0:Option (Jn Bool Unit))
  match q14 with
  | .done r=>some r
  | .go j14 =>
   some true
theorem MF.q72.le (n:Nat) (p0:List q02) (p1:List q02):Le (MF.q72 n p0 p1) (M.q72 p0 p1):=by
 unfold MF.q72 M.q72
 repeat' first|with_reducible first|apply Le.none|apply Le.refl|apply MF.zb.le n|apply Le.jn|apply Le.rs|apply Le.rb|apply Le.bind|apply Le.ite|intro _|dsimp only|split
def MF.q2l (n:Nat) (p0:q00) (p1:q00):Option Bool:=do
 let a3←MF.q72 n p0.zt p1.zt
 if (!a3) then
  none
 else
  let a5←M.q2n p0
  let a7←M.q2n p1
  some ((((decide ((a5.getD 0 [])=(a7.getD 0 []))&&(decide ((a5.getD 1 [])=(a7.getD 1 []))&&(decide ((a5.getD 2 [])=(a7.getD 2 []))&&(decide ((a5.getD 3 [])=(a7.getD 3 []))&&(decide ((a5.getD 4 [])=(a7.getD 4 []))&&(decide ((a5.getD 5 [])=(a7.getD 5 []))&&(decide ((a5.getD 6 [])=(a7.getD 6 []))&&(decide ((a5.getD 7 [])=(a7.getD 7 []))&&(decide ((a5.getD 8 [])=(a7.getD 8 []))&&(decide ((a5.getD 9 [])=(a7.getD 9 []))&&(decide ((a5.getD 10 [])=(a7.getD 10 []))&&(decide ((a5.getD 11 [])=(a7.getD 11 []))&&(decide ((a5.getD 12 [])=(a7.getD 12 []))&&(decide ((a5.getD 13 [])=(a7.getD 13 []))&&(decide ((a5.getD 14 [])=(a7.getD 14 []))&&(decide ((a5.getD 15 [])=(a7.getD 15 []))&&(decide ((a5.getD 16 [])=(a7.getD 16 []))&&(decide ((a5.getD 17 [])=(a7.getD 17 []))&&(decide ((a5.getD 18 [])=(a7.getD 18 []))&&(decide ((a5.getD 19 [])=(a7.getD 19 []))&&(decide ((a5.getD 20 [])=(a7.getD 20 []))&&(decide ((a5.getD 21 [])=(a7.getD 21 []))&&true))))))))))))))))))))))&&(decide (p0.zh=p1.zh)))&&(decide (p0.z2y=p1.z2y)))&&(decide (p0.z1d=p1.z1d)))
theorem MF.q2l.le (n:Nat) (p0:q00) (p1:q00):Le (MF.q2l n p0 p1) (M.q2l p0 p1):=by
 unfold MF.q2l M.q2l
 repeat' first|with_reducible first|apply Le.none|apply Le.refl|apply MF.q72.le n|apply Le.jn|apply Le.rs|apply Le.rb|apply Le.bind|apply Le.ite|intro _|dsimp only|split
def MB.z05 (n:Nat) (ih:((List q0a))→(q00)→(Nat)→(Int)→Option (Jn (q03 × Int) Unit)) (a56:(List q0a)) (p0:q00) (fuel:Nat) (x75:Int):Option (Jn (q03 × Int) Unit):=do
 if (decide (x75<(a56.length:Int))) then
  let x93←ix a56 x75
  if (!decide (x93.zse=p0.zh)) then
   none
  else
   let a94←MF.q2h n fuel x93 p0
   let a96←MF.q0u n a94.1
   let a98←MF.q0r n fuel a94.1
   let j107←(do
     if (((decide (a94.2=0))&&(decide (a96.2=0)))&&(decide (a98.2=0))) then
      let a108←MF.q2l n p0 a98.1
      some a108
     else
      none:Option Bool)
   if j107 then
    some (.done (a94.1,0))
   else
    none
 else
  none
def MF.z05 (n:Nat):=rc MB.z05 (fun _ _ _ _=>none) n
theorem MF.z05.le:∀ (n:Nat) (a56:(List q0a)) (p0:q00) (fuel:Nat) (x75:Int),Le (MF.z05 n a56 p0 fuel x75) (M.z05 a56 p0 fuel x75):=by
 intro n;induction n with
 | zero=>intros;exact Le.none _
 | succ n ih =>
  intro a56 p0 fuel x75
  show Le (MB.z05 n (MF.z05 n) a56 p0 fuel x75) _
  rw [M.z05];unfold MB.z05
  repeat' first|with_reducible first|apply Le.none|apply Le.refl|apply ih|apply MF.q2h.le n|apply MF.q0u.le n|apply MF.q0r.le n|apply MF.q2l.le n|apply Le.jn|apply Le.rs|apply Le.rb|apply Le.bind|apply Le.ite|intro _|dsimp only|split
def MF.q0w (n:Nat) (fuel:Nat) (p0:q00):Option (q03 × Int):=do
 let q55←(do
   let a56←M.q2j
   MF.z05 n a56 p0 fuel 0:Option (Jn (q03 × Int) Unit))
 match q55 with
 | .done r=>some r
 | .go j55 =>
  none
theorem MF.q0w.le (n:Nat) (fuel:Nat) (p0:q00):Le (MF.q0w n fuel p0) (M.q0w fuel p0):=by
 unfold MF.q0w M.q0w
 repeat' first|with_reducible first|apply Le.none|apply Le.refl|apply MF.z05.le n|apply Le.jn|apply Le.rs|apply Le.rb|apply Le.bind|apply Le.ite|intro _|dsimp only|split
def MF.q45 (n:Nat) (fuel:Nat):Option Bool:=do
 let a1←MF.q0s n B13
 let a3←MF.q0r n fuel a1.1
 let s5←sub B15 0 60
 let a6←MF.q0s n s5
 let a8←MF.q0s n [71,69,84,32,47,32,72,84,84,80,47,49,46,48,13,10,104,111,115,116,58,120,13,10,13,10]
 let a10←MF.q0r n fuel (q03.mk [71,69,84] [(B72:Z)] [] [] [])
 let a12←MF.q0r n fuel (q03.mk [71,69,84] [([120]:Z)] [] [] [])
 let a14←MF.q0v n fuel (q06.mk 401 171 [] [] [] [] [] [] [] 0 0 0 false (q01.mk [] [] [] [] [] [] 0 0 0 [] []) [])
 let a16←MF.q0t n fuel a14.1
 let a18←MF.q0w n fuel (q00.mk 1 [] [97,110,110] [112] [] [] [] [] [] [] [] [] [] [] [] [] [] [] [] [] [] [] [] [] 0 0)
 let a20←MF.q0u n a18.1
 let j61←(do
   if (((((((((((((((((((decide (a1.2.2=0))&&(decide (a1.2.1=68)))&&(decide (a3.2=0)))&&(decide (a3.1.zh=1)))&&(decide (a3.1.z39=[97,110,110])))&&(decide (a3.1.z38=[112])))&&(decide (a6.2.2=223)))&&(decide (a8.2.2=220)))&&(decide (a10.2=226)))&&(decide (a12.2=225)))&&(decide (a14.2=0)))&&(decide (a14.1=B9)))&&(decide (a16.2.2=0)))&&(decide (a16.2.1=(a14.1.length:Int))))&&(decide (a16.1.z22=171)))&&(decide (a16.1.zbk=401)))&&(decide (a18.2=0)))&&(decide (a20.2=0)))&&(decide (a20.1=B14))) then
    let a62←M.q0x 221
    some (decide (a62=413))
   else
    none:Option Bool)
 some (((((((j61&&true)&&true)&&true)&&true)&&true)&&true)&&true)
theorem MF.q45.le (n:Nat) (fuel:Nat):Le (MF.q45 n fuel) (M.q45 fuel):=by
 unfold MF.q45 M.q45
 repeat' first|with_reducible first|apply Le.none|apply Le.refl|apply MF.q0s.le n|apply MF.q0r.le n|apply MF.q0v.le n|apply MF.q0t.le n|apply MF.q0w.le n|apply MF.q0u.le n|apply Le.jn|apply Le.rs|apply Le.rb|apply Le.bind|apply Le.ite|intro _|dsimp only|split
end
end Go.Sen
