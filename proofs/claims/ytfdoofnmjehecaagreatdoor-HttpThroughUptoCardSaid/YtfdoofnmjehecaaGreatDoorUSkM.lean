import Derived.Test.YtfdoofnmjehecaaGreatDoorUShH
set_option linter.all false
set_option maxRecDepth 1000000
namespace Go.Sen
open IntKind renaming wrap → ya
open Go.Lk Go.Pe
noncomputable section
def MB.z0q (n:Nat) (ih:(q06)→(Int)→Option (Jn (Z × Int) Unit)) (p0:q06) (x15:Int):Option (Jn (Z × Int) Unit):=do
 if (decide (x15<([p0.z19,p0.z1q,p0.z1n,p0.z3q].length:Int))) then
  let x19←ix [p0.z19,p0.z1q,p0.z1n,p0.z3q] x15
  if ((decide (x19<0))||(decide (1000000000000000≤x19))) then
   none
  else
   ih p0 (ya .i64 (x15+1))
 else
  some (.go ())
def MF.z0q (n:Nat):=rc MB.z0q (fun _ _=>none) n
theorem MF.z0q.le:∀ (n:Nat) (p0:q06) (x15:Int),Le (MF.z0q n p0 x15) (M.z0q p0 x15):=by
 intro n;induction n with
 | zero=>intros;exact Le.none _
 | succ n ih =>
  intro p0 x15
  show Le (MB.z0q n (MF.z0q n) p0 x15) _
  rw [M.z0q];unfold MB.z0q
  repeat' first|with_reducible first|apply Le.none|apply Le.refl|apply ih|apply Le.jn|apply Le.rs|apply Le.rb|apply Le.bind|apply Le.ite|intro _|dsimp only|split
def MB.z0z (n:Nat) (ih:(q06)→(Int)→(Int)→Z→(List q04)→(List Z)→Option (Int × Z × (List q04) × (List Z))) (p0:q06) (x37:Int) (x38:Int) (x39:Z) (x40:List q04) (x41:List Z):Option (Int × Z × (List q04) × (List Z)):=do
 if (decide (x37<([(q05.mk [103,114,97,110,116] p0.z4i),(q05.mk [97,99,99,101,115,115,95,116,111,107,101,110] p0.z3e),(q05.mk [114,101,102,114,101,115,104,95,116,111,107,101,110] p0.z2c),(q05.mk [105,100,95,116,111,107,101,110] p0.gId),(q05.mk [116,101,120,116] p0.z06)].length:Int))) then
  let x47←ix [(q05.mk [103,114,97,110,116] p0.z4i),(q05.mk [97,99,99,101,115,115,95,116,111,107,101,110] p0.z3e),(q05.mk [114,101,102,114,101,115,104,95,116,111,107,101,110] p0.z2c),(q05.mk [105,100,95,116,111,107,101,110] p0.gId),(q05.mk [116,101,120,116] p0.z06)] x37
  let a48←M.q2m x47.z1t
  let a50←M.q1n (q08.mk (q04.mk x38 x39 x40 x41)) (!decide (x47.z1t=[])) x47.zu a48
  ih p0 (ya .i64 (x37+1)) a50.zo.zh a50.zo.z06 a50.zo.zk a50.zo.z08
 else
  some (x38,x39,x40,x41)
def MF.z0z (n:Nat):=rc MB.z0z (fun _ _ _ _ _ _=>none) n
theorem MF.z0z.le:∀ (n:Nat) (p0:q06) (x37:Int) (x38:Int) (x39:Z) (x40:List q04) (x41:List Z),Le (MF.z0z n p0 x37 x38 x39 x40 x41) (M.z0z p0 x37 x38 x39 x40 x41):=by
 intro n;induction n with
 | zero=>intros;exact Le.none _
 | succ n ih =>
  intro p0 x37 x38 x39 x40 x41
  show Le (MB.z0z n (MF.z0z n) p0 x37 x38 x39 x40 x41) _
  rw [M.z0z];unfold MB.z0z
  repeat' first|with_reducible first|apply Le.none|apply Le.refl|apply ih|apply Le.jn|apply Le.rs|apply Le.rb|apply Le.bind|apply Le.ite|intro _|dsimp only|split
def MB.z0c (n:Nat) (ih:(List Z)→(Int)→(List q04)→Option (List q04)) (p0:List Z) (x21:Int) (x22:List q04):Option (List q04):=do
 if (decide (x21<(p0.length:Int))) then
  none
 else
  some x22
def MF.z0c (n:Nat):=rc MB.z0c (fun _ _ _=>none) n
theorem MF.z0c.le:∀ (n:Nat) (p0:List Z) (x21:Int) (x22:List q04),Le (MF.z0c n p0 x21 x22) (M.z0c p0 x21 x22):=by
 intro n;induction n with
 | zero=>intros;exact Le.none _
 | succ n ih =>
  intro p0 x21 x22
  show Le (MB.z0c n (MF.z0c n) p0 x21 x22) _
  rw [M.z0c];unfold MB.z0c
  repeat' first|with_reducible first|apply Le.none|apply Le.refl|apply ih|apply Le.jn|apply Le.rs|apply Le.rb|apply Le.bind|apply Le.ite|intro _|dsimp only|split
def MF.q2n (n:Nat) (p0:List Z):Option q04:=do
 let j16←(do
   MF.z0c n p0 0 []:Option (List q04))
 some (q04.mk 5 [] j16 [])
theorem MF.q2n.le (n:Nat) (p0:List Z):Le (MF.q2n n p0) (M.q2n p0):=by
 unfold MF.q2n M.q2n
 repeat' first|with_reducible first|apply Le.none|apply Le.refl|apply MF.z0c.le n|apply Le.jn|apply Le.rs|apply Le.rb|apply Le.bind|apply Le.ite|intro _|dsimp only|split
def MB.z0e (n:Nat) (ih:(q01)→(Int)→(Int)→Z→(List q04)→(List Z)→Option (Int × Z × (List q04) × (List Z))) (p0:q01) (x33:Int) (x34:Int) (x35:Z) (x36:List q04) (x37:List Z):Option (Int × Z × (List q04) × (List Z)):=do
 if (decide (x33<([(q05.mk [105,115,115] p0.zfp),(q05.mk [115,117,98] p0.zfr),(q05.mk [97,117,100] p0.zfo),(q05.mk [99,108,105,101,110,116,95,105,100] p0.z00),(q05.mk [106,116,105] p0.zfq),(q05.mk [110,111,110,99,101] p0.z0f)].length:Int))) then
  let x43←ix [(q05.mk [105,115,115] p0.zfp),(q05.mk [115,117,98] p0.zfr),(q05.mk [97,117,100] p0.zfo),(q05.mk [99,108,105,101,110,116,95,105,100] p0.z00),(q05.mk [106,116,105] p0.zfq),(q05.mk [110,111,110,99,101] p0.z0f)] x33
  let a44←M.q2m x43.z1t
  let a46←M.q1n (q08.mk (q04.mk x34 x35 x36 x37)) true x43.zu a44
  ih p0 (ya .i64 (x33+1)) a46.zo.zh a46.zo.z06 a46.zo.zk a46.zo.z08
 else
  some (x34,x35,x36,x37)
def MF.z0e (n:Nat):=rc MB.z0e (fun _ _ _ _ _ _=>none) n
theorem MF.z0e.le:∀ (n:Nat) (p0:q01) (x33:Int) (x34:Int) (x35:Z) (x36:List q04) (x37:List Z),Le (MF.z0e n p0 x33 x34 x35 x36 x37) (M.z0e p0 x33 x34 x35 x36 x37):=by
 intro n;induction n with
 | zero=>intros;exact Le.none _
 | succ n ih =>
  intro p0 x33 x34 x35 x36 x37
  show Le (MB.z0e n (MF.z0e n) p0 x33 x34 x35 x36 x37) _
  rw [M.z0e];unfold MB.z0e
  repeat' first|with_reducible first|apply Le.none|apply Le.refl|apply ih|apply Le.jn|apply Le.rs|apply Le.rb|apply Le.bind|apply Le.ite|intro _|dsimp only|split
def MF.q19 (n:Nat) (p0:q01):Option (q04 × Bool):=do
 let a1←M.q1v
 let j27←(do
   MF.z0e n p0 0 a1.zo.zh a1.zo.z06 a1.zo.zk a1.zo.z08:Option (Int × Z × (List q04) × (List Z)))
 let a48←M.q1e p0.zqc
 let a50←M.q1n (q08.mk (q04.mk j27.1 j27.2.1 j27.2.2.1 j27.2.2.2)) true [105,97,116] a48
 let a52←M.q1e p0.zqb
 let a54←M.q1n a50 true [101,120,112] a52
 let a56←M.q1e p0.z1n
 let a58←M.q1n a54 true [108,101,118,101,108] a56
 let a60←MF.q2n n p0.z07
 let a62←M.q1n a58 true [115,99,111,112,101] a60
 let a64←MF.q2n n p0.zhy
 let a66←M.q1n a62 true [97,99,116] a64
 let s68←cat p0.zfp p0.zfr
 let s69←cat s68 p0.zfo
 let s70←cat s69 p0.z00
 let s71←cat s70 p0.zfq
 let s72←cat s71 p0.z0f
 some (a66.zo,(!((((((decide (s72=[]))&&(decide (p0.zqc=0)))&&(decide (p0.zqb=0)))&&(decide (p0.z1n=0)))&&(decide ((p0.z07.length:Int)=0)))&&(decide ((p0.zhy.length:Int)=0)))))
theorem MF.q19.le (n:Nat) (p0:q01):Le (MF.q19 n p0) (M.q19 p0):=by
 unfold MF.q19 M.q19
 repeat' first|with_reducible first|apply Le.none|apply Le.refl|apply MF.z0e.le n|apply MF.q2n.le n|apply Le.jn|apply Le.rs|apply Le.rb|apply Le.bind|apply Le.ite|intro _|dsimp only|split
def MB.z10 (n:Nat) (ih:(q06)→(Int)→(List q04)→Option (List q04)) (p0:q06) (x158:Int) (x159:List q04):Option (List q04):=do
 if (decide (x158<(p0.z4v.length:Int))) then
  none
 else
  some x159
def MF.z10 (n:Nat):=rc MB.z10 (fun _ _ _=>none) n
theorem MF.z10.le:∀ (n:Nat) (p0:q06) (x158:Int) (x159:List q04),Le (MF.z10 n p0 x158 x159) (M.z10 p0 x158 x159):=by
 intro n;induction n with
 | zero=>intros;exact Le.none _
 | succ n ih =>
  intro p0 x158 x159
  show Le (MB.z10 n (MF.z10 n) p0 x158 x159) _
  rw [M.z10];unfold MB.z10
  repeat' first|with_reducible first|apply Le.none|apply Le.refl|apply ih|apply Le.jn|apply Le.rs|apply Le.rb|apply Le.bind|apply Le.ite|intro _|dsimp only|split
def MF.q13 (n:Nat) (p0:q06):Option q04:=do
 let a1←M.q1v
 let a3←M.q1e p0.z19
 let a5←M.q1n a1 (!decide (p0.z19=0)) [101,114,114,111,114] a3
 let j31←(do
   MF.z0z n p0 0 a5.zo.zh a5.zo.z06 a5.zo.zk a5.zo.z08:Option (Int × Z × (List q04) × (List Z)))
 let a52←MF.q2n n p0.z07
 let a54←M.q1n (q08.mk (q04.mk j31.1 j31.2.1 j31.2.2.1 j31.2.2.2)) (decide (0<(p0.z07.length:Int))) [115,99,111,112,101] a52
 let a56←M.q1e p0.z1q
 let a58←M.q1n a54 (!decide (p0.z1q=0)) [101,120,112,105,114,101,115,95,105,110] a56
 let a60←M.q1e p0.z1n
 let a62←M.q1n a58 (!decide (p0.z1n=0)) [108,101,118,101,108] a60
 let a64←M.q1e p0.z3q
 let a66←M.q1n a62 (!decide (p0.z3q=0)) [116,111,116,97,108] a64
 let a68←M.q1n a66 p0.z6d [97,99,116,105,118,101] (q04.mk 2 [] [] [])
 let a70←MF.q19 n p0.z0a
 let a72←M.q1n a68 a70.2 [99,108,97,105,109,115] a70.1
 let j137←(do
   MF.z10 n p0 0 []:Option (List q04))
 let a200←M.q1n a72 (decide (0<(j137.length:Int))) [116,104,105,110,103,115] (q04.mk 5 [] j137 [])
 some a200.zo
theorem MF.q13.le (n:Nat) (p0:q06):Le (MF.q13 n p0) (M.q13 p0):=by
 unfold MF.q13 M.q13
 repeat' first|with_reducible first|apply Le.none|apply Le.refl|apply MF.z0z.le n|apply MF.q2n.le n|apply MF.q19.le n|apply MF.z10.le n|apply Le.jn|apply Le.rs|apply Le.rb|apply Le.bind|apply Le.ite|intro _|dsimp only|split
def MB.z0l (n:Nat) (ih:(List Z)→(Int)→Option (Jn Int Unit)) (l16:List Z) (x21:Int):Option (Jn Int Unit):=do
 if (decide (x21<(l16.length:Int))) then
  let x26←ix l16 x21
  let x27←ix l16 x21
  let a28←M.q76 x27
  if (!a28) then
   none
  else
   ih l16 (ya .i64 (x21+1))
 else
  some (.go ())
def MF.z0l (n:Nat):=rc MB.z0l (fun _ _=>none) n
theorem MF.z0l.le:∀ (n:Nat) (l16:List Z) (x21:Int),Le (MF.z0l n l16 x21) (M.z0l l16 x21):=by
 intro n;induction n with
 | zero=>intros;exact Le.none _
 | succ n ih =>
  intro l16 x21
  show Le (MB.z0l n (MF.z0l n) l16 x21) _
  rw [M.z0l];unfold MB.z0l
  repeat' first|with_reducible first|apply Le.none|apply Le.refl|apply ih|apply Le.jn|apply Le.rs|apply Le.rb|apply Le.bind|apply Le.ite|intro _|dsimp only|split
def MB.zf (n:Nat) (ih:(List Z)→Z→(Int)→Option (Jn Int Unit)) (p0:List Z) (p1:Z) (x7:Int):Option (Jn Int Unit):=do
 if (decide (x7<(p0.length:Int))) then
  let x9←ix p0 x7
  if (decide (p1=x9)) then
   some (.done x7)
  else
   ih p0 p1 (ya .i64 (x7+1))
 else
  some (.go ())
def MF.zf (n:Nat):=rc MB.zf (fun _ _ _=>none) n
theorem MF.zf.le:∀ (n:Nat) (p0:List Z) (p1:Z) (x7:Int),Le (MF.zf n p0 p1 x7) (M.zf p0 p1 x7):=by
 intro n;induction n with
 | zero=>intros;exact Le.none _
 | succ n ih =>
  intro p0 p1 x7
  show Le (MB.zf n (MF.zf n) p0 p1 x7) _
  rw [M.zf];unfold MB.zf
  repeat' first|with_reducible first|apply Le.none|apply Le.refl|apply ih|apply Le.jn|apply Le.rs|apply Le.rb|apply Le.bind|apply Le.ite|intro _|dsimp only|split
def MF.q6x (n:Nat) (p0:List Z) (p1:Z):Option Int:=do
 let q5←(do
   MF.zf n p0 p1 0:Option (Jn Int Unit))
 match q5 with
 | .done r=>some r
 | .go j5 =>
  some (-1)
theorem MF.q6x.le (n:Nat) (p0:List Z) (p1:Z):Le (MF.q6x n p0 p1) (M.q6x p0 p1):=by
 unfold MF.q6x M.q6x
 repeat' first|with_reducible first|apply Le.none|apply Le.refl|apply MF.zf.le n|apply Le.jn|apply Le.rs|apply Le.rb|apply Le.bind|apply Le.ite|intro _|dsimp only|split
def MF.q6s (n:Nat) (p0:List Z) (p1:Z):Option Bool:=do
 let a1←MF.q6x n p0 p1
 some (decide (0≤a1))
theorem MF.q6s.le (n:Nat) (p0:List Z) (p1:Z):Le (MF.q6s n p0 p1) (M.q6s p0 p1):=by
 unfold MF.q6s M.q6s
 repeat' first|with_reducible first|apply Le.none|apply Le.refl|apply MF.q6x.le n|apply Le.jn|apply Le.rs|apply Le.rb|apply Le.bind|apply Le.ite|intro _|dsimp only|split
def MB.z0m (n:Nat) (ih:(q01)→(Int)→Option (Jn Int Unit)) (p0:q01) (x104:Int):Option (Jn Int Unit):=do
 if (decide (x104<(p0.z07.length:Int))) then
  none
 else
  some (.go ())
def MF.z0m (n:Nat):=rc MB.z0m (fun _ _=>none) n
theorem MF.z0m.le:∀ (n:Nat) (p0:q01) (x104:Int),Le (MF.z0m n p0 x104) (M.z0m p0 x104):=by
 intro n;induction n with
 | zero=>intros;exact Le.none _
 | succ n ih =>
  intro p0 x104
  show Le (MB.z0m n (MF.z0m n) p0 x104) _
  rw [M.z0m];unfold MB.z0m
  repeat' first|with_reducible first|apply Le.none|apply Le.refl|apply ih|apply Le.jn|apply Le.rs|apply Le.rb|apply Le.bind|apply Le.ite|intro _|dsimp only|split
def MF.q75 (n:Nat) (p0:q01):Option Int:=do
 let q15←(do
   let l16←app 16 [p0.zfp,p0.zfr,p0.zfo,p0.z00,p0.zfq,p0.z0f] p0.zhy
   MF.z0l n l16 0:Option (Jn Int Unit))
 match q15 with
 | .done r=>some r
 | .go j15 =>
  let a52←M.q77 p0.zqc
  let j57←(do
    if (!a52) then
     none
    else
     let a58←M.q77 p0.zqb
     some (!a58):Option Bool)
  let j71←(do
    if ((((j57||(decide (p0.z1n<0)))||(decide (9<p0.z1n)))||(decide (16<(p0.z07.length:Int))))||(decide (4<(p0.zhy.length:Int)))) then
     none
    else
     let a72←MF.q6s n p0.zhy []
     some a72:Option Bool)
  if j71 then
   none
  else
   let q96←(do
     MF.z0m n p0 0:Option (Jn Int Unit))
   match q96 with
   | .done r=>some r
   | .go j96 =>
    some 0
theorem MF.q75.le (n:Nat) (p0:q01):Le (MF.q75 n p0) (M.q75 p0):=by
 unfold MF.q75 M.q75
 repeat' first|with_reducible first|apply Le.none|apply Le.refl|apply MF.z0l.le n|apply MF.q6s.le n|apply MF.z0m.le n|apply Le.jn|apply Le.rs|apply Le.rb|apply Le.bind|apply Le.ite|intro _|dsimp only|split
def MF.q0v (n:Nat) (fuel:Nat) (p0:q06):Option (Z × Int):=do
 let q11←(do
   MF.z0q n p0 0:Option (Jn (Z × Int) Unit))
 match q11 with
 | .done r=>some r
 | .go j11 =>
  let a22←MF.q13 n p0
  let a24←MF.q36 n fuel a22
  let j47←(do
    if (!decide (a24.2=0)) then
     none
    else
     let a48←M.q2v p0.z8c
     some (decide (a48=[])):Option Bool)
  let j53←(do
    if j47 then
     none
    else
     let a54←M.trim p0.z09 [65,66,67,68,69,70,71,72,73,74,75,76,77,78,79,80,81,82,83,84,85,86,87,88,89,90,97,98,99,100,101,102,103,104,105,106,107,108,109,110,111,112,113,114,115,116,117,118,119,120,121,122,48,49,50,51,52,53,54,55,56,57,45,95]
     some (!decide (a54=[])):Option Bool)
  let j59←(do
    if j53 then
     none
    else
     let a60←MF.q75 n p0.z0a
     some (!decide (a60=0)):Option Bool)
  if j59 then
   none
  else
   let a62←M.q1j p0.z8c p0.z09 (a24.1.length:Int)
   if (decide (8192<(a62.length:Int))) then
    none
   else
    let s64←cat a62 a24.1
    some (s64,0)
theorem MF.q0v.le (n:Nat) (fuel:Nat) (p0:q06):Le (MF.q0v n fuel p0) (M.q0v fuel p0):=by
 unfold MF.q0v M.q0v
 repeat' first|with_reducible first|apply Le.none|apply Le.refl|apply MF.z0q.le n|apply MF.q13.le n|apply MF.q36.le n|apply MF.q75.le n|apply Le.jn|apply Le.rs|apply Le.rb|apply Le.bind|apply Le.ite|intro _|dsimp only|split
def MF.q34 (n:Nat) (p0:q04) (p1:Z):Option (q04 × Bool):=do
 let a1←MF.q6x n p0.z08 p1
 if (((decide (p0.zh=6))&&(decide (0≤a1)))&&(decide (a1<(p0.zk.length:Int)))) then
  let x7←ix p0.zk a1
  some (x7,true)
 else
  some ((q04.mk 0 [] [] []),false)
theorem MF.q34.le (n:Nat) (p0:q04) (p1:Z):Le (MF.q34 n p0 p1) (M.q34 p0 p1):=by
 unfold MF.q34 M.q34
 repeat' first|with_reducible first|apply Le.none|apply Le.refl|apply MF.q6x.le n|apply Le.jn|apply Le.rs|apply Le.rb|apply Le.bind|apply Le.ite|intro _|dsimp only|split
def MF.q1z (n:Nat) (p0:q09) (p1:Z):Option q09:=do
 let a1←MF.q34 n p0.gv p1
 some (q09.mk a1.1)
theorem MF.q1z.le (n:Nat) (p0:q09) (p1:Z):Le (MF.q1z n p0 p1) (M.q1z p0 p1):=by
 unfold MF.q1z M.q1z
 repeat' first|with_reducible first|apply Le.none|apply Le.refl|apply MF.q34.le n|apply Le.jn|apply Le.rs|apply Le.rb|apply Le.bind|apply Le.ite|intro _|dsimp only|split
def MF.q22 (n:Nat) (p0:q09) (p1:Z):Option Int:=do
 let a1←MF.q1z n p0 p1
 let a3←M.q33 a1.gv
 some a3.1
theorem MF.q22.le (n:Nat) (p0:q09) (p1:Z):Le (MF.q22 n p0 p1) (M.q22 p0 p1):=by
 unfold MF.q22 M.q22
 repeat' first|with_reducible first|apply Le.none|apply Le.refl|apply MF.q1z.le n|apply Le.jn|apply Le.rs|apply Le.rb|apply Le.bind|apply Le.ite|intro _|dsimp only|split
def MF.q23 (n:Nat) (p0:q09) (p1:Z):Option Z:=do
 let a1←MF.q1z n p0 p1
 if (decide (a1.gv.zh=4)) then
  none
 else
  some []
theorem MF.q23.le (n:Nat) (p0:q09) (p1:Z):Le (MF.q23 n p0 p1) (M.q23 p0 p1):=by
 unfold MF.q23 M.q23
 repeat' first|with_reducible first|apply Le.none|apply Le.refl|apply MF.q1z.le n|apply Le.jn|apply Le.rs|apply Le.rb|apply Le.bind|apply Le.ite|intro _|dsimp only|split
def MF.q24 (n:Nat) (p0:q09) (p1:Z):Option (List Z):=do
 let a1←MF.q1z n p0 p1
 let a3←M.q37 a1.gv
 some a3.1
theorem MF.q24.le (n:Nat) (p0:q09) (p1:Z):Le (MF.q24 n p0 p1) (M.q24 p0 p1):=by
 unfold MF.q24 M.q24
 repeat' first|with_reducible first|apply Le.none|apply Le.refl|apply MF.q1z.le n|apply Le.jn|apply Le.rs|apply Le.rb|apply Le.bind|apply Le.ite|intro _|dsimp only|split
def MB.z0r (n:Nat) (ih:(q09)→(Int)→(List q07)→Option (List q07)) (a89:q09) (x103:Int) (x104:List q07):Option (List q07):=do
 if (decide (x103<(a89.gv.zk.length:Int))) then
  none
 else
  some x104
def MF.z0r (n:Nat):=rc MB.z0r (fun _ _ _=>none) n
theorem MF.z0r.le:∀ (n:Nat) (a89:q09) (x103:Int) (x104:List q07),Le (MF.z0r n a89 x103 x104) (M.z0r a89 x103 x104):=by
 intro n;induction n with
 | zero=>intros;exact Le.none _
 | succ n ih =>
  intro a89 x103 x104
  show Le (MB.z0r n (MF.z0r n) a89 x103 x104) _
  rw [M.z0r];unfold MB.z0r
  repeat' first|with_reducible first|apply Le.none|apply Le.refl|apply ih|apply Le.jn|apply Le.rs|apply Le.rb|apply Le.bind|apply Le.ite|intro _|dsimp only|split
def MF.q1l (n:Nat) (p0:q09):Option q06:=do
 let a1←MF.q22 n p0 [101,114,114,111,114]
 let a3←MF.q23 n p0 [103,114,97,110,116]
 let a5←MF.q23 n p0 [97,99,99,101,115,115,95,116,111,107,101,110]
 let a7←MF.q23 n p0 [114,101,102,114,101,115,104,95,116,111,107,101,110]
 let a9←MF.q23 n p0 [105,100,95,116,111,107,101,110]
 let a11←MF.q23 n p0 [116,101,120,116]
 let a13←MF.q24 n p0 [115,99,111,112,101]
 let a15←MF.q22 n p0 [101,120,112,105,114,101,115,95,105,110]
 let a17←MF.q22 n p0 [108,101,118,101,108]
 let a19←MF.q22 n p0 [116,111,116,97,108]
 let a21←MF.q1z n p0 [97,99,116,105,118,101]
 let a23←MF.q1z n p0 [99,108,97,105,109,115]
 let a25←MF.q23 n a23 [105,115,115]
 let a27←MF.q23 n a23 [115,117,98]
 let a29←MF.q23 n a23 [97,117,100]
 let a31←MF.q23 n a23 [99,108,105,101,110,116,95,105,100]
 let a33←MF.q23 n a23 [106,116,105]
 let a35←MF.q23 n a23 [110,111,110,99,101]
 let a37←MF.q22 n a23 [105,97,116]
 let a39←MF.q22 n a23 [101,120,112]
 let a41←MF.q22 n a23 [108,101,118,101,108]
 let a43←MF.q24 n a23 [115,99,111,112,101]
 let a45←MF.q24 n a23 [97,99,116]
 let j88←(do
   let a89←MF.q1z n p0 [116,104,105,110,103,115]
   MF.z0r n a89 0 []:Option (List q07))
 some (q06.mk 0 a1 [] a3 a5 a7 a9 a11 a13 a15 a17 a19 (decide (a21.gv.zh=2)) (q01.mk a25 a27 a29 a31 a33 a35 a37 a39 a41 a43 a45) j88)
theorem MF.q1l.le (n:Nat) (p0:q09):Le (MF.q1l n p0) (M.q1l p0):=by
 unfold MF.q1l M.q1l
 repeat' first|with_reducible first|apply Le.none|apply Le.refl|apply MF.q22.le n|apply MF.q23.le n|apply MF.q24.le n|apply MF.q1z.le n|apply MF.z0r.le n|apply Le.jn|apply Le.rs|apply Le.rb|apply Le.bind|apply Le.ite|intro _|dsimp only|split
def MF.q0t (n:Nat) (fuel:Nat) (p0:Z):Option (q06 × Int × Int):=do
 let a1←M.q1f p0
 let a5←M.q1p ((decide (0<a1))||(decide ((p0.length:Int)<8192))) 220
 match a5 with
 | .pan e8 =>
  none
 | .ok a7 =>
  let a9←M.q1p (decide (0<a1)) 223
  match a9 with
  | .pan e12 =>
   none
  | .ok a11 =>
   let s13←sub p0 0 (ya .i64 (a1 - 4))
   let a14←M.split s13 [13,10]
   let j18←(do
     if (decide (3≤(a14.length:Int))) then
      let x19←ix a14 0
      some (decide (12<(x19.length:Int)))
     else
      none:Option Bool)
   let a20←M.q1p j18 220
   match a20 with
   | .pan e23 =>
    none
   | .ok a22 =>
    let x24←ix a14 0
    let s25←sub x24 9 12
    let a26←M.q1t s25 3
    let j31←(do
      if a26.2 then
       let a32←M.q2v a26.1
       some (!decide (a32=[]))
      else
       none:Option Bool)
    let a34←M.q1p j31 220
    match a34 with
    | .pan e37 =>
     none
    | .ok a36 =>
     let j49←(do
       if (decide ((a14.length:Int)=4)) then
        none
       else
        some []:Option Z)
     let a55←M.trim j49 [65,66,67,68,69,70,71,72,73,74,75,76,77,78,79,80,81,82,83,84,85,86,87,88,89,90,97,98,99,100,101,102,103,104,105,106,107,108,109,110,111,112,113,114,115,116,117,118,119,120,121,122,48,49,50,51,52,53,54,55,56,57,45,95]
     let a57←M.q1p (decide (a55=[])) 220
     match a57 with
     | .pan e60 =>
      none
     | .ok a59 =>
      let x61←ix a14 (ya .i64 ((a14.length:Int) - 1))
      let a62←M.q74 x61 [99,111,110,116,101,110,116,45,108,101,110,103,116,104,58,32]
      let a64←M.q1t a62 5
      let q96←(do
        if a64.2 then
         if (decide (a64.1≤16384)) then
          let s97←sub p0 0 a1
          let a98←M.q1j a26.1 j49 a64.1
          let a100←M.q1p (decide (a98=s97)) 220
          match a100 with
          | .pan e103 =>
           none
          | .ok a102 =>
           some (.go ())
         else
          none
        else
         none:Option (Jn (q06 × Int × Int) Unit))
      match q96 with
      | .done r=>some r
      | .go j96 =>
       let a112←M.q1p (decide (a64.1≤(ya .i64 ((p0.length:Int) - a1)))) 223
       match a112 with
       | .pan e115 =>
        none
       | .ok a114 =>
        let s116←sub p0 a1 (ya .i64 (a1+a64.1))
        let a117←MF.q35 n fuel s116
        let a119←M.q1p (decide (a117.2=0)) 220
        match a119 with
        | .pan e122 =>
         none
        | .ok a121 =>
         let a123←MF.q1l n (q09.mk a117.1)
         let a125←MF.q0v n fuel (q06.mk a26.1 a123.z19 j49 a123.z4i a123.z3e a123.z2c a123.gId a123.z06 a123.z07 a123.z1q a123.z1n a123.z3q a123.z6d a123.z0a a123.z4v)
         let j129←(do
           if (decide (a125.2=0)) then
            let s130←sub p0 0 (ya .i64 (a1+a64.1))
            some (decide (a125.1=s130))
           else
            none:Option Bool)
         let a131←M.q1p j129 220
         match a131 with
         | .pan e134 =>
          none
         | .ok a133 =>
          some ((q06.mk a26.1 a123.z19 j49 a123.z4i a123.z3e a123.z2c a123.gId a123.z06 a123.z07 a123.z1q a123.z1n a123.z3q a123.z6d a123.z0a a123.z4v),(ya .i64 (a1+a64.1)),0)
theorem MF.q0t.le (n:Nat) (fuel:Nat) (p0:Z):Le (MF.q0t n fuel p0) (M.q0t fuel p0):=by
 unfold MF.q0t M.q0t
 repeat' first|with_reducible first|apply Le.none|apply Le.refl|apply MF.q35.le n|apply MF.q1l.le n|apply MF.q0v.le n|apply Le.jn|apply Le.rs|apply Le.rb|apply Le.bind|apply Le.ite|intro _|dsimp only|split
def MB.zp (n:Nat) (ih:((List Z))→(q00)→(Int)→(List Z)→Option (List Z)) (a21:(List Z)) (p1:q00) (x27:Int) (x28:List Z):Option (List Z):=do
 if (decide (x27<(a21.length:Int))) then
  let x33←ix a21 x27
  let j35←(do
    if (decide (x33=[79,70])) then
     none
    else
     if (decide (x33=[78,65,77,69])) then
      none
     else
      some x33:Option Z)
  let l36←app 16 x28 [j35]
  ih a21 p1 (ya .i64 (x27+1)) l36
 else
  some x28
def MF.zp (n:Nat):=rc MB.zp (fun _ _ _ _=>none) n
theorem MF.zp.le:∀ (n:Nat) (a21:(List Z)) (p1:q00) (x27:Int) (x28:List Z),Le (MF.zp n a21 p1 x27 x28) (M.zp a21 p1 x27 x28):=by
 intro n;induction n with
 | zero=>intros;exact Le.none _
 | succ n ih =>
  intro a21 p1 x27 x28
  show Le (MB.zp n (MF.zp n) a21 p1 x27 x28) _
  rw [M.zp];unfold MB.zp
  repeat' first|with_reducible first|apply Le.none|apply Le.refl|apply ih|apply Le.jn|apply Le.rs|apply Le.rb|apply Le.bind|apply Le.ite|intro _|dsimp only|split
def MB.zn (n:Nat) (ih:(q0a)→(q00)→(List q05)→(Int)→Option (List q05)) (p0:q0a) (p1:q00) (x235:List q05) (x236:Int):Option (List q05):=do
 if (decide (x236<(p0.z1h.length:Int))) then
  let x283←ix p0.z1h x236
  let j313←(do
    let a314←M.q2p x283 p1
    if a314=24 then
     none
    else
     if a314=25 then
      none
     else
      if a314=1000000 then
       if x283.zi0 then
        none
       else
        if (!Nat.beq x283.z4e NF) then
         let a325←M.q0q x283.z4e p1
         let s327←q00.zg6 p1 a325
         some s327
        else
         none
      else
       none:Option Z)
  if (!decide (j313=[])) then
   let l328←app 32 x235 [(q05.mk x283.zc4 j313)]
   ih p0 p1 l328 (ya .i64 (x236+1))
  else
   none
 else
  some x235
def MF.zn (n:Nat):=rc MB.zn (fun _ _ _ _=>none) n
theorem MF.zn.le:∀ (n:Nat) (p0:q0a) (p1:q00) (x235:List q05) (x236:Int),Le (MF.zn n p0 p1 x235 x236) (M.zn p0 p1 x235 x236):=by
 intro n;induction n with
 | zero=>intros;exact Le.none _
 | succ n ih =>
  intro p0 p1 x235 x236
  show Le (MB.zn n (MF.zn n) p0 p1 x235 x236) _
  rw [M.zn];unfold MB.zn
  repeat' first|with_reducible first|apply Le.none|apply Le.refl|apply ih|apply Le.jn|apply Le.rs|apply Le.rb|apply Le.bind|apply Le.ite|intro _|dsimp only|split
def MB.zq (n:Nat) (ih:Z→Z→(Int)→(List Int)→Option (List Int)) (p0:Z) (p1:Z) (x105:Int) (x106:List Int):Option (List Int):=do
 if (decide (x105<((unb p0).length:Int))) then
  let x132←ix (unb p0) x105
  let j144←(do
    if ((((decide (65≤x132))&&(decide (x132≤90)))||((decide (97≤x132))&&(decide (x132≤122))))||((decide (48≤x132))&&(decide (x132≤57)))) then
     some true
    else
     none:Option Bool)
  if j144 then
   let a147←M.q70 x106 x132
   ih p0 p1 (ya .i64 (x105+1)) a147
  else
   none
 else
  some x106
def MF.zq (n:Nat):=rc MB.zq (fun _ _ _ _=>none) n
theorem MF.zq.le:∀ (n:Nat) (p0:Z) (p1:Z) (x105:Int) (x106:List Int),Le (MF.zq n p0 p1 x105 x106) (M.zq p0 p1 x105 x106):=by
 intro n;induction n with
 | zero=>intros;exact Le.none _
 | succ n ih =>
  intro p0 p1 x105 x106
  show Le (MB.zq n (MF.zq n) p0 p1 x105 x106) _
  rw [M.zq];unfold MB.zq
  repeat' first|with_reducible first|apply Le.none|apply Le.refl|apply ih|apply Le.jn|apply Le.rs|apply Le.rb|apply Le.bind|apply Le.ite|intro _|dsimp only|split
def MF.q0p (n:Nat) (p0:Z) (p1:Z):Option Z:=do
 let j79←(do
   let _←chk (decide (p0.length≤9223372036854775807))
   MF.zq n p0 p1 0 ([]:List Int):Option (List Int))
 let a157←M.zw j79
 some a157
theorem MF.q0p.le (n:Nat) (p0:Z) (p1:Z):Le (MF.q0p n p0 p1) (M.q0p p0 p1):=by
 unfold MF.q0p M.q0p
 repeat' first|with_reducible first|apply Le.none|apply Le.refl|apply MF.zq.le n|apply Le.jn|apply Le.rs|apply Le.rb|apply Le.bind|apply Le.ite|intro _|dsimp only|split
def MB.z0b (n:Nat) (ih:(List q05)→(List Z)→(Int)→Option (List Z)) (p0:List q05) (x37:List Z) (x38:Int):Option (List Z):=do
 if (decide (x38<(p0.length:Int))) then
  let x47←ix p0 x38
  let a48←MF.q0p n x47.zu [43]
  let s50←cat a48 [61]
  let a51←MF.q0p n x47.z1t [43]
  let s53←cat s50 a51
  let l54←app 16 x37 [s53]
  ih p0 l54 (ya .i64 (x38+1))
 else
  some x37
def MF.z0b (n:Nat):=rc MB.z0b (fun _ _ _=>none) n
theorem MF.z0b.le:∀ (n:Nat) (p0:List q05) (x37:List Z) (x38:Int),Le (MF.z0b n p0 x37 x38) (M.z0b p0 x37 x38):=by
 intro n;induction n with
 | zero=>intros;exact Le.none _
 | succ n ih =>
  intro p0 x37 x38
  show Le (MB.z0b n (MF.z0b n) p0 x37 x38) _
  rw [M.z0b];unfold MB.z0b
  repeat' first|with_reducible first|apply Le.none|apply Le.refl|apply ih|apply MF.q0p.le n|apply Le.jn|apply Le.rs|apply Le.rb|apply Le.bind|apply Le.ite|intro _|dsimp only|split
def MF.q0i (n:Nat) (p0:List q05):Option (Z × Int):=do
 if (decide (64<(p0.length:Int))) then
  none
 else
  let j28←(do
    MF.z0b n p0 [] 0:Option (List Z))
  let a55←M.join j28 [38]
  if (decide (8192<(a55.length:Int))) then
   none
  else
   some (a55,0)
theorem MF.q0i.le (n:Nat) (p0:List q05):Le (MF.q0i n p0) (M.q0i p0):=by
 unfold MF.q0i M.q0i
 repeat' first|with_reducible first|apply Le.none|apply Le.refl|apply MF.z0b.le n|apply Le.jn|apply Le.rs|apply Le.rb|apply Le.bind|apply Le.ite|intro _|dsimp only|split
def MF.q2c (n:Nat) (fuel:Nat) (p0:q0a) (p1:q00):Option (q03 × Int):=do
 let j19←(do
   let s20←sub p0.zc5 1 (p0.zc5.length:Int)
   let a21←M.split s20 [47]
   MF.zp n a21 p1 0 []:Option (List Z))
 let s37←cat [115,101,115,115,105,111,110,61] p1.z09
 let a38←M.q2d 1 p1.z09 [99,111,111,107,105,101] s37 p0 (q03.mk p0.z5v j19 [] [(q05.mk [104,111,115,116] [105,100,112])] [])
 let s40←cat [66,101,97,114,101,114,32] p1.z1d
 let a41←M.q2d 2 p1.z1d [97,117,116,104,111,114,105,122,97,116,105,111,110] s40 p0 (q03.mk a38.zx a38.z05 [] a38.z0j a38.zt)
 let s43←cat [34] p1.z5k
 let s44←cat s43 [34]
 let a45←M.q2d 4 p1.z5k [105,102,45,109,97,116,99,104] s44 p0 (q03.mk a41.zx a41.z05 [] a41.z0j a41.zt)
 let j188←(do
   MF.zn n p0 p1 [] 0:Option (List q05))
 if (decide (p0.z2o=2)) then
  none
 else
  if (decide (p0.z2o=1)) then
   let a329←MF.q0i n j188
   some ((q03.mk a45.zx a45.z05 [] a45.z0j a329.1),a329.2)
  else
   none
theorem MF.q2c.le (n:Nat) (fuel:Nat) (p0:q0a) (p1:q00):Le (MF.q2c n fuel p0 p1) (M.q2c fuel p0 p1):=by
 unfold MF.q2c M.q2c
 repeat' first|with_reducible first|apply Le.none|apply Le.refl|apply MF.zp.le n|apply MF.zn.le n|apply MF.q0i.le n|apply Le.jn|apply Le.rs|apply Le.rb|apply Le.bind|apply Le.ite|intro _|dsimp only|split
def MB.za (n:Nat) (ih:(List q02)→(List q02)→(Int)→Option (Jn Bool Unit)) (p0:List q02) (p1:List q02) (x19:Int):Option (Jn Bool Unit):=do
 if (decide (x19<(p0.length:Int))) then
  none
 else
  some (.go ())
def MF.za (n:Nat):=rc MB.za (fun _ _ _=>none) n
theorem MF.za.le:∀ (n:Nat) (p0:List q02) (p1:List q02) (x19:Int),Le (MF.za n p0 p1 x19) (M.za p0 p1 x19):=by
 intro n;induction n with
 | zero=>intros;exact Le.none _
 | succ n ih =>
  intro p0 p1 x19
  show Le (MB.za n (MF.za n) p0 p1 x19) _
  rw [M.za];unfold MB.za
  repeat' first|with_reducible first|apply Le.none|apply Le.refl|apply ih|apply Le.jn|apply Le.rs|apply Le.rb|apply Le.bind|apply Le.ite|intro _|dsimp only|split
def MF.q6t (n:Nat) (p0:List q02) (p1:List q02):Option Bool:=do
 if (!decide ((p0.length:Int)=(p1.length:Int))) then
  none
 else
  let q14←(do
    MF.za n p0 p1 0:Option (Jn Bool Unit))
  match q14 with
  | .done r=>some r
  | .go j14 =>
   some true
theorem MF.q6t.le (n:Nat) (p0:List q02) (p1:List q02):Le (MF.q6t n p0 p1) (M.q6t p0 p1):=by
 unfold MF.q6t M.q6t
 repeat' first|with_reducible first|apply Le.none|apply Le.refl|apply MF.za.le n|apply Le.jn|apply Le.rs|apply Le.rb|apply Le.bind|apply Le.ite|intro _|dsimp only|split
def MF.q2g (n:Nat) (p0:q00) (p1:q00):Option Bool:=do
 let a3←MF.q6t n p0.zi p1.zi
 if (!a3) then
  none
 else
  let a5←M.q2i p0
  let a7←M.q2i p1
  some ((((decide ((a5.getD 0 [])=(a7.getD 0 []))&&(decide ((a5.getD 1 [])=(a7.getD 1 []))&&(decide ((a5.getD 2 [])=(a7.getD 2 []))&&(decide ((a5.getD 3 [])=(a7.getD 3 []))&&(decide ((a5.getD 4 [])=(a7.getD 4 []))&&(decide ((a5.getD 5 [])=(a7.getD 5 []))&&(decide ((a5.getD 6 [])=(a7.getD 6 []))&&(decide ((a5.getD 7 [])=(a7.getD 7 []))&&(decide ((a5.getD 8 [])=(a7.getD 8 []))&&(decide ((a5.getD 9 [])=(a7.getD 9 []))&&(decide ((a5.getD 10 [])=(a7.getD 10 []))&&(decide ((a5.getD 11 [])=(a7.getD 11 []))&&(decide ((a5.getD 12 [])=(a7.getD 12 []))&&(decide ((a5.getD 13 [])=(a7.getD 13 []))&&(decide ((a5.getD 14 [])=(a7.getD 14 []))&&(decide ((a5.getD 15 [])=(a7.getD 15 []))&&(decide ((a5.getD 16 [])=(a7.getD 16 []))&&(decide ((a5.getD 17 [])=(a7.getD 17 []))&&(decide ((a5.getD 18 [])=(a7.getD 18 []))&&(decide ((a5.getD 19 [])=(a7.getD 19 []))&&(decide ((a5.getD 20 [])=(a7.getD 20 []))&&(decide ((a5.getD 21 [])=(a7.getD 21 []))&&true))))))))))))))))))))))&&(decide (p0.zh=p1.zh)))&&(decide (p0.z2l=p1.z2l)))&&(decide (p0.z11=p1.z11)))
theorem MF.q2g.le (n:Nat) (p0:q00) (p1:q00):Le (MF.q2g n p0 p1) (M.q2g p0 p1):=by
 unfold MF.q2g M.q2g
 repeat' first|with_reducible first|apply Le.none|apply Le.refl|apply MF.q6t.le n|apply Le.jn|apply Le.rs|apply Le.rb|apply Le.bind|apply Le.ite|intro _|dsimp only|split
def MB.z04 (n:Nat) (ih:((List q0a))→(q00)→(Nat)→(Int)→Option (Jn (q03 × Int) Unit)) (a56:(List q0a)) (p0:q00) (fuel:Nat) (x75:Int):Option (Jn (q03 × Int) Unit):=do
 if (decide (x75<(a56.length:Int))) then
  let x93←ix a56 x75
  if (!decide (x93.zhz=p0.zh)) then
   none
  else
   let a94←MF.q2c n fuel x93 p0
   let a96←MF.q0u n a94.1
   let a98←MF.q0r n fuel a94.1
   let j107←(do
     if (((decide (a94.2=0))&&(decide (a96.2=0)))&&(decide (a98.2=0))) then
      let a108←MF.q2g n p0 a98.1
      some a108
     else
      none:Option Bool)
   if j107 then
    some (.done (a94.1,0))
   else
    none
 else
  none
def MF.z04 (n:Nat):=rc MB.z04 (fun _ _ _ _=>none) n
theorem MF.z04.le:∀ (n:Nat) (a56:(List q0a)) (p0:q00) (fuel:Nat) (x75:Int),Le (MF.z04 n a56 p0 fuel x75) (M.z04 a56 p0 fuel x75):=by
 intro n;induction n with
 | zero=>intros;exact Le.none _
 | succ n ih =>
  intro a56 p0 fuel x75
  show Le (MB.z04 n (MF.z04 n) a56 p0 fuel x75) _
  rw [M.z04];unfold MB.z04
  repeat' first|with_reducible first|apply Le.none|apply Le.refl|apply ih|apply MF.q2c.le n|apply MF.q0u.le n|apply MF.q0r.le n|apply MF.q2g.le n|apply Le.jn|apply Le.rs|apply Le.rb|apply Le.bind|apply Le.ite|intro _|dsimp only|split
def MF.q0w (n:Nat) (fuel:Nat) (p0:q00):Option (q03 × Int):=do
 let q55←(do
   let a56←M.q2e
   MF.z04 n a56 p0 fuel 0:Option (Jn (q03 × Int) Unit))
 match q55 with
 | .done r=>some r
 | .go j55 =>
  none
theorem MF.q0w.le (n:Nat) (fuel:Nat) (p0:q00):Le (MF.q0w n fuel p0) (M.q0w fuel p0):=by
 unfold MF.q0w M.q0w
 repeat' first|with_reducible first|apply Le.none|apply Le.refl|apply MF.z04.le n|apply Le.jn|apply Le.rs|apply Le.rb|apply Le.bind|apply Le.ite|intro _|dsimp only|split
def MF.q3x (n:Nat) (fuel:Nat):Option Bool:=do
 let a1←MF.q0s n [80,79,83,84,32,47,108,111,103,105,110,32,72,84,84,80,47,49,46,49,13,10,72,111,115,116,58,32,120,13,10,67,111,110,116,101,110,116,45,76,101,110,103,116,104,58,32,49,53,13,10,13,10,117,115,101,114,61,97,110,110,38,112,97,115,115,61,112,109,111,114,101]
 let a3←MF.q0r n fuel a1.1
 let s5←sub [80,79,83,84,32,47,108,111,103,105,110,32,72,84,84,80,47,49,46,49,13,10,72,111,115,116,58,32,120,13,10,67,111,110,116,101,110,116,45,76,101,110,103,116,104,58,32,49,53,13,10,13,10,117,115,101,114,61,97,110,110,38,112,97,115,115,61,112] 0 60
 let a6←MF.q0s n s5
 let a8←MF.q0s n [71,69,84,32,47,32,72,84,84,80,47,49,46,48,13,10,104,111,115,116,58,120,13,10,13,10]
 let a10←MF.q0r n fuel (q03.mk [71,69,84] [([108,111,103,105,110]:Z)] [] [] [])
 let a12←MF.q0r n fuel (q03.mk [71,69,84] [([120]:Z)] [] [] [])
 let a14←MF.q0v n fuel (q06.mk 401 171 [] [] [] [] [] [] [] 0 0 0 false (q01.mk [] [] [] [] [] [] 0 0 0 [] []) [])
 let a16←MF.q0t n fuel a14.1
 let a18←MF.q0w n fuel (q00.mk 1 [] [97,110,110] [112] [] [] [] [] [] [] [] [] [] [] [] [] [] [] [] [] [] [] [] [] 0 0)
 let a20←MF.q0u n a18.1
 let j61←(do
   if (((((((((((((((((((decide (a1.2.2=0))&&(decide (a1.2.1=68)))&&(decide (a3.2=0)))&&(decide (a3.1.zh=1)))&&(decide (a3.1.z2q=[97,110,110])))&&(decide (a3.1.z2p=[112])))&&(decide (a6.2.2=223)))&&(decide (a8.2.2=220)))&&(decide (a10.2=226)))&&(decide (a12.2=225)))&&(decide (a14.2=0)))&&(decide (a14.1=[72,84,84,80,47,49,46,49,32,52,48,49,32,85,110,97,117,116,104,111,114,105,122,101,100,13,10,99,111,110,116,101,110,116,45,116,121,112,101,58,32,97,112,112,108,105,99,97,116,105,111,110,47,106,115,111,110,13,10,99,111,110,116,101,110,116,45,108,101,110,103,116,104,58,32,49,51,13,10,13,10,123,34,101,114,114,111,114,34,58,49,55,49,125])))&&(decide (a16.2.2=0)))&&(decide (a16.2.1=(a14.1.length:Int))))&&(decide (a16.1.z19=171)))&&(decide (a16.1.z8c=401)))&&(decide (a18.2=0)))&&(decide (a20.2=0)))&&(decide (a20.1=[80,79,83,84,32,47,108,111,103,105,110,32,72,84,84,80,47,49,46,49,13,10,104,111,115,116,58,32,105,100,112,13,10,99,111,110,116,101,110,116,45,108,101,110,103,116,104,58,32,49,53,13,10,13,10,117,115,101,114,61,97,110,110,38,112,97,115,115,61,112]))) then
    let a62←M.q0x 221
    some (decide (a62=413))
   else
    none:Option Bool)
 some (((((((j61&&true)&&true)&&true)&&true)&&true)&&true)&&true)
theorem MF.q3x.le (n:Nat) (fuel:Nat):Le (MF.q3x n fuel) (M.q3x fuel):=by
 unfold MF.q3x M.q3x
 repeat' first|with_reducible first|apply Le.none|apply Le.refl|apply MF.q0s.le n|apply MF.q0r.le n|apply MF.q0v.le n|apply MF.q0t.le n|apply MF.q0w.le n|apply MF.q0u.le n|apply Le.jn|apply Le.rs|apply Le.rb|apply Le.bind|apply Le.ite|intro _|dsimp only|split
end
end Go.Sen
