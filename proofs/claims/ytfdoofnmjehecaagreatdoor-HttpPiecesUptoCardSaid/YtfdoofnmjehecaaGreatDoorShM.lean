import Derived.Test.YtfdoofnmjehecaaGreatDoorHtM
import Derived.Test.YtfdoofnmjehecaaGreatDoorShL
set_option linter.all false
set_option maxRecDepth 1000000
namespace Go.Sen
open IntKind renaming wrap → ya
open Go.Lk Go.Pe
noncomputable def MB.z0x (n:Nat) (ih:(List UInt8)→(Int)→(Int)→(Int)→Option (Jn Bool Unit)) (p0:List UInt8) (p1:Int) (p2:Int) (x23:Int):Option (Jn Bool Unit):=do
 if (decide (x23<(p0.length:Int))) then
  let c29←ix p0 x23
  let j32←(do
    if (decide ((c29.toNat:Int)<p1)) then
     some true
    else
     let c33←ix p0 x23
     some (decide (p2<(c33.toNat:Int))):Option Bool)
  if j32 then
   some (.done false)
  else
   ih p0 p1 p2 (ya .i64 (x23+1))
 else
  some (.go ())
noncomputable def MF.z0x (n:Nat):(List UInt8)→(Int)→(Int)→(Int)→Option (Jn Bool Unit):=Nat.rec (motive:=fun _=>(List UInt8)→(Int)→(Int)→(Int)→Option (Jn Bool Unit)) (fun _ _ _ _=>none) (fun n ih=>MB.z0x n ih) n
theorem MF.z0x.le:∀ (n:Nat) (p0:List UInt8) (p1:Int) (p2:Int) (x23:Int),Le (MF.z0x n p0 p1 p2 x23) (M.z0x p0 p1 p2 x23):=by
 intro n;induction n with
 | zero=>intros;exact Le.none _
 | succ n ih =>
  intro p0 p1 p2 x23
  show Le (MB.z0x n (MF.z0x n) p0 p1 p2 x23) _
  rw [M.z0x];unfold MB.z0x
  repeat' first|(with_reducible exact Le.refl _)|(with_reducible exact ih _ _ _ _)|(with_reducible refine Le.jn ?_ (fun _ => ?_) fun _ => ?_)|(with_reducible refine Le.rs ?_ (fun _ => ?_) fun _ => ?_)|(with_reducible refine Le.rb ?_ (fun _ _ => ?_) fun _ => ?_)|(with_reducible refine Le.bind ?_ fun _ => ?_)|(with_reducible refine Le.ite ?_ ?_)|dsimp only|split
noncomputable def MF.q1x (n:Nat) (p0:List UInt8) (p1:Int) (p2:Int):Option Bool:=do
 let q17←(do
   MF.z0x n p0 p1 p2 0:Option (Jn Bool Unit))
 match q17 with
 | .done r=>some r
 | .go j17 =>
  some true
theorem MF.q1x.le (n:Nat) (p0:List UInt8) (p1:Int) (p2:Int):Le (MF.q1x n p0 p1 p2) (M.q1x p0 p1 p2):=by
 unfold MF.q1x M.q1x
 repeat' first|(with_reducible exact Le.refl _)|(with_reducible exact MF.z0x.le n _ _ _ _)|(with_reducible refine Le.jn ?_ (fun _ => ?_) fun _ => ?_)|(with_reducible refine Le.rs ?_ (fun _ => ?_) fun _ => ?_)|(with_reducible refine Le.rb ?_ (fun _ _ => ?_) fun _ => ?_)|(with_reducible refine Le.bind ?_ fun _ => ?_)|(with_reducible refine Le.ite ?_ ?_)|dsimp only|split
noncomputable def MB.zo (n:Nat) (ih:(List UInt8)→(List Int)→Option ((List UInt8) × Int)) (x22:List UInt8) (x23:List Int):Option ((List UInt8) × Int):=do
 let a45←M.cut x22 ([37]:List UInt8)
 let a47←M.q70 x23 a45.1
 if (!a45.2.2) then
  let a51←M.zm a47.2
  some (a51,0)
 else
  let a53←M.q0o a45.2.1 ([48,49,50,51,52,53,54,55,56,57,97,98,99,100,101,102,95,95,95,95,95,95,95,95,95,95,65,66,67,68,69,70]:List UInt8)
  let j59←(do
    if (!a53.2) then
     some true
    else
     let s60←sub a45.2.1 0 2
     let a61←M.containsAny s60 ([95]:List UInt8)
     some a61:Option Bool)
  if j59 then
   some (([]:List UInt8),12)
  else
   let a63←M.q6z a47.2 a53.1
   let s65←sub a45.2.1 2 (a45.2.1.length:Int)
   ih s65 a63
noncomputable def MF.zo (n:Nat):(List UInt8)→(List Int)→Option ((List UInt8) × Int):=Nat.rec (motive:=fun _=>(List UInt8)→(List Int)→Option ((List UInt8) × Int)) (fun _ _=>none) (fun n ih=>MB.zo n ih) n
theorem MF.zo.le:∀ (n:Nat) (x22:List UInt8) (x23:List Int),Le (MF.zo n x22 x23) (M.zo x22 x23):=by
 intro n;induction n with
 | zero=>intros;exact Le.none _
 | succ n ih =>
  intro x22 x23
  show Le (MB.zo n (MF.zo n) x22 x23) _
  rw [M.zo];unfold MB.zo
  repeat' first|(with_reducible exact Le.refl _)|(with_reducible exact ih _ _)|(with_reducible refine Le.jn ?_ (fun _ => ?_) fun _ => ?_)|(with_reducible refine Le.rs ?_ (fun _ => ?_) fun _ => ?_)|(with_reducible refine Le.rb ?_ (fun _ _ => ?_) fun _ => ?_)|(with_reducible refine Le.bind ?_ fun _ => ?_)|(with_reducible refine Le.ite ?_ ?_)|dsimp only|split
noncomputable def MF.q0l (n:Nat) (p0:List UInt8):Option ((List UInt8) × Int):=do
 MF.zo n p0 ([]:List Int)
theorem MF.q0l.le (n:Nat) (p0:List UInt8):Le (MF.q0l n p0) (M.q0l p0):=by
 unfold MF.q0l M.q0l
 repeat' first|(with_reducible exact Le.refl _)|(with_reducible exact MF.zo.le n _ _)|(with_reducible refine Le.jn ?_ (fun _ => ?_) fun _ => ?_)|(with_reducible refine Le.rs ?_ (fun _ => ?_) fun _ => ?_)|(with_reducible refine Le.rb ?_ (fun _ _ => ?_) fun _ => ?_)|(with_reducible refine Le.bind ?_ fun _ => ?_)|(with_reducible refine Le.ite ?_ ?_)|dsimp only|split
noncomputable def MB.z0w (n:Nat) (ih:((List (List UInt8)))→(Int)→(List (List UInt8))→Option (Jn (Rs q03) (List (List UInt8)))) (a71:(List (List UInt8))) (x81:Int) (x82:List (List UInt8)):Option (Jn (Rs q03) (List (List UInt8))):=do
 if (decide (x81<(a71.length:Int))) then
  let x91←ix a71 x81
  let a92←MF.q0l n x91
  let a94←M.q1p (decide (a92.2=0)) 220
  match a94 with
  | .pan e97 =>
   some (.done (.pan e97))
  | .ok a96 =>
   let l98←app 16 x82 [a92.1]
   ih a71 (ya .i64 (x81+1)) l98
 else
  some (.go x82)
noncomputable def MF.z0w (n:Nat):((List (List UInt8)))→(Int)→(List (List UInt8))→Option (Jn (Rs q03) (List (List UInt8))):=Nat.rec (motive:=fun _=>((List (List UInt8)))→(Int)→(List (List UInt8))→Option (Jn (Rs q03) (List (List UInt8)))) (fun _ _ _=>none) (fun n ih=>MB.z0w n ih) n
theorem MF.z0w.le:∀ (n:Nat) (a71:(List (List UInt8))) (x81:Int) (x82:List (List UInt8)),Le (MF.z0w n a71 x81 x82) (M.z0w a71 x81 x82):=by
 intro n;induction n with
 | zero=>intros;exact Le.none _
 | succ n ih =>
  intro a71 x81 x82
  show Le (MB.z0w n (MF.z0w n) a71 x81 x82) _
  rw [M.z0w];unfold MB.z0w
  repeat' first|(with_reducible exact Le.refl _)|(with_reducible exact ih _ _ _)|(with_reducible exact MF.q0l.le n _)|(with_reducible refine Le.jn ?_ (fun _ => ?_) fun _ => ?_)|(with_reducible refine Le.rs ?_ (fun _ => ?_) fun _ => ?_)|(with_reducible refine Le.rb ?_ (fun _ _ => ?_) fun _ => ?_)|(with_reducible refine Le.bind ?_ fun _ => ?_)|(with_reducible refine Le.ite ?_ ?_)|dsimp only|split
noncomputable def MB.zx (n:Nat) (ih:((List (List UInt8)))→(List q05)→(Int)→Option (Jn ((List q05) × Int) (List q05))) (a1:(List (List UInt8))) (x67:List q05) (x68:Int):Option (Jn ((List q05) × Int) (List q05)):=do
 if (decide (x68<(a1.length:Int))) then
  let x83←ix a1 x68
  if (decide (x83=([]:List UInt8))) then
   some (.done ([],13))
  else
   let a84←M.replaceAll x83 ([43]:List UInt8) ([32]:List UInt8)
   let a86←M.cut a84 ([61]:List UInt8)
   let a88←MF.q0l n a86.1
   let a90←MF.q0l n a86.2.1
   if ((!decide (a88.2=0))||(!decide (a90.2=0))) then
    some (.done ([],12))
   else
    let l96←app 32 x67 [(q05.mk a88.1 a90.1)]
    ih a1 l96 (ya .i64 (x68+1))
 else
  some (.go x67)
noncomputable def MF.zx (n:Nat):((List (List UInt8)))→(List q05)→(Int)→Option (Jn ((List q05) × Int) (List q05)):=Nat.rec (motive:=fun _=>((List (List UInt8)))→(List q05)→(Int)→Option (Jn ((List q05) × Int) (List q05))) (fun _ _ _=>none) (fun n ih=>MB.zx n ih) n
theorem MF.zx.le:∀ (n:Nat) (a1:(List (List UInt8))) (x67:List q05) (x68:Int),Le (MF.zx n a1 x67 x68) (M.zx a1 x67 x68):=by
 intro n;induction n with
 | zero=>intros;exact Le.none _
 | succ n ih =>
  intro a1 x67 x68
  show Le (MB.zx n (MF.zx n) a1 x67 x68) _
  rw [M.zx];unfold MB.zx
  repeat' first|(with_reducible exact Le.refl _)|(with_reducible exact ih _ _ _)|(with_reducible exact MF.q0l.le n _)|(with_reducible refine Le.jn ?_ (fun _ => ?_) fun _ => ?_)|(with_reducible refine Le.rs ?_ (fun _ => ?_) fun _ => ?_)|(with_reducible refine Le.rb ?_ (fun _ _ => ?_) fun _ => ?_)|(with_reducible refine Le.bind ?_ fun _ => ?_)|(with_reducible refine Le.ite ?_ ?_)|dsimp only|split
noncomputable def MF.q0k (n:Nat) (p0:List UInt8):Option ((List q05) × Int):=do
 let a1←M.split p0 ([38]:List UInt8)
 if ((decide (8192<(p0.length:Int)))||(decide (64<(a1.length:Int)))) then
  some ([],14)
 else
  if (decide (p0=([]:List UInt8))) then
   some ([],0)
  else
   let q52←(do
     MF.zx n a1 [] 0:Option (Jn ((List q05) × Int) (List q05)))
   match q52 with
   | .done r=>some r
   | .go j52 =>
    some (j52,0)
theorem MF.q0k.le (n:Nat) (p0:List UInt8):Le (MF.q0k n p0) (M.q0k p0):=by
 unfold MF.q0k M.q0k
 repeat' first|(with_reducible exact Le.refl _)|(with_reducible exact MF.zx.le n _ _ _)|(with_reducible refine Le.jn ?_ (fun _ => ?_) fun _ => ?_)|(with_reducible refine Le.rs ?_ (fun _ => ?_) fun _ => ?_)|(with_reducible refine Le.rb ?_ (fun _ _ => ?_) fun _ => ?_)|(with_reducible refine Le.bind ?_ fun _ => ?_)|(with_reducible refine Le.ite ?_ ?_)|dsimp only|split
noncomputable def MF.q2q (n:Nat) (p0:List UInt8):Option (Rs q03):=do
 let a1←M.split p0 ([32]:List UInt8)
 let j7←(do
   if (decide ((a1.length:Int)=3)) then
    let x8←ix a1 0
    let a9←M.q1o x8
    some a9
   else
    some false:Option Bool)
 let j13←(do
   if j7 then
    let x14←ix a1 2
    some (decide (x14=([72,84,84,80,47,49,46,49]:List UInt8)))
   else
    some false:Option Bool)
 let j19←(do
   if j13 then
    let x20←ix a1 1
    let a21←M.q72 x20 ([47]:List UInt8)
    some a21
   else
    some false:Option Bool)
 let j27←(do
   if j19 then
    let x28←ix a1 1
    let a29←MF.q1x n x28 33 126
    some a29
   else
    some false:Option Bool)
 let a31←M.q1p j27 220
 match a31 with
 | .pan e34 =>
  some (.pan e34)
 | .ok a33 =>
  let x35←ix a1 0
  let x36←ix a1 1
  let a37←M.cut x36 ([63]:List UInt8)
  let q69←(do
    let s70←sub a37.1 1 (a37.1.length:Int)
    let a71←M.split s70 ([47]:List UInt8)
    MF.z0w n a71 0 []:Option (Jn (Rs q03) (List (List UInt8))))
  match q69 with
  | .done r=>some r
  | .go j69 =>
   let a99←MF.q0k n a37.2.1
   let a103←M.q1p ((decide (a99.2=0))&&(decide ((j69.length:Int)≤64))) 220
   match a103 with
   | .pan e106 =>
    some (.pan e106)
   | .ok a105 =>
    some (.ok (q03.mk x35 j69 a99.1 ([]:List q05) ([]:List UInt8)))
theorem MF.q2q.le (n:Nat) (p0:List UInt8):Le (MF.q2q n p0) (M.q2q p0):=by
 unfold MF.q2q M.q2q
 repeat' first|(with_reducible exact Le.refl _)|(with_reducible exact MF.q1x.le n _ _ _)|(with_reducible exact MF.z0w.le n _ _ _)|(with_reducible exact MF.q0k.le n _)|(with_reducible refine Le.jn ?_ (fun _ => ?_) fun _ => ?_)|(with_reducible refine Le.rs ?_ (fun _ => ?_) fun _ => ?_)|(with_reducible refine Le.rb ?_ (fun _ _ => ?_) fun _ => ?_)|(with_reducible refine Le.bind ?_ fun _ => ?_)|(with_reducible refine Le.ite ?_ ?_)|dsimp only|split
noncomputable def MF.q2s (n:Nat) (p0:List UInt8):Option Bool:=do
 let a1←MF.q1x n p0 32 126
 let j6←(do
   if a1 then
    let a7←M.trim p0 ([32]:List UInt8)
    some (decide (a7=p0))
   else
    some false:Option Bool)
 some j6
theorem MF.q2s.le (n:Nat) (p0:List UInt8):Le (MF.q2s n p0) (M.q2s p0):=by
 unfold MF.q2s M.q2s
 repeat' first|(with_reducible exact Le.refl _)|(with_reducible exact MF.q1x.le n _ _ _)|(with_reducible refine Le.jn ?_ (fun _ => ?_) fun _ => ?_)|(with_reducible refine Le.rs ?_ (fun _ => ?_) fun _ => ?_)|(with_reducible refine Le.rb ?_ (fun _ _ => ?_) fun _ => ?_)|(with_reducible refine Le.bind ?_ fun _ => ?_)|(with_reducible refine Le.ite ?_ ?_)|dsimp only|split
noncomputable def MB.z0b (n:Nat) (ih:(List (List UInt8))→(Int)→(Int)→(List q05)→(List ((List UInt8) × Bool))→Option (Jn (q03 × Int × Int) (Int × (List q05) × (List ((List UInt8) × Bool))))) (l145:List (List UInt8)) (x184:Int) (x185:Int) (x186:List q05) (x187:List ((List UInt8) × Bool)):Option (Jn (q03 × Int × Int) (Int × (List q05) × (List ((List UInt8) × Bool)))):=do
 if (decide (x185<(l145.length:Int))) then
  let x226←ix l145 x185
  let a227←M.q1p (decide (x185<32)) 222
  match a227 with
  | .pan e230 =>
   some (.done ((q03.mk ([]:List UInt8) [] [] [] ([]:List UInt8)),0,e230))
  | .ok a229 =>
   let a231←M.cut x226 ([58]:List UInt8)
   let a233←M.z3o a231.1
   let a235←M.trim a231.2.1 ([32]:List UInt8)
   let j240←(do
     if a231.2.2 then
      let a241←M.q1q a233
      some a241
     else
      some false:Option Bool)
   let j246←(do
     if j240 then
      let a247←MF.q2s n a235
      some a247
     else
      some false:Option Bool)
   let j250←(do
     if j246 then
      some (!(z4a x187 a233 false))
     else
      some false:Option Bool)
   let a251←M.q1p j250 220
   match a251 with
   | .pan e254 =>
    some (.done ((q03.mk ([]:List UInt8) [] [] [] ([]:List UInt8)),0,e254))
   | .ok a253 =>
    let m255←some (z2t x187 a233 true)
    if (!decide (a233=([99,111,110,116,101,110,116,45,108,101,110,103,116,104]:List UInt8))) then
     let l257←app 32 x186 [(q05.mk a233 a235)]
     ih l145 x184 (ya .i64 (x185+1)) l257 m255
    else
     let a258←M.q1t a235 9
     let a260←M.q1p a258.2 220
     match a260 with
     | .pan e263 =>
      some (.done ((q03.mk ([]:List UInt8) [] [] [] ([]:List UInt8)),0,e263))
     | .ok a262 =>
      ih l145 a258.1 (ya .i64 (x185+1)) x186 m255
 else
  some (.go (x184,x186,x187))
noncomputable def MF.z0b (n:Nat):(List (List UInt8))→(Int)→(Int)→(List q05)→(List ((List UInt8) × Bool))→Option (Jn (q03 × Int × Int) (Int × (List q05) × (List ((List UInt8) × Bool)))):=Nat.rec (motive:=fun _=>(List (List UInt8))→(Int)→(Int)→(List q05)→(List ((List UInt8) × Bool))→Option (Jn (q03 × Int × Int) (Int × (List q05) × (List ((List UInt8) × Bool))))) (fun _ _ _ _ _=>none) (fun n ih=>MB.z0b n ih) n
theorem MF.z0b.le:∀ (n:Nat) (l145:List (List UInt8)) (x184:Int) (x185:Int) (x186:List q05) (x187:List ((List UInt8) × Bool)),Le (MF.z0b n l145 x184 x185 x186 x187) (M.z0b l145 x184 x185 x186 x187):=by
 intro n;induction n with
 | zero=>intros;exact Le.none _
 | succ n ih =>
  intro l145 x184 x185 x186 x187
  show Le (MB.z0b n (MF.z0b n) l145 x184 x185 x186 x187) _
  rw [M.z0b];unfold MB.z0b
  repeat' first|(with_reducible exact Le.refl _)|(with_reducible exact ih _ _ _ _ _)|(with_reducible exact MF.q2s.le n _)|(with_reducible refine Le.jn ?_ (fun _ => ?_) fun _ => ?_)|(with_reducible refine Le.rs ?_ (fun _ => ?_) fun _ => ?_)|(with_reducible refine Le.rb ?_ (fun _ _ => ?_) fun _ => ?_)|(with_reducible refine Le.bind ?_ fun _ => ?_)|(with_reducible refine Le.ite ?_ ?_)|dsimp only|split
noncomputable def MF.q0s (n:Nat) (p0:List UInt8):Option (q03 × Int × Int):=do
 let a1←M.q1f p0
 let a5←M.q1p ((decide (0<a1))||(decide ((p0.length:Int)<8192))) 222
 match a5 with
 | .pan e8 =>
  some ((q03.mk ([]:List UInt8) [] [] [] ([]:List UInt8)),0,e8)
 | .ok a7 =>
  let a9←M.q1p (decide (0<a1)) 223
  match a9 with
  | .pan e12 =>
   some ((q03.mk ([]:List UInt8) [] [] [] ([]:List UInt8)),0,e12)
  | .ok a11 =>
   let s13←sub p0 0 (ya .i64 (a1 - 4))
   let a14←M.split s13 ([13,10]:List UInt8)
   let x16←ix a14 0
   let a17←MF.q2q n x16
   match a17 with
   | .pan e20 =>
    some ((q03.mk ([]:List UInt8) [] [] [] ([]:List UInt8)),0,e20)
   | .ok a19 =>
    let m21←some (z2t ([]:List ((List UInt8) × Bool)) ([116,114,97,110,115,102,101,114,45,101,110,99,111,100,105,110,103]:List UInt8) true)
    let q144←(do
      let l145←sub a14 1 (a14.length:Int)
      MF.z0b n l145 0 0 a19.z22 m21:Option (Jn (q03 × Int × Int) (Int × (List q05) × (List ((List UInt8) × Bool)))))
    match q144 with
    | .done r=>some r
    | .go j144 =>
     let a264←M.q1p (z4a j144.2.2 ([104,111,115,116]:List UInt8) false) 220
     match a264 with
     | .pan e267 =>
      some ((q03.mk ([]:List UInt8) [] [] [] ([]:List UInt8)),0,e267)
     | .ok a266 =>
      let a268←M.q1p (decide (j144.1≤16384)) 221
      match a268 with
      | .pan e271 =>
       some ((q03.mk ([]:List UInt8) [] [] [] ([]:List UInt8)),0,e271)
      | .ok a270 =>
       let a272←M.q1p (decide (j144.1≤(ya .i64 ((p0.length:Int) - a1)))) 223
       match a272 with
       | .pan e275 =>
        some ((q03.mk ([]:List UInt8) [] [] [] ([]:List UInt8)),0,e275)
       | .ok a274 =>
        let s276←sub p0 a1 (ya .i64 (a1+j144.1))
        some ((q03.mk a19.z0e a19.z1p a19.z2n j144.2.1 s276),(ya .i64 (a1+j144.1)),0)
theorem MF.q0s.le (n:Nat) (p0:List UInt8):Le (MF.q0s n p0) (M.q0s p0):=by
 unfold MF.q0s M.q0s
 repeat' first|(with_reducible exact Le.refl _)|(with_reducible exact MF.q2q.le n _)|(with_reducible exact MF.z0b.le n _ _ _ _ _)|(with_reducible refine Le.jn ?_ (fun _ => ?_) fun _ => ?_)|(with_reducible refine Le.rs ?_ (fun _ => ?_) fun _ => ?_)|(with_reducible refine Le.rb ?_ (fun _ _ => ?_) fun _ => ?_)|(with_reducible refine Le.bind ?_ fun _ => ?_)|(with_reducible refine Le.ite ?_ ?_)|dsimp only|split
noncomputable def MB.z08 (n:Nat) (ih:(List (List UInt8))→((List (List UInt8)))→(q00)→(Int)→(List UInt8)→(List UInt8)→Option (Jn (Bool × q00) ((List UInt8) × (List UInt8)))) (p1:List (List UInt8)) (a2:(List (List UInt8))) (p2:q00) (x50:Int) (x51:List UInt8) (x52:List UInt8):Option (Jn (Bool × q00) ((List UInt8) × (List UInt8))):=do
 if (decide (x50<(p1.length:Int))) then
  let x63←ix p1 x50
  let x64←ix a2 x50
  if ((decide (x64=([79,70]:List UInt8)))&&(!decide (x63=([]:List UInt8)))) then
   ih p1 a2 p2 (ya .i64 (x50+1)) x63 x52
  else
   let x67←ix a2 x50
   if (decide (x67=([78,65,77,69]:List UInt8))) then
    ih p1 a2 p2 (ya .i64 (x50+1)) x51 x63
   else
    let x68←ix a2 x50
    let j71←(do
      if (!decide (x68=x63)) then
       some true
      else
       let x72←ix a2 x50
       some (decide (x72=([79,70]:List UInt8))):Option Bool)
    if j71 then
     some (.done (false,(q00.mk p2.zk x51 p2.z2a p2.z25 p2.z0f p2.z1d p2.z1u p2.z1h p2.zu p2.z0k p2.zq p2.z04 p2.zp p2.zl p2.zt p2.z0a x52 p2.z2d p2.z0c p2.z47 p2.z3y p2.z0j p2.z1i p2.z0d p2.z2e p2.z1j)))
    else
     ih p1 a2 p2 (ya .i64 (x50+1)) x51 x52
 else
  some (.go (x51,x52))
noncomputable def MF.z08 (n:Nat):(List (List UInt8))→((List (List UInt8)))→(q00)→(Int)→(List UInt8)→(List UInt8)→Option (Jn (Bool × q00) ((List UInt8) × (List UInt8))):=Nat.rec (motive:=fun _=>(List (List UInt8))→((List (List UInt8)))→(q00)→(Int)→(List UInt8)→(List UInt8)→Option (Jn (Bool × q00) ((List UInt8) × (List UInt8)))) (fun _ _ _ _ _ _=>none) (fun n ih=>MB.z08 n ih) n
theorem MF.z08.le:∀ (n:Nat) (p1:List (List UInt8)) (a2:(List (List UInt8))) (p2:q00) (x50:Int) (x51:List UInt8) (x52:List UInt8),Le (MF.z08 n p1 a2 p2 x50 x51 x52) (M.z08 p1 a2 p2 x50 x51 x52):=by
 intro n;induction n with
 | zero=>intros;exact Le.none _
 | succ n ih =>
  intro p1 a2 p2 x50 x51 x52
  show Le (MB.z08 n (MF.z08 n) p1 a2 p2 x50 x51 x52) _
  rw [M.z08];unfold MB.z08
  repeat' first|(with_reducible exact Le.refl _)|(with_reducible exact ih _ _ _ _ _ _)|(with_reducible refine Le.jn ?_ (fun _ => ?_) fun _ => ?_)|(with_reducible refine Le.rs ?_ (fun _ => ?_) fun _ => ?_)|(with_reducible refine Le.rb ?_ (fun _ _ => ?_) fun _ => ?_)|(with_reducible refine Le.bind ?_ fun _ => ?_)|(with_reducible refine Le.ite ?_ ?_)|dsimp only|split
noncomputable def MF.q28 (n:Nat) (p0:q0a) (p1:List (List UInt8)) (p2:q00):Option (Bool × q00):=do
 let s1←sub p0.zam 1 (p0.zam.length:Int)
 let a2←M.split s1 ([47]:List UInt8)
 if (!decide ((a2.length:Int)=(p1.length:Int))) then
  some (false,p2)
 else
  let q39←(do
    MF.z08 n p1 a2 p2 0 p2.gOf p2.z0y:Option (Jn (Bool × q00) ((List UInt8) × (List UInt8))))
  match q39 with
  | .done r=>some r
  | .go j39 =>
   some (true,(q00.mk p2.zk j39.1 p2.z2a p2.z25 p2.z0f p2.z1d p2.z1u p2.z1h p2.zu p2.z0k p2.zq p2.z04 p2.zp p2.zl p2.zt p2.z0a j39.2 p2.z2d p2.z0c p2.z47 p2.z3y p2.z0j p2.z1i p2.z0d p2.z2e p2.z1j))
theorem MF.q28.le (n:Nat) (p0:q0a) (p1:List (List UInt8)) (p2:q00):Le (MF.q28 n p0 p1 p2) (M.q28 p0 p1 p2):=by
 unfold MF.q28 M.q28
 repeat' first|(with_reducible exact Le.refl _)|(with_reducible exact MF.z08.le n _ _ _ _ _ _)|(with_reducible refine Le.jn ?_ (fun _ => ?_) fun _ => ?_)|(with_reducible refine Le.rs ?_ (fun _ => ?_) fun _ => ?_)|(with_reducible refine Le.rb ?_ (fun _ _ => ?_) fun _ => ?_)|(with_reducible refine Le.bind ?_ fun _ => ?_)|(with_reducible refine Le.ite ?_ ?_)|dsimp only|split
noncomputable def MB.z1c (n:Nat) (ih:(List q05)→(List UInt8)→(List UInt8)→(Int)→(Int)→Option ((List UInt8) × Int)) (p0:List q05) (p1:List UInt8) (x15:List UInt8) (x16:Int) (x17:Int):Option ((List UInt8) × Int):=do
 if (decide (0≤x17)) then
  let x20←ix p0 x17
  if (decide (x20.z0y=p1)) then
   let x21←ix p0 x17
   ih p0 p1 x21.z3q (ya .i64 (x16+1)) (ya .i64 (x17 - 1))
  else
   ih p0 p1 x15 x16 (ya .i64 (x17 - 1))
 else
  some (x15,x16)
noncomputable def MF.z1c (n:Nat):(List q05)→(List UInt8)→(List UInt8)→(Int)→(Int)→Option ((List UInt8) × Int):=Nat.rec (motive:=fun _=>(List q05)→(List UInt8)→(List UInt8)→(Int)→(Int)→Option ((List UInt8) × Int)) (fun _ _ _ _ _=>none) (fun n ih=>MB.z1c n ih) n
theorem MF.z1c.le:∀ (n:Nat) (p0:List q05) (p1:List UInt8) (x15:List UInt8) (x16:Int) (x17:Int),Le (MF.z1c n p0 p1 x15 x16 x17) (M.z1c p0 p1 x15 x16 x17):=by
 intro n;induction n with
 | zero=>intros;exact Le.none _
 | succ n ih =>
  intro p0 p1 x15 x16 x17
  show Le (MB.z1c n (MF.z1c n) p0 p1 x15 x16 x17) _
  rw [M.z1c];unfold MB.z1c
  repeat' first|(with_reducible exact Le.refl _)|(with_reducible exact ih _ _ _ _ _)|(with_reducible refine Le.jn ?_ (fun _ => ?_) fun _ => ?_)|(with_reducible refine Le.rs ?_ (fun _ => ?_) fun _ => ?_)|(with_reducible refine Le.rb ?_ (fun _ _ => ?_) fun _ => ?_)|(with_reducible refine Le.bind ?_ fun _ => ?_)|(with_reducible refine Le.ite ?_ ?_)|dsimp only|split
noncomputable def MF.q0m (n:Nat) (p0:List q05) (p1:List UInt8):Option ((List UInt8) × Int):=do
 let j12←(do
   MF.z1c n p0 p1 ([]:List UInt8) 0 (ya .i64 ((p0.length:Int) - 1)):Option ((List UInt8) × Int))
 some (j12.1,j12.2)
theorem MF.q0m.le (n:Nat) (p0:List q05) (p1:List UInt8):Le (MF.q0m n p0 p1) (M.q0m p0 p1):=by
 unfold MF.q0m M.q0m
 repeat' first|(with_reducible exact Le.refl _)|(with_reducible exact MF.z1c.le n _ _ _ _ _)|(with_reducible refine Le.jn ?_ (fun _ => ?_) fun _ => ?_)|(with_reducible refine Le.rs ?_ (fun _ => ?_) fun _ => ?_)|(with_reducible refine Le.rb ?_ (fun _ _ => ?_) fun _ => ?_)|(with_reducible refine Le.bind ?_ fun _ => ?_)|(with_reducible refine Le.ite ?_ ?_)|dsimp only|split
noncomputable def MF.q1h (n:Nat) (p0:List q05) (p1:List UInt8):Option ((List UInt8) × Bool):=do
 let a1←MF.q0m n p0 p1
 some (a1.1,(decide (0<a1.2)))
theorem MF.q1h.le (n:Nat) (p0:List q05) (p1:List UInt8):Le (MF.q1h n p0 p1) (M.q1h p0 p1):=by
 unfold MF.q1h M.q1h
 repeat' first|(with_reducible exact Le.refl _)|(with_reducible exact MF.q0m.le n _ _)|(with_reducible refine Le.jn ?_ (fun _ => ?_) fun _ => ?_)|(with_reducible refine Le.rs ?_ (fun _ => ?_) fun _ => ?_)|(with_reducible refine Le.rb ?_ (fun _ _ => ?_) fun _ => ?_)|(with_reducible refine Le.bind ?_ fun _ => ?_)|(with_reducible refine Le.ite ?_ ?_)|dsimp only|split
noncomputable def MB.z0s (n:Nat) (ih:((List (List UInt8)))→(Int)→Option (Jn (List UInt8) Unit)) (a22:(List (List UInt8))) (x29:Int):Option (Jn (List UInt8) Unit):=do
 if (decide (x29<(a22.length:Int))) then
  let x35←ix a22 x29
  let a36←M.trim x35 ([32]:List UInt8)
  let a38←M.q71 a36 ([115,101,115,115,105,111,110,61]:List UInt8)
  if a38.2 then
   some (.done a38.1)
  else
   ih a22 (ya .i64 (x29+1))
 else
  some (.go ())
noncomputable def MF.z0s (n:Nat):((List (List UInt8)))→(Int)→Option (Jn (List UInt8) Unit):=Nat.rec (motive:=fun _=>((List (List UInt8)))→(Int)→Option (Jn (List UInt8) Unit)) (fun _ _=>none) (fun n ih=>MB.z0s n ih) n
theorem MF.z0s.le:∀ (n:Nat) (a22:(List (List UInt8))) (x29:Int),Le (MF.z0s n a22 x29) (M.z0s a22 x29):=by
 intro n;induction n with
 | zero=>intros;exact Le.none _
 | succ n ih =>
  intro a22 x29
  show Le (MB.z0s n (MF.z0s n) a22 x29) _
  rw [M.z0s];unfold MB.z0s
  repeat' first|(with_reducible exact Le.refl _)|(with_reducible exact ih _ _)|(with_reducible refine Le.jn ?_ (fun _ => ?_) fun _ => ?_)|(with_reducible refine Le.rs ?_ (fun _ => ?_) fun _ => ?_)|(with_reducible refine Le.rb ?_ (fun _ _ => ?_) fun _ => ?_)|(with_reducible refine Le.bind ?_ fun _ => ?_)|(with_reducible refine Le.ite ?_ ?_)|dsimp only|split
noncomputable def MF.q1c (n:Nat) (p0:List q05):Option (List UInt8):=do
 let a1←MF.q1h n p0 ([99,111,111,107,105,101]:List UInt8)
 let q21←(do
   let a22←M.split a1.1 ([59]:List UInt8)
   MF.z0s n a22 0:Option (Jn (List UInt8) Unit))
 match q21 with
 | .done r=>some r
 | .go j21 =>
  some ([]:List UInt8)
theorem MF.q1c.le (n:Nat) (p0:List q05):Le (MF.q1c n p0) (M.q1c p0):=by
 unfold MF.q1c M.q1c
 repeat' first|(with_reducible exact Le.refl _)|(with_reducible exact MF.q1h.le n _ _)|(with_reducible exact MF.z0s.le n _ _)|(with_reducible refine Le.jn ?_ (fun _ => ?_) fun _ => ?_)|(with_reducible refine Le.rs ?_ (fun _ => ?_) fun _ => ?_)|(with_reducible refine Le.rb ?_ (fun _ _ => ?_) fun _ => ?_)|(with_reducible refine Le.bind ?_ fun _ => ?_)|(with_reducible refine Le.ite ?_ ?_)|dsimp only|split
noncomputable def MF.q2b (n:Nat) (p0:q0a) (p1:List q05) (p2:q00):Option (Rb q00 q00):=do
 let q18←(do
   if (!decide ((z9d .i64 p0.z7g 1)=0)) then
    let a19←MF.q1c n p1
    let a21←M.trim a19 ([65,66,67,68,69,70,71,72,73,74,75,76,77,78,79,80,81,82,83,84,85,86,87,88,89,90,97,98,99,100,101,102,103,104,105,106,107,108,109,110,111,112,113,114,115,116,117,118,119,120,121,122,48,49,50,51,52,53,54,55,56,57,45,95]:List UInt8)
    let a23←M.q1p (decide (a21=([]:List UInt8))) 227
    match a23 with
    | .pan e26 =>
     some (.done (.pan e26 (q00.mk p2.zk p2.gOf p2.z2a p2.z25 a19 p2.z1d p2.z1u p2.z1h p2.zu p2.z0k p2.zq p2.z04 p2.zp p2.zl p2.zt p2.z0a p2.z0y p2.z2d p2.z0c p2.z47 p2.z3y p2.z0j p2.z1i p2.z0d p2.z2e p2.z1j)))
    | .ok a25 =>
     some (.go a19)
   else
    some (.go p2.z0f):Option (Jn (Rb q00 q00) (List UInt8)))
 match q18 with
 | .done r=>some r
 | .go j18 =>
  let q60←(do
    let a61←MF.q1h n p1 ([97,117,116,104,111,114,105,122,97,116,105,111,110]:List UInt8)
    if (a61.2&&(!decide ((z9d .i64 p0.z7g 2)=0))) then
     let a65←M.q71 a61.1 ([66,101,97,114,101,114,32]:List UInt8)
     let j70←(do
       if a65.2 then
        let a71←MF.q1x n a65.1 33 126
        some a71
       else
        some false:Option Bool)
     let a73←M.q1p j70 227
     match a73 with
     | .pan e76 =>
      some (.done (.pan e76 (q00.mk p2.zk p2.gOf p2.z2a p2.z25 j18 p2.z1d p2.z1u p2.z1h p2.zu p2.z0k p2.zq p2.z04 p2.zp p2.zl p2.zt p2.z0a p2.z0y p2.z2d p2.z0c p2.z47 p2.z3y p2.z0j p2.z1i p2.z0d p2.z2e p2.z1j)))
     | .ok a75 =>
      some (.go a65.1)
    else
     some (.go p2.z1u):Option (Jn (Rb q00 q00) (List UInt8)))
  match q60 with
  | .done r=>some r
  | .go j60 =>
   let a77←MF.q1h n p1 ([105,102,45,109,97,116,99,104]:List UInt8)
   if (a77.2&&(!decide ((z9d .i64 p0.z7g 4)=0))) then
    let j83←(do
      if (decide (2≤(a77.1.length:Int))) then
       let c84←ix a77.1 0
       some (decide ((c84.toNat:Int)=34))
      else
       some false:Option Bool)
    let j87←(do
      if j83 then
       let c88←ix a77.1 (ya .i64 ((a77.1.length:Int) - 1))
       some (decide ((c88.toNat:Int)=34))
      else
       some false:Option Bool)
    let a89←M.q1p j87 227
    match a89 with
    | .pan e92 =>
     some (.pan e92 (q00.mk p2.zk p2.gOf p2.z2a p2.z25 j18 p2.z1d j60 p2.z1h p2.zu p2.z0k p2.zq p2.z04 p2.zp p2.zl p2.zt p2.z0a p2.z0y p2.z2d p2.z0c p2.z47 p2.z3y p2.z0j p2.z1i p2.z0d p2.z2e p2.z1j))
    | .ok a91 =>
     let s93←sub a77.1 1 (ya .i64 ((a77.1.length:Int) - 1))
     let a94←MF.q1x n s93 33 126
     let j99←(do
       if a94 then
        let a100←M.contains s93 ([34]:List UInt8)
        some (!a100)
       else
        some false:Option Bool)
     let a102←M.q1p j99 227
     match a102 with
     | .pan e105 =>
      some (.pan e105 (q00.mk p2.zk p2.gOf p2.z2a p2.z25 j18 p2.z1d j60 p2.z1h p2.zu p2.z0k p2.zq p2.z04 p2.zp p2.zl p2.zt p2.z0a p2.z0y p2.z2d p2.z0c p2.z47 s93 p2.z0j p2.z1i p2.z0d p2.z2e p2.z1j))
     | .ok a104 =>
      some (.ok (q00.mk p2.zk p2.gOf p2.z2a p2.z25 j18 p2.z1d j60 p2.z1h p2.zu p2.z0k p2.zq p2.z04 p2.zp p2.zl p2.zt p2.z0a p2.z0y p2.z2d p2.z0c p2.z47 s93 p2.z0j p2.z1i p2.z0d p2.z2e p2.z1j))
   else
    some (.ok (q00.mk p2.zk p2.gOf p2.z2a p2.z25 j18 p2.z1d j60 p2.z1h p2.zu p2.z0k p2.zq p2.z04 p2.zp p2.zl p2.zt p2.z0a p2.z0y p2.z2d p2.z0c p2.z47 p2.z3y p2.z0j p2.z1i p2.z0d p2.z2e p2.z1j))
theorem MF.q2b.le (n:Nat) (p0:q0a) (p1:List q05) (p2:q00):Le (MF.q2b n p0 p1 p2) (M.q2b p0 p1 p2):=by
 unfold MF.q2b M.q2b
 repeat' first|(with_reducible exact Le.refl _)|(with_reducible exact MF.q1c.le n _)|(with_reducible exact MF.q1h.le n _ _)|(with_reducible exact MF.q1x.le n _ _ _)|(with_reducible refine Le.jn ?_ (fun _ => ?_) fun _ => ?_)|(with_reducible refine Le.rs ?_ (fun _ => ?_) fun _ => ?_)|(with_reducible refine Le.rb ?_ (fun _ _ => ?_) fun _ => ?_)|(with_reducible refine Le.bind ?_ fun _ => ?_)|(with_reducible refine Le.ite ?_ ?_)|dsimp only|split
noncomputable def MB.zb (n:Nat) (ih:(List q0b)→(q05)→(Int)→Option (Jn Int Unit)) (p0:List q0b) (p1:q05) (x15:Int):Option (Jn Int Unit):=do
 if (decide (x15<(p0.length:Int))) then
  let x19←ix p0 x15
  let a20←M.q2a x19 p1
  if a20 then
   some (.done x15)
  else
   ih p0 p1 (ya .i64 (x15+1))
 else
  some (.go ())
noncomputable def MF.zb (n:Nat):(List q0b)→(q05)→(Int)→Option (Jn Int Unit):=Nat.rec (motive:=fun _=>(List q0b)→(q05)→(Int)→Option (Jn Int Unit)) (fun _ _ _=>none) (fun n ih=>MB.zb n ih) n
theorem MF.zb.le:∀ (n:Nat) (p0:List q0b) (p1:q05) (x15:Int),Le (MF.zb n p0 p1 x15) (M.zb p0 p1 x15):=by
 intro n;induction n with
 | zero=>intros;exact Le.none _
 | succ n ih =>
  intro p0 p1 x15
  show Le (MB.zb n (MF.zb n) p0 p1 x15) _
  rw [M.zb];unfold MB.zb
  repeat' first|(with_reducible exact Le.refl _)|(with_reducible exact ih _ _ _)|(with_reducible refine Le.jn ?_ (fun _ => ?_) fun _ => ?_)|(with_reducible refine Le.rs ?_ (fun _ => ?_) fun _ => ?_)|(with_reducible refine Le.rb ?_ (fun _ _ => ?_) fun _ => ?_)|(with_reducible refine Le.bind ?_ fun _ => ?_)|(with_reducible refine Le.ite ?_ ?_)|dsimp only|split
noncomputable def MF.q6u (n:Nat) (p0:List q0b) (p1:q05):Option Int:=do
 let q11←(do
   MF.zb n p0 p1 0:Option (Jn Int Unit))
 match q11 with
 | .done r=>some r
 | .go j11 =>
  some (-1)
theorem MF.q6u.le (n:Nat) (p0:List q0b) (p1:q05):Le (MF.q6u n p0 p1) (M.q6u p0 p1):=by
 unfold MF.q6u M.q6u
 repeat' first|(with_reducible exact Le.refl _)|(with_reducible exact MF.zb.le n _ _ _)|(with_reducible refine Le.jn ?_ (fun _ => ?_) fun _ => ?_)|(with_reducible refine Le.rs ?_ (fun _ => ?_) fun _ => ?_)|(with_reducible refine Le.rb ?_ (fun _ _ => ?_) fun _ => ?_)|(with_reducible refine Le.bind ?_ fun _ => ?_)|(with_reducible refine Le.ite ?_ ?_)|dsimp only|split
noncomputable def MF.q6p (n:Nat) (p0:List q0b) (p1:q05):Option Bool:=do
 let a1←MF.q6u n p0 p1
 some (decide (0≤a1))
theorem MF.q6p.le (n:Nat) (p0:List q0b) (p1:q05):Le (MF.q6p n p0 p1) (M.q6p p0 p1):=by
 unfold MF.q6p M.q6p
 repeat' first|(with_reducible exact Le.refl _)|(with_reducible exact MF.q6u.le n _ _)|(with_reducible refine Le.jn ?_ (fun _ => ?_) fun _ => ?_)|(with_reducible refine Le.rs ?_ (fun _ => ?_) fun _ => ?_)|(with_reducible refine Le.rb ?_ (fun _ _ => ?_) fun _ => ?_)|(with_reducible refine Le.bind ?_ fun _ => ?_)|(with_reducible refine Le.ite ?_ ?_)|dsimp only|split
noncomputable def MB.z0g (n:Nat) (ih:(List q05)→(q0a)→(q00)→(Int)→Option (Jn (Rb q00 q00) Unit)) (p1:List q05) (p0:q0a) (p2:q00) (x55:Int):Option (Jn (Rb q00 q00) Unit):=do
 if (decide (x55<(p1.length:Int))) then
  let x69←ix p1 x55
  let a70←MF.q0m n p1 x69.z0y
  let j75←(do
    if (decide (a70.2=1)) then
     let a76←MF.q6p n p0.z1y x69
     some a76
    else
     some false:Option Bool)
  let a78←M.q1p j75 227
  match a78 with
  | .pan e81 =>
   some (.done (.pan e81 p2))
  | .ok a80 =>
   ih p1 p0 p2 (ya .i64 (x55+1))
 else
  some (.go ())
noncomputable def MF.z0g (n:Nat):(List q05)→(q0a)→(q00)→(Int)→Option (Jn (Rb q00 q00) Unit):=Nat.rec (motive:=fun _=>(List q05)→(q0a)→(q00)→(Int)→Option (Jn (Rb q00 q00) Unit)) (fun _ _ _ _=>none) (fun n ih=>MB.z0g n ih) n
theorem MF.z0g.le:∀ (n:Nat) (p1:List q05) (p0:q0a) (p2:q00) (x55:Int),Le (MF.z0g n p1 p0 p2 x55) (M.z0g p1 p0 p2 x55):=by
 intro n;induction n with
 | zero=>intros;exact Le.none _
 | succ n ih =>
  intro p1 p0 p2 x55
  show Le (MB.z0g n (MF.z0g n) p1 p0 p2 x55) _
  rw [M.z0g];unfold MB.z0g
  repeat' first|(with_reducible exact Le.refl _)|(with_reducible exact ih _ _ _ _)|(with_reducible exact MF.q0m.le n _ _)|(with_reducible exact MF.q6p.le n _ _)|(with_reducible refine Le.jn ?_ (fun _ => ?_) fun _ => ?_)|(with_reducible refine Le.rs ?_ (fun _ => ?_) fun _ => ?_)|(with_reducible refine Le.rb ?_ (fun _ _ => ?_) fun _ => ?_)|(with_reducible refine Le.bind ?_ fun _ => ?_)|(with_reducible refine Le.ite ?_ ?_)|dsimp only|split
noncomputable def MB.z01 (n:Nat) (ih:(List UInt8)→(List Int)→(Int)→(Int)→(Int)→Option (Jn ((List UInt8) × Int) ((List Int) × Int × Int))) (p0:List UInt8) (x25:List Int) (x26:Int) (x27:Int) (x28:Int):Option (Jn ((List UInt8) × Int) ((List Int) × Int × Int)):=do
 if (decide (x28<((unb p0).length:Int))) then
  let x33←ix (unb p0) x28
  let a34←M.z1q ([65,66,67,68,69,70,71,72,73,74,75,76,77,78,79,80,81,82,83,84,85,86,87,88,89,90,97,98,99,100,101,102,103,104,105,106,107,108,109,110,111,112,113,114,115,116,117,118,119,120,121,122,48,49,50,51,52,53,54,55,56,57,45,95]:List UInt8) x33
  if (decide (a34<0)) then
   some (.done (([]:List UInt8),11))
  else
   if (decide (8≤(ya .i64 (x27+6)))) then
    let _←chk (decide (0≤(ya .i64 ((ya .i64 (x27+6)) - 8))))
    let l36←app 1 x25 [(ya .u8 (zfo .i64 (orI .i64 (z52 .i64 x26 6) a34) (ya .i64 ((ya .i64 (x27+6)) - 8))))]
    let _←chk (decide (0≤(ya .i64 ((ya .i64 (x27+6)) - 8))))
    ih p0 l36 (z9d .i64 (orI .i64 (z52 .i64 x26 6) a34) (ya .i64 ((z52 .i64 1 (ya .i64 ((ya .i64 (x27+6)) - 8))) - 1))) (ya .i64 ((ya .i64 (x27+6)) - 8)) (ya .i64 (x28+1))
   else
    ih p0 x25 (orI .i64 (z52 .i64 x26 6) a34) (ya .i64 (x27+6)) (ya .i64 (x28+1))
 else
  some (.go (x25,x26,x27))
noncomputable def MF.z01 (n:Nat):(List UInt8)→(List Int)→(Int)→(Int)→(Int)→Option (Jn ((List UInt8) × Int) ((List Int) × Int × Int)):=Nat.rec (motive:=fun _=>(List UInt8)→(List Int)→(Int)→(Int)→(Int)→Option (Jn ((List UInt8) × Int) ((List Int) × Int × Int))) (fun _ _ _ _ _=>none) (fun n ih=>MB.z01 n ih) n
theorem MF.z01.le:∀ (n:Nat) (p0:List UInt8) (x25:List Int) (x26:Int) (x27:Int) (x28:Int),Le (MF.z01 n p0 x25 x26 x27 x28) (M.z01 p0 x25 x26 x27 x28):=by
 intro n;induction n with
 | zero=>intros;exact Le.none _
 | succ n ih =>
  intro p0 x25 x26 x27 x28
  show Le (MB.z01 n (MF.z01 n) p0 x25 x26 x27 x28) _
  rw [M.z01];unfold MB.z01
  repeat' first|(with_reducible exact Le.refl _)|(with_reducible exact ih _ _ _ _ _)|(with_reducible refine Le.jn ?_ (fun _ => ?_) fun _ => ?_)|(with_reducible refine Le.rs ?_ (fun _ => ?_) fun _ => ?_)|(with_reducible refine Le.rb ?_ (fun _ _ => ?_) fun _ => ?_)|(with_reducible refine Le.bind ?_ fun _ => ?_)|(with_reducible refine Le.ite ?_ ?_)|dsimp only|split
noncomputable def MF.q0j (n:Nat) (p0:List UInt8):Option ((List UInt8) × Int):=do
 let q20←(do
   let _←chk (decide (p0.length≤9223372036854775807))
   MF.z01 n p0 [] 0 0 0:Option (Jn ((List UInt8) × Int) ((List Int) × Int × Int)))
 match q20 with
 | .done r=>some r
 | .go j20 =>
  if ((decide (6≤j20.2.2))||(!decide (j20.2.1=0))) then
   some (([]:List UInt8),11)
  else
   some ((byt j20.1),0)
theorem MF.q0j.le (n:Nat) (p0:List UInt8):Le (MF.q0j n p0) (M.q0j p0):=by
 unfold MF.q0j M.q0j
 repeat' first|(with_reducible exact Le.refl _)|(with_reducible exact MF.z01.le n _ _ _ _ _)|(with_reducible refine Le.jn ?_ (fun _ => ?_) fun _ => ?_)|(with_reducible refine Le.rs ?_ (fun _ => ?_) fun _ => ?_)|(with_reducible refine Le.rb ?_ (fun _ _ => ?_) fun _ => ?_)|(with_reducible refine Le.bind ?_ fun _ => ?_)|(with_reducible refine Le.ite ?_ ?_)|dsimp only|split
noncomputable def MB.zw (n:Nat) (ih:(q0a)→(List q05)→(Int)→(q00)→Option (Rb q00 q00)) (p0:q0a) (p1:List q05) (x117:Int) (x118:q00):Option (Rb q00 q00):=do
 if (decide (x117<(p0.z1y.length:Int))) then
  let x154←ix p0.z1y x117
  let a155←MF.q1h n p1 x154.zek
  let a157←M.q2p x154 x118
  if a157=24 then
   if (!decide (a155.1=([]:List UInt8))) then
    let a159←M.q1t a155.1 9
    let a161←M.q1p a159.2 227
    match a161 with
    | .pan e164 =>
     some (.pan e164 (q00.mk x118.zk x118.gOf x118.z2a x118.z25 x118.z0f x118.z1d x118.z1u x118.z1h x118.zu x118.z0k x118.zq x118.z04 x118.zp x118.zl x118.zt x118.z0a x118.z0y x118.z2d x118.z0c x118.z47 x118.z3y x118.z0j x118.z1i x118.z0d a159.1 x118.z1j))
    | .ok a163 =>
     ih p0 p1 (ya .i64 (x117+1)) (q00.mk x118.zk x118.gOf x118.z2a x118.z25 x118.z0f x118.z1d x118.z1u x118.z1h x118.zu x118.z0k x118.zq x118.z04 x118.zp x118.zl x118.zt x118.z0a x118.z0y x118.z2d x118.z0c x118.z47 x118.z3y x118.z0j x118.z1i x118.z0d a159.1 x118.z1j)
   else
    ih p0 p1 (ya .i64 (x117+1)) x118
  else
   if a157=25 then
    if (!decide (a155.1=([]:List UInt8))) then
     let a165←M.q1t a155.1 9
     let a167←M.q1p a165.2 227
     match a167 with
     | .pan e170 =>
      some (.pan e170 (q00.mk x118.zk x118.gOf x118.z2a x118.z25 x118.z0f x118.z1d x118.z1u x118.z1h x118.zu x118.z0k x118.zq x118.z04 x118.zp x118.zl x118.zt x118.z0a x118.z0y x118.z2d x118.z0c x118.z47 x118.z3y x118.z0j x118.z1i x118.z0d x118.z2e a165.1))
     | .ok a169 =>
      ih p0 p1 (ya .i64 (x117+1)) (q00.mk x118.zk x118.gOf x118.z2a x118.z25 x118.z0f x118.z1d x118.z1u x118.z1h x118.zu x118.z0k x118.zq x118.z04 x118.zp x118.zl x118.zt x118.z0a x118.z0y x118.z2d x118.z0c x118.z47 x118.z3y x118.z0j x118.z1i x118.z0d x118.z2e a165.1)
    else
     ih p0 p1 (ya .i64 (x117+1)) x118
   else
    if a157=1000000 then
     if (Nat.beq x154.z4o NF) then
      let a173←M.q1p (a155.2&&(decide (a155.1=x154.zal))) 227
      match a173 with
      | .pan e176 =>
       some (.pan e176 x118)
      | .ok a175 =>
       ih p0 p1 (ya .i64 (x117+1)) x118
     else
      if x154.zj4 then
       let a177←MF.q0j n a155.1
       let a179←M.q1p (decide (a177.2=0)) 227
       match a179 with
       | .pan e182 =>
        some (.pan e182 x118)
       | .ok a181 =>
        let a183←M.q0q x154.z4o x118
        let x185←q00.setAt x118 a183 a177.1
        ih p0 p1 (ya .i64 (x117+1)) x185
      else
       let a186←M.q0q x154.z4o x118
       let x188←q00.setAt x118 a186 a155.1
       ih p0 p1 (ya .i64 (x117+1)) x188
    else
     none
 else
  some (.ok x118)
noncomputable def MF.zw (n:Nat):(q0a)→(List q05)→(Int)→(q00)→Option (Rb q00 q00):=Nat.rec (motive:=fun _=>(q0a)→(List q05)→(Int)→(q00)→Option (Rb q00 q00)) (fun _ _ _ _=>none) (fun n ih=>MB.zw n ih) n
theorem MF.zw.le:∀ (n:Nat) (p0:q0a) (p1:List q05) (x117:Int) (x118:q00),Le (MF.zw n p0 p1 x117 x118) (M.zw p0 p1 x117 x118):=by
 intro n;induction n with
 | zero=>intros;exact Le.none _
 | succ n ih =>
  intro p0 p1 x117 x118
  show Le (MB.zw n (MF.zw n) p0 p1 x117 x118) _
  rw [M.zw];unfold MB.zw
  repeat' first|(with_reducible exact Le.refl _)|(with_reducible exact ih _ _ _ _)|(with_reducible exact MF.q1h.le n _ _)|(with_reducible exact MF.q0j.le n _)|(with_reducible refine Le.jn ?_ (fun _ => ?_) fun _ => ?_)|(with_reducible refine Le.rs ?_ (fun _ => ?_) fun _ => ?_)|(with_reducible refine Le.rb ?_ (fun _ _ => ?_) fun _ => ?_)|(with_reducible refine Le.bind ?_ fun _ => ?_)|(with_reducible refine Le.ite ?_ ?_)|dsimp only|split
noncomputable def MF.q29 (n:Nat) (p0:q0a) (p1:List q05) (p2:q00):Option (Rb q00 q00):=do
 let q41←(do
   MF.z0g n p1 p0 p2 0:Option (Jn (Rb q00 q00) Unit))
 match q41 with
 | .done r=>some r
 | .go j41 =>
  MF.zw n p0 p1 0 p2
theorem MF.q29.le (n:Nat) (p0:q0a) (p1:List q05) (p2:q00):Le (MF.q29 n p0 p1 p2) (M.q29 p0 p1 p2):=by
 unfold MF.q29 M.q29
 repeat' first|(with_reducible exact Le.refl _)|(with_reducible exact MF.z0g.le n _ _ _ _)|(with_reducible exact MF.zw.le n _ _ _ _)|(with_reducible refine Le.jn ?_ (fun _ => ?_) fun _ => ?_)|(with_reducible refine Le.rs ?_ (fun _ => ?_) fun _ => ?_)|(with_reducible refine Le.rb ?_ (fun _ _ => ?_) fun _ => ?_)|(with_reducible refine Le.bind ?_ fun _ => ?_)|(with_reducible refine Le.ite ?_ ?_)|dsimp only|split
noncomputable def MB.zh (n:Nat) (ih:((List UInt8) × Int)→(Int)→(Int)→(Int)→(Bool)→(Int)→(Int)→Option (Jn (Int × Bool) (Bool × Int))) (j65:(List UInt8) × Int) (p1:Int) (j106:Int) (j102:Int) (x301:Bool) (x302:Int) (x303:Int):Option (Jn (Int × Bool) (Bool × Int)):=do
 if (decide (x303<((unb j65.1).length:Int))) then
  let x351←ix (unb j65.1) x303
  let q381←(do
    if ((decide (x351=95))&&(decide (p1=0))) then
     (do
      ih j65 p1 j106 j102 true x302 (ya .i64 (x303+1))) >>= fun r=>some (.done r)
    else
     if ((decide (48≤x351))&&(decide (x351≤57))) then
      some (.go (ya .u8 (x351 - 48)))
     else
      let a386←M.q2x x351
      let j391←(do
        if (decide (97≤a386)) then
         let a392←M.q2x x351
         some (decide (a392≤122))
        else
         some false:Option Bool)
      if j391 then
       let a394←M.q2x x351
       some (.go (ya .u8 ((ya .u8 (a394 - 97))+10)))
      else
       some (.done (.done (0,false))):Option (Jn (Jn (Int × Bool) (Bool × Int)) Int))
  match q381 with
  | .done r=>some r
  | .go j381 =>
   if (decide ((ya .u8 j65.2)≤j381)) then
    some (.done (0,false))
   else
    if (decide (j106≤x302)) then
     some (.done ((ya .u64 ((z52 .u64 1 (ya .u64 j102)) - 1)),false))
    else
     if ((decide ((ya .u64 ((ya .u64 (x302*(ya .u64 j65.2)))+(ya .u64 j381)))<(ya .u64 (x302*(ya .u64 j65.2)))))||(decide ((ya .u64 ((z52 .u64 1 (ya .u64 j102)) - 1))<(ya .u64 ((ya .u64 (x302*(ya .u64 j65.2)))+(ya .u64 j381)))))) then
      some (.done ((ya .u64 ((z52 .u64 1 (ya .u64 j102)) - 1)),false))
     else
      ih j65 p1 j106 j102 x301 (ya .u64 ((ya .u64 (x302*(ya .u64 j65.2)))+(ya .u64 j381))) (ya .i64 (x303+1))
 else
  some (.go (x301,x302))
noncomputable def MF.zh (n:Nat):((List UInt8) × Int)→(Int)→(Int)→(Int)→(Bool)→(Int)→(Int)→Option (Jn (Int × Bool) (Bool × Int)):=Nat.rec (motive:=fun _=>((List UInt8) × Int)→(Int)→(Int)→(Int)→(Bool)→(Int)→(Int)→Option (Jn (Int × Bool) (Bool × Int))) (fun _ _ _ _ _ _ _=>none) (fun n ih=>MB.zh n ih) n
theorem MF.zh.le:∀ (n:Nat) (j65:(List UInt8) × Int) (p1:Int) (j106:Int) (j102:Int) (x301:Bool) (x302:Int) (x303:Int),Le (MF.zh n j65 p1 j106 j102 x301 x302 x303) (M.zh j65 p1 j106 j102 x301 x302 x303):=by
 intro n;induction n with
 | zero=>intros;exact Le.none _
 | succ n ih =>
  intro j65 p1 j106 j102 x301 x302 x303
  show Le (MB.zh n (MF.zh n) j65 p1 j106 j102 x301 x302 x303) _
  rw [M.zh];unfold MB.zh
  repeat' first|(with_reducible exact Le.refl _)|(with_reducible exact ih _ _ _ _ _ _ _)|(with_reducible refine Le.jn ?_ (fun _ => ?_) fun _ => ?_)|(with_reducible refine Le.rs ?_ (fun _ => ?_) fun _ => ?_)|(with_reducible refine Le.rb ?_ (fun _ _ => ?_) fun _ => ?_)|(with_reducible refine Le.bind ?_ fun _ => ?_)|(with_reducible refine Le.ite ?_ ?_)|dsimp only|split
noncomputable def MF.q2w (n:Nat) (p0:List UInt8) (p1:Int) (p2:Int):Option (Int × Bool):=do
 if (decide (p0=([]:List UInt8))) then
  some (0,false)
 else
  let q65←(do
    if ((decide (2≤p1))&&(decide (p1≤36))) then
     some (.go (p0,p1))
    else
     if (decide (p1=0)) then
      let c68←ix p0 0
      if (decide ((c68.toNat:Int)=48)) then
       let j73←(do
         if (decide (3≤(p0.length:Int))) then
          let c74←ix p0 1
          let a75←M.q2x (c74.toNat:Int)
          some (decide (a75=98))
         else
          some false:Option Bool)
       if j73 then
        let s77←sub p0 2 (p0.length:Int)
        some (.go (s77,2))
       else
        let j82←(do
          if (decide (3≤(p0.length:Int))) then
           let c83←ix p0 1
           let a84←M.q2x (c83.toNat:Int)
           some (decide (a84=111))
          else
           some false:Option Bool)
        if j82 then
         let s86←sub p0 2 (p0.length:Int)
         some (.go (s86,8))
        else
         let j91←(do
           if (decide (3≤(p0.length:Int))) then
            let c92←ix p0 1
            let a93←M.q2x (c92.toNat:Int)
            some (decide (a93=120))
           else
            some false:Option Bool)
         if j91 then
          let s95←sub p0 2 (p0.length:Int)
          some (.go (s95,16))
         else
          let s96←sub p0 1 (p0.length:Int)
          some (.go (s96,8))
      else
       some (.go (p0,10))
     else
      some (.done (0,false)):Option (Jn (Int × Bool) ((List UInt8) × Int)))
  match q65 with
  | .done r=>some r
  | .go j65 =>
   let q102←(do
     if (decide (p2=0)) then
      some (.go 64)
     else
      if ((decide (p2<0))||(decide (64<p2))) then
       some (.done (0,false))
      else
       some (.go p2):Option (Jn (Int × Bool) Int))
   match q102 with
   | .done r=>some r
   | .go j102 =>
    let j106←(do
      if (decide (j65.2=10)) then
       some 1844674407370955162
      else
       if (decide (j65.2=16)) then
        some 1152921504606846976
       else
        let _←chk (decide ((ya .u64 j65.2)≠0))
        some (ya .u64 ((ya .u64 (Int.tdiv 18446744073709551615 (ya .u64 j65.2)))+1)):Option Int)
    let _←chk (decide (0≤(ya .u64 j102)))
    let q253←(do
      let _←chk (decide (j65.1.length≤9223372036854775807))
      MF.zh n j65 p1 j106 j102 false 0 0:Option (Jn (Int × Bool) (Bool × Int)))
    match q253 with
    | .done r=>some r
    | .go j253 =>
     let j398←(do
       if j253.1 then
        none
       else
        some ():Option Unit)
     some (j253.2,true)
theorem MF.q2w.le (n:Nat) (p0:List UInt8) (p1:Int) (p2:Int):Le (MF.q2w n p0 p1 p2) (M.q2w p0 p1 p2):=by
 unfold MF.q2w M.q2w
 repeat' first|(with_reducible exact Le.refl _)|(with_reducible exact MF.zh.le n _ _ _ _ _ _ _)|(with_reducible refine Le.jn ?_ (fun _ => ?_) fun _ => ?_)|(with_reducible refine Le.rs ?_ (fun _ => ?_) fun _ => ?_)|(with_reducible refine Le.rb ?_ (fun _ _ => ?_) fun _ => ?_)|(with_reducible refine Le.bind ?_ fun _ => ?_)|(with_reducible refine Le.ite ?_ ?_)|dsimp only|split
noncomputable def MF.q6x (n:Nat) (p0:List UInt8) (p1:Int) (p2:Int):Option (Int × Bool):=do
 let a1←MF.q2w n p0 p1 p2
 if (!a1.2) then
  none
 else
  some (a1.1,true)
theorem MF.q6x.le (n:Nat) (p0:List UInt8) (p1:Int) (p2:Int):Le (MF.q6x n p0 p1 p2) (M.q6x p0 p1 p2):=by
 unfold MF.q6x M.q6x
 repeat' first|(with_reducible exact Le.refl _)|(with_reducible exact MF.q2w.le n _ _ _)|(with_reducible refine Le.jn ?_ (fun _ => ?_) fun _ => ?_)|(with_reducible refine Le.rs ?_ (fun _ => ?_) fun _ => ?_)|(with_reducible refine Le.rb ?_ (fun _ _ => ?_) fun _ => ?_)|(with_reducible refine Le.bind ?_ fun _ => ?_)|(with_reducible refine Le.ite ?_ ?_)|dsimp only|split
noncomputable def MF.q3l (n:Nat) (p0:q0c):Option (Rs (Int × q0c)):=do
 let a1←M.q71 p0.gs ([92,117]:List UInt8)
 let j9←(do
   if (a1.2&&(decide (4≤(a1.1.length:Int)))) then
    let s10←sub a1.1 0 4
    let a11←M.trim s10 ([48,49,50,51,52,53,54,55,56,57,97,98,99,100,101,102,65,66,67,68,69,70]:List UInt8)
    some (decide (a11=([]:List UInt8)))
   else
    some false:Option Bool)
 let a13←M.q3d j9 20
 match a13 with
 | .pan e16 =>
  some (.pan e16)
 | .ok a15 =>
  let s17←sub a1.1 0 4
  let a18←MF.q6x n s17 16 16
  let a20←M.q3d a18.2 20
  match a20 with
  | .pan e23 =>
   some (.pan e23)
  | .ok a22 =>
   let s24←sub a1.1 4 (a1.1.length:Int)
   some (.ok ((ya .i32 a18.1),(q0c.mk s24)))
theorem MF.q3l.le (n:Nat) (p0:q0c):Le (MF.q3l n p0) (M.q3l p0):=by
 unfold MF.q3l M.q3l
 repeat' first|(with_reducible exact Le.refl _)|(with_reducible exact MF.q6x.le n _ _ _)|(with_reducible refine Le.jn ?_ (fun _ => ?_) fun _ => ?_)|(with_reducible refine Le.rs ?_ (fun _ => ?_) fun _ => ?_)|(with_reducible refine Le.rb ?_ (fun _ _ => ?_) fun _ => ?_)|(with_reducible refine Le.bind ?_ fun _ => ?_)|(with_reducible refine Le.ite ?_ ?_)|dsimp only|split
noncomputable def MF.q3h (n:Nat) (p0:q0c):Option (Rs ((List UInt8) × q0c)):=do
 let a1←M.q3d (decide (2≤(p0.gs.length:Int))) 20
 match a1 with
 | .pan e4 =>
  some (.pan e4)
 | .ok a3 =>
  let c10←ix p0.gs 1
  let a11←M.indexByte ([34,92,47,98,102,110,114,116]:List UInt8) (c10.toNat:Int)
  if (decide (0≤a11)) then
   let s13←sub p0.gs 2 (p0.gs.length:Int)
   let s14←sub ([34,92,47,8,12,10,13,9]:List UInt8) a11 (ya .i64 (a11+1))
   some (.ok (s14,(q0c.mk s13)))
  else
   let a15←MF.q3l n p0
   match a15 with
   | .pan e18 =>
    some (.pan e18)
   | .ok a17 =>
    let a21←M.q3d ((decide (a17.1<56320))||(decide (57343<a17.1))) 20
    match a21 with
    | .pan e24 =>
     some (.pan e24)
    | .ok a23 =>
     if ((decide (a17.1<55296))||(decide (57343<a17.1))) then
      some (.ok ((encS a17.1),a17.2))
     else
      let a29←MF.q3l n a17.2
      match a29 with
      | .pan e32 =>
       some (.pan e32)
      | .ok a31 =>
       let a35←M.q3d ((decide (56320≤a31.1))&&(decide (a31.1≤57343))) 20
       match a35 with
       | .pan e38 =>
        some (.pan e38)
       | .ok a37 =>
        some (.ok ((encS (ya .i32 ((ya .i32 ((ya .i32 (65536+(z52 .i32 (ya .i32 (a17.1 - 55296)) 10)))+a31.1)) - 56320))),a31.2))
theorem MF.q3h.le (n:Nat) (p0:q0c):Le (MF.q3h n p0) (M.q3h p0):=by
 unfold MF.q3h M.q3h
 repeat' first|(with_reducible exact Le.refl _)|(with_reducible exact MF.q3l.le n _)|(with_reducible refine Le.jn ?_ (fun _ => ?_) fun _ => ?_)|(with_reducible refine Le.rs ?_ (fun _ => ?_) fun _ => ?_)|(with_reducible refine Le.rb ?_ (fun _ _ => ?_) fun _ => ?_)|(with_reducible refine Le.bind ?_ fun _ => ?_)|(with_reducible refine Le.ite ?_ ?_)|dsimp only|split
noncomputable def MB.z03 (n:Nat) (ih:(List UInt8)→(List Int)→Option (Rs ((List UInt8) × q0c))) (x37:List UInt8) (x38:List Int):Option (Rs ((List UInt8) × q0c)):=do
 let j71←(do
   if (!decide (x37=([]:List UInt8))) then
    let c72←ix x37 0
    some (decide (32≤(c72.toNat:Int)))
   else
    some false:Option Bool)
 let a73←M.q3d j71 20
 match a73 with
 | .pan e76 =>
  some (.pan e76)
 | .ok a75 =>
  let c77←ix x37 0
  if (decide ((c77.toNat:Int)=34)) then
   let a78←M.zm x38
   let a80←M.z1o a78
   let a82←M.q3d a80 20
   match a82 with
   | .pan e85 =>
    some (.pan e85)
   | .ok a84 =>
    let a86←M.q3j (q0c.mk x37) ([34]:List UInt8)
    let a88←M.zm x38
    some (.ok (a88,a86.2))
  else
   if (decide ((c77.toNat:Int)=92)) then
    let a90←MF.q3h n (q0c.mk x37)
    match a90 with
    | .pan e93 =>
     some (.pan e93)
    | .ok a92 =>
     let a94←M.q70 x38 a92.1
     ih a92.2.gs a94.2
   else
    let a96←M.q6z x38 (c77.toNat:Int)
    let s98←sub x37 1 (x37.length:Int)
    ih s98 a96
noncomputable def MF.z03 (n:Nat):(List UInt8)→(List Int)→Option (Rs ((List UInt8) × q0c)):=Nat.rec (motive:=fun _=>(List UInt8)→(List Int)→Option (Rs ((List UInt8) × q0c))) (fun _ _=>none) (fun n ih=>MB.z03 n ih) n
theorem MF.z03.le:∀ (n:Nat) (x37:List UInt8) (x38:List Int),Le (MF.z03 n x37 x38) (M.z03 x37 x38):=by
 intro n;induction n with
 | zero=>intros;exact Le.none _
 | succ n ih =>
  intro x37 x38
  show Le (MB.z03 n (MF.z03 n) x37 x38) _
  rw [M.z03];unfold MB.z03
  repeat' first|(with_reducible exact Le.refl _)|(with_reducible exact ih _ _)|(with_reducible exact MF.q3h.le n _)|(with_reducible refine Le.jn ?_ (fun _ => ?_) fun _ => ?_)|(with_reducible refine Le.rs ?_ (fun _ => ?_) fun _ => ?_)|(with_reducible refine Le.rb ?_ (fun _ _ => ?_) fun _ => ?_)|(with_reducible refine Le.bind ?_ fun _ => ?_)|(with_reducible refine Le.ite ?_ ?_)|dsimp only|split
noncomputable def MF.q3k (n:Nat) (p0:q0c):Option (Rs ((List UInt8) × q0c)):=do
 let a1←M.q71 p0.gs ([34]:List UInt8)
 let a3←M.q3d a1.2 20
 match a3 with
 | .pan e6 =>
  some (.pan e6)
 | .ok a5 =>
  MF.z03 n a1.1 ([]:List Int)
theorem MF.q3k.le (n:Nat) (p0:q0c):Le (MF.q3k n p0) (M.q3k p0):=by
 unfold MF.q3k M.q3k
 repeat' first|(with_reducible exact Le.refl _)|(with_reducible exact MF.z03.le n _ _)|(with_reducible refine Le.jn ?_ (fun _ => ?_) fun _ => ?_)|(with_reducible refine Le.rs ?_ (fun _ => ?_) fun _ => ?_)|(with_reducible refine Le.rb ?_ (fun _ _ => ?_) fun _ => ?_)|(with_reducible refine Le.bind ?_ fun _ => ?_)|(with_reducible refine Le.ite ?_ ?_)|dsimp only|split
noncomputable def MB.zj (n:Nat) (ih:(List (List UInt8))→(List UInt8)→(Int)→Option (Jn Int Unit)) (p0:List (List UInt8)) (p1:List UInt8) (x7:Int):Option (Jn Int Unit):=do
 if (decide (x7<(p0.length:Int))) then
  let x9←ix p0 x7
  if (decide (p1=x9)) then
   some (.done x7)
  else
   ih p0 p1 (ya .i64 (x7+1))
 else
  some (.go ())
noncomputable def MF.zj (n:Nat):(List (List UInt8))→(List UInt8)→(Int)→Option (Jn Int Unit):=Nat.rec (motive:=fun _=>(List (List UInt8))→(List UInt8)→(Int)→Option (Jn Int Unit)) (fun _ _ _=>none) (fun n ih=>MB.zj n ih) n
theorem MF.zj.le:∀ (n:Nat) (p0:List (List UInt8)) (p1:List UInt8) (x7:Int),Le (MF.zj n p0 p1 x7) (M.zj p0 p1 x7):=by
 intro n;induction n with
 | zero=>intros;exact Le.none _
 | succ n ih =>
  intro p0 p1 x7
  show Le (MB.zj n (MF.zj n) p0 p1 x7) _
  rw [M.zj];unfold MB.zj
  repeat' first|(with_reducible exact Le.refl _)|(with_reducible exact ih _ _ _)|(with_reducible refine Le.jn ?_ (fun _ => ?_) fun _ => ?_)|(with_reducible refine Le.rs ?_ (fun _ => ?_) fun _ => ?_)|(with_reducible refine Le.rb ?_ (fun _ _ => ?_) fun _ => ?_)|(with_reducible refine Le.bind ?_ fun _ => ?_)|(with_reducible refine Le.ite ?_ ?_)|dsimp only|split
noncomputable def MF.q6w (n:Nat) (p0:List (List UInt8)) (p1:List UInt8):Option Int:=do
 let q5←(do
   MF.zj n p0 p1 0:Option (Jn Int Unit))
 match q5 with
 | .done r=>some r
 | .go j5 =>
  some (-1)
theorem MF.q6w.le (n:Nat) (p0:List (List UInt8)) (p1:List UInt8):Le (MF.q6w n p0 p1) (M.q6w p0 p1):=by
 unfold MF.q6w M.q6w
 repeat' first|(with_reducible exact Le.refl _)|(with_reducible exact MF.zj.le n _ _ _)|(with_reducible refine Le.jn ?_ (fun _ => ?_) fun _ => ?_)|(with_reducible refine Le.rs ?_ (fun _ => ?_) fun _ => ?_)|(with_reducible refine Le.rb ?_ (fun _ _ => ?_) fun _ => ?_)|(with_reducible refine Le.bind ?_ fun _ => ?_)|(with_reducible refine Le.ite ?_ ?_)|dsimp only|split
noncomputable def MF.q6r (n:Nat) (p0:List (List UInt8)) (p1:List UInt8):Option Bool:=do
 let a1←MF.q6w n p0 p1
 some (decide (0≤a1))
theorem MF.q6r.le (n:Nat) (p0:List (List UInt8)) (p1:List UInt8):Le (MF.q6r n p0 p1) (M.q6r p0 p1):=by
 unfold MF.q6r M.q6r
 repeat' first|(with_reducible exact Le.refl _)|(with_reducible exact MF.q6w.le n _ _)|(with_reducible refine Le.jn ?_ (fun _ => ?_) fun _ => ?_)|(with_reducible refine Le.rs ?_ (fun _ => ?_) fun _ => ?_)|(with_reducible refine Le.rb ?_ (fun _ _ => ?_) fun _ => ?_)|(with_reducible refine Le.bind ?_ fun _ => ?_)|(with_reducible refine Le.ite ?_ ?_)|dsimp only|split
noncomputable def MB.zv (n:Nat) (ih:(Int)→(q0c→Int→Option (Rs (q04 × q0c)))→(Int)→(List UInt8)→(List UInt8)→(List q04)→(List (List UInt8))→Option (Rs (q04 × q0c))) (p1:Int) (self_q3m:q0c→Int→Option (Rs (q04 × q0c))) (p2:Int) (p3:List UInt8) (x79:List UInt8) (x80:List q04) (x81:List (List UInt8)):Option (Rs (q04 × q0c)):=do
 let q190←(do
   if (decide (p1=6)) then
    let a191←MF.q3k n (q0c.mk x79)
    match a191 with
    | .pan e194 =>
     some (.done (.pan e194))
    | .ok a193 =>
     let a195←MF.q6r n x81 a193.1
     let j201←(do
       if (!a195) then
        let a202←M.q3j a193.2 ([58]:List UInt8)
        some (a202.1,a202.2.gs)
       else
        some (false,a193.2.gs):Option (Bool × (List UInt8)))
     let a204←M.q3d j201.1 20
     match a204 with
     | .pan e207 =>
      some (.done (.pan e207))
     | .ok a206 =>
      let l208←app 16 x81 [a193.1]
      some (.go (j201.2,l208))
   else
    some (.go (x79,x81)):Option (Jn (Rs (q04 × q0c)) ((List UInt8) × (List (List UInt8)))))
 match q190 with
 | .done r=>some r
 | .go j190 =>
  let a209←self_q3m (q0c.mk j190.1) (ya .i64 (p2+1))
  match a209 with
  | .pan e212 =>
   some (.pan e212)
  | .ok a211 =>
   let l213←app 72 x80 [(q04.mk a211.1.zk a211.1.z0h a211.1.z09 a211.1.z1m)]
   let a214←M.q3j a211.2 p3
   if a214.1 then
    some (.ok ((q04.mk p1 ([]:List UInt8) l213 j190.2),a214.2))
   else
    let a216←M.q3j a214.2 ([44]:List UInt8)
    let a218←M.q3d a216.1 20
    match a218 with
    | .pan e221 =>
     some (.pan e221)
    | .ok a220 =>
     ih p1 self_q3m p2 p3 a216.2.gs l213 j190.2
noncomputable def MF.zv (n:Nat):(Int)→(q0c→Int→Option (Rs (q04 × q0c)))→(Int)→(List UInt8)→(List UInt8)→(List q04)→(List (List UInt8))→Option (Rs (q04 × q0c)):=Nat.rec (motive:=fun _=>(Int)→(q0c→Int→Option (Rs (q04 × q0c)))→(Int)→(List UInt8)→(List UInt8)→(List q04)→(List (List UInt8))→Option (Rs (q04 × q0c))) (fun _ _ _ _ _ _ _=>none) (fun n ih=>MB.zv n ih) n
theorem MF.zv.le {self_q3m:q0c→Int→Option (Rs (q04 × q0c))} {self_json_reader_value':q0c→Int→Option (Rs (q04 × q0c))} (hs0:∀ a0 a1,Le (self_q3m a0 a1) (self_json_reader_value' a0 a1)):∀ (n:Nat) (p1:Int) (p2:Int) (p3:List UInt8) (x79:List UInt8) (x80:List q04) (x81:List (List UInt8)),Le (MF.zv n p1 self_q3m p2 p3 x79 x80 x81) (M.zv p1 self_json_reader_value' p2 p3 x79 x80 x81):=by
 intro n;induction n with
 | zero=>intros;exact Le.none _
 | succ n ih =>
  intro p1 p2 p3 x79 x80 x81
  show Le (MB.zv n (MF.zv n) p1 self_q3m p2 p3 x79 x80 x81) _
  rw [M.zv];unfold MB.zv
  repeat' first|(with_reducible exact Le.refl _)|(with_reducible exact hs0 _ _)|(with_reducible exact ih _ _ _ _ _ _)|(with_reducible exact MF.q3k.le n _)|(with_reducible exact MF.q6r.le n _ _)|(with_reducible refine Le.jn ?_ (fun _ => ?_) fun _ => ?_)|(with_reducible refine Le.rs ?_ (fun _ => ?_) fun _ => ?_)|(with_reducible refine Le.rb ?_ (fun _ _ => ?_) fun _ => ?_)|(with_reducible refine Le.bind ?_ fun _ => ?_)|(with_reducible refine Le.ite ?_ ?_)|dsimp only|split
noncomputable def MB.z00 (n:Nat) (ih:(Int)→(List UInt8)→Option (Jn (Rs (q04 × q0c)) (List UInt8))) (x53:Int) (x54:List UInt8):Option (Jn (Rs (q04 × q0c)) (List UInt8)):=do
 if (decide (x53<([([110,117,108,108]:List UInt8),([102,97,108,115,101]:List UInt8),([116,114,117,101]:List UInt8)].length:Int))) then
  let x58←ix [([110,117,108,108]:List UInt8),([102,97,108,115,101]:List UInt8),([116,114,117,101]:List UInt8)] x53
  let a59←M.q3j (q0c.mk x54) x58
  if a59.1 then
   some (.done (.ok ((q04.mk x53 ([]:List UInt8) ([]:List q04) ([]:List (List UInt8))),a59.2)))
  else
   ih (ya .i64 (x53+1)) a59.2.gs
 else
  some (.go x54)
noncomputable def MF.z00 (n:Nat):(Int)→(List UInt8)→Option (Jn (Rs (q04 × q0c)) (List UInt8)):=Nat.rec (motive:=fun _=>(Int)→(List UInt8)→Option (Jn (Rs (q04 × q0c)) (List UInt8))) (fun _ _=>none) (fun n ih=>MB.z00 n ih) n
theorem MF.z00.le:∀ (n:Nat) (x53:Int) (x54:List UInt8),Le (MF.z00 n x53 x54) (M.z00 x53 x54):=by
 intro n;induction n with
 | zero=>intros;exact Le.none _
 | succ n ih =>
  intro x53 x54
  show Le (MB.z00 n (MF.z00 n) x53 x54) _
  rw [M.z00];unfold MB.z00
  repeat' first|(with_reducible exact Le.refl _)|(with_reducible exact ih _ _)|(with_reducible refine Le.jn ?_ (fun _ => ?_) fun _ => ?_)|(with_reducible refine Le.rs ?_ (fun _ => ?_) fun _ => ?_)|(with_reducible refine Le.rb ?_ (fun _ _ => ?_) fun _ => ?_)|(with_reducible refine Le.bind ?_ fun _ => ?_)|(with_reducible refine Le.ite ?_ ?_)|dsimp only|split
mutual
noncomputable def MF.q3i (n:Nat):Nat→q0c→Int→Int→(List UInt8)→Option (Rs (q04 × q0c))
 | 0,_,_,_,_=>none
 | fuel+1,p0,p1,p2,p3=>do
  let a1←M.q3d (decide (p2<16)) 21
  match a1 with
  | .pan e4 =>
   some (.pan e4)
  | .ok a3 =>
   let a7←M.q3j p0 p3
   if a7.1 then
    some (.ok ((q04.mk p1 ([]:List UInt8) ([]:List q04) ([]:List (List UInt8))),a7.2))
   else
    MF.zv n p1 (MF.q3m n fuel) p2 p3 a7.2.gs [] []
noncomputable def MF.q3m (n:Nat):Nat→q0c→Int→Option (Rs (q04 × q0c))
 | 0,_,_=>none
 | fuel+1,p0,p1=>do
  let a19←M.q72 p0.gs ([34]:List UInt8)
  if a19 then
   let a21←MF.q3k n p0
   match a21 with
   | .pan e24 =>
    some (.pan e24)
   | .ok a23 =>
    some (.ok ((q04.mk 4 a23.1 ([]:List q04) ([]:List (List UInt8))),a23.2))
  else
   let a25←M.q3j p0 ([91]:List UInt8)
   if a25.1 then
    let a27←(MF.q3i n fuel) a25.2 5 p1 ([93]:List UInt8)
    match a27 with
    | .pan e30 =>
     some (.pan e30)
    | .ok a29 =>
     some (.ok (a29.1,a29.2))
   else
    let a31←M.q3j a25.2 ([123]:List UInt8)
    if a31.1 then
     let a33←(MF.q3i n fuel) a31.2 6 p1 ([125]:List UInt8)
     match a33 with
     | .pan e36 =>
      some (.pan e36)
     | .ok a35 =>
      some (.ok (a35.1,a35.2))
    else
     let q49←(do
       MF.z00 n 0 a31.2.gs:Option (Jn (Rs (q04 × q0c)) (List UInt8)))
     match q49 with
     | .done r=>some r
     | .go j49 =>
      let a61←M.q3e j49
      let a63←M.q3d (decide (0<a61)) 20
      match a63 with
      | .pan e66 =>
       some (.pan e66)
      | .ok a65 =>
       let s67←sub j49 0 a61
       let a68←M.q3j (q0c.mk j49) s67
       some (.ok ((q04.mk 3 s67 ([]:List q04) ([]:List (List UInt8))),a68.2))
end
theorem MF.q3i.les (n:Nat):∀ fuel:Nat,(∀ a1 a2 a3 a4,Le (MF.q3i n fuel a1 a2 a3 a4) (M.q3i fuel a1 a2 a3 a4))∧(∀ a1 a2,Le (MF.q3m n fuel a1 a2) (M.q3m fuel a1 a2)):=by
 intro fuel;induction fuel with
 | zero=>exact ⟨fun _ _ _ _=>Le.znm (by first|rfl|simp [MF.q3i]),fun _ _=>Le.znm (by first|rfl|simp [MF.q3m])⟩
 | succ fuel ih =>
  refine ⟨?_,?_⟩
  ·intro a1 a2 a3 a4
   rw [MF.q3i,M.q3i]
   repeat' first|(with_reducible exact Le.refl _)|(with_reducible exact ih.1 _ _ _ _)|(with_reducible exact ih.2 _ _)|(with_reducible exact MF.zv.le (ih.2) n _ _ _ _ _ _)|(with_reducible refine Le.jn ?_ (fun _ => ?_) fun _ => ?_)|(with_reducible refine Le.rs ?_ (fun _ => ?_) fun _ => ?_)|(with_reducible refine Le.rb ?_ (fun _ _ => ?_) fun _ => ?_)|(with_reducible refine Le.bind ?_ fun _ => ?_)|(with_reducible refine Le.ite ?_ ?_)|dsimp only|split
  ·intro a1 a2
   rw [MF.q3m,M.q3m]
   repeat' first|(with_reducible exact Le.refl _)|(with_reducible exact ih.1 _ _ _ _)|(with_reducible exact ih.2 _ _)|(with_reducible exact MF.q3k.le n _)|(with_reducible exact MF.z00.le n _ _)|(with_reducible refine Le.jn ?_ (fun _ => ?_) fun _ => ?_)|(with_reducible refine Le.rs ?_ (fun _ => ?_) fun _ => ?_)|(with_reducible refine Le.rb ?_ (fun _ _ => ?_) fun _ => ?_)|(with_reducible refine Le.bind ?_ fun _ => ?_)|(with_reducible refine Le.ite ?_ ?_)|dsimp only|split
theorem MF.q3m.le (n fuel:Nat) (a1:q0c) (a2:Int):Le (MF.q3m n fuel a1 a2) (M.q3m fuel a1 a2):=(MF.q3i.les n fuel).2 a1 a2
noncomputable def MF.q35 (n:Nat) (fuel:Nat) (p0:List UInt8):Option (q04 × Int):=do
 if (decide (16384<(p0.length:Int))) then
  some ((q04.mk 0 ([]:List UInt8) ([]:List q04) ([]:List (List UInt8))),22)
 else
  let a1←M.q3g (q0c.mk p0)
  let a3←MF.q3m n fuel a1 0
  match a3 with
  | .pan e6 =>
   some ((q04.mk 0 ([]:List UInt8) ([]:List q04) ([]:List (List UInt8))),e6)
  | .ok a5 =>
   let a7←M.q3d (decide (a5.2.gs=([]:List UInt8))) 20
   match a7 with
   | .pan e10 =>
    some ((q04.mk 0 ([]:List UInt8) ([]:List q04) ([]:List (List UInt8))),e10)
   | .ok a9 =>
    some (a5.1,0)
theorem MF.q35.le (n:Nat) (fuel:Nat) (p0:List UInt8):Le (MF.q35 n fuel p0) (M.q35 fuel p0):=by
 unfold MF.q35 M.q35
 repeat' first|(with_reducible exact Le.refl _)|(with_reducible exact MF.q3m.le n _ _ _)|(with_reducible refine Le.jn ?_ (fun _ => ?_) fun _ => ?_)|(with_reducible refine Le.rs ?_ (fun _ => ?_) fun _ => ?_)|(with_reducible refine Le.rb ?_ (fun _ _ => ?_) fun _ => ?_)|(with_reducible refine Le.bind ?_ fun _ => ?_)|(with_reducible refine Le.ite ?_ ?_)|dsimp only|split
noncomputable def MF.q34 (n:Nat) (p0:q04) (p1:List UInt8):Option (q04 × Bool):=do
 let a1←MF.q6w n p0.z1m p1
 if (((decide (p0.zk=6))&&(decide (0≤a1)))&&(decide (a1<(p0.z09.length:Int)))) then
  let x7←ix p0.z09 a1
  some (x7,true)
 else
  some ((q04.mk 0 ([]:List UInt8) [] []),false)
theorem MF.q34.le (n:Nat) (p0:q04) (p1:List UInt8):Le (MF.q34 n p0 p1) (M.q34 p0 p1):=by
 unfold MF.q34 M.q34
 repeat' first|(with_reducible exact Le.refl _)|(with_reducible exact MF.q6w.le n _ _)|(with_reducible refine Le.jn ?_ (fun _ => ?_) fun _ => ?_)|(with_reducible refine Le.rs ?_ (fun _ => ?_) fun _ => ?_)|(with_reducible refine Le.rb ?_ (fun _ _ => ?_) fun _ => ?_)|(with_reducible refine Le.bind ?_ fun _ => ?_)|(with_reducible refine Le.ite ?_ ?_)|dsimp only|split
noncomputable def MB.z1a (n:Nat) (ih:(q04)→(List (List UInt8))→(Int)→Option (Jn ((List (List UInt8)) × Bool) (List (List UInt8)))) (p0:q04) (x13:List (List UInt8)) (x14:Int):Option (Jn ((List (List UInt8)) × Bool) (List (List UInt8))):=do
 if (decide (x14<(p0.z09.length:Int))) then
  let x17←ix p0.z09 x14
  if (!decide (x17.zk=4)) then
   some (.done ([],false))
  else
   let l18←app 16 x13 [x17.z0h]
   ih p0 l18 (ya .i64 (x14+1))
 else
  some (.go x13)
noncomputable def MF.z1a (n:Nat):(q04)→(List (List UInt8))→(Int)→Option (Jn ((List (List UInt8)) × Bool) (List (List UInt8))):=Nat.rec (motive:=fun _=>(q04)→(List (List UInt8))→(Int)→Option (Jn ((List (List UInt8)) × Bool) (List (List UInt8)))) (fun _ _ _=>none) (fun n ih=>MB.z1a n ih) n
theorem MF.z1a.le:∀ (n:Nat) (p0:q04) (x13:List (List UInt8)) (x14:Int),Le (MF.z1a n p0 x13 x14) (M.z1a p0 x13 x14):=by
 intro n;induction n with
 | zero=>intros;exact Le.none _
 | succ n ih =>
  intro p0 x13 x14
  show Le (MB.z1a n (MF.z1a n) p0 x13 x14) _
  rw [M.z1a];unfold MB.z1a
  repeat' first|(with_reducible exact Le.refl _)|(with_reducible exact ih _ _ _)|(with_reducible refine Le.jn ?_ (fun _ => ?_) fun _ => ?_)|(with_reducible refine Le.rs ?_ (fun _ => ?_) fun _ => ?_)|(with_reducible refine Le.rb ?_ (fun _ _ => ?_) fun _ => ?_)|(with_reducible refine Le.bind ?_ fun _ => ?_)|(with_reducible refine Le.ite ?_ ?_)|dsimp only|split
noncomputable def MF.q37 (n:Nat) (p0:q04):Option ((List (List UInt8)) × Bool):=do
 if (!decide (p0.zk=5)) then
  some ([],false)
 else
  let q10←(do
    MF.z1a n p0 [] 0:Option (Jn ((List (List UInt8)) × Bool) (List (List UInt8))))
  match q10 with
  | .done r=>some r
  | .go j10 =>
   some (j10,true)
theorem MF.q37.le (n:Nat) (p0:q04):Le (MF.q37 n p0) (M.q37 p0):=by
 unfold MF.q37 M.q37
 repeat' first|(with_reducible exact Le.refl _)|(with_reducible exact MF.z1a.le n _ _ _)|(with_reducible refine Le.jn ?_ (fun _ => ?_) fun _ => ?_)|(with_reducible refine Le.rs ?_ (fun _ => ?_) fun _ => ?_)|(with_reducible refine Le.rb ?_ (fun _ _ => ?_) fun _ => ?_)|(with_reducible refine Le.bind ?_ fun _ => ?_)|(with_reducible refine Le.ite ?_ ?_)|dsimp only|split
noncomputable def MB.z18 (n:Nat) (ih:(q04)→(List q02)→(Int)→Option (Jn ((List q02) × Bool) (List q02))) (p0:q04) (x41:List q02) (x42:Int):Option (Jn ((List q02) × Bool) (List q02)):=do
 if (decide (x42<(p0.z09.length:Int))) then
  let x52←ix p0.z09 x42
  let a53←MF.q37 n x52
  if ((!a53.2)||(!decide (p0.zk=6))) then
   some (.done ([],false))
  else
   let x59←ix p0.z1m x42
   let l60←app 40 x41 [(q02.mk x59 a53.1)]
   ih p0 l60 (ya .i64 (x42+1))
 else
  some (.go x41)
noncomputable def MF.z18 (n:Nat):(q04)→(List q02)→(Int)→Option (Jn ((List q02) × Bool) (List q02)):=Nat.rec (motive:=fun _=>(q04)→(List q02)→(Int)→Option (Jn ((List q02) × Bool) (List q02))) (fun _ _ _=>none) (fun n ih=>MB.z18 n ih) n
theorem MF.z18.le:∀ (n:Nat) (p0:q04) (x41:List q02) (x42:Int),Le (MF.z18 n p0 x41 x42) (M.z18 p0 x41 x42):=by
 intro n;induction n with
 | zero=>intros;exact Le.none _
 | succ n ih =>
  intro p0 x41 x42
  show Le (MB.z18 n (MF.z18 n) p0 x41 x42) _
  rw [M.z18];unfold MB.z18
  repeat' first|(with_reducible exact Le.refl _)|(with_reducible exact ih _ _ _)|(with_reducible exact MF.q37.le n _)|(with_reducible refine Le.jn ?_ (fun _ => ?_) fun _ => ?_)|(with_reducible refine Le.rs ?_ (fun _ => ?_) fun _ => ?_)|(with_reducible refine Le.rb ?_ (fun _ _ => ?_) fun _ => ?_)|(with_reducible refine Le.bind ?_ fun _ => ?_)|(with_reducible refine Le.ite ?_ ?_)|dsimp only|split
noncomputable def MF.q1m (n:Nat) (p0:q04):Option ((List q02) × Bool):=do
 let q31←(do
   MF.z18 n p0 [] 0:Option (Jn ((List q02) × Bool) (List q02)))
 match q31 with
 | .done r=>some r
 | .go j31 =>
  some (j31,(decide (p0.zk=6)))
theorem MF.q1m.le (n:Nat) (p0:q04):Le (MF.q1m n p0) (M.q1m p0):=by
 unfold MF.q1m M.q1m
 repeat' first|(with_reducible exact Le.refl _)|(with_reducible exact MF.z18.le n _ _ _)|(with_reducible refine Le.jn ?_ (fun _ => ?_) fun _ => ?_)|(with_reducible refine Le.rs ?_ (fun _ => ?_) fun _ => ?_)|(with_reducible refine Le.rb ?_ (fun _ _ => ?_) fun _ => ?_)|(with_reducible refine Le.bind ?_ fun _ => ?_)|(with_reducible refine Le.ite ?_ ?_)|dsimp only|split
noncomputable def MF.q26 (n:Nat) (fuel:Nat) (p0:q0a) (p1:q03):Option (q00 × Int):=do
 let a1←MF.q28 n p0 p1.z1p (q00.mk p0.zej ([]:List UInt8) ([]:List UInt8) ([]:List UInt8) ([]:List UInt8) ([]:List UInt8) ([]:List UInt8) ([]:List UInt8) ([]:List UInt8) ([]:List UInt8) ([]:List UInt8) ([]:List UInt8) ([]:List UInt8) ([]:List UInt8) ([]:List UInt8) ([]:List UInt8) ([]:List UInt8) ([]:List UInt8) ([]:List UInt8) ([]:List UInt8) ([]:List UInt8) ([]:List UInt8) ([]:List UInt8) [] 0 0)
 let a3←MF.q2b n p0 p1.z22 a1.2
 match a3 with
 | .pan e6 p7 =>
  some (p7,e6)
 | .ok a5 =>
  let a10←M.q1p ((decide (p0.z34=2))||(decide ((p1.z2n.length:Int)=0))) 227
  match a10 with
  | .pan e13 =>
   some (a5,e13)
  | .ok a12 =>
   if (decide (p0.z34=0)) then
    let a14←M.q1p (decide (p1.z0c=([]:List UInt8))) 227
    match a14 with
    | .pan e17 =>
     some (a5,e17)
    | .ok a16 =>
     some (a5,0)
   else
    if (decide (p0.z34=2)) then
     let a18←M.q1p (decide (p1.z0c=([]:List UInt8))) 227
     match a18 with
     | .pan e21 =>
      some (a5,e21)
     | .ok a20 =>
      let a22←MF.q29 n p0 p1.z2n a5
      match a22 with
      | .pan e25 p26 =>
       some (p26,e25)
      | .ok a24 =>
       some (a24,0)
    else
     if (decide (p0.z34=1)) then
      let a27←MF.q0k n p1.z0c
      let a29←M.q1p (decide (a27.2=0)) 227
      match a29 with
      | .pan e32 =>
       some (a5,e32)
      | .ok a31 =>
       let a33←MF.q29 n p0 a27.1 a5
       match a33 with
       | .pan e36 p37 =>
        some (p37,e36)
       | .ok a35 =>
        some (a35,0)
     else
      if (decide (p0.z34=4)) then
       some ((q00.mk a5.zk a5.gOf a5.z2a a5.z25 a5.z0f a5.z1d a5.z1u a5.z1h a5.zu a5.z0k a5.zq a5.z04 a5.zp a5.zl a5.zt a5.z0a a5.z0y a5.z2d a5.z0c a5.z47 a5.z3y a5.z0j p1.z0c a5.z0d a5.z2e a5.z1j),0)
      else
       if (decide (p0.z34=3)) then
        let a38←MF.q35 n fuel p1.z0c
        let a40←MF.q34 n a38.1 ([105,100]:List UInt8)
        let a42←MF.q34 n a38.1 ([102,105,101,108,100,115]:List UInt8)
        let a44←MF.q1m n a42.1
        let a56←M.q1p ((((((decide (a38.2=0))&&(decide ((a38.1.z09.length:Int)=2)))&&a40.2)&&a42.2)&&(decide (a40.1.zk=4)))&&a44.2) 227
        match a56 with
        | .pan e59 =>
         some (a5,e59)
        | .ok a58 =>
         some ((q00.mk a5.zk a5.gOf a5.z2a a5.z25 a5.z0f a5.z1d a5.z1u a5.z1h a5.zu a5.z0k a5.zq a5.z04 a5.zp a5.zl a5.zt a5.z0a a40.1.z0h a5.z2d a5.z0c a5.z47 a5.z3y a5.z0j a5.z1i a44.1 a5.z2e a5.z1j),0)
       else
        some (a5,0)
theorem MF.q26.le (n:Nat) (fuel:Nat) (p0:q0a) (p1:q03):Le (MF.q26 n fuel p0 p1) (M.q26 fuel p0 p1):=by
 unfold MF.q26 M.q26
 repeat' first|(with_reducible exact Le.refl _)|(with_reducible exact MF.q28.le n _ _ _)|(with_reducible exact MF.q2b.le n _ _ _)|(with_reducible exact MF.q29.le n _ _ _)|(with_reducible exact MF.q0k.le n _)|(with_reducible exact MF.q35.le n _ _)|(with_reducible exact MF.q34.le n _ _)|(with_reducible exact MF.q1m.le n _)|(with_reducible refine Le.jn ?_ (fun _ => ?_) fun _ => ?_)|(with_reducible refine Le.rs ?_ (fun _ => ?_) fun _ => ?_)|(with_reducible refine Le.rb ?_ (fun _ _ => ?_) fun _ => ?_)|(with_reducible refine Le.bind ?_ fun _ => ?_)|(with_reducible refine Le.ite ?_ ?_)|dsimp only|split
noncomputable def MB.z1g (n:Nat) (ih:((List q0a))→(q03)→(Nat)→(Int)→(Int)→Option (Jn (q00 × Int) Int)) (a28:(List q0a)) (p0:q03) (fuel:Nat) (x37:Int) (x38:Int):Option (Jn (q00 × Int) Int):=do
 if (decide (x38<(a28.length:Int))) then
  let x46←ix a28 x38
  let a49←MF.q28 n x46 p0.z1p (q00.mk 0 ([]:List UInt8) ([]:List UInt8) ([]:List UInt8) ([]:List UInt8) ([]:List UInt8) ([]:List UInt8) ([]:List UInt8) ([]:List UInt8) ([]:List UInt8) ([]:List UInt8) ([]:List UInt8) ([]:List UInt8) ([]:List UInt8) ([]:List UInt8) ([]:List UInt8) ([]:List UInt8) ([]:List UInt8) ([]:List UInt8) ([]:List UInt8) ([]:List UInt8) ([]:List UInt8) ([]:List UInt8) [] 0 0)
  if (!a49.1) then
   ih a28 p0 fuel x37 (ya .i64 (x38+1))
  else
   if (!decide (x46.z4p=p0.z0e)) then
    if (decide (x37=225)) then
     ih a28 p0 fuel 226 (ya .i64 (x38+1))
    else
     ih a28 p0 fuel x37 (ya .i64 (x38+1))
   else
    let a51←MF.q26 n fuel x46 p0
    if (decide (a51.2=0)) then
     some (.done (a51.1,0))
    else
     ih a28 p0 fuel a51.2 (ya .i64 (x38+1))
 else
  some (.go x37)
noncomputable def MF.z1g (n:Nat):((List q0a))→(q03)→(Nat)→(Int)→(Int)→Option (Jn (q00 × Int) Int):=Nat.rec (motive:=fun _=>((List q0a))→(q03)→(Nat)→(Int)→(Int)→Option (Jn (q00 × Int) Int)) (fun _ _ _ _ _=>none) (fun n ih=>MB.z1g n ih) n
theorem MF.z1g.le:∀ (n:Nat) (a28:(List q0a)) (p0:q03) (fuel:Nat) (x37:Int) (x38:Int),Le (MF.z1g n a28 p0 fuel x37 x38) (M.z1g a28 p0 fuel x37 x38):=by
 intro n;induction n with
 | zero=>intros;exact Le.none _
 | succ n ih =>
  intro a28 p0 fuel x37 x38
  show Le (MB.z1g n (MF.z1g n) a28 p0 fuel x37 x38) _
  rw [M.z1g];unfold MB.z1g
  repeat' first|(with_reducible exact Le.refl _)|(with_reducible exact ih _ _ _ _ _)|(with_reducible exact MF.q28.le n _ _ _)|(with_reducible exact MF.q26.le n _ _ _)|(with_reducible refine Le.jn ?_ (fun _ => ?_) fun _ => ?_)|(with_reducible refine Le.rs ?_ (fun _ => ?_) fun _ => ?_)|(with_reducible refine Le.rb ?_ (fun _ _ => ?_) fun _ => ?_)|(with_reducible refine Le.bind ?_ fun _ => ?_)|(with_reducible refine Le.ite ?_ ?_)|dsimp only|split
noncomputable def MF.q0r (n:Nat) (fuel:Nat) (p0:q03):Option (q00 × Int):=do
 let q27←(do
   let a28←M.q2e
   MF.z1g n a28 p0 fuel 225 0:Option (Jn (q00 × Int) Int))
 match q27 with
 | .done r=>some r
 | .go j27 =>
  some ((q00.mk 0 ([]:List UInt8) ([]:List UInt8) ([]:List UInt8) ([]:List UInt8) ([]:List UInt8) ([]:List UInt8) ([]:List UInt8) ([]:List UInt8) ([]:List UInt8) ([]:List UInt8) ([]:List UInt8) ([]:List UInt8) ([]:List UInt8) ([]:List UInt8) ([]:List UInt8) ([]:List UInt8) ([]:List UInt8) ([]:List UInt8) ([]:List UInt8) ([]:List UInt8) ([]:List UInt8) ([]:List UInt8) [] 0 0),j27)
theorem MF.q0r.le (n:Nat) (fuel:Nat) (p0:q03):Le (MF.q0r n fuel p0) (M.q0r fuel p0):=by
 unfold MF.q0r M.q0r
 repeat' first|(with_reducible exact Le.refl _)|(with_reducible exact MF.z1g.le n _ _ _ _ _)|(with_reducible refine Le.jn ?_ (fun _ => ?_) fun _ => ?_)|(with_reducible refine Le.rs ?_ (fun _ => ?_) fun _ => ?_)|(with_reducible refine Le.rb ?_ (fun _ _ => ?_) fun _ => ?_)|(with_reducible refine Le.bind ?_ fun _ => ?_)|(with_reducible refine Le.ite ?_ ?_)|dsimp only|split
noncomputable def MB.z14 (n:Nat) (ih:(q06)→(Int)→Option (Jn ((List UInt8) × Int) Unit)) (p0:q06) (x15:Int):Option (Jn ((List UInt8) × Int) Unit):=do
 if (decide (x15<([p0.z1d,p0.z1s,p0.z1t,p0.z2v].length:Int))) then
  let x19←ix [p0.z1d,p0.z1s,p0.z1t,p0.z2v] x15
  if ((decide (x19<0))||(decide (1000000000000000≤x19))) then
   some (.done (([]:List UInt8),224))
  else
   ih p0 (ya .i64 (x15+1))
 else
  some (.go ())
noncomputable def MF.z14 (n:Nat):(q06)→(Int)→Option (Jn ((List UInt8) × Int) Unit):=Nat.rec (motive:=fun _=>(q06)→(Int)→Option (Jn ((List UInt8) × Int) Unit)) (fun _ _=>none) (fun n ih=>MB.z14 n ih) n
theorem MF.z14.le:∀ (n:Nat) (p0:q06) (x15:Int),Le (MF.z14 n p0 x15) (M.z14 p0 x15):=by
 intro n;induction n with
 | zero=>intros;exact Le.none _
 | succ n ih =>
  intro p0 x15
  show Le (MB.z14 n (MF.z14 n) p0 x15) _
  rw [M.z14];unfold MB.z14
  repeat' first|(with_reducible exact Le.refl _)|(with_reducible exact ih _ _)|(with_reducible refine Le.jn ?_ (fun _ => ?_) fun _ => ?_)|(with_reducible refine Le.rs ?_ (fun _ => ?_) fun _ => ?_)|(with_reducible refine Le.rb ?_ (fun _ _ => ?_) fun _ => ?_)|(with_reducible refine Le.bind ?_ fun _ => ?_)|(with_reducible refine Le.ite ?_ ?_)|dsimp only|split
noncomputable def MB.z1k (n:Nat) (ih:(q06)→(Int)→(Int)→(List UInt8)→(List q04)→(List (List UInt8))→Option (Int × (List UInt8) × (List q04) × (List (List UInt8)))) (p0:q06) (x37:Int) (x38:Int) (x39:List UInt8) (x40:List q04) (x41:List (List UInt8)):Option (Int × (List UInt8) × (List q04) × (List (List UInt8))):=do
 if (decide (x37<([(q05.mk ([103,114,97,110,116]:List UInt8) p0.z3m),(q05.mk ([97,99,99,101,115,115,95,116,111,107,101,110]:List UInt8) p0.z2o),(q05.mk ([114,101,102,114,101,115,104,95,116,111,107,101,110]:List UInt8) p0.z29),(q05.mk ([105,100,95,116,111,107,101,110]:List UInt8) p0.gId),(q05.mk ([116,101,120,116]:List UInt8) p0.z0h)].length:Int))) then
  let x47←ix [(q05.mk ([103,114,97,110,116]:List UInt8) p0.z3m),(q05.mk ([97,99,99,101,115,115,95,116,111,107,101,110]:List UInt8) p0.z2o),(q05.mk ([114,101,102,114,101,115,104,95,116,111,107,101,110]:List UInt8) p0.z29),(q05.mk ([105,100,95,116,111,107,101,110]:List UInt8) p0.gId),(q05.mk ([116,101,120,116]:List UInt8) p0.z0h)] x37
  let a48←M.q2m x47.z3q
  let a50←M.q1n (q08.mk (q04.mk x38 x39 x40 x41)) (!decide (x47.z3q=([]:List UInt8))) x47.z0y a48
  ih p0 (ya .i64 (x37+1)) a50.zn.zk a50.zn.z0h a50.zn.z09 a50.zn.z1m
 else
  some (x38,x39,x40,x41)
noncomputable def MF.z1k (n:Nat):(q06)→(Int)→(Int)→(List UInt8)→(List q04)→(List (List UInt8))→Option (Int × (List UInt8) × (List q04) × (List (List UInt8))):=Nat.rec (motive:=fun _=>(q06)→(Int)→(Int)→(List UInt8)→(List q04)→(List (List UInt8))→Option (Int × (List UInt8) × (List q04) × (List (List UInt8)))) (fun _ _ _ _ _ _=>none) (fun n ih=>MB.z1k n ih) n
theorem MF.z1k.le:∀ (n:Nat) (p0:q06) (x37:Int) (x38:Int) (x39:List UInt8) (x40:List q04) (x41:List (List UInt8)),Le (MF.z1k n p0 x37 x38 x39 x40 x41) (M.z1k p0 x37 x38 x39 x40 x41):=by
 intro n;induction n with
 | zero=>intros;exact Le.none _
 | succ n ih =>
  intro p0 x37 x38 x39 x40 x41
  show Le (MB.z1k n (MF.z1k n) p0 x37 x38 x39 x40 x41) _
  rw [M.z1k];unfold MB.z1k
  repeat' first|(with_reducible exact Le.refl _)|(with_reducible exact ih _ _ _ _ _ _)|(with_reducible refine Le.jn ?_ (fun _ => ?_) fun _ => ?_)|(with_reducible refine Le.rs ?_ (fun _ => ?_) fun _ => ?_)|(with_reducible refine Le.rb ?_ (fun _ _ => ?_) fun _ => ?_)|(with_reducible refine Le.bind ?_ fun _ => ?_)|(with_reducible refine Le.ite ?_ ?_)|dsimp only|split
noncomputable def MB.z19 (n:Nat) (ih:(List (List UInt8))→(Int)→(List q04)→Option (List q04)) (p0:List (List UInt8)) (x21:Int) (x22:List q04):Option (List q04):=do
 if (decide (x21<(p0.length:Int))) then
  let x27←ix p0 x21
  let a28←M.q2m x27
  let l30←app 72 x22 [(q04.mk a28.zk a28.z0h a28.z09 a28.z1m)]
  ih p0 (ya .i64 (x21+1)) l30
 else
  some x22
noncomputable def MF.z19 (n:Nat):(List (List UInt8))→(Int)→(List q04)→Option (List q04):=Nat.rec (motive:=fun _=>(List (List UInt8))→(Int)→(List q04)→Option (List q04)) (fun _ _ _=>none) (fun n ih=>MB.z19 n ih) n
theorem MF.z19.le:∀ (n:Nat) (p0:List (List UInt8)) (x21:Int) (x22:List q04),Le (MF.z19 n p0 x21 x22) (M.z19 p0 x21 x22):=by
 intro n;induction n with
 | zero=>intros;exact Le.none _
 | succ n ih =>
  intro p0 x21 x22
  show Le (MB.z19 n (MF.z19 n) p0 x21 x22) _
  rw [M.z19];unfold MB.z19
  repeat' first|(with_reducible exact Le.refl _)|(with_reducible exact ih _ _ _)|(with_reducible refine Le.jn ?_ (fun _ => ?_) fun _ => ?_)|(with_reducible refine Le.rs ?_ (fun _ => ?_) fun _ => ?_)|(with_reducible refine Le.rb ?_ (fun _ _ => ?_) fun _ => ?_)|(with_reducible refine Le.bind ?_ fun _ => ?_)|(with_reducible refine Le.ite ?_ ?_)|dsimp only|split
noncomputable def MF.q2n (n:Nat) (p0:List (List UInt8)):Option q04:=do
 let j16←(do
   MF.z19 n p0 0 []:Option (List q04))
 some (q04.mk 5 ([]:List UInt8) j16 [])
theorem MF.q2n.le (n:Nat) (p0:List (List UInt8)):Le (MF.q2n n p0) (M.q2n p0):=by
 unfold MF.q2n M.q2n
 repeat' first|(with_reducible exact Le.refl _)|(with_reducible exact MF.z19.le n _ _ _)|(with_reducible refine Le.jn ?_ (fun _ => ?_) fun _ => ?_)|(with_reducible refine Le.rs ?_ (fun _ => ?_) fun _ => ?_)|(with_reducible refine Le.rb ?_ (fun _ _ => ?_) fun _ => ?_)|(with_reducible refine Le.bind ?_ fun _ => ?_)|(with_reducible refine Le.ite ?_ ?_)|dsimp only|split
noncomputable def MB.z0o (n:Nat) (ih:(q01)→(Int)→(Int)→(List UInt8)→(List q04)→(List (List UInt8))→Option (Int × (List UInt8) × (List q04) × (List (List UInt8)))) (p0:q01) (x33:Int) (x34:Int) (x35:List UInt8) (x36:List q04) (x37:List (List UInt8)):Option (Int × (List UInt8) × (List q04) × (List (List UInt8))):=do
 if (decide (x33<([(q05.mk ([105,115,115]:List UInt8) p0.zai),(q05.mk ([115,117,98]:List UInt8) p0.zak),(q05.mk ([97,117,100]:List UInt8) p0.zah),(q05.mk ([99,108,105,101,110,116,95,105,100]:List UInt8) p0.zu),(q05.mk ([106,116,105]:List UInt8) p0.zaj),(q05.mk ([110,111,110,99,101]:List UInt8) p0.z0a)].length:Int))) then
  let x43←ix [(q05.mk ([105,115,115]:List UInt8) p0.zai),(q05.mk ([115,117,98]:List UInt8) p0.zak),(q05.mk ([97,117,100]:List UInt8) p0.zah),(q05.mk ([99,108,105,101,110,116,95,105,100]:List UInt8) p0.zu),(q05.mk ([106,116,105]:List UInt8) p0.zaj),(q05.mk ([110,111,110,99,101]:List UInt8) p0.z0a)] x33
  let a44←M.q2m x43.z3q
  let a46←M.q1n (q08.mk (q04.mk x34 x35 x36 x37)) true x43.z0y a44
  ih p0 (ya .i64 (x33+1)) a46.zn.zk a46.zn.z0h a46.zn.z09 a46.zn.z1m
 else
  some (x34,x35,x36,x37)
noncomputable def MF.z0o (n:Nat):(q01)→(Int)→(Int)→(List UInt8)→(List q04)→(List (List UInt8))→Option (Int × (List UInt8) × (List q04) × (List (List UInt8))):=Nat.rec (motive:=fun _=>(q01)→(Int)→(Int)→(List UInt8)→(List q04)→(List (List UInt8))→Option (Int × (List UInt8) × (List q04) × (List (List UInt8)))) (fun _ _ _ _ _ _=>none) (fun n ih=>MB.z0o n ih) n
theorem MF.z0o.le:∀ (n:Nat) (p0:q01) (x33:Int) (x34:Int) (x35:List UInt8) (x36:List q04) (x37:List (List UInt8)),Le (MF.z0o n p0 x33 x34 x35 x36 x37) (M.z0o p0 x33 x34 x35 x36 x37):=by
 intro n;induction n with
 | zero=>intros;exact Le.none _
 | succ n ih =>
  intro p0 x33 x34 x35 x36 x37
  show Le (MB.z0o n (MF.z0o n) p0 x33 x34 x35 x36 x37) _
  rw [M.z0o];unfold MB.z0o
  repeat' first|(with_reducible exact Le.refl _)|(with_reducible exact ih _ _ _ _ _ _)|(with_reducible refine Le.jn ?_ (fun _ => ?_) fun _ => ?_)|(with_reducible refine Le.rs ?_ (fun _ => ?_) fun _ => ?_)|(with_reducible refine Le.rb ?_ (fun _ _ => ?_) fun _ => ?_)|(with_reducible refine Le.bind ?_ fun _ => ?_)|(with_reducible refine Le.ite ?_ ?_)|dsimp only|split
noncomputable def MF.q19 (n:Nat) (p0:q01):Option (q04 × Bool):=do
 let a1←M.q1v
 let j27←(do
   MF.z0o n p0 0 a1.zn.zk a1.zn.z0h a1.zn.z09 a1.zn.z1m:Option (Int × (List UInt8) × (List q04) × (List (List UInt8))))
 let a48←M.q1e p0.zg7
 let a50←M.q1n (q08.mk (q04.mk j27.1 j27.2.1 j27.2.2.1 j27.2.2.2)) true ([105,97,116]:List UInt8) a48
 let a52←M.q1e p0.zg6
 let a54←M.q1n a50 true ([101,120,112]:List UInt8) a52
 let a56←M.q1e p0.z1t
 let a58←M.q1n a54 true ([108,101,118,101,108]:List UInt8) a56
 let a60←MF.q2n n p0.z04
 let a62←M.q1n a58 true ([115,99,111,112,101]:List UInt8) a60
 let a64←MF.q2n n p0.zdq
 let a66←M.q1n a62 true ([97,99,116]:List UInt8) a64
 let s68←cat p0.zai p0.zak
 let s69←cat s68 p0.zah
 let s70←cat s69 p0.zu
 let s71←cat s70 p0.zaj
 let s72←cat s71 p0.z0a
 some (a66.zn,(!((((((decide (s72=([]:List UInt8)))&&(decide (p0.zg7=0)))&&(decide (p0.zg6=0)))&&(decide (p0.z1t=0)))&&(decide ((p0.z04.length:Int)=0)))&&(decide ((p0.zdq.length:Int)=0)))))
theorem MF.q19.le (n:Nat) (p0:q01):Le (MF.q19 n p0) (M.q19 p0):=by
 unfold MF.q19 M.q19
 repeat' first|(with_reducible exact Le.refl _)|(with_reducible exact MF.z0o.le n _ _ _ _ _ _)|(with_reducible exact MF.q2n.le n _)|(with_reducible refine Le.jn ?_ (fun _ => ?_) fun _ => ?_)|(with_reducible refine Le.rs ?_ (fun _ => ?_) fun _ => ?_)|(with_reducible refine Le.rb ?_ (fun _ _ => ?_) fun _ => ?_)|(with_reducible refine Le.bind ?_ fun _ => ?_)|(with_reducible refine Le.ite ?_ ?_)|dsimp only|split
noncomputable def MB.z0t (n:Nat) (ih:(List q02)→(Int)→(List q04)→(List (List UInt8))→Option ((List q04) × (List (List UInt8)))) (p0:List q02) (x27:Int) (x28:List q04) (x29:List (List UInt8)):Option ((List q04) × (List (List UInt8))):=do
 if (decide (x27<(p0.length:Int))) then
  let x35←ix p0 x27
  let l36←app 16 x29 [x35.z0y]
  let a37←MF.q2n n x35.z4z
  let l39←app 72 x28 [(q04.mk a37.zk a37.z0h a37.z09 a37.z1m)]
  ih p0 (ya .i64 (x27+1)) l39 l36
 else
  some (x28,x29)
noncomputable def MF.z0t (n:Nat):(List q02)→(Int)→(List q04)→(List (List UInt8))→Option ((List q04) × (List (List UInt8))):=Nat.rec (motive:=fun _=>(List q02)→(Int)→(List q04)→(List (List UInt8))→Option ((List q04) × (List (List UInt8)))) (fun _ _ _ _=>none) (fun n ih=>MB.z0t n ih) n
theorem MF.z0t.le:∀ (n:Nat) (p0:List q02) (x27:Int) (x28:List q04) (x29:List (List UInt8)),Le (MF.z0t n p0 x27 x28 x29) (M.z0t p0 x27 x28 x29):=by
 intro n;induction n with
 | zero=>intros;exact Le.none _
 | succ n ih =>
  intro p0 x27 x28 x29
  show Le (MB.z0t n (MF.z0t n) p0 x27 x28 x29) _
  rw [M.z0t];unfold MB.z0t
  repeat' first|(with_reducible exact Le.refl _)|(with_reducible exact ih _ _ _ _)|(with_reducible exact MF.q2n.le n _)|(with_reducible refine Le.jn ?_ (fun _ => ?_) fun _ => ?_)|(with_reducible refine Le.rs ?_ (fun _ => ?_) fun _ => ?_)|(with_reducible refine Le.rb ?_ (fun _ _ => ?_) fun _ => ?_)|(with_reducible refine Le.bind ?_ fun _ => ?_)|(with_reducible refine Le.ite ?_ ?_)|dsimp only|split
noncomputable def MF.q1u (n:Nat) (p0:List q02):Option q04:=do
 let j21←(do
   MF.z0t n p0 0 [] []:Option ((List q04) × (List (List UInt8))))
 some (q04.mk 6 ([]:List UInt8) j21.1 j21.2)
theorem MF.q1u.le (n:Nat) (p0:List q02):Le (MF.q1u n p0) (M.q1u p0):=by
 unfold MF.q1u M.q1u
 repeat' first|(with_reducible exact Le.refl _)|(with_reducible exact MF.z0t.le n _ _ _ _)|(with_reducible refine Le.jn ?_ (fun _ => ?_) fun _ => ?_)|(with_reducible refine Le.rs ?_ (fun _ => ?_) fun _ => ?_)|(with_reducible refine Le.rb ?_ (fun _ _ => ?_) fun _ => ?_)|(with_reducible refine Le.bind ?_ fun _ => ?_)|(with_reducible refine Le.ite ?_ ?_)|dsimp only|split
noncomputable def MB.z1l (n:Nat) (ih:(q06)→(Int)→(List q04)→Option (List q04)) (p0:q06) (x158:Int) (x159:List q04):Option (List q04):=do
 if (decide (x158<(p0.z3i.length:Int))) then
  let x180←ix p0.z3i x158
  let a181←M.q1v
  let a183←M.q2m x180.gId
  let a185←M.q1n a181 true ([105,100]:List UInt8) a183
  let a187←M.q2m x180.zk
  let a189←M.q1n a185 true ([107,105,110,100]:List UInt8) a187
  let a191←M.q2m x180.z3y
  let a193←M.q1n a189 true ([116,97,103]:List UInt8) a191
  let a195←MF.q1u n x180.z0d
  let a197←M.q1n a193 true ([102,105,101,108,100,115]:List UInt8) a195
  let l199←app 72 x159 [(q04.mk a197.zn.zk a197.zn.z0h a197.zn.z09 a197.zn.z1m)]
  ih p0 (ya .i64 (x158+1)) l199
 else
  some x159
noncomputable def MF.z1l (n:Nat):(q06)→(Int)→(List q04)→Option (List q04):=Nat.rec (motive:=fun _=>(q06)→(Int)→(List q04)→Option (List q04)) (fun _ _ _=>none) (fun n ih=>MB.z1l n ih) n
theorem MF.z1l.le:∀ (n:Nat) (p0:q06) (x158:Int) (x159:List q04),Le (MF.z1l n p0 x158 x159) (M.z1l p0 x158 x159):=by
 intro n;induction n with
 | zero=>intros;exact Le.none _
 | succ n ih =>
  intro p0 x158 x159
  show Le (MB.z1l n (MF.z1l n) p0 x158 x159) _
  rw [M.z1l];unfold MB.z1l
  repeat' first|(with_reducible exact Le.refl _)|(with_reducible exact ih _ _ _)|(with_reducible exact MF.q1u.le n _)|(with_reducible refine Le.jn ?_ (fun _ => ?_) fun _ => ?_)|(with_reducible refine Le.rs ?_ (fun _ => ?_) fun _ => ?_)|(with_reducible refine Le.rb ?_ (fun _ _ => ?_) fun _ => ?_)|(with_reducible refine Le.bind ?_ fun _ => ?_)|(with_reducible refine Le.ite ?_ ?_)|dsimp only|split
noncomputable def MF.q13 (n:Nat) (p0:q06):Option q04:=do
 let a1←M.q1v
 let a3←M.q1e p0.z1d
 let a5←M.q1n a1 (!decide (p0.z1d=0)) ([101,114,114,111,114]:List UInt8) a3
 let j31←(do
   MF.z1k n p0 0 a5.zn.zk a5.zn.z0h a5.zn.z09 a5.zn.z1m:Option (Int × (List UInt8) × (List q04) × (List (List UInt8))))
 let a52←MF.q2n n p0.z04
 let a54←M.q1n (q08.mk (q04.mk j31.1 j31.2.1 j31.2.2.1 j31.2.2.2)) (decide (0<(p0.z04.length:Int))) ([115,99,111,112,101]:List UInt8) a52
 let a56←M.q1e p0.z1s
 let a58←M.q1n a54 (!decide (p0.z1s=0)) ([101,120,112,105,114,101,115,95,105,110]:List UInt8) a56
 let a60←M.q1e p0.z1t
 let a62←M.q1n a58 (!decide (p0.z1t=0)) ([108,101,118,101,108]:List UInt8) a60
 let a64←M.q1e p0.z2v
 let a66←M.q1n a62 (!decide (p0.z2v=0)) ([116,111,116,97,108]:List UInt8) a64
 let a68←M.q1n a66 p0.z4n ([97,99,116,105,118,101]:List UInt8) (q04.mk 2 ([]:List UInt8) [] [])
 let a70←MF.q19 n p0.z05
 let a72←M.q1n a68 a70.2 ([99,108,97,105,109,115]:List UInt8) a70.1
 let j137←(do
   MF.z1l n p0 0 []:Option (List q04))
 let a200←M.q1n a72 (decide (0<(j137.length:Int))) ([116,104,105,110,103,115]:List UInt8) (q04.mk 5 ([]:List UInt8) j137 [])
 some a200.zn
theorem MF.q13.le (n:Nat) (p0:q06):Le (MF.q13 n p0) (M.q13 p0):=by
 unfold MF.q13 M.q13
 repeat' first|(with_reducible exact Le.refl _)|(with_reducible exact MF.z1k.le n _ _ _ _ _ _)|(with_reducible exact MF.q2n.le n _)|(with_reducible exact MF.q19.le n _)|(with_reducible exact MF.z1l.le n _ _ _)|(with_reducible refine Le.jn ?_ (fun _ => ?_) fun _ => ?_)|(with_reducible refine Le.rs ?_ (fun _ => ?_) fun _ => ?_)|(with_reducible refine Le.rb ?_ (fun _ _ => ?_) fun _ => ?_)|(with_reducible refine Le.bind ?_ fun _ => ?_)|(with_reducible refine Le.ite ?_ ?_)|dsimp only|split
noncomputable def MB.zc (n:Nat) (ih:(List (List UInt8))→(Int)→Option (Jn Int Unit)) (p0:List (List UInt8)) (x15:Int):Option (Jn Int Unit):=do
 if (decide (x15<(p0.length:Int))) then
  let x19←ix p0 x15
  let a20←M.q3a x19
  if a20 then
   some (.done x15)
  else
   ih p0 (ya .i64 (x15+1))
 else
  some (.go ())
noncomputable def MF.zc (n:Nat):(List (List UInt8))→(Int)→Option (Jn Int Unit):=Nat.rec (motive:=fun _=>(List (List UInt8))→(Int)→Option (Jn Int Unit)) (fun _ _=>none) (fun n ih=>MB.zc n ih) n
theorem MF.zc.le:∀ (n:Nat) (p0:List (List UInt8)) (x15:Int),Le (MF.zc n p0 x15) (M.zc p0 x15):=by
 intro n;induction n with
 | zero=>intros;exact Le.none _
 | succ n ih =>
  intro p0 x15
  show Le (MB.zc n (MF.zc n) p0 x15) _
  rw [M.zc];unfold MB.zc
  repeat' first|(with_reducible exact Le.refl _)|(with_reducible exact ih _ _)|(with_reducible refine Le.jn ?_ (fun _ => ?_) fun _ => ?_)|(with_reducible refine Le.rs ?_ (fun _ => ?_) fun _ => ?_)|(with_reducible refine Le.rb ?_ (fun _ _ => ?_) fun _ => ?_)|(with_reducible refine Le.bind ?_ fun _ => ?_)|(with_reducible refine Le.ite ?_ ?_)|dsimp only|split
noncomputable def MF.q6v (n:Nat) (p0:List (List UInt8)):Option Int:=do
 let q11←(do
   MF.zc n p0 0:Option (Jn Int Unit))
 match q11 with
 | .done r=>some r
 | .go j11 =>
  some (-1)
theorem MF.q6v.le (n:Nat) (p0:List (List UInt8)):Le (MF.q6v n p0) (M.q6v p0):=by
 unfold MF.q6v M.q6v
 repeat' first|(with_reducible exact Le.refl _)|(with_reducible exact MF.zc.le n _ _)|(with_reducible refine Le.jn ?_ (fun _ => ?_) fun _ => ?_)|(with_reducible refine Le.rs ?_ (fun _ => ?_) fun _ => ?_)|(with_reducible refine Le.rb ?_ (fun _ _ => ?_) fun _ => ?_)|(with_reducible refine Le.bind ?_ fun _ => ?_)|(with_reducible refine Le.ite ?_ ?_)|dsimp only|split
noncomputable def MF.q6q (n:Nat) (p0:List (List UInt8)):Option Bool:=do
 let a1←MF.q6v n p0
 some (decide (0≤a1))
theorem MF.q6q.le (n:Nat) (p0:List (List UInt8)):Le (MF.q6q n p0) (M.q6q p0):=by
 unfold MF.q6q M.q6q
 repeat' first|(with_reducible exact Le.refl _)|(with_reducible exact MF.q6v.le n _)|(with_reducible refine Le.jn ?_ (fun _ => ?_) fun _ => ?_)|(with_reducible refine Le.rs ?_ (fun _ => ?_) fun _ => ?_)|(with_reducible refine Le.rb ?_ (fun _ _ => ?_) fun _ => ?_)|(with_reducible refine Le.bind ?_ fun _ => ?_)|(with_reducible refine Le.ite ?_ ?_)|dsimp only|split
noncomputable def MB.z0p (n:Nat) (ih:(q04)→(q04→Int→Option (Rs Unit))→(Int)→(Int)→Option (Rs Unit)) (p0:q04) (self_q38:q04→Int→Option (Rs Unit)) (p1:Int) (x108:Int):Option (Rs Unit):=do
 if (decide (x108<(p0.z09.length:Int))) then
  let x114←ix p0.z09 x108
  let a115←self_q38 x114 (ya .i64 (p1+1))
  match a115 with
  | .pan e118 =>
   some (.pan e118)
  | .ok a117 =>
   ih p0 self_q38 p1 (ya .i64 (x108+1))
 else
  some (.ok ())
noncomputable def MF.z0p (n:Nat):(q04)→(q04→Int→Option (Rs Unit))→(Int)→(Int)→Option (Rs Unit):=Nat.rec (motive:=fun _=>(q04)→(q04→Int→Option (Rs Unit))→(Int)→(Int)→Option (Rs Unit)) (fun _ _ _ _=>none) (fun n ih=>MB.z0p n ih) n
theorem MF.z0p.le {self_q38:q04→Int→Option (Rs Unit)} {self_json_checked':q04→Int→Option (Rs Unit)} (hs0:∀ a0 a1,Le (self_q38 a0 a1) (self_json_checked' a0 a1)):∀ (n:Nat) (p0:q04) (p1:Int) (x108:Int),Le (MF.z0p n p0 self_q38 p1 x108) (M.z0p p0 self_json_checked' p1 x108):=by
 intro n;induction n with
 | zero=>intros;exact Le.none _
 | succ n ih =>
  intro p0 p1 x108
  show Le (MB.z0p n (MF.z0p n) p0 self_q38 p1 x108) _
  rw [M.z0p];unfold MB.z0p
  repeat' first|(with_reducible exact Le.refl _)|(with_reducible exact hs0 _ _)|(with_reducible exact ih _ _ _)|(with_reducible refine Le.jn ?_ (fun _ => ?_) fun _ => ?_)|(with_reducible refine Le.rs ?_ (fun _ => ?_) fun _ => ?_)|(with_reducible refine Le.rb ?_ (fun _ _ => ?_) fun _ => ?_)|(with_reducible refine Le.bind ?_ fun _ => ?_)|(with_reducible refine Le.ite ?_ ?_)|dsimp only|split
noncomputable def MF.q38 (n:Nat):Nat→q04→Int→Option (Rs Unit)
 | 0,_,_=>none
 | fuel+1,p0,p1=>do
  let a5←M.q3d ((!((decide (p0.zk=5))||(decide (p0.zk=6))))||(decide (p1<16))) 21
  match a5 with
  | .pan e8 =>
   some (.pan e8)
  | .ok a7 =>
   let a11←M.q3d ((decide (0≤p0.zk))&&(decide (p0.zk<7))) 23
   match a11 with
   | .pan e14 =>
    some (.pan e14)
   | .ok a13 =>
    let a17←M.q3d (((decide (p0.zk=5))||(decide (p0.zk=6)))||(decide ((p0.z09.length:Int)=0))) 23
    match a17 with
    | .pan e20 =>
     some (.pan e20)
    | .ok a19 =>
     let a26←M.q3d (((decide (p0.zk=6))&&(decide ((p0.z1m.length:Int)=(p0.z09.length:Int))))||((decide ((p0.z1m.length:Int)=0))&&(!decide (p0.zk=6)))) 23
     match a26 with
     | .pan e29 =>
      some (.pan e29)
     | .ok a28 =>
      let a30←MF.q6q n p0.z1m
      let j35←(do
        if (!a30) then
         let a36←M.single p0.z1m
         some a36
        else
         some false:Option Bool)
      let a38←M.q3d j35 23
      match a38 with
      | .pan e41 =>
       some (.pan e41)
      | .ok a40 =>
       let q82←(do
         if (decide (p0.zk=3)) then
          let j86←(do
            if (!decide (p0.z0h=([]:List UInt8))) then
             let a87←M.q3e p0.z0h
             some (decide (a87=(p0.z0h.length:Int)))
            else
             some false:Option Bool)
          let a89←M.q3d j86 23
          match a89 with
          | .pan e92 =>
           some (.done (.pan e92))
          | .ok a91 =>
           some (.go ())
         else
          if (decide (p0.zk=4)) then
           let a93←M.z1o p0.z0h
           let a95←M.q3d a93 23
           match a95 with
           | .pan e98 =>
            some (.done (.pan e98))
           | .ok a97 =>
            some (.go ())
          else
           let a99←M.q3d (decide (p0.z0h=([]:List UInt8))) 23
           match a99 with
           | .pan e102 =>
            some (.done (.pan e102))
           | .ok a101 =>
            some (.go ()):Option (Jn (Rs Unit) Unit))
       match q82 with
       | .done r=>some r
       | .go j82 =>
        MF.z0p n p0 (MF.q38 n fuel) p1 0
theorem MF.q38.les (n:Nat):∀ fuel:Nat,(∀ a1 a2,Le (MF.q38 n fuel a1 a2) (M.q38 fuel a1 a2)):=by
 intro fuel;induction fuel with
 | zero=>exact fun _ _=>Le.znm (by first|rfl|simp [MF.q38])
 | succ fuel ih =>
  ·intro a1 a2
   rw [MF.q38,M.q38]
   repeat' first|(with_reducible exact Le.refl _)|(with_reducible exact ih _ _)|(with_reducible exact MF.q6q.le n _)|(with_reducible exact MF.z0p.le (ih) n _ _ _)|(with_reducible refine Le.jn ?_ (fun _ => ?_) fun _ => ?_)|(with_reducible refine Le.rs ?_ (fun _ => ?_) fun _ => ?_)|(with_reducible refine Le.rb ?_ (fun _ _ => ?_) fun _ => ?_)|(with_reducible refine Le.bind ?_ fun _ => ?_)|(with_reducible refine Le.ite ?_ ?_)|dsimp only|split
theorem MF.q38.le (n fuel:Nat) (a1:q04) (a2:Int):Le (MF.q38 n fuel a1 a2) (M.q38 fuel a1 a2):=(MF.q38.les n fuel) a1 a2
noncomputable def MF.q32 (n:Nat) (fuel:Nat) (p0:q04):Option Int:=do
 let a1←MF.q38 n fuel p0 0
 match a1 with
 | .pan e4 =>
  some e4
 | .ok a3 =>
  some 0
theorem MF.q32.le (n:Nat) (fuel:Nat) (p0:q04):Le (MF.q32 n fuel p0) (M.q32 fuel p0):=by
 unfold MF.q32 M.q32
 repeat' first|(with_reducible exact Le.refl _)|(with_reducible exact MF.q38.le n _ _ _)|(with_reducible refine Le.jn ?_ (fun _ => ?_) fun _ => ?_)|(with_reducible refine Le.rs ?_ (fun _ => ?_) fun _ => ?_)|(with_reducible refine Le.rb ?_ (fun _ _ => ?_) fun _ => ?_)|(with_reducible refine Le.bind ?_ fun _ => ?_)|(with_reducible refine Le.ite ?_ ?_)|dsimp only|split
noncomputable def MB.z0l (n:Nat) (ih:(List UInt8)→(Int)→(List Int)→Option (List Int)) (p1:List UInt8) (x67:Int) (x68:List Int):Option (List Int):=do
 if (decide (x67<((unb p1).length:Int))) then
  let x84←ix (unb p1) x67
  let a85←M.indexByte ([34,92,8,9,10,12,13]:List UInt8) x84
  if (decide (0≤a85)) then
   let s87←sub ([34,92,98,116,110,102,114]:List UInt8) a85 (ya .i64 (a85+1))
   let s88←cat ([92]:List UInt8) s87
   let a89←M.q70 x68 s88
   ih p1 (ya .i64 (x67+1)) a89.2
  else
   if (decide (x84<32)) then
    let s91←sub ([48,49]:List UInt8) (zfo .u8 x84 4) (ya .u8 ((zfo .u8 x84 4)+1))
    let s92←cat ([92,117,48,48]:List UInt8) s91
    let s93←sub ([48,49,50,51,52,53,54,55,56,57,97,98,99,100,101,102]:List UInt8) (z9d .u8 x84 15) (ya .u8 ((z9d .u8 x84 15)+1))
    let s94←cat s92 s93
    let a95←M.q70 x68 s94
    ih p1 (ya .i64 (x67+1)) a95.2
   else
    let a97←M.q6z x68 x84
    ih p1 (ya .i64 (x67+1)) a97
 else
  some x68
noncomputable def MF.z0l (n:Nat):(List UInt8)→(Int)→(List Int)→Option (List Int):=Nat.rec (motive:=fun _=>(List UInt8)→(Int)→(List Int)→Option (List Int)) (fun _ _ _=>none) (fun n ih=>MB.z0l n ih) n
theorem MF.z0l.le:∀ (n:Nat) (p1:List UInt8) (x67:Int) (x68:List Int),Le (MF.z0l n p1 x67 x68) (M.z0l p1 x67 x68):=by
 intro n;induction n with
 | zero=>intros;exact Le.none _
 | succ n ih =>
  intro p1 x67 x68
  show Le (MB.z0l n (MF.z0l n) p1 x67 x68) _
  rw [M.z0l];unfold MB.z0l
  repeat' first|(with_reducible exact Le.refl _)|(with_reducible exact ih _ _ _)|(with_reducible refine Le.jn ?_ (fun _ => ?_) fun _ => ?_)|(with_reducible refine Le.rs ?_ (fun _ => ?_) fun _ => ?_)|(with_reducible refine Le.rb ?_ (fun _ _ => ?_) fun _ => ?_)|(with_reducible refine Le.bind ?_ fun _ => ?_)|(with_reducible refine Le.ite ?_ ?_)|dsimp only|split
noncomputable def MF.q3f (n:Nat) (p0:List Int) (p1:List UInt8):Option (List Int):=do
 let a1←M.q6z p0 34
 let j51←(do
   let _←chk (decide (p1.length≤9223372036854775807))
   MF.z0l n p1 0 a1:Option (List Int))
 let a99←M.q6z j51 34
 some a99
theorem MF.q3f.le (n:Nat) (p0:List Int) (p1:List UInt8):Le (MF.q3f n p0 p1) (M.q3f p0 p1):=by
 unfold MF.q3f M.q3f
 repeat' first|(with_reducible exact Le.refl _)|(with_reducible exact MF.z0l.le n _ _ _)|(with_reducible refine Le.jn ?_ (fun _ => ?_) fun _ => ?_)|(with_reducible refine Le.rs ?_ (fun _ => ?_) fun _ => ?_)|(with_reducible refine Le.rb ?_ (fun _ _ => ?_) fun _ => ?_)|(with_reducible refine Le.bind ?_ fun _ => ?_)|(with_reducible refine Le.ite ?_ ?_)|dsimp only|split
noncomputable def MB.z1e (n:Nat) (ih:(q04)→((List Int)→q04→Option (List Int))→(Int)→(List Int)→Option (List Int)) (p1:q04) (self_q3c:(List Int)→q04→Option (List Int)) (x92:Int) (x93:List Int):Option (List Int):=do
 if (decide (x92<(p1.z09.length:Int))) then
  let x112←ix p1.z09 x92
  let j118←(do
    if (decide (0<x92)) then
     let a119←M.q6z x93 44
     some a119
    else
     some x93:Option (List Int))
  if (decide (p1.zk=6)) then
   let x121←ix p1.z1m x92
   let a122←MF.q3f n j118 x121
   let a124←M.q6z a122 58
   let a126←self_q3c a124 x112
   ih p1 self_q3c (ya .i64 (x92+1)) a126
  else
   let a128←self_q3c j118 x112
   ih p1 self_q3c (ya .i64 (x92+1)) a128
 else
  some x93
noncomputable def MF.z1e (n:Nat):(q04)→((List Int)→q04→Option (List Int))→(Int)→(List Int)→Option (List Int):=Nat.rec (motive:=fun _=>(q04)→((List Int)→q04→Option (List Int))→(Int)→(List Int)→Option (List Int)) (fun _ _ _ _=>none) (fun n ih=>MB.z1e n ih) n
theorem MF.z1e.le {self_q3c:(List Int)→q04→Option (List Int)} {self_json_laid':(List Int)→q04→Option (List Int)} (hs0:∀ a0 a1,Le (self_q3c a0 a1) (self_json_laid' a0 a1)):∀ (n:Nat) (p1:q04) (x92:Int) (x93:List Int),Le (MF.z1e n p1 self_q3c x92 x93) (M.z1e p1 self_json_laid' x92 x93):=by
 intro n;induction n with
 | zero=>intros;exact Le.none _
 | succ n ih =>
  intro p1 x92 x93
  show Le (MB.z1e n (MF.z1e n) p1 self_q3c x92 x93) _
  rw [M.z1e];unfold MB.z1e
  repeat' first|(with_reducible exact Le.refl _)|(with_reducible exact hs0 _ _)|(with_reducible exact ih _ _ _)|(with_reducible exact MF.q3f.le n _ _)|(with_reducible refine Le.jn ?_ (fun _ => ?_) fun _ => ?_)|(with_reducible refine Le.rs ?_ (fun _ => ?_) fun _ => ?_)|(with_reducible refine Le.rb ?_ (fun _ _ => ?_) fun _ => ?_)|(with_reducible refine Le.bind ?_ fun _ => ?_)|(with_reducible refine Le.ite ?_ ?_)|dsimp only|split
noncomputable def MF.q3c (n:Nat):Nat→(List Int)→q04→Option (List Int)
 | 0,_,_=>none
 | fuel+1,p0,p1=>do
  if (decide (p1.zk=0)) then
   let a1←M.q70 p0 ([110,117,108,108]:List UInt8)
   some a1.2
  else
   if (decide (p1.zk=1)) then
    let a3←M.q70 p0 ([102,97,108,115,101]:List UInt8)
    some a3.2
   else
    if (decide (p1.zk=2)) then
     let a5←M.q70 p0 ([116,114,117,101]:List UInt8)
     some a5.2
    else
     if (decide (p1.zk=3)) then
      let a7←M.q70 p0 p1.z0h
      some a7.2
     else
      if (decide (p1.zk=4)) then
       let a9←MF.q3f n p0 p1.z0h
       some a9
      else
       let j12←(do
         if (decide (p1.zk=6)) then
          some ([123,125]:List UInt8)
         else
          some ([91,93]:List UInt8):Option (List UInt8))
       let c13←ix j12 0
       let a14←M.q6z p0 (c13.toNat:Int)
       let j73←(do
         MF.z1e n p1 (MF.q3c n fuel) 0 a14:Option (List Int))
       let c130←ix j12 1
       let a131←M.q6z j73 (c130.toNat:Int)
       some a131
theorem MF.q3c.les (n:Nat):∀ fuel:Nat,(∀ a1 a2,Le (MF.q3c n fuel a1 a2) (M.q3c fuel a1 a2)):=by
 intro fuel;induction fuel with
 | zero=>exact fun _ _=>Le.znm (by first|rfl|simp [MF.q3c])
 | succ fuel ih =>
  ·intro a1 a2
   rw [MF.q3c,M.q3c]
   repeat' first|(with_reducible exact Le.refl _)|(with_reducible exact ih _ _)|(with_reducible exact MF.q3f.le n _ _)|(with_reducible exact MF.z1e.le (ih) n _ _ _)|(with_reducible refine Le.jn ?_ (fun _ => ?_) fun _ => ?_)|(with_reducible refine Le.rs ?_ (fun _ => ?_) fun _ => ?_)|(with_reducible refine Le.rb ?_ (fun _ _ => ?_) fun _ => ?_)|(with_reducible refine Le.bind ?_ fun _ => ?_)|(with_reducible refine Le.ite ?_ ?_)|dsimp only|split
theorem MF.q3c.le (n fuel:Nat) (a1:(List Int)) (a2:q04):Le (MF.q3c n fuel a1 a2) (M.q3c fuel a1 a2):=(MF.q3c.les n fuel) a1 a2
noncomputable def MF.q36 (n:Nat) (fuel:Nat) (p0:q04):Option ((List UInt8) × Int):=do
 let a3←MF.q32 n fuel p0
 if (!decide (a3=0)) then
  some (([]:List UInt8),a3)
 else
  let a5←MF.q3c n fuel ([]:List Int) p0
  let a7←M.q6y a5
  if (decide (16384<a7)) then
   some (([]:List UInt8),22)
  else
   let a9←M.zm a5
   some (a9,0)
theorem MF.q36.le (n:Nat) (fuel:Nat) (p0:q04):Le (MF.q36 n fuel p0) (M.q36 fuel p0):=by
 unfold MF.q36 M.q36
 repeat' first|(with_reducible exact Le.refl _)|(with_reducible exact MF.q32.le n _ _)|(with_reducible exact MF.q3c.le n _ _ _)|(with_reducible refine Le.jn ?_ (fun _ => ?_) fun _ => ?_)|(with_reducible refine Le.rs ?_ (fun _ => ?_) fun _ => ?_)|(with_reducible refine Le.rb ?_ (fun _ _ => ?_) fun _ => ?_)|(with_reducible refine Le.bind ?_ fun _ => ?_)|(with_reducible refine Le.ite ?_ ?_)|dsimp only|split
noncomputable def MB.z0u (n:Nat) (ih:(List (List UInt8))→(Int)→Option (Jn Int Unit)) (l16:List (List UInt8)) (x21:Int):Option (Jn Int Unit):=do
 if (decide (x21<(l16.length:Int))) then
  let x26←ix l16 x21
  let x27←ix l16 x21
  let a28←M.q75 x27
  if (!a28) then
   some (.done 142)
  else
   ih l16 (ya .i64 (x21+1))
 else
  some (.go ())
noncomputable def MF.z0u (n:Nat):(List (List UInt8))→(Int)→Option (Jn Int Unit):=Nat.rec (motive:=fun _=>(List (List UInt8))→(Int)→Option (Jn Int Unit)) (fun _ _=>none) (fun n ih=>MB.z0u n ih) n
theorem MF.z0u.le:∀ (n:Nat) (l16:List (List UInt8)) (x21:Int),Le (MF.z0u n l16 x21) (M.z0u l16 x21):=by
 intro n;induction n with
 | zero=>intros;exact Le.none _
 | succ n ih =>
  intro l16 x21
  show Le (MB.z0u n (MF.z0u n) l16 x21) _
  rw [M.z0u];unfold MB.z0u
  repeat' first|(with_reducible exact Le.refl _)|(with_reducible exact ih _ _)|(with_reducible refine Le.jn ?_ (fun _ => ?_) fun _ => ?_)|(with_reducible refine Le.rs ?_ (fun _ => ?_) fun _ => ?_)|(with_reducible refine Le.rb ?_ (fun _ _ => ?_) fun _ => ?_)|(with_reducible refine Le.bind ?_ fun _ => ?_)|(with_reducible refine Le.ite ?_ ?_)|dsimp only|split
noncomputable def MB.z0v (n:Nat) (ih:(q01)→(Int)→Option (Jn Int Unit)) (p0:q01) (x104:Int):Option (Jn Int Unit):=do
 if (decide (x104<(p0.z04.length:Int))) then
  let x112←ix p0.z04 x104
  let a113←M.q77 x112
  let j117←(do
    if (!a113) then
     some true
    else
     if (decide (0<x104)) then
      let x118←ix p0.z04 (ya .i64 (x104 - 1))
      some (!slt x118 x112)
     else
      some false:Option Bool)
  if j117 then
   some (.done 142)
  else
   ih p0 (ya .i64 (x104+1))
 else
  some (.go ())
noncomputable def MF.z0v (n:Nat):(q01)→(Int)→Option (Jn Int Unit):=Nat.rec (motive:=fun _=>(q01)→(Int)→Option (Jn Int Unit)) (fun _ _=>none) (fun n ih=>MB.z0v n ih) n
theorem MF.z0v.le:∀ (n:Nat) (p0:q01) (x104:Int),Le (MF.z0v n p0 x104) (M.z0v p0 x104):=by
 intro n;induction n with
 | zero=>intros;exact Le.none _
 | succ n ih =>
  intro p0 x104
  show Le (MB.z0v n (MF.z0v n) p0 x104) _
  rw [M.z0v];unfold MB.z0v
  repeat' first|(with_reducible exact Le.refl _)|(with_reducible exact ih _ _)|(with_reducible refine Le.jn ?_ (fun _ => ?_) fun _ => ?_)|(with_reducible refine Le.rs ?_ (fun _ => ?_) fun _ => ?_)|(with_reducible refine Le.rb ?_ (fun _ _ => ?_) fun _ => ?_)|(with_reducible refine Le.bind ?_ fun _ => ?_)|(with_reducible refine Le.ite ?_ ?_)|dsimp only|split
noncomputable def MF.q74 (n:Nat) (p0:q01):Option Int:=do
 let q15←(do
   let l16←app 16 [p0.zai,p0.zak,p0.zah,p0.zu,p0.zaj,p0.z0a] p0.zdq
   MF.z0u n l16 0:Option (Jn Int Unit))
 match q15 with
 | .done r=>some r
 | .go j15 =>
  let a52←M.q76 p0.zg7
  let j57←(do
    if (!a52) then
     some true
    else
     let a58←M.q76 p0.zg6
     some (!a58):Option Bool)
  let j71←(do
    if ((((j57||(decide (p0.z1t<0)))||(decide (9<p0.z1t)))||(decide (16<(p0.z04.length:Int))))||(decide (4<(p0.zdq.length:Int)))) then
     some true
    else
     let a72←MF.q6r n p0.zdq ([]:List UInt8)
     some a72:Option Bool)
  if j71 then
   some 142
  else
   let q96←(do
     MF.z0v n p0 0:Option (Jn Int Unit))
   match q96 with
   | .done r=>some r
   | .go j96 =>
    some 0
theorem MF.q74.le (n:Nat) (p0:q01):Le (MF.q74 n p0) (M.q74 p0):=by
 unfold MF.q74 M.q74
 repeat' first|(with_reducible exact Le.refl _)|(with_reducible exact MF.z0u.le n _ _)|(with_reducible exact MF.q6r.le n _ _)|(with_reducible exact MF.z0v.le n _ _)|(with_reducible refine Le.jn ?_ (fun _ => ?_) fun _ => ?_)|(with_reducible refine Le.rs ?_ (fun _ => ?_) fun _ => ?_)|(with_reducible refine Le.rb ?_ (fun _ _ => ?_) fun _ => ?_)|(with_reducible refine Le.bind ?_ fun _ => ?_)|(with_reducible refine Le.ite ?_ ?_)|dsimp only|split
noncomputable def MF.q0v (n:Nat) (fuel:Nat) (p0:q06):Option ((List UInt8) × Int):=do
 let q11←(do
   MF.z14 n p0 0:Option (Jn ((List UInt8) × Int) Unit))
 match q11 with
 | .done r=>some r
 | .go j11 =>
  let a22←MF.q13 n p0
  let a24←MF.q36 n fuel a22
  let j47←(do
    if (!decide (a24.2=0)) then
     some true
    else
     let a48←M.q2v p0.z4y
     some (decide (a48=([]:List UInt8))):Option Bool)
  let j53←(do
    if j47 then
     some true
    else
     let a54←M.trim p0.z0f ([65,66,67,68,69,70,71,72,73,74,75,76,77,78,79,80,81,82,83,84,85,86,87,88,89,90,97,98,99,100,101,102,103,104,105,106,107,108,109,110,111,112,113,114,115,116,117,118,119,120,121,122,48,49,50,51,52,53,54,55,56,57,45,95]:List UInt8)
     some (!decide (a54=([]:List UInt8))):Option Bool)
  let j59←(do
    if j53 then
     some true
    else
     let a60←MF.q74 n p0.z05
     some (!decide (a60=0)):Option Bool)
  if j59 then
   some (([]:List UInt8),224)
  else
   let a62←M.q1j p0.z4y p0.z0f (a24.1.length:Int)
   if (decide (8192<(a62.length:Int))) then
    some (([]:List UInt8),224)
   else
    let s64←cat a62 a24.1
    some (s64,0)
theorem MF.q0v.le (n:Nat) (fuel:Nat) (p0:q06):Le (MF.q0v n fuel p0) (M.q0v fuel p0):=by
 unfold MF.q0v M.q0v
 repeat' first|(with_reducible exact Le.refl _)|(with_reducible exact MF.z14.le n _ _)|(with_reducible exact MF.q13.le n _)|(with_reducible exact MF.q36.le n _ _)|(with_reducible exact MF.q74.le n _)|(with_reducible refine Le.jn ?_ (fun _ => ?_) fun _ => ?_)|(with_reducible refine Le.rs ?_ (fun _ => ?_) fun _ => ?_)|(with_reducible refine Le.rb ?_ (fun _ _ => ?_) fun _ => ?_)|(with_reducible refine Le.bind ?_ fun _ => ?_)|(with_reducible refine Le.ite ?_ ?_)|dsimp only|split
noncomputable def MF.q1z (n:Nat) (p0:q09) (p1:List UInt8):Option q09:=do
 let a1←MF.q34 n p0.gv p1
 some (q09.mk a1.1)
theorem MF.q1z.le (n:Nat) (p0:q09) (p1:List UInt8):Le (MF.q1z n p0 p1) (M.q1z p0 p1):=by
 unfold MF.q1z M.q1z
 repeat' first|(with_reducible exact Le.refl _)|(with_reducible exact MF.q34.le n _ _)|(with_reducible refine Le.jn ?_ (fun _ => ?_) fun _ => ?_)|(with_reducible refine Le.rs ?_ (fun _ => ?_) fun _ => ?_)|(with_reducible refine Le.rb ?_ (fun _ _ => ?_) fun _ => ?_)|(with_reducible refine Le.bind ?_ fun _ => ?_)|(with_reducible refine Le.ite ?_ ?_)|dsimp only|split
noncomputable def MF.q22 (n:Nat) (p0:q09) (p1:List UInt8):Option Int:=do
 let a1←MF.q1z n p0 p1
 let a3←M.q33 a1.gv
 some a3.1
theorem MF.q22.le (n:Nat) (p0:q09) (p1:List UInt8):Le (MF.q22 n p0 p1) (M.q22 p0 p1):=by
 unfold MF.q22 M.q22
 repeat' first|(with_reducible exact Le.refl _)|(with_reducible exact MF.q1z.le n _ _)|(with_reducible refine Le.jn ?_ (fun _ => ?_) fun _ => ?_)|(with_reducible refine Le.rs ?_ (fun _ => ?_) fun _ => ?_)|(with_reducible refine Le.rb ?_ (fun _ _ => ?_) fun _ => ?_)|(with_reducible refine Le.bind ?_ fun _ => ?_)|(with_reducible refine Le.ite ?_ ?_)|dsimp only|split
noncomputable def MF.q23 (n:Nat) (p0:q09) (p1:List UInt8):Option (List UInt8):=do
 let a1←MF.q1z n p0 p1
 if (decide (a1.gv.zk=4)) then
  some a1.gv.z0h
 else
  some ([]:List UInt8)
theorem MF.q23.le (n:Nat) (p0:q09) (p1:List UInt8):Le (MF.q23 n p0 p1) (M.q23 p0 p1):=by
 unfold MF.q23 M.q23
 repeat' first|(with_reducible exact Le.refl _)|(with_reducible exact MF.q1z.le n _ _)|(with_reducible refine Le.jn ?_ (fun _ => ?_) fun _ => ?_)|(with_reducible refine Le.rs ?_ (fun _ => ?_) fun _ => ?_)|(with_reducible refine Le.rb ?_ (fun _ _ => ?_) fun _ => ?_)|(with_reducible refine Le.bind ?_ fun _ => ?_)|(with_reducible refine Le.ite ?_ ?_)|dsimp only|split
noncomputable def MF.q24 (n:Nat) (p0:q09) (p1:List UInt8):Option (List (List UInt8)):=do
 let a1←MF.q1z n p0 p1
 let a3←MF.q37 n a1.gv
 some a3.1
theorem MF.q24.le (n:Nat) (p0:q09) (p1:List UInt8):Le (MF.q24 n p0 p1) (M.q24 p0 p1):=by
 unfold MF.q24 M.q24
 repeat' first|(with_reducible exact Le.refl _)|(with_reducible exact MF.q1z.le n _ _)|(with_reducible exact MF.q37.le n _)|(with_reducible refine Le.jn ?_ (fun _ => ?_) fun _ => ?_)|(with_reducible refine Le.rs ?_ (fun _ => ?_) fun _ => ?_)|(with_reducible refine Le.rb ?_ (fun _ _ => ?_) fun _ => ?_)|(with_reducible refine Le.bind ?_ fun _ => ?_)|(with_reducible refine Le.ite ?_ ?_)|dsimp only|split
noncomputable def MB.z16 (n:Nat) (ih:(q09)→(Int)→(List q07)→Option (List q07)) (a89:q09) (x103:Int) (x104:List q07):Option (List q07):=do
 if (decide (x103<(a89.gv.z09.length:Int))) then
  let x117←ix a89.gv.z09 x103
  let a118←MF.q1z n (q09.mk x117) ([102,105,101,108,100,115]:List UInt8)
  let a120←MF.q1m n a118.gv
  let a122←MF.q23 n (q09.mk x117) ([105,100]:List UInt8)
  let a124←MF.q23 n (q09.mk x117) ([107,105,110,100]:List UInt8)
  let a126←MF.q23 n (q09.mk x117) ([116,97,103]:List UInt8)
  let l128←app 72 x104 [(q07.mk a122 a124 a126 a120.1)]
  ih a89 (ya .i64 (x103+1)) l128
 else
  some x104
noncomputable def MF.z16 (n:Nat):(q09)→(Int)→(List q07)→Option (List q07):=Nat.rec (motive:=fun _=>(q09)→(Int)→(List q07)→Option (List q07)) (fun _ _ _=>none) (fun n ih=>MB.z16 n ih) n
theorem MF.z16.le:∀ (n:Nat) (a89:q09) (x103:Int) (x104:List q07),Le (MF.z16 n a89 x103 x104) (M.z16 a89 x103 x104):=by
 intro n;induction n with
 | zero=>intros;exact Le.none _
 | succ n ih =>
  intro a89 x103 x104
  show Le (MB.z16 n (MF.z16 n) a89 x103 x104) _
  rw [M.z16];unfold MB.z16
  repeat' first|(with_reducible exact Le.refl _)|(with_reducible exact ih _ _ _)|(with_reducible exact MF.q1z.le n _ _)|(with_reducible exact MF.q1m.le n _)|(with_reducible exact MF.q23.le n _ _)|(with_reducible refine Le.jn ?_ (fun _ => ?_) fun _ => ?_)|(with_reducible refine Le.rs ?_ (fun _ => ?_) fun _ => ?_)|(with_reducible refine Le.rb ?_ (fun _ _ => ?_) fun _ => ?_)|(with_reducible refine Le.bind ?_ fun _ => ?_)|(with_reducible refine Le.ite ?_ ?_)|dsimp only|split
noncomputable def MF.q1l (n:Nat) (p0:q09):Option q06:=do
 let a1←MF.q22 n p0 ([101,114,114,111,114]:List UInt8)
 let a3←MF.q23 n p0 ([103,114,97,110,116]:List UInt8)
 let a5←MF.q23 n p0 ([97,99,99,101,115,115,95,116,111,107,101,110]:List UInt8)
 let a7←MF.q23 n p0 ([114,101,102,114,101,115,104,95,116,111,107,101,110]:List UInt8)
 let a9←MF.q23 n p0 ([105,100,95,116,111,107,101,110]:List UInt8)
 let a11←MF.q23 n p0 ([116,101,120,116]:List UInt8)
 let a13←MF.q24 n p0 ([115,99,111,112,101]:List UInt8)
 let a15←MF.q22 n p0 ([101,120,112,105,114,101,115,95,105,110]:List UInt8)
 let a17←MF.q22 n p0 ([108,101,118,101,108]:List UInt8)
 let a19←MF.q22 n p0 ([116,111,116,97,108]:List UInt8)
 let a21←MF.q1z n p0 ([97,99,116,105,118,101]:List UInt8)
 let a23←MF.q1z n p0 ([99,108,97,105,109,115]:List UInt8)
 let a25←MF.q23 n a23 ([105,115,115]:List UInt8)
 let a27←MF.q23 n a23 ([115,117,98]:List UInt8)
 let a29←MF.q23 n a23 ([97,117,100]:List UInt8)
 let a31←MF.q23 n a23 ([99,108,105,101,110,116,95,105,100]:List UInt8)
 let a33←MF.q23 n a23 ([106,116,105]:List UInt8)
 let a35←MF.q23 n a23 ([110,111,110,99,101]:List UInt8)
 let a37←MF.q22 n a23 ([105,97,116]:List UInt8)
 let a39←MF.q22 n a23 ([101,120,112]:List UInt8)
 let a41←MF.q22 n a23 ([108,101,118,101,108]:List UInt8)
 let a43←MF.q24 n a23 ([115,99,111,112,101]:List UInt8)
 let a45←MF.q24 n a23 ([97,99,116]:List UInt8)
 let j88←(do
   let a89←MF.q1z n p0 ([116,104,105,110,103,115]:List UInt8)
   MF.z16 n a89 0 []:Option (List q07))
 some (q06.mk 0 a1 ([]:List UInt8) a3 a5 a7 a9 a11 a13 a15 a17 a19 (decide (a21.gv.zk=2)) (q01.mk a25 a27 a29 a31 a33 a35 a37 a39 a41 a43 a45) j88)
theorem MF.q1l.le (n:Nat) (p0:q09):Le (MF.q1l n p0) (M.q1l p0):=by
 unfold MF.q1l M.q1l
 repeat' first|(with_reducible exact Le.refl _)|(with_reducible exact MF.q22.le n _ _)|(with_reducible exact MF.q23.le n _ _)|(with_reducible exact MF.q24.le n _ _)|(with_reducible exact MF.q1z.le n _ _)|(with_reducible exact MF.z16.le n _ _ _)|(with_reducible refine Le.jn ?_ (fun _ => ?_) fun _ => ?_)|(with_reducible refine Le.rs ?_ (fun _ => ?_) fun _ => ?_)|(with_reducible refine Le.rb ?_ (fun _ _ => ?_) fun _ => ?_)|(with_reducible refine Le.bind ?_ fun _ => ?_)|(with_reducible refine Le.ite ?_ ?_)|dsimp only|split
noncomputable def MF.q0t (n:Nat) (fuel:Nat) (p0:List UInt8):Option (q06 × Int × Int):=do
 let a1←M.q1f p0
 let a5←M.q1p ((decide (0<a1))||(decide ((p0.length:Int)<8192))) 220
 match a5 with
 | .pan e8 =>
  some ((q06.mk 0 0 ([]:List UInt8) ([]:List UInt8) ([]:List UInt8) ([]:List UInt8) ([]:List UInt8) ([]:List UInt8) [] 0 0 0 false (q01.mk ([]:List UInt8) ([]:List UInt8) ([]:List UInt8) ([]:List UInt8) ([]:List UInt8) ([]:List UInt8) 0 0 0 [] []) []),0,e8)
 | .ok a7 =>
  let a9←M.q1p (decide (0<a1)) 223
  match a9 with
  | .pan e12 =>
   some ((q06.mk 0 0 ([]:List UInt8) ([]:List UInt8) ([]:List UInt8) ([]:List UInt8) ([]:List UInt8) ([]:List UInt8) [] 0 0 0 false (q01.mk ([]:List UInt8) ([]:List UInt8) ([]:List UInt8) ([]:List UInt8) ([]:List UInt8) ([]:List UInt8) 0 0 0 [] []) []),0,e12)
  | .ok a11 =>
   let s13←sub p0 0 (ya .i64 (a1 - 4))
   let a14←M.split s13 ([13,10]:List UInt8)
   let j18←(do
     if (decide (3≤(a14.length:Int))) then
      let x19←ix a14 0
      some (decide (12<(x19.length:Int)))
     else
      some false:Option Bool)
   let a20←M.q1p j18 220
   match a20 with
   | .pan e23 =>
    some ((q06.mk 0 0 ([]:List UInt8) ([]:List UInt8) ([]:List UInt8) ([]:List UInt8) ([]:List UInt8) ([]:List UInt8) [] 0 0 0 false (q01.mk ([]:List UInt8) ([]:List UInt8) ([]:List UInt8) ([]:List UInt8) ([]:List UInt8) ([]:List UInt8) 0 0 0 [] []) []),0,e23)
   | .ok a22 =>
    let x24←ix a14 0
    let s25←sub x24 9 12
    let a26←M.q1t s25 3
    let j31←(do
      if a26.2 then
       let a32←M.q2v a26.1
       some (!decide (a32=([]:List UInt8)))
      else
       some false:Option Bool)
    let a34←M.q1p j31 220
    match a34 with
    | .pan e37 =>
     some ((q06.mk 0 0 ([]:List UInt8) ([]:List UInt8) ([]:List UInt8) ([]:List UInt8) ([]:List UInt8) ([]:List UInt8) [] 0 0 0 false (q01.mk ([]:List UInt8) ([]:List UInt8) ([]:List UInt8) ([]:List UInt8) ([]:List UInt8) ([]:List UInt8) 0 0 0 [] []) []),0,e37)
    | .ok a36 =>
     let j49←(do
       if (decide ((a14.length:Int)=4)) then
        let x50←ix a14 2
        let a51←M.q73 x50 ([115,101,116,45,99,111,111,107,105,101,58,32,115,101,115,115,105,111,110,61]:List UInt8)
        let a53←M.cut a51 ([59]:List UInt8)
        some a53.1
       else
        some ([]:List UInt8):Option (List UInt8))
     let a55←M.trim j49 ([65,66,67,68,69,70,71,72,73,74,75,76,77,78,79,80,81,82,83,84,85,86,87,88,89,90,97,98,99,100,101,102,103,104,105,106,107,108,109,110,111,112,113,114,115,116,117,118,119,120,121,122,48,49,50,51,52,53,54,55,56,57,45,95]:List UInt8)
     let a57←M.q1p (decide (a55=([]:List UInt8))) 220
     match a57 with
     | .pan e60 =>
      some ((q06.mk 0 0 ([]:List UInt8) ([]:List UInt8) ([]:List UInt8) ([]:List UInt8) ([]:List UInt8) ([]:List UInt8) [] 0 0 0 false (q01.mk ([]:List UInt8) ([]:List UInt8) ([]:List UInt8) ([]:List UInt8) ([]:List UInt8) ([]:List UInt8) 0 0 0 [] []) []),0,e60)
     | .ok a59 =>
      let x61←ix a14 (ya .i64 ((a14.length:Int) - 1))
      let a62←M.q73 x61 ([99,111,110,116,101,110,116,45,108,101,110,103,116,104,58,32]:List UInt8)
      let a64←M.q1t a62 5
      let q96←(do
        if a64.2 then
         if (decide (a64.1≤16384)) then
          let s97←sub p0 0 a1
          let a98←M.q1j a26.1 j49 a64.1
          let a100←M.q1p (decide (a98=s97)) 220
          match a100 with
          | .pan e103 =>
           some (.done ((q06.mk 0 0 ([]:List UInt8) ([]:List UInt8) ([]:List UInt8) ([]:List UInt8) ([]:List UInt8) ([]:List UInt8) [] 0 0 0 false (q01.mk ([]:List UInt8) ([]:List UInt8) ([]:List UInt8) ([]:List UInt8) ([]:List UInt8) ([]:List UInt8) 0 0 0 [] []) []),0,e103))
          | .ok a102 =>
           some (.go ())
         else
          let a104←M.q1p false 220
          match a104 with
          | .pan e107 =>
           some (.done ((q06.mk 0 0 ([]:List UInt8) ([]:List UInt8) ([]:List UInt8) ([]:List UInt8) ([]:List UInt8) ([]:List UInt8) [] 0 0 0 false (q01.mk ([]:List UInt8) ([]:List UInt8) ([]:List UInt8) ([]:List UInt8) ([]:List UInt8) ([]:List UInt8) 0 0 0 [] []) []),0,e107))
          | .ok a106 =>
           some (.go ())
        else
         let a108←M.q1p false 220
         match a108 with
         | .pan e111 =>
          some (.done ((q06.mk 0 0 ([]:List UInt8) ([]:List UInt8) ([]:List UInt8) ([]:List UInt8) ([]:List UInt8) ([]:List UInt8) [] 0 0 0 false (q01.mk ([]:List UInt8) ([]:List UInt8) ([]:List UInt8) ([]:List UInt8) ([]:List UInt8) ([]:List UInt8) 0 0 0 [] []) []),0,e111))
         | .ok a110 =>
          some (.go ()):Option (Jn (q06 × Int × Int) Unit))
      match q96 with
      | .done r=>some r
      | .go j96 =>
       let a112←M.q1p (decide (a64.1≤(ya .i64 ((p0.length:Int) - a1)))) 223
       match a112 with
       | .pan e115 =>
        some ((q06.mk 0 0 ([]:List UInt8) ([]:List UInt8) ([]:List UInt8) ([]:List UInt8) ([]:List UInt8) ([]:List UInt8) [] 0 0 0 false (q01.mk ([]:List UInt8) ([]:List UInt8) ([]:List UInt8) ([]:List UInt8) ([]:List UInt8) ([]:List UInt8) 0 0 0 [] []) []),0,e115)
       | .ok a114 =>
        let s116←sub p0 a1 (ya .i64 (a1+a64.1))
        let a117←MF.q35 n fuel s116
        let a119←M.q1p (decide (a117.2=0)) 220
        match a119 with
        | .pan e122 =>
         some ((q06.mk 0 0 ([]:List UInt8) ([]:List UInt8) ([]:List UInt8) ([]:List UInt8) ([]:List UInt8) ([]:List UInt8) [] 0 0 0 false (q01.mk ([]:List UInt8) ([]:List UInt8) ([]:List UInt8) ([]:List UInt8) ([]:List UInt8) ([]:List UInt8) 0 0 0 [] []) []),0,e122)
        | .ok a121 =>
         let a123←MF.q1l n (q09.mk a117.1)
         let a125←MF.q0v n fuel (q06.mk a26.1 a123.z1d j49 a123.z3m a123.z2o a123.z29 a123.gId a123.z0h a123.z04 a123.z1s a123.z1t a123.z2v a123.z4n a123.z05 a123.z3i)
         let j129←(do
           if (decide (a125.2=0)) then
            let s130←sub p0 0 (ya .i64 (a1+a64.1))
            some (decide (a125.1=s130))
           else
            some false:Option Bool)
         let a131←M.q1p j129 220
         match a131 with
         | .pan e134 =>
          some ((q06.mk 0 0 ([]:List UInt8) ([]:List UInt8) ([]:List UInt8) ([]:List UInt8) ([]:List UInt8) ([]:List UInt8) [] 0 0 0 false (q01.mk ([]:List UInt8) ([]:List UInt8) ([]:List UInt8) ([]:List UInt8) ([]:List UInt8) ([]:List UInt8) 0 0 0 [] []) []),0,e134)
         | .ok a133 =>
          some ((q06.mk a26.1 a123.z1d j49 a123.z3m a123.z2o a123.z29 a123.gId a123.z0h a123.z04 a123.z1s a123.z1t a123.z2v a123.z4n a123.z05 a123.z3i),(ya .i64 (a1+a64.1)),0)
theorem MF.q0t.le (n:Nat) (fuel:Nat) (p0:List UInt8):Le (MF.q0t n fuel p0) (M.q0t fuel p0):=by
 unfold MF.q0t M.q0t
 repeat' first|(with_reducible exact Le.refl _)|(with_reducible exact MF.q35.le n _ _)|(with_reducible exact MF.q1l.le n _)|(with_reducible exact MF.q0v.le n _ _)|(with_reducible refine Le.jn ?_ (fun _ => ?_) fun _ => ?_)|(with_reducible refine Le.rs ?_ (fun _ => ?_) fun _ => ?_)|(with_reducible refine Le.rb ?_ (fun _ _ => ?_) fun _ => ?_)|(with_reducible refine Le.bind ?_ fun _ => ?_)|(with_reducible refine Le.ite ?_ ?_)|dsimp only|split
noncomputable def MB.z06 (n:Nat) (ih:((List (List UInt8)))→(q00)→(Int)→(List (List UInt8))→Option (List (List UInt8))) (a21:(List (List UInt8))) (p1:q00) (x27:Int) (x28:List (List UInt8)):Option (List (List UInt8)):=do
 if (decide (x27<(a21.length:Int))) then
  let x33←ix a21 x27
  let j35←(do
    if (decide (x33=([79,70]:List UInt8))) then
     some p1.gOf
    else
     if (decide (x33=([78,65,77,69]:List UInt8))) then
      some p1.z0y
     else
      some x33:Option (List UInt8))
  let l36←app 16 x28 [j35]
  ih a21 p1 (ya .i64 (x27+1)) l36
 else
  some x28
noncomputable def MF.z06 (n:Nat):((List (List UInt8)))→(q00)→(Int)→(List (List UInt8))→Option (List (List UInt8)):=Nat.rec (motive:=fun _=>((List (List UInt8)))→(q00)→(Int)→(List (List UInt8))→Option (List (List UInt8))) (fun _ _ _ _=>none) (fun n ih=>MB.z06 n ih) n
theorem MF.z06.le:∀ (n:Nat) (a21:(List (List UInt8))) (p1:q00) (x27:Int) (x28:List (List UInt8)),Le (MF.z06 n a21 p1 x27 x28) (M.z06 a21 p1 x27 x28):=by
 intro n;induction n with
 | zero=>intros;exact Le.none _
 | succ n ih =>
  intro a21 p1 x27 x28
  show Le (MB.z06 n (MF.z06 n) a21 p1 x27 x28) _
  rw [M.z06];unfold MB.z06
  repeat' first|(with_reducible exact Le.refl _)|(with_reducible exact ih _ _ _ _)|(with_reducible refine Le.jn ?_ (fun _ => ?_) fun _ => ?_)|(with_reducible refine Le.rs ?_ (fun _ => ?_) fun _ => ?_)|(with_reducible refine Le.rb ?_ (fun _ _ => ?_) fun _ => ?_)|(with_reducible refine Le.bind ?_ fun _ => ?_)|(with_reducible refine Le.ite ?_ ?_)|dsimp only|split
noncomputable def MB.z0n (n:Nat) (ih:(Int)→(Int)→(Int)→(List Int)→Option (Int × (List Int))) (x233:Int) (x323:Int) (x341:Int) (x342:List Int):Option (Int × (List Int)):=do
 if (decide (6≤x341)) then
  let _←chk (decide (0≤(ya .i64 (x341 - 6))))
  let c346←ix ([65,66,67,68,69,70,71,72,73,74,75,76,77,78,79,80,81,82,83,84,85,86,87,88,89,90,97,98,99,100,101,102,103,104,105,106,107,108,109,110,111,112,113,114,115,116,117,118,119,120,121,122,48,49,50,51,52,53,54,55,56,57,45,95]:List UInt8) (z9d .i64 (zfo .i64 (orI .i64 (z52 .i64 x233 8) (ya .i64 x323)) (ya .i64 (x341 - 6))) 63)
  let a347←M.q6z x342 (c346.toNat:Int)
  ih x233 x323 (ya .i64 (x341 - 6)) a347
 else
  some (x341,x342)
noncomputable def MF.z0n (n:Nat):(Int)→(Int)→(Int)→(List Int)→Option (Int × (List Int)):=Nat.rec (motive:=fun _=>(Int)→(Int)→(Int)→(List Int)→Option (Int × (List Int))) (fun _ _ _ _=>none) (fun n ih=>MB.z0n n ih) n
theorem MF.z0n.le:∀ (n:Nat) (x233:Int) (x323:Int) (x341:Int) (x342:List Int),Le (MF.z0n n x233 x323 x341 x342) (M.z0n x233 x323 x341 x342):=by
 intro n;induction n with
 | zero=>intros;exact Le.none _
 | succ n ih =>
  intro x233 x323 x341 x342
  show Le (MB.z0n n (MF.z0n n) x233 x323 x341 x342) _
  rw [M.z0n];unfold MB.z0n
  repeat' first|(with_reducible exact Le.refl _)|(with_reducible exact ih _ _ _ _)|(with_reducible refine Le.jn ?_ (fun _ => ?_) fun _ => ?_)|(with_reducible refine Le.rs ?_ (fun _ => ?_) fun _ => ?_)|(with_reducible refine Le.rb ?_ (fun _ _ => ?_) fun _ => ?_)|(with_reducible refine Le.bind ?_ fun _ => ?_)|(with_reducible refine Le.ite ?_ ?_)|dsimp only|split
noncomputable def MB.z0m (n:Nat) (ih:(List UInt8)→(Int)→(Int)→(Int)→(List Int)→Option (Int × Int × (List Int))) (p0:List UInt8) (x233:Int) (x234:Int) (x235:Int) (x236:List Int):Option (Int × Int × (List Int)):=do
 if (decide (x235<((unb p0).length:Int))) then
  let j322←(do
    let x323←ix (unb p0) x235
    let j337←(do
      MF.z0n n x233 x323 (ya .i64 (x234+8)) x236:Option (Int × (List Int)))
    let _←chk (decide (0≤j337.1))
    some ((z9d .i64 (orI .i64 (z52 .i64 x233 8) (ya .i64 x323)) (ya .i64 ((z52 .i64 1 j337.1) - 1))),j337.1,j337.2):Option (Int × Int × (List Int)))
  ih p0 j322.1 j322.2.1 (ya .i64 (x235+1)) j322.2.2
 else
  some (x233,x234,x236)
noncomputable def MF.z0m (n:Nat):(List UInt8)→(Int)→(Int)→(Int)→(List Int)→Option (Int × Int × (List Int)):=Nat.rec (motive:=fun _=>(List UInt8)→(Int)→(Int)→(Int)→(List Int)→Option (Int × Int × (List Int))) (fun _ _ _ _ _=>none) (fun n ih=>MB.z0m n ih) n
theorem MF.z0m.le:∀ (n:Nat) (p0:List UInt8) (x233:Int) (x234:Int) (x235:Int) (x236:List Int),Le (MF.z0m n p0 x233 x234 x235 x236) (M.z0m p0 x233 x234 x235 x236):=by
 intro n;induction n with
 | zero=>intros;exact Le.none _
 | succ n ih =>
  intro p0 x233 x234 x235 x236
  show Le (MB.z0m n (MF.z0m n) p0 x233 x234 x235 x236) _
  rw [M.z0m];unfold MB.z0m
  repeat' first|(with_reducible exact Le.refl _)|(with_reducible exact ih _ _ _ _ _)|(with_reducible exact MF.z0n.le n _ _ _ _)|(with_reducible refine Le.jn ?_ (fun _ => ?_) fun _ => ?_)|(with_reducible refine Le.rs ?_ (fun _ => ?_) fun _ => ?_)|(with_reducible refine Le.rb ?_ (fun _ _ => ?_) fun _ => ?_)|(with_reducible refine Le.bind ?_ fun _ => ?_)|(with_reducible refine Le.ite ?_ ?_)|dsimp only|split
noncomputable def MF.q0h (n:Nat) (p0:List UInt8):Option (List UInt8):=do
 let j176←(do
   let _←chk (decide (p0.length≤9223372036854775807))
   MF.z0m n p0 0 0 0 ([]:List Int):Option (Int × Int × (List Int)))
 if (decide (0<j176.2.1)) then
  let _←chk (decide (0≤(ya .i64 (6 - j176.2.1))))
  let c349←ix ([65,66,67,68,69,70,71,72,73,74,75,76,77,78,79,80,81,82,83,84,85,86,87,88,89,90,97,98,99,100,101,102,103,104,105,106,107,108,109,110,111,112,113,114,115,116,117,118,119,120,121,122,48,49,50,51,52,53,54,55,56,57,45,95]:List UInt8) (z9d .i64 (z52 .i64 j176.1 (ya .i64 (6 - j176.2.1))) 63)
  let a350←M.q6z j176.2.2 (c349.toNat:Int)
  let a352←M.zm a350
  some a352
 else
  let a354←M.zm j176.2.2
  some a354
theorem MF.q0h.le (n:Nat) (p0:List UInt8):Le (MF.q0h n p0) (M.q0h p0):=by
 unfold MF.q0h M.q0h
 repeat' first|(with_reducible exact Le.refl _)|(with_reducible exact MF.z0m.le n _ _ _ _ _)|(with_reducible refine Le.jn ?_ (fun _ => ?_) fun _ => ?_)|(with_reducible refine Le.rs ?_ (fun _ => ?_) fun _ => ?_)|(with_reducible refine Le.rb ?_ (fun _ _ => ?_) fun _ => ?_)|(with_reducible refine Le.bind ?_ fun _ => ?_)|(with_reducible refine Le.ite ?_ ?_)|dsimp only|split
noncomputable def MB.z02 (n:Nat) (ih:(q0a)→(q00)→(List q05)→(Int)→Option (List q05)) (p0:q0a) (p1:q00) (x235:List q05) (x236:Int):Option (List q05):=do
 if (decide (x236<(p0.z1y.length:Int))) then
  let x283←ix p0.z1y x236
  let j313←(do
    let a314←M.q2p x283 p1
    if a314=24 then
     if (decide (p1.z2e=0)) then
      some ([]:List UInt8)
     else
      let a316←M.itoa p1.z2e
      some a316
    else
     if a314=25 then
      if (decide (p1.z1j=0)) then
       some ([]:List UInt8)
      else
       let a318←M.itoa p1.z1j
       some a318
     else
      if a314=1000000 then
       if x283.zj4 then
        let a320←M.q0q x283.z4o p1
        let s322←q00.zjm p1 a320
        let a323←MF.q0h n s322
        some a323
       else
        if (!Nat.beq x283.z4o NF) then
         let a325←M.q0q x283.z4o p1
         let s327←q00.zjm p1 a325
         some s327
        else
         some x283.zal
      else
       none:Option (List UInt8))
  if (!decide (j313=([]:List UInt8))) then
   let l328←app 32 x235 [(q05.mk x283.zek j313)]
   ih p0 p1 l328 (ya .i64 (x236+1))
  else
   ih p0 p1 x235 (ya .i64 (x236+1))
 else
  some x235
noncomputable def MF.z02 (n:Nat):(q0a)→(q00)→(List q05)→(Int)→Option (List q05):=Nat.rec (motive:=fun _=>(q0a)→(q00)→(List q05)→(Int)→Option (List q05)) (fun _ _ _ _=>none) (fun n ih=>MB.z02 n ih) n
theorem MF.z02.le:∀ (n:Nat) (p0:q0a) (p1:q00) (x235:List q05) (x236:Int),Le (MF.z02 n p0 p1 x235 x236) (M.z02 p0 p1 x235 x236):=by
 intro n;induction n with
 | zero=>intros;exact Le.none _
 | succ n ih =>
  intro p0 p1 x235 x236
  show Le (MB.z02 n (MF.z02 n) p0 p1 x235 x236) _
  rw [M.z02];unfold MB.z02
  repeat' first|(with_reducible exact Le.refl _)|(with_reducible exact ih _ _ _ _)|(with_reducible exact MF.q0h.le n _)|(with_reducible refine Le.jn ?_ (fun _ => ?_) fun _ => ?_)|(with_reducible refine Le.rs ?_ (fun _ => ?_) fun _ => ?_)|(with_reducible refine Le.rb ?_ (fun _ _ => ?_) fun _ => ?_)|(with_reducible refine Le.bind ?_ fun _ => ?_)|(with_reducible refine Le.ite ?_ ?_)|dsimp only|split
noncomputable def MB.z07 (n:Nat) (ih:(List UInt8)→(List UInt8)→(Int)→(List Int)→Option (List Int)) (p0:List UInt8) (p1:List UInt8) (x105:Int) (x106:List Int):Option (List Int):=do
 if (decide (x105<((unb p0).length:Int))) then
  let x132←ix (unb p0) x105
  let j144←(do
    if ((((decide (65≤x132))&&(decide (x132≤90)))||((decide (97≤x132))&&(decide (x132≤122))))||((decide (48≤x132))&&(decide (x132≤57)))) then
     some true
    else
     let a145←M.z1q ([45,46,95,126]:List UInt8) x132
     some (decide (0≤a145)):Option Bool)
  if j144 then
   let a147←M.q6z x106 x132
   ih p0 p1 (ya .i64 (x105+1)) a147
  else
   if (decide (x132=32)) then
    let a149←M.q70 x106 p1
    ih p0 p1 (ya .i64 (x105+1)) a149.2
   else
    let s151←sub ([48,49,50,51,52,53,54,55,56,57,65,66,67,68,69,70]:List UInt8) (zfo .u8 x132 4) (ya .u8 ((zfo .u8 x132 4)+1))
    let s152←cat ([37]:List UInt8) s151
    let s153←sub ([48,49,50,51,52,53,54,55,56,57,65,66,67,68,69,70]:List UInt8) (z9d .u8 x132 15) (ya .u8 ((z9d .u8 x132 15)+1))
    let s154←cat s152 s153
    let a155←M.q70 x106 s154
    ih p0 p1 (ya .i64 (x105+1)) a155.2
 else
  some x106
noncomputable def MF.z07 (n:Nat):(List UInt8)→(List UInt8)→(Int)→(List Int)→Option (List Int):=Nat.rec (motive:=fun _=>(List UInt8)→(List UInt8)→(Int)→(List Int)→Option (List Int)) (fun _ _ _ _=>none) (fun n ih=>MB.z07 n ih) n
theorem MF.z07.le:∀ (n:Nat) (p0:List UInt8) (p1:List UInt8) (x105:Int) (x106:List Int),Le (MF.z07 n p0 p1 x105 x106) (M.z07 p0 p1 x105 x106):=by
 intro n;induction n with
 | zero=>intros;exact Le.none _
 | succ n ih =>
  intro p0 p1 x105 x106
  show Le (MB.z07 n (MF.z07 n) p0 p1 x105 x106) _
  rw [M.z07];unfold MB.z07
  repeat' first|(with_reducible exact Le.refl _)|(with_reducible exact ih _ _ _ _)|(with_reducible refine Le.jn ?_ (fun _ => ?_) fun _ => ?_)|(with_reducible refine Le.rs ?_ (fun _ => ?_) fun _ => ?_)|(with_reducible refine Le.rb ?_ (fun _ _ => ?_) fun _ => ?_)|(with_reducible refine Le.bind ?_ fun _ => ?_)|(with_reducible refine Le.ite ?_ ?_)|dsimp only|split
noncomputable def MF.q0p (n:Nat) (p0:List UInt8) (p1:List UInt8):Option (List UInt8):=do
 let j79←(do
   let _←chk (decide (p0.length≤9223372036854775807))
   MF.z07 n p0 p1 0 ([]:List Int):Option (List Int))
 let a157←M.zm j79
 some a157
theorem MF.q0p.le (n:Nat) (p0:List UInt8) (p1:List UInt8):Le (MF.q0p n p0 p1) (M.q0p p0 p1):=by
 unfold MF.q0p M.q0p
 repeat' first|(with_reducible exact Le.refl _)|(with_reducible exact MF.z07.le n _ _ _ _)|(with_reducible refine Le.jn ?_ (fun _ => ?_) fun _ => ?_)|(with_reducible refine Le.rs ?_ (fun _ => ?_) fun _ => ?_)|(with_reducible refine Le.rb ?_ (fun _ _ => ?_) fun _ => ?_)|(with_reducible refine Le.bind ?_ fun _ => ?_)|(with_reducible refine Le.ite ?_ ?_)|dsimp only|split
noncomputable def MB.z0z (n:Nat) (ih:(List q05)→(List (List UInt8))→(Int)→Option (List (List UInt8))) (p0:List q05) (x37:List (List UInt8)) (x38:Int):Option (List (List UInt8)):=do
 if (decide (x38<(p0.length:Int))) then
  let x47←ix p0 x38
  let a48←MF.q0p n x47.z0y ([43]:List UInt8)
  let s50←cat a48 ([61]:List UInt8)
  let a51←MF.q0p n x47.z3q ([43]:List UInt8)
  let s53←cat s50 a51
  let l54←app 16 x37 [s53]
  ih p0 l54 (ya .i64 (x38+1))
 else
  some x37
noncomputable def MF.z0z (n:Nat):(List q05)→(List (List UInt8))→(Int)→Option (List (List UInt8)):=Nat.rec (motive:=fun _=>(List q05)→(List (List UInt8))→(Int)→Option (List (List UInt8))) (fun _ _ _=>none) (fun n ih=>MB.z0z n ih) n
theorem MF.z0z.le:∀ (n:Nat) (p0:List q05) (x37:List (List UInt8)) (x38:Int),Le (MF.z0z n p0 x37 x38) (M.z0z p0 x37 x38):=by
 intro n;induction n with
 | zero=>intros;exact Le.none _
 | succ n ih =>
  intro p0 x37 x38
  show Le (MB.z0z n (MF.z0z n) p0 x37 x38) _
  rw [M.z0z];unfold MB.z0z
  repeat' first|(with_reducible exact Le.refl _)|(with_reducible exact ih _ _ _)|(with_reducible exact MF.q0p.le n _ _)|(with_reducible refine Le.jn ?_ (fun _ => ?_) fun _ => ?_)|(with_reducible refine Le.rs ?_ (fun _ => ?_) fun _ => ?_)|(with_reducible refine Le.rb ?_ (fun _ _ => ?_) fun _ => ?_)|(with_reducible refine Le.bind ?_ fun _ => ?_)|(with_reducible refine Le.ite ?_ ?_)|dsimp only|split
noncomputable def MF.q0i (n:Nat) (p0:List q05):Option ((List UInt8) × Int):=do
 if (decide (64<(p0.length:Int))) then
  some (([]:List UInt8),14)
 else
  let j28←(do
    MF.z0z n p0 [] 0:Option (List (List UInt8)))
  let a55←M.join j28 ([38]:List UInt8)
  if (decide (8192<(a55.length:Int))) then
   some (([]:List UInt8),14)
  else
   some (a55,0)
theorem MF.q0i.le (n:Nat) (p0:List q05):Le (MF.q0i n p0) (M.q0i p0):=by
 unfold MF.q0i M.q0i
 repeat' first|(with_reducible exact Le.refl _)|(with_reducible exact MF.z0z.le n _ _ _)|(with_reducible refine Le.jn ?_ (fun _ => ?_) fun _ => ?_)|(with_reducible refine Le.rs ?_ (fun _ => ?_) fun _ => ?_)|(with_reducible refine Le.rb ?_ (fun _ _ => ?_) fun _ => ?_)|(with_reducible refine Le.bind ?_ fun _ => ?_)|(with_reducible refine Le.ite ?_ ?_)|dsimp only|split
noncomputable def MF.q2c (n:Nat) (fuel:Nat) (p0:q0a) (p1:q00):Option (q03 × Int):=do
 let j19←(do
   let s20←sub p0.zam 1 (p0.zam.length:Int)
   let a21←M.split s20 ([47]:List UInt8)
   MF.z06 n a21 p1 0 []:Option (List (List UInt8)))
 let s37←cat ([115,101,115,115,105,111,110,61]:List UInt8) p1.z0f
 let a38←M.q2d 1 p1.z0f ([99,111,111,107,105,101]:List UInt8) s37 p0 (q03.mk p0.z4p j19 [] [(q05.mk ([104,111,115,116]:List UInt8) ([105,100,112]:List UInt8))] ([]:List UInt8))
 let s40←cat ([66,101,97,114,101,114,32]:List UInt8) p1.z1u
 let a41←M.q2d 2 p1.z1u ([97,117,116,104,111,114,105,122,97,116,105,111,110]:List UInt8) s40 p0 (q03.mk a38.z0e a38.z1p [] a38.z22 a38.z0c)
 let s43←cat ([34]:List UInt8) p1.z3y
 let s44←cat s43 ([34]:List UInt8)
 let a45←M.q2d 4 p1.z3y ([105,102,45,109,97,116,99,104]:List UInt8) s44 p0 (q03.mk a41.z0e a41.z1p [] a41.z22 a41.z0c)
 let j188←(do
   MF.z02 n p0 p1 [] 0:Option (List q05))
 if (decide (p0.z34=2)) then
  some ((q03.mk a45.z0e a45.z1p j188 a45.z22 a45.z0c),0)
 else
  if (decide (p0.z34=1)) then
   let a329←MF.q0i n j188
   some ((q03.mk a45.z0e a45.z1p [] a45.z22 a329.1),a329.2)
  else
   if (decide (p0.z34=4)) then
    some ((q03.mk a45.z0e a45.z1p [] a45.z22 p1.z1i),0)
   else
    if (decide (p0.z34=3)) then
     let a331←M.q1v
     let a333←M.q2m p1.z0y
     let a335←M.q1n a331 true ([105,100]:List UInt8) a333
     let a337←MF.q1u n p1.z0d
     let a339←M.q1n a335 true ([102,105,101,108,100,115]:List UInt8) a337
     let a341←MF.q36 n fuel a339.zn
     some ((q03.mk a45.z0e a45.z1p [] a45.z22 a341.1),a341.2)
    else
     some ((q03.mk a45.z0e a45.z1p [] a45.z22 a45.z0c),0)
theorem MF.q2c.le (n:Nat) (fuel:Nat) (p0:q0a) (p1:q00):Le (MF.q2c n fuel p0 p1) (M.q2c fuel p0 p1):=by
 unfold MF.q2c M.q2c
 repeat' first|(with_reducible exact Le.refl _)|(with_reducible exact MF.z06.le n _ _ _ _)|(with_reducible exact MF.z02.le n _ _ _ _)|(with_reducible exact MF.q0i.le n _)|(with_reducible exact MF.q1u.le n _)|(with_reducible exact MF.q36.le n _ _)|(with_reducible refine Le.jn ?_ (fun _ => ?_) fun _ => ?_)|(with_reducible refine Le.rs ?_ (fun _ => ?_) fun _ => ?_)|(with_reducible refine Le.rb ?_ (fun _ _ => ?_) fun _ => ?_)|(with_reducible refine Le.bind ?_ fun _ => ?_)|(with_reducible refine Le.ite ?_ ?_)|dsimp only|split
noncomputable def MB.z15 (n:Nat) (ih:(List q05)→(Int)→(List ((List UInt8) × Bool))→Option (Jn Bool (List ((List UInt8) × Bool)))) (p0:List q05) (x55:Int) (x56:List ((List UInt8) × Bool)):Option (Jn Bool (List ((List UInt8) × Bool))):=do
 if (decide (x55<(p0.length:Int))) then
  let x69←ix p0 x55
  let a70←M.q1q x69.z0y
  let j75←(do
    if (!a70) then
     some true
    else
     let a76←MF.q2s n x69.z3q
     some (!a76):Option Bool)
  let j79←(do
    if j75 then
     some true
    else
     some (z4a x56 x69.z0y false):Option Bool)
  if j79 then
   some (.done false)
  else
   let m80←some (z2t x56 x69.z0y true)
   ih p0 (ya .i64 (x55+1)) m80
 else
  some (.go x56)
noncomputable def MF.z15 (n:Nat):(List q05)→(Int)→(List ((List UInt8) × Bool))→Option (Jn Bool (List ((List UInt8) × Bool))):=Nat.rec (motive:=fun _=>(List q05)→(Int)→(List ((List UInt8) × Bool))→Option (Jn Bool (List ((List UInt8) × Bool)))) (fun _ _ _=>none) (fun n ih=>MB.z15 n ih) n
theorem MF.z15.le:∀ (n:Nat) (p0:List q05) (x55:Int) (x56:List ((List UInt8) × Bool)),Le (MF.z15 n p0 x55 x56) (M.z15 p0 x55 x56):=by
 intro n;induction n with
 | zero=>intros;exact Le.none _
 | succ n ih =>
  intro p0 x55 x56
  show Le (MB.z15 n (MF.z15 n) p0 x55 x56) _
  rw [M.z15];unfold MB.z15
  repeat' first|(with_reducible exact Le.refl _)|(with_reducible exact ih _ _ _)|(with_reducible exact MF.q2s.le n _)|(with_reducible refine Le.jn ?_ (fun _ => ?_) fun _ => ?_)|(with_reducible refine Le.rs ?_ (fun _ => ?_) fun _ => ?_)|(with_reducible refine Le.rb ?_ (fun _ _ => ?_) fun _ => ?_)|(with_reducible refine Le.bind ?_ fun _ => ?_)|(with_reducible refine Le.ite ?_ ?_)|dsimp only|split
noncomputable def MF.q1k (n:Nat) (p0:List q05):Option Bool:=do
 let m1←some (z2t ([]:List ((List UInt8) × Bool)) ([99,111,110,116,101,110,116,45,108,101,110,103,116,104]:List UInt8) true)
 let m2←some (z2t m1 ([116,114,97,110,115,102,101,114,45,101,110,99,111,100,105,110,103]:List UInt8) true)
 let q42←(do
   MF.z15 n p0 0 m2:Option (Jn Bool (List ((List UInt8) × Bool))))
 match q42 with
 | .done r=>some r
 | .go j42 =>
  let j82←(do
    if (decide ((p0.length:Int)≤32)) then
     some (z4a j42 ([104,111,115,116]:List UInt8) false)
    else
     some false:Option Bool)
  some j82
theorem MF.q1k.le (n:Nat) (p0:List q05):Le (MF.q1k n p0) (M.q1k p0):=by
 unfold MF.q1k M.q1k
 repeat' first|(with_reducible exact Le.refl _)|(with_reducible exact MF.z15.le n _ _ _)|(with_reducible refine Le.jn ?_ (fun _ => ?_) fun _ => ?_)|(with_reducible refine Le.rs ?_ (fun _ => ?_) fun _ => ?_)|(with_reducible refine Le.rb ?_ (fun _ _ => ?_) fun _ => ?_)|(with_reducible refine Le.bind ?_ fun _ => ?_)|(with_reducible refine Le.ite ?_ ?_)|dsimp only|split
noncomputable def MF.q0n (n:Nat) (p0:List UInt8):Option (List UInt8):=do
 let a1←MF.q0p n p0 ([37,50,48]:List UInt8)
 some a1
theorem MF.q0n.le (n:Nat) (p0:List UInt8):Le (MF.q0n n p0) (M.q0n p0):=by
 unfold MF.q0n M.q0n
 repeat' first|(with_reducible exact Le.refl _)|(with_reducible exact MF.q0p.le n _ _)|(with_reducible refine Le.jn ?_ (fun _ => ?_) fun _ => ?_)|(with_reducible refine Le.rs ?_ (fun _ => ?_) fun _ => ?_)|(with_reducible refine Le.rb ?_ (fun _ _ => ?_) fun _ => ?_)|(with_reducible refine Le.bind ?_ fun _ => ?_)|(with_reducible refine Le.ite ?_ ?_)|dsimp only|split
noncomputable def MB.z10 (n:Nat) (ih:(q03)→(Int)→(List Int)→Option (List Int)) (p0:q03) (x76:Int) (x77:List Int):Option (List Int):=do
 if (decide (x76<(p0.z1p.length:Int))) then
  let x84←ix p0.z1p x76
  let a85←MF.q0n n x84
  let s87←cat ([47]:List UInt8) a85
  let a88←M.q70 x77 s87
  ih p0 (ya .i64 (x76+1)) a88.2
 else
  some x77
noncomputable def MF.z10 (n:Nat):(q03)→(Int)→(List Int)→Option (List Int):=Nat.rec (motive:=fun _=>(q03)→(Int)→(List Int)→Option (List Int)) (fun _ _ _=>none) (fun n ih=>MB.z10 n ih) n
theorem MF.z10.le:∀ (n:Nat) (p0:q03) (x76:Int) (x77:List Int),Le (MF.z10 n p0 x76 x77) (M.z10 p0 x76 x77):=by
 intro n;induction n with
 | zero=>intros;exact Le.none _
 | succ n ih =>
  intro p0 x76 x77
  show Le (MB.z10 n (MF.z10 n) p0 x76 x77) _
  rw [M.z10];unfold MB.z10
  repeat' first|(with_reducible exact Le.refl _)|(with_reducible exact ih _ _ _)|(with_reducible exact MF.q0n.le n _)|(with_reducible refine Le.jn ?_ (fun _ => ?_) fun _ => ?_)|(with_reducible refine Le.rs ?_ (fun _ => ?_) fun _ => ?_)|(with_reducible refine Le.rb ?_ (fun _ _ => ?_) fun _ => ?_)|(with_reducible refine Le.bind ?_ fun _ => ?_)|(with_reducible refine Le.ite ?_ ?_)|dsimp only|split
noncomputable def MB.z11 (n:Nat) (ih:(q03)→(Int)→(List Int)→Option (List Int)) (p0:q03) (x131:Int) (x132:List Int):Option (List Int):=do
 if (decide (x131<(p0.z22.length:Int))) then
  let x139←ix p0.z22 x131
  let s140←cat x139.z0y ([58,32]:List UInt8)
  let s141←cat s140 x139.z3q
  let s142←cat s141 ([13,10]:List UInt8)
  let a143←M.q70 x132 s142
  ih p0 (ya .i64 (x131+1)) a143.2
 else
  some x132
noncomputable def MF.z11 (n:Nat):(q03)→(Int)→(List Int)→Option (List Int):=Nat.rec (motive:=fun _=>(q03)→(Int)→(List Int)→Option (List Int)) (fun _ _ _=>none) (fun n ih=>MB.z11 n ih) n
theorem MF.z11.le:∀ (n:Nat) (p0:q03) (x131:Int) (x132:List Int),Le (MF.z11 n p0 x131 x132) (M.z11 p0 x131 x132):=by
 intro n;induction n with
 | zero=>intros;exact Le.none _
 | succ n ih =>
  intro p0 x131 x132
  show Le (MB.z11 n (MF.z11 n) p0 x131 x132) _
  rw [M.z11];unfold MB.z11
  repeat' first|(with_reducible exact Le.refl _)|(with_reducible exact ih _ _ _)|(with_reducible refine Le.jn ?_ (fun _ => ?_) fun _ => ?_)|(with_reducible refine Le.rs ?_ (fun _ => ?_) fun _ => ?_)|(with_reducible refine Le.rb ?_ (fun _ _ => ?_) fun _ => ?_)|(with_reducible refine Le.bind ?_ fun _ => ?_)|(with_reducible refine Le.ite ?_ ?_)|dsimp only|split
noncomputable def MF.q0u (n:Nat) (p0:q03):Option ((List UInt8) × Int):=do
 let a1←MF.q0i n p0.z2n
 let j27←(do
   if (!decide (a1.2=0)) then
    some true
   else
    let a28←M.q1o p0.z0e
    some (!a28):Option Bool)
 let j37←(do
   if ((j27||(decide ((p0.z1p.length:Int)=0)))||(decide (64<(p0.z1p.length:Int)))) then
    some true
   else
    let a38←MF.q1k n p0.z22
    some (!a38):Option Bool)
 if ((j37||((decide ((p0.z22.length:Int)=32))&&(!decide (p0.z0c=([]:List UInt8)))))||(decide (16384<(p0.z0c.length:Int)))) then
  some (([]:List UInt8),224)
 else
  let s45←cat p0.z0e ([32]:List UInt8)
  let a46←M.q70 ([]:List Int) s45
  let j69←(do
    MF.z10 n p0 0 a46.2:Option (List Int))
  let j97←(do
    if (!decide (a1.1=([]:List UInt8))) then
     let s98←cat ([63]:List UInt8) a1.1
     let a99←M.q70 j69 s98
     some a99.2
    else
     some j69:Option (List Int))
  let a101←M.q70 j97 ([32,72,84,84,80,47,49,46,49,13,10]:List UInt8)
  let j124←(do
    MF.z11 n p0 0 a101.2:Option (List Int))
  let j158←(do
    if (!decide (p0.z0c=([]:List UInt8))) then
     let a159←M.itoa (p0.z0c.length:Int)
     let s161←cat ([99,111,110,116,101,110,116,45,108,101,110,103,116,104,58,32]:List UInt8) a159
     let s162←cat s161 ([13,10]:List UInt8)
     let a163←M.q70 j124 s162
     some a163.2
    else
     some j124:Option (List Int))
  let a165←M.q70 j158 ([13,10]:List UInt8)
  let a169←M.q6y a165.2
  if (decide (8192<a169)) then
   some (([]:List UInt8),224)
  else
   let a171←M.zm a165.2
   let s173←cat a171 p0.z0c
   some (s173,0)
theorem MF.q0u.le (n:Nat) (p0:q03):Le (MF.q0u n p0) (M.q0u p0):=by
 unfold MF.q0u M.q0u
 repeat' first|(with_reducible exact Le.refl _)|(with_reducible exact MF.q0i.le n _)|(with_reducible exact MF.q1k.le n _)|(with_reducible exact MF.z10.le n _ _ _)|(with_reducible exact MF.z11.le n _ _ _)|(with_reducible refine Le.jn ?_ (fun _ => ?_) fun _ => ?_)|(with_reducible refine Le.rs ?_ (fun _ => ?_) fun _ => ?_)|(with_reducible refine Le.rb ?_ (fun _ _ => ?_) fun _ => ?_)|(with_reducible refine Le.bind ?_ fun _ => ?_)|(with_reducible refine Le.ite ?_ ?_)|dsimp only|split
noncomputable def MB.zi (n:Nat) (ih:(List (List UInt8))→(List (List UInt8))→(Int)→Option (Jn Bool Unit)) (p0:List (List UInt8)) (p1:List (List UInt8)) (x11:Int):Option (Jn Bool Unit):=do
 if (decide (x11<(p0.length:Int))) then
  let x14←ix p0 x11
  let x15←ix p1 x11
  if (!decide (x14=x15)) then
   some (.done false)
  else
   ih p0 p1 (ya .i64 (x11+1))
 else
  some (.go ())
noncomputable def MF.zi (n:Nat):(List (List UInt8))→(List (List UInt8))→(Int)→Option (Jn Bool Unit):=Nat.rec (motive:=fun _=>(List (List UInt8))→(List (List UInt8))→(Int)→Option (Jn Bool Unit)) (fun _ _ _=>none) (fun n ih=>MB.zi n ih) n
theorem MF.zi.le:∀ (n:Nat) (p0:List (List UInt8)) (p1:List (List UInt8)) (x11:Int),Le (MF.zi n p0 p1 x11) (M.zi p0 p1 x11):=by
 intro n;induction n with
 | zero=>intros;exact Le.none _
 | succ n ih =>
  intro p0 p1 x11
  show Le (MB.zi n (MF.zi n) p0 p1 x11) _
  rw [M.zi];unfold MB.zi
  repeat' first|(with_reducible exact Le.refl _)|(with_reducible exact ih _ _ _)|(with_reducible refine Le.jn ?_ (fun _ => ?_) fun _ => ?_)|(with_reducible refine Le.rs ?_ (fun _ => ?_) fun _ => ?_)|(with_reducible refine Le.rb ?_ (fun _ _ => ?_) fun _ => ?_)|(with_reducible refine Le.bind ?_ fun _ => ?_)|(with_reducible refine Le.ite ?_ ?_)|dsimp only|split
noncomputable def MF.q6t (n:Nat) (p0:List (List UInt8)) (p1:List (List UInt8)):Option Bool:=do
 if (!decide ((p0.length:Int)=(p1.length:Int))) then
  some false
 else
  let q8←(do
    MF.zi n p0 p1 0:Option (Jn Bool Unit))
  match q8 with
  | .done r=>some r
  | .go j8 =>
   some true
theorem MF.q6t.le (n:Nat) (p0:List (List UInt8)) (p1:List (List UInt8)):Le (MF.q6t n p0 p1) (M.q6t p0 p1):=by
 unfold MF.q6t M.q6t
 repeat' first|(with_reducible exact Le.refl _)|(with_reducible exact MF.zi.le n _ _ _)|(with_reducible refine Le.jn ?_ (fun _ => ?_) fun _ => ?_)|(with_reducible refine Le.rs ?_ (fun _ => ?_) fun _ => ?_)|(with_reducible refine Le.rb ?_ (fun _ _ => ?_) fun _ => ?_)|(with_reducible refine Le.bind ?_ fun _ => ?_)|(with_reducible refine Le.ite ?_ ?_)|dsimp only|split
noncomputable def MF.q2h (n:Nat) (p0:q02) (p1:q02):Option Bool:=do
 let j4←(do
   if (decide (p0.z0y=p1.z0y)) then
    let a5←MF.q6t n p0.z4z p1.z4z
    some a5
   else
    some false:Option Bool)
 some j4
theorem MF.q2h.le (n:Nat) (p0:q02) (p1:q02):Le (MF.q2h n p0 p1) (M.q2h p0 p1):=by
 unfold MF.q2h M.q2h
 repeat' first|(with_reducible exact Le.refl _)|(with_reducible exact MF.q6t.le n _ _)|(with_reducible refine Le.jn ?_ (fun _ => ?_) fun _ => ?_)|(with_reducible refine Le.rs ?_ (fun _ => ?_) fun _ => ?_)|(with_reducible refine Le.rb ?_ (fun _ _ => ?_) fun _ => ?_)|(with_reducible refine Le.bind ?_ fun _ => ?_)|(with_reducible refine Le.ite ?_ ?_)|dsimp only|split
noncomputable def MB.za (n:Nat) (ih:(List q02)→(List q02)→(Int)→Option (Jn Bool Unit)) (p0:List q02) (p1:List q02) (x19:Int):Option (Jn Bool Unit):=do
 if (decide (x19<(p0.length:Int))) then
  let x24←ix p0 x19
  let x25←ix p1 x19
  let a26←MF.q2h n x24 x25
  if (!a26) then
   some (.done false)
  else
   ih p0 p1 (ya .i64 (x19+1))
 else
  some (.go ())
noncomputable def MF.za (n:Nat):(List q02)→(List q02)→(Int)→Option (Jn Bool Unit):=Nat.rec (motive:=fun _=>(List q02)→(List q02)→(Int)→Option (Jn Bool Unit)) (fun _ _ _=>none) (fun n ih=>MB.za n ih) n
theorem MF.za.le:∀ (n:Nat) (p0:List q02) (p1:List q02) (x19:Int),Le (MF.za n p0 p1 x19) (M.za p0 p1 x19):=by
 intro n;induction n with
 | zero=>intros;exact Le.none _
 | succ n ih =>
  intro p0 p1 x19
  show Le (MB.za n (MF.za n) p0 p1 x19) _
  rw [M.za];unfold MB.za
  repeat' first|(with_reducible exact Le.refl _)|(with_reducible exact ih _ _ _)|(with_reducible exact MF.q2h.le n _ _)|(with_reducible refine Le.jn ?_ (fun _ => ?_) fun _ => ?_)|(with_reducible refine Le.rs ?_ (fun _ => ?_) fun _ => ?_)|(with_reducible refine Le.rb ?_ (fun _ _ => ?_) fun _ => ?_)|(with_reducible refine Le.bind ?_ fun _ => ?_)|(with_reducible refine Le.ite ?_ ?_)|dsimp only|split
noncomputable def MF.q6s (n:Nat) (p0:List q02) (p1:List q02):Option Bool:=do
 if (!decide ((p0.length:Int)=(p1.length:Int))) then
  some false
 else
  let q14←(do
    MF.za n p0 p1 0:Option (Jn Bool Unit))
  match q14 with
  | .done r=>some r
  | .go j14 =>
   some true
theorem MF.q6s.le (n:Nat) (p0:List q02) (p1:List q02):Le (MF.q6s n p0 p1) (M.q6s p0 p1):=by
 unfold MF.q6s M.q6s
 repeat' first|(with_reducible exact Le.refl _)|(with_reducible exact MF.za.le n _ _ _)|(with_reducible refine Le.jn ?_ (fun _ => ?_) fun _ => ?_)|(with_reducible refine Le.rs ?_ (fun _ => ?_) fun _ => ?_)|(with_reducible refine Le.rb ?_ (fun _ _ => ?_) fun _ => ?_)|(with_reducible refine Le.bind ?_ fun _ => ?_)|(with_reducible refine Le.ite ?_ ?_)|dsimp only|split
noncomputable def MF.q2g (n:Nat) (p0:q00) (p1:q00):Option Bool:=do
 let a3←MF.q6s n p0.z0d p1.z0d
 if (!a3) then
  some false
 else
  let a5←M.q2i p0
  let a7←M.q2i p1
  some ((((decide ((a5.getD 0 [])=(a7.getD 0 []))&&(decide ((a5.getD 1 [])=(a7.getD 1 []))&&(decide ((a5.getD 2 [])=(a7.getD 2 []))&&(decide ((a5.getD 3 [])=(a7.getD 3 []))&&(decide ((a5.getD 4 [])=(a7.getD 4 []))&&(decide ((a5.getD 5 [])=(a7.getD 5 []))&&(decide ((a5.getD 6 [])=(a7.getD 6 []))&&(decide ((a5.getD 7 [])=(a7.getD 7 []))&&(decide ((a5.getD 8 [])=(a7.getD 8 []))&&(decide ((a5.getD 9 [])=(a7.getD 9 []))&&(decide ((a5.getD 10 [])=(a7.getD 10 []))&&(decide ((a5.getD 11 [])=(a7.getD 11 []))&&(decide ((a5.getD 12 [])=(a7.getD 12 []))&&(decide ((a5.getD 13 [])=(a7.getD 13 []))&&(decide ((a5.getD 14 [])=(a7.getD 14 []))&&(decide ((a5.getD 15 [])=(a7.getD 15 []))&&(decide ((a5.getD 16 [])=(a7.getD 16 []))&&(decide ((a5.getD 17 [])=(a7.getD 17 []))&&(decide ((a5.getD 18 [])=(a7.getD 18 []))&&(decide ((a5.getD 19 [])=(a7.getD 19 []))&&(decide ((a5.getD 20 [])=(a7.getD 20 []))&&(decide ((a5.getD 21 [])=(a7.getD 21 []))&&true))))))))))))))))))))))&&(decide (p0.zk=p1.zk)))&&(decide (p0.z2e=p1.z2e)))&&(decide (p0.z1j=p1.z1j)))
theorem MF.q2g.le (n:Nat) (p0:q00) (p1:q00):Le (MF.q2g n p0 p1) (M.q2g p0 p1):=by
 unfold MF.q2g M.q2g
 repeat' first|(with_reducible exact Le.refl _)|(with_reducible exact MF.q6s.le n _ _)|(with_reducible refine Le.jn ?_ (fun _ => ?_) fun _ => ?_)|(with_reducible refine Le.rs ?_ (fun _ => ?_) fun _ => ?_)|(with_reducible refine Le.rb ?_ (fun _ _ => ?_) fun _ => ?_)|(with_reducible refine Le.bind ?_ fun _ => ?_)|(with_reducible refine Le.ite ?_ ?_)|dsimp only|split
noncomputable def MB.z0i (n:Nat) (ih:((List q0a))→(q00)→(Nat)→(Int)→Option (Jn (q03 × Int) Unit)) (a56:(List q0a)) (p0:q00) (fuel:Nat) (x75:Int):Option (Jn (q03 × Int) Unit):=do
 if (decide (x75<(a56.length:Int))) then
  let x93←ix a56 x75
  if (!decide (x93.zej=p0.zk)) then
   ih a56 p0 fuel (ya .i64 (x75+1))
  else
   let a94←MF.q2c n fuel x93 p0
   let a96←MF.q0u n a94.1
   let a98←MF.q0r n fuel a94.1
   let j107←(do
     if (((decide (a94.2=0))&&(decide (a96.2=0)))&&(decide (a98.2=0))) then
      let a108←MF.q2g n p0 a98.1
      some a108
     else
      some false:Option Bool)
   if j107 then
    some (.done (a94.1,0))
   else
    ih a56 p0 fuel (ya .i64 (x75+1))
 else
  some (.go ())
noncomputable def MF.z0i (n:Nat):((List q0a))→(q00)→(Nat)→(Int)→Option (Jn (q03 × Int) Unit):=Nat.rec (motive:=fun _=>((List q0a))→(q00)→(Nat)→(Int)→Option (Jn (q03 × Int) Unit)) (fun _ _ _ _=>none) (fun n ih=>MB.z0i n ih) n
theorem MF.z0i.le:∀ (n:Nat) (a56:(List q0a)) (p0:q00) (fuel:Nat) (x75:Int),Le (MF.z0i n a56 p0 fuel x75) (M.z0i a56 p0 fuel x75):=by
 intro n;induction n with
 | zero=>intros;exact Le.none _
 | succ n ih =>
  intro a56 p0 fuel x75
  show Le (MB.z0i n (MF.z0i n) a56 p0 fuel x75) _
  rw [M.z0i];unfold MB.z0i
  repeat' first|(with_reducible exact Le.refl _)|(with_reducible exact ih _ _ _ _)|(with_reducible exact MF.q2c.le n _ _ _)|(with_reducible exact MF.q0u.le n _)|(with_reducible exact MF.q0r.le n _ _)|(with_reducible exact MF.q2g.le n _ _)|(with_reducible refine Le.jn ?_ (fun _ => ?_) fun _ => ?_)|(with_reducible refine Le.rs ?_ (fun _ => ?_) fun _ => ?_)|(with_reducible refine Le.rb ?_ (fun _ _ => ?_) fun _ => ?_)|(with_reducible refine Le.bind ?_ fun _ => ?_)|(with_reducible refine Le.ite ?_ ?_)|dsimp only|split
noncomputable def MF.q0w (n:Nat) (fuel:Nat) (p0:q00):Option (q03 × Int):=do
 let q55←(do
   let a56←M.q2e
   MF.z0i n a56 p0 fuel 0:Option (Jn (q03 × Int) Unit))
 match q55 with
 | .done r=>some r
 | .go j55 =>
  some ((q03.mk ([]:List UInt8) [] [] [] ([]:List UInt8)),224)
theorem MF.q0w.le (n:Nat) (fuel:Nat) (p0:q00):Le (MF.q0w n fuel p0) (M.q0w fuel p0):=by
 unfold MF.q0w M.q0w
 repeat' first|(with_reducible exact Le.refl _)|(with_reducible exact MF.z0i.le n _ _ _ _)|(with_reducible refine Le.jn ?_ (fun _ => ?_) fun _ => ?_)|(with_reducible refine Le.rs ?_ (fun _ => ?_) fun _ => ?_)|(with_reducible refine Le.rb ?_ (fun _ _ => ?_) fun _ => ?_)|(with_reducible refine Le.bind ?_ fun _ => ?_)|(with_reducible refine Le.ite ?_ ?_)|dsimp only|split
noncomputable def MF.q3w (n:Nat) (fuel:Nat):Option Bool:=do
 let a1←MF.q0s n ([80,79,83,84,32,47,108,111,103,105,110,32,72,84,84,80,47,49,46,49,13,10,72,111,115,116,58,32,120,13,10,67,111,110,116,101,110,116,45,76,101,110,103,116,104,58,32,49,53,13,10,13,10,117,115,101,114,61,97,110,110,38,112,97,115,115,61,112,109,111,114,101]:List UInt8)
 let a3←MF.q0r n fuel a1.1
 let s5←sub ([80,79,83,84,32,47,108,111,103,105,110,32,72,84,84,80,47,49,46,49,13,10,72,111,115,116,58,32,120,13,10,67,111,110,116,101,110,116,45,76,101,110,103,116,104,58,32,49,53,13,10,13,10,117,115,101,114,61,97,110,110,38,112,97,115,115,61,112]:List UInt8) 0 60
 let a6←MF.q0s n s5
 let a8←MF.q0s n ([71,69,84,32,47,32,72,84,84,80,47,49,46,48,13,10,104,111,115,116,58,120,13,10,13,10]:List UInt8)
 let a10←MF.q0r n fuel (q03.mk ([71,69,84]:List UInt8) [([108,111,103,105,110]:List UInt8)] [] [] ([]:List UInt8))
 let a12←MF.q0r n fuel (q03.mk ([71,69,84]:List UInt8) [([120]:List UInt8)] [] [] ([]:List UInt8))
 let a14←MF.q0v n fuel (q06.mk 401 171 ([]:List UInt8) ([]:List UInt8) ([]:List UInt8) ([]:List UInt8) ([]:List UInt8) ([]:List UInt8) [] 0 0 0 false (q01.mk ([]:List UInt8) ([]:List UInt8) ([]:List UInt8) ([]:List UInt8) ([]:List UInt8) ([]:List UInt8) 0 0 0 [] []) [])
 let a16←MF.q0t n fuel a14.1
 let a18←MF.q0w n fuel (q00.mk 1 ([]:List UInt8) ([97,110,110]:List UInt8) ([112]:List UInt8) ([]:List UInt8) ([]:List UInt8) ([]:List UInt8) ([]:List UInt8) ([]:List UInt8) ([]:List UInt8) ([]:List UInt8) ([]:List UInt8) ([]:List UInt8) ([]:List UInt8) ([]:List UInt8) ([]:List UInt8) ([]:List UInt8) ([]:List UInt8) ([]:List UInt8) ([]:List UInt8) ([]:List UInt8) ([]:List UInt8) ([]:List UInt8) [] 0 0)
 let a20←MF.q0u n a18.1
 let j61←(do
   if (((((((((((((((((((decide (a1.2.2=0))&&(decide (a1.2.1=68)))&&(decide (a3.2=0)))&&(decide (a3.1.zk=1)))&&(decide (a3.1.z2a=([97,110,110]:List UInt8))))&&(decide (a3.1.z25=([112]:List UInt8))))&&(decide (a6.2.2=223)))&&(decide (a8.2.2=220)))&&(decide (a10.2=226)))&&(decide (a12.2=225)))&&(decide (a14.2=0)))&&(decide (a14.1=([72,84,84,80,47,49,46,49,32,52,48,49,32,85,110,97,117,116,104,111,114,105,122,101,100,13,10,99,111,110,116,101,110,116,45,116,121,112,101,58,32,97,112,112,108,105,99,97,116,105,111,110,47,106,115,111,110,13,10,99,111,110,116,101,110,116,45,108,101,110,103,116,104,58,32,49,51,13,10,13,10,123,34,101,114,114,111,114,34,58,49,55,49,125]:List UInt8))))&&(decide (a16.2.2=0)))&&(decide (a16.2.1=(a14.1.length:Int))))&&(decide (a16.1.z1d=171)))&&(decide (a16.1.z4y=401)))&&(decide (a18.2=0)))&&(decide (a20.2=0)))&&(decide (a20.1=([80,79,83,84,32,47,108,111,103,105,110,32,72,84,84,80,47,49,46,49,13,10,104,111,115,116,58,32,105,100,112,13,10,99,111,110,116,101,110,116,45,108,101,110,103,116,104,58,32,49,53,13,10,13,10,117,115,101,114,61,97,110,110,38,112,97,115,115,61,112]:List UInt8)))) then
    let a62←M.q0x 221
    some (decide (a62=413))
   else
    some false:Option Bool)
 some (((((((j61&&true)&&true)&&true)&&true)&&true)&&true)&&true)
theorem MF.q3w.le (n:Nat) (fuel:Nat):Le (MF.q3w n fuel) (M.q3w fuel):=by
 unfold MF.q3w M.q3w
 repeat' first|(with_reducible exact Le.refl _)|(with_reducible exact MF.q0s.le n _)|(with_reducible exact MF.q0r.le n _ _)|(with_reducible exact MF.q0v.le n _ _)|(with_reducible exact MF.q0t.le n _ _)|(with_reducible exact MF.q0w.le n _ _)|(with_reducible exact MF.q0u.le n _)|(with_reducible refine Le.jn ?_ (fun _ => ?_) fun _ => ?_)|(with_reducible refine Le.rs ?_ (fun _ => ?_) fun _ => ?_)|(with_reducible refine Le.rb ?_ (fun _ _ => ?_) fun _ => ?_)|(with_reducible refine Le.bind ?_ fun _ => ?_)|(with_reducible refine Le.ite ?_ ?_)|dsimp only|split
end Go.Sen
