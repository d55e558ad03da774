import Derived.Test.YtfhgkcjhgmoceaaGreatDoorPfS4
import Derived.Lib.SlTrimSet
import Derived.Lib.Split
import Derived.Lib.CountLaws
import Derived.Shelf.GgClosure.StringsIndexFunc
set_option linter.all false
namespace Go.Sen
open Go.Lk Go.Pe
structure T_api_Config where
  gIssuer : List UInt8
  gRoot : List UInt8
  gRootSecret : List UInt8
  gSeed : List UInt8
  gSessionTtl : Int
  gCodeTtl : Int
  gAccessTtl : Int
  gRefreshTtl : Int
  gTicketTtl : Int
def T_api_Config.enc : T_api_Config → List D
  | ⟨a0, a1, a2, a3, a4, a5, a6, a7, a8⟩ => [D.str a0, D.str a1, D.str a2, D.str a3, D.int .i64 a4, D.int .i64 a5, D.int .i64 a6, D.int .i64 a7, D.int .i64 a8]
theorem T_api_Config.enc_c : ∀ x : T_api_Config, T_api_Config.enc x = [D.str x.gIssuer, D.str x.gRoot, D.str x.gRootSecret, D.str x.gSeed, D.int .i64 x.gSessionTtl, D.int .i64 x.gCodeTtl, D.int .i64 x.gAccessTtl, D.int .i64 x.gRefreshTtl, D.int .i64 x.gTicketTtl]
  | ⟨a0, a1, a2, a3, a4, a5, a6, a7, a8⟩ => by first | rfl | simp [T_api_Config.enc]
@[reducible] def T_api_Config.v (x : T_api_Config) : List PV := [.str x.gIssuer, .str x.gRoot, .str x.gRootSecret, .str x.gSeed, .int .i64 x.gSessionTtl, .int .i64 x.gCodeTtl, .int .i64 x.gAccessTtl, .int .i64 x.gRefreshTtl, .int .i64 x.gTicketTtl]
structure T_oauth_Tape where
  gdraws : List (List UInt8)
structure T_seneschalref17_Tape where
  gL : List (List UInt8)
@[reducible] def _root_.Go.Pe.PV.l9 (l : List (List UInt8)) : PV := .sl 9 1 (l.map eS)
def M.trim (p0 p1 : List UInt8) : Option (List UInt8) := do
  let _ ← chk (decide (p0.length ≤ 9223372036854775807) && (decide (p1.length < 4294967281) && p1.all fun b => decide (b.toNat < 128)))
  some (Lib.trimS p0 p1)
def splitT (s sep : List UInt8) : List (List UInt8) := (Lib.splitB ⟨sep.toArray⟩ 0 (Lib.countB ⟨s.toArray⟩ ⟨sep.toArray⟩) ⟨s.toArray⟩).map (·.data.toList)
def M.split (p0 p1 : List UInt8) : Option (List (List UInt8)) := do
  let _ ← chk (decide (p0.length < 4294967281) && decide (1 ≤ p1.length))
  some (splitT p0 p1)
def sleL (x y : List UInt8) : Bool := decide (x ≤ y)
def M.sortS (p0 : List (List UInt8)) : Option (List (List UInt8)) := do
  let _ ← chk (decide (p0.length < 4611686018427387904))
  some (p0.mergeSort sleL)
def M.cloneS (p0 : List (List UInt8)) : Option (List (List UInt8)) := do
  let _ ← chk (decide (p0.length * 16 ≤ 140737488355328))
  some p0
def M.forestNew : Option Unit := some ()
def M.fixed : Option Bool := some true
def wordP (n : Nat) : Bool := decide (n < 33) || decide (126 < n)
def M.containsFunc (p0 : List UInt8) : Option Bool := some (decide (0 ≤ Lib.idxFunc wordP true ⟨p0.toArray⟩))
def M.people_of  (p0 : List UInt8) (p1 : Int) (p2 : List UInt8) : Option Bool := do
  let j6 ← (do
      if ((!decide (p0 = ([] : List UInt8))) && (decide ((p0.length : Int) ≤ p1))) then
        let a7 ← M.trim p0 p2
        some (decide (a7 = ([] : List UInt8)))
      else
        some false : Option Bool)
  some j6
def M.people_Scope  (p0 : List UInt8) : Option Bool := do
  let a1 ← M.people_of p0 32 ([97, 98, 99, 100, 101, 102, 103, 104, 105, 106, 107, 108, 109, 110, 111, 112, 113, 114, 115, 116, 117, 118, 119, 120, 121, 122, 48, 49, 50, 51, 52, 53, 54, 55, 56, 57, 46, 95, 45, 58] : List UInt8)
  some a1
def M.slices_Clip_string_string  (p0 : List (List UInt8)) : Option (List (List UInt8)) := do
  let _ ← chk (decide ((p0.length : Int) ≤ (p0.length : Int)) && decide ((p0.length : Int) ≤ (p0.length : Int)))
  let l1 ← sub p0 0 (p0.length : Int)
  some l1
def M.oauth_Scopes_k1 (a3 : (List (List UInt8))) (x35 : Int) : Option (Jn ((List (List UInt8)) × Bool) Unit) := do
  if (decide (x35 < (a3.length : Int))) then
    let x43 ← ix a3 x35
    let a44 ← M.people_Scope x43
    let j48 ← (do
        if (!a44) then
          some true
        else
          if (decide (0 < x35)) then
            let x49 ← ix a3 (IntKind.wrap .i64 (x35 - 1))
            some (decide (x43 = x49))
          else
            some false : Option Bool)
    if j48 then
      some (.done ([], false))
    else
      M.oauth_Scopes_k1 a3 (IntKind.wrap .i64 (x35 + 1))
  else
    some (.go ())
  partial_fixpoint
def M.oauth_Scopes  (p0 : List UInt8) : Option ((List (List UInt8)) × Bool) := do
  if (decide (p0 = ([] : List UInt8))) then
    some ([], true)
  else
    let a1 ← M.split p0 ([32] : List UInt8)
    let a3 ← M.sortS a1
    let q27 ← (do
        M.oauth_Scopes_k1 a3 0 : Option (Jn ((List (List UInt8)) × Bool) Unit))
    match q27 with
    | .done r => some r
    | .go j27 =>
      if (decide (16 < (a3.length : Int))) then
        some ([], false)
      else
        let a50 ← M.slices_Clip_string_string a3
        some (a50, true)
def M.r12_letter  (p0 : Int) : Option Bool := do
  some ((((((decide (97 ≤ p0)) && (decide (p0 ≤ 122))) || ((decide (48 ≤ p0)) && (decide (p0 ≤ 57)))) || (decide (p0 = 46))) || (decide (p0 = 95))) || (decide (p0 = 45)))
def M.r12_Scope_k1 (p0 : List UInt8) (x31 : Int) : Option (Jn Bool Unit) := do
  if (decide (x31 < (p0.length : Int))) then
    let c39 ← ix p0 x31
    let a40 ← M.r12_letter (c39.toNat : Int)
    let j44 ← (do
        if (!a40) then
          let c45 ← ix p0 x31
          some (!decide ((c45.toNat : Int) = 58))
        else
          some false : Option Bool)
    if j44 then
      some (.done false)
    else
      M.r12_Scope_k1 p0 (IntKind.wrap .i64 (x31 + 1))
  else
    some (.go ())
  partial_fixpoint
def M.r12_Scope  (p0 : List UInt8) : Option Bool := do
  let q23 ← (do
      M.r12_Scope_k1 p0 0 : Option (Jn Bool Unit))
  match q23 with
  | .done r => some r
  | .go j23 =>
    some ((decide (1 ≤ (p0.length : Int))) && (decide ((p0.length : Int) ≤ 32)))
def M.r12_Has_k1 (p0 : List (List UInt8)) (p1 : List UInt8) (x7 : Int) : Option (Jn Bool Unit) := do
  if (decide (x7 < (p0.length : Int))) then
    let x9 ← ix p0 x7
    if (decide (x9 = p1)) then
      some (.done true)
    else
      M.r12_Has_k1 p0 p1 (IntKind.wrap .i64 (x7 + 1))
  else
    some (.go ())
  partial_fixpoint
def M.r12_Has  (p0 : List (List UInt8)) (p1 : List UInt8) : Option Bool := do
  let q5 ← (do
      M.r12_Has_k1 p0 p1 0 : Option (Jn Bool Unit))
  match q5 with
  | .done r => some r
  | .go j5 =>
    some false
def M.r12_With_k1 (p0 : List (List UInt8)) (p1 : List UInt8) (x24 : Int) : Option Int := do
  let j31 ← (do
      if (decide (x24 < (p0.length : Int))) then
        let x32 ← ix p0 x24
        some (slt x32 p1)
      else
        some false : Option Bool)
  if j31 then
    M.r12_With_k1 p0 p1 (IntKind.wrap .i64 (x24 + 1))
  else
    some x24
  partial_fixpoint
def M.r12_With  (p0 : List (List UInt8)) (p1 : List UInt8) : Option (List (List UInt8)) := do
  let a3 ← M.r12_Has p0 p1
  if a3 then
    some p0
  else
    let j19 ← (do
        M.r12_With_k1 p0 p1 0 : Option Int)
    let j39 ← (do
        let l40 ← sub p0 0 j19
        let l41 ← sub p0 j19 (p0.length : Int)
        let l42 ← app 16 ([] : List (List UInt8)) l40
        let l43 ← app 16 l42 [p1]
        let l44 ← app 16 l43 l41
        some l44 : Option (List (List UInt8)))
    some j39
def M.r17_Scopes_k1 (p0 : List UInt8) (x114 : List (List UInt8)) (x115 : Int) (x116 : Int) : Option (Jn ((List (List UInt8)) × Bool) (List (List UInt8))) := do
  if (decide (x116 ≤ (p0.length : Int))) then
    let j150 ← (do
        if (decide (x116 < (p0.length : Int))) then
          let c151 ← ix p0 x116
          some (!decide ((c151.toNat : Int) = 32))
        else
          some false : Option Bool)
    if j150 then
      M.r17_Scopes_k1 p0 x114 x115 (IntKind.wrap .i64 (x116 + 1))
    else
      let s152 ← sub p0 x115 x116
      let a161 ← M.r12_Scope s152
      let j166 ← (do
          if (!a161) then
            some true
          else
            let a167 ← M.r12_Has x114 s152
            some a167 : Option Bool)
      if j166 then
        some (.done ([], false))
      else
        let a169 ← M.r12_With x114 s152
        M.r17_Scopes_k1 p0 a169 (IntKind.wrap .i64 (x116 + 1)) (IntKind.wrap .i64 (x116 + 1))
  else
    some (.go x114)
  partial_fixpoint
def M.r17_Scopes  (p0 : List UInt8) : Option ((List (List UInt8)) × Bool) := do
  if (decide (p0 = ([] : List UInt8))) then
    some (([] : List (List UInt8)), true)
  else
    let q86 ← (do
        M.r17_Scopes_k1 p0 ([] : List (List UInt8)) 0 0 : Option (Jn ((List (List UInt8)) × Bool) (List (List UInt8))))
    match q86 with
    | .done r => some r
    | .go j86 =>
      if (decide (16 < (j86.length : Int))) then
        some ([], false)
      else
        some (j86, true)
def M.r12_Same_k1 (p0 : List (List UInt8)) (p1 : List (List UInt8)) (x11 : Int) : Option (Jn Bool Unit) := do
  if (decide (x11 < (p0.length : Int))) then
    let x14 ← ix p0 x11
    let x15 ← ix p1 x11
    if (!decide (x14 = x15)) then
      some (.done false)
    else
      M.r12_Same_k1 p0 p1 (IntKind.wrap .i64 (x11 + 1))
  else
    some (.go ())
  partial_fixpoint
def M.r12_Same  (p0 p1 : List (List UInt8)) : Option Bool := do
  if (!decide ((p0.length : Int) = (p1.length : Int))) then
    some false
  else
    let q8 ← (do
        M.r12_Same_k1 p0 p1 0 : Option (Jn Bool Unit))
    match q8 with
    | .done r => some r
    | .go j8 =>
      some true
def M.oauth_in  (p0 p1 p2 : Int) : Option Bool := do
  some ((decide (p1 ≤ p0)) && (decide (p0 ≤ p2)))
def M.people_Text  (p0 : List UInt8) : Option Bool := do
  let j6 ← (do
      if ((!decide (p0 = ([] : List UInt8))) && (decide ((p0.length : Int) ≤ 128))) then
        let a7 ← M.containsFunc p0
        some (!a7)
      else
        some false : Option Bool)
  some j6
def M.people_Name  (p0 : List UInt8) : Option Bool := do
  let a1 ← M.people_of p0 24 ([97, 98, 99, 100, 101, 102, 103, 104, 105, 106, 107, 108, 109, 110, 111, 112, 113, 114, 115, 116, 117, 118, 119, 120, 121, 122, 48, 49, 50, 51, 52, 53, 54, 55, 56, 57, 46, 95, 45] : List UInt8)
  some a1
def M.oauth_Check_k1 (p0 : T_api_Config) (x15 : Int) : Option (Jn Int Unit) := do
  if (decide (x15 < ([p0.gSessionTtl, p0.gCodeTtl, p0.gAccessTtl, p0.gRefreshTtl, p0.gTicketTtl].length : Int))) then
    let x19 ← ix [p0.gSessionTtl, p0.gCodeTtl, p0.gAccessTtl, p0.gRefreshTtl, p0.gTicketTtl] x15
    let a20 ← M.oauth_in x19 1 1073741824
    if (!a20) then
      some (.done 211)
    else
      M.oauth_Check_k1 p0 (IntKind.wrap .i64 (x15 + 1))
  else
    some (.go ())
  partial_fixpoint
def M.oauth_Check  (p0 : T_api_Config) : Option Int := do
  let q11 ← (do
      M.oauth_Check_k1 p0 0 : Option (Jn Int Unit))
  match q11 with
  | .done r => some r
  | .go j11 =>
    let a22 ← M.people_Text p0.gIssuer
    let j27 ← (do
        if (!a22) then
          some true
        else
          let a28 ← M.people_Name p0.gRoot
          some (!a28) : Option Bool)
    let j33 ← (do
        if j27 then
          some true
        else
          let a34 ← M.oauth_in (p0.gRootSecret.length : Int) 1 64
          some (!a34) : Option Bool)
    let j39 ← (do
        if j33 then
          some true
        else
          let a40 ← M.oauth_in (p0.gSeed.length : Int) 1 64
          some (!a40) : Option Bool)
    if j39 then
      some 211
    else
      some 0
def M.r17_ttl  (p0 : Int) : Option Bool := do
  some ((decide (1 ≤ p0)) && (decide (p0 ≤ 1073741824)))
def M.r12_Text_k1 (p0 : List UInt8) (x23 : Int) : Option (Jn Bool Unit) := do
  if (decide (x23 < (p0.length : Int))) then
    let c29 ← ix p0 x23
    let j32 ← (do
        if (decide ((c29.toNat : Int) < 33)) then
          some true
        else
          let c33 ← ix p0 x23
          some (decide (126 < (c33.toNat : Int))) : Option Bool)
    if j32 then
      some (.done false)
    else
      M.r12_Text_k1 p0 (IntKind.wrap .i64 (x23 + 1))
  else
    some (.go ())
  partial_fixpoint
def M.r12_Text  (p0 : List UInt8) : Option Bool := do
  let q17 ← (do
      M.r12_Text_k1 p0 0 : Option (Jn Bool Unit))
  match q17 with
  | .done r => some r
  | .go j17 =>
    some ((decide (1 ≤ (p0.length : Int))) && (decide ((p0.length : Int) ≤ 128)))
def M.r12_Name_k1 (p0 : List UInt8) (x15 : Int) : Option (Jn Bool Unit) := do
  if (decide (x15 < (p0.length : Int))) then
    let c19 ← ix p0 x15
    let a20 ← M.r12_letter (c19.toNat : Int)
    if (!a20) then
      some (.done false)
    else
      M.r12_Name_k1 p0 (IntKind.wrap .i64 (x15 + 1))
  else
    some (.go ())
  partial_fixpoint
def M.r12_Name  (p0 : List UInt8) : Option Bool := do
  let q11 ← (do
      M.r12_Name_k1 p0 0 : Option (Jn Bool Unit))
  match q11 with
  | .done r => some r
  | .go j11 =>
    some ((decide (1 ≤ (p0.length : Int))) && (decide ((p0.length : Int) ≤ 24)))
def M.r17_Check  (p0 : T_api_Config) : Option Int := do
  let a1 ← M.r17_ttl p0.gSessionTtl
  let j6 ← (do
      if a1 then
        let a7 ← M.r17_ttl p0.gCodeTtl
        some a7
      else
        some false : Option Bool)
  let j12 ← (do
      if j6 then
        let a13 ← M.r17_ttl p0.gAccessTtl
        some a13
      else
        some false : Option Bool)
  let j18 ← (do
      if j12 then
        let a19 ← M.r17_ttl p0.gRefreshTtl
        some a19
      else
        some false : Option Bool)
  let j24 ← (do
      if j18 then
        let a25 ← M.r17_ttl p0.gTicketTtl
        some a25
      else
        some false : Option Bool)
  let j30 ← (do
      if (!j24) then
        some true
      else
        let a31 ← M.r12_Text p0.gIssuer
        some (!a31) : Option Bool)
  let j36 ← (do
      if j30 then
        some true
      else
        let a37 ← M.r12_Name p0.gRoot
        some (!a37) : Option Bool)
  if ((((j36 || (decide ((p0.gRootSecret.length : Int) < 1))) || (decide (64 < (p0.gRootSecret.length : Int)))) || (decide ((p0.gSeed.length : Int) < 1))) || (decide (64 < (p0.gSeed.length : Int)))) then
    some 211
  else
    some 0
def M.oauth_Status  (p0 : Int) : Option Int := do
  if (decide (p0 = 0)) then
    some 200
  else
    let j2 ← (do
        if (decide (p0 = 170)) then
          some (decide (p0 = 170))
        else
          if (decide (p0 = 176)) then
            some (decide (p0 = 176))
          else
            if (decide (p0 = 150)) then
              some (decide (p0 = 150))
            else
              if (decide (p0 = 151)) then
                some (decide (p0 = 151))
              else
                if (decide (p0 = 153)) then
                  some (decide (p0 = 153))
                else
                  if (decide (p0 = 154)) then
                    some (decide (p0 = 154))
                  else
                    if (decide (p0 = 161)) then
                      some (decide (p0 = 161))
                    else
                      if (decide (p0 = 162)) then
                        some (decide (p0 = 162))
                      else
                        some (decide (p0 = 163)) : Option Bool)
    if j2 then
      some 401
    else
      let j4 ← (do
          if (decide (p0 = 177)) then
            some (decide (p0 = 177))
          else
            if (decide (p0 = 180)) then
              some (decide (p0 = 180))
            else
              some (decide (p0 = 201)) : Option Bool)
      if j4 then
        some 403
      else
        if (decide (p0 = 122)) then
          some 404
        else
          if (decide (p0 = 121)) then
            some 409
          else
            if (decide (p0 = 200)) then
              some 412
            else
              if (decide (p0 = 152)) then
                some 429
              else
                let j6 ← (do
                    if (decide (p0 = 3)) then
                      some (decide (p0 = 3))
                    else
                      some (decide (p0 = 2)) : Option Bool)
                if j6 then
                  some 503
                else
                  if (decide (p0 = 130)) then
                    if (decide (p0 = 130)) then
                      some 507
                    else
                      some 400
                  else
                    if (decide (p0 = 124)) then
                      if (decide (p0 = 124)) then
                        some 507
                      else
                        some 400
                    else
                      if (decide (p0 = 156)) then
                        if (decide (p0 = 156)) then
                          some 507
                        else
                          some 400
                      else
                        if (decide (p0 = 112)) then
                          if (decide (p0 = 112)) then
                            some 507
                          else
                            some 400
                        else
                          if (decide (p0 = 113)) then
                            some 507
                          else
                            some 400
def M.r17_Status  (p0 : Int) : Option Int := do
  if (decide (p0 = 0)) then
    some 200
  else
    let j2 ← (do
        if (decide (p0 = 170)) then
          some (decide (p0 = 170))
        else
          if (decide (p0 = 176)) then
            some (decide (p0 = 176))
          else
            if (decide (p0 = 150)) then
              some (decide (p0 = 150))
            else
              if (decide (p0 = 151)) then
                some (decide (p0 = 151))
              else
                if (decide (p0 = 153)) then
                  some (decide (p0 = 153))
                else
                  if (decide (p0 = 154)) then
                    some (decide (p0 = 154))
                  else
                    if (decide (p0 = 161)) then
                      some (decide (p0 = 161))
                    else
                      if (decide (p0 = 162)) then
                        some (decide (p0 = 162))
                      else
                        some (decide (p0 = 163)) : Option Bool)
    if j2 then
      some 401
    else
      let j4 ← (do
          if (decide (p0 = 177)) then
            some (decide (p0 = 177))
          else
            if (decide (p0 = 180)) then
              some (decide (p0 = 180))
            else
              some (decide (p0 = 201)) : Option Bool)
      if j4 then
        some 403
      else
        if (decide (p0 = 122)) then
          some 404
        else
          if (decide (p0 = 121)) then
            some 409
          else
            if (decide (p0 = 200)) then
              some 412
            else
              if (decide (p0 = 152)) then
                some 429
              else
                let j6 ← (do
                    if (decide (p0 = 3)) then
                      some (decide (p0 = 3))
                    else
                      some (decide (p0 = 2)) : Option Bool)
                if j6 then
                  some 503
                else
                  if (decide (p0 = 130)) then
                    if (decide (p0 = 130)) then
                      some 507
                    else
                      some 400
                  else
                    if (decide (p0 = 124)) then
                      if (decide (p0 = 124)) then
                        some 507
                      else
                        some 400
                    else
                      if (decide (p0 = 156)) then
                        if (decide (p0 = 156)) then
                          some 507
                        else
                          some 400
                      else
                        if (decide (p0 = 112)) then
                          if (decide (p0 = 112)) then
                            some 507
                          else
                            some 400
                        else
                          if (decide (p0 = 113)) then
                            some 507
                          else
                            some 400
def M.oauth_NewTape  (p0 : List (List UInt8)) : Option T_oauth_Tape := do
  let l1 ← sub p0 0 (minI (p0.length : Int) 8)
  let a2 ← M.cloneS l1
  some (T_oauth_Tape.mk a2)
def M.r17_NewTape  (p0 : List (List UInt8)) : Option T_seneschalref17_Tape := do
  if (decide (8 < (p0.length : Int))) then
    let l1 ← sub p0 0 8
    some (T_seneschalref17_Tape.mk l1)
  else
    some (T_seneschalref17_Tape.mk p0)
def M.oauth_Tape_Raw  (p0 : T_oauth_Tape) : Option ((List UInt8) × Int × T_oauth_Tape) := do
  if (decide ((p0.gdraws.length : Int) = 0)) then
    some (([] : List UInt8), 3, p0)
  else
    let x1 ← ix p0.gdraws 0
    let l2 ← sub p0.gdraws 1 (p0.gdraws.length : Int)
    if (!decide ((x1.length : Int) = 16)) then
      some (([] : List UInt8), 3, (T_oauth_Tape.mk l2))
    else
      some (x1, 0, (T_oauth_Tape.mk l2))
def M.r17_Tape_Raw  (p0 : T_seneschalref17_Tape) : Option ((List UInt8) × Int × T_seneschalref17_Tape) := do
  if (decide ((p0.gL.length : Int) = 0)) then
    some (([] : List UInt8), 3, p0)
  else
    let x1 ← ix p0.gL 0
    let l2 ← sub p0.gL 1 (p0.gL.length : Int)
    if (!decide ((x1.length : Int) = 16)) then
      some (([] : List UInt8), 3, (T_seneschalref17_Tape.mk l2))
    else
      some (x1, 0, (T_seneschalref17_Tape.mk l2))
def M.l17_OauthTexts_k1 (x55 : Int) : Option (Jn Bool Unit) := do
  if (decide (x55 < 260)) then
    let a60 ← M.oauth_Status x55
    let a62 ← M.r17_Status x55
    if (!decide (a60 = a62)) then
      some (.done false)
    else
      M.l17_OauthTexts_k1 (IntKind.wrap .i64 (x55 + 1))
  else
    some (.go ())
  partial_fixpoint
def M.l17_OauthTexts_k2 (p2 : List (List UInt8)) (x98 : Int) (x99 : List (List UInt8)) (x100 : List (List UInt8)) : Option (Jn Bool Unit) := do
  if (decide (x98 < (IntKind.wrap .i64 ((p2.length : Int) + 1)))) then
    let a107 ← M.oauth_Tape_Raw (T_oauth_Tape.mk x99)
    let a109 ← M.r17_Tape_Raw (T_seneschalref17_Tape.mk x100)
    if ((!decide (a107.1 = a109.1)) || (!decide (a107.2.1 = a109.2.1))) then
      some (.done false)
    else
      M.l17_OauthTexts_k2 p2 (IntKind.wrap .i64 (x98 + 1)) a107.2.2.gdraws a109.2.2.gL
  else
    some (.go ())
  partial_fixpoint
def M.l17_OauthTexts  (p0 : List UInt8) (p1 : T_api_Config) (p2 : List (List UInt8)) : Option Bool := do
  let a1 ← M.oauth_Scopes p0
  let a3 ← M.r17_Scopes p0
  let j24 ← (do
      if (!(a1.2 == a3.2)) then
        some true
      else
        let a25 ← M.r12_Same a1.1 a3.1
        some (!a25) : Option Bool)
  let j32 ← (do
      if j24 then
        some true
      else
        let a33 ← M.oauth_Check p1
        let a35 ← M.r17_Check p1
        some (!decide (a33 = a35)) : Option Bool)
  if j32 then
    some false
  else
    let q50 ← (do
        M.l17_OauthTexts_k1 0 : Option (Jn Bool Unit))
    match q50 with
    | .done r => some r
    | .go j50 =>
      let a64 ← M.oauth_NewTape p2
      let a66 ← M.r17_NewTape p2
      let a68 ← M.forestNew
      let q91 ← (do
          M.l17_OauthTexts_k2 p2 0 a64.gdraws a66.gL : Option (Jn Bool Unit))
      match q91 with
      | .done r => some r
      | .go j91 =>
        let a113 ← M.fixed
        some a113
def M.l17_OauthLists_k1 (a1 : (List (List UInt8)) × Bool) (x77 : List UInt8) (x78 : Int) (x79 : Int) : Option (Jn Bool ((List UInt8) × Int)) := do
  if (decide (x79 < (a1.1.length : Int))) then
    let q101 ← (do
        if (decide (0 < x79)) then
          let x102 ← ix a1.1 x79
          let x103 ← ix a1.1 (IntKind.wrap .i64 (x79 - 1))
          if (slt x102 x103 || decide (x102 = x103)) then
            some (.done (.done false))
          else
            let s104 ← cat x77 ([32] : List UInt8)
            some (.go s104)
        else
          some (.go x77) : Option (Jn (Jn Bool ((List UInt8) × Int)) (List UInt8)))
    match q101 with
    | .done r => some r
    | .go j101 =>
      let x105 ← ix a1.1 x79
      let s106 ← cat j101 x105
      let x107 ← ix a1.1 x79
      M.l17_OauthLists_k1 a1 s106 (IntKind.wrap .i64 (x78 + (x107.length : Int))) (IntKind.wrap .i64 (x79 + 1))
  else
    some (.go (x77, x78))
  partial_fixpoint
def M.l17_OauthLists  (p0 : List UInt8) : Option Bool := do
  let a1 ← M.oauth_Scopes p0
  if (!a1.2) then
    let j12 ← (do
        if (decide ((a1.1.length : Int) = 0)) then
          let a13 ← M.fixed
          some a13
        else
          some false : Option Bool)
    some j12
  else
    let q62 ← (do
        M.l17_OauthLists_k1 a1 ([] : List UInt8) 0 0 : Option (Jn Bool ((List UInt8) × Int)))
    match q62 with
    | .done r => some r
    | .go j62 =>
      let a108 ← M.oauth_Scopes j62.1
      let j113 ← (do
          if a108.2 then
            let a114 ← M.r12_Same a1.1 a108.1
            some a114
          else
            some false : Option Bool)
      let j119 ← (do
          if (j113 && (decide ((j62.1.length : Int) = (p0.length : Int)))) then
            some (decide ((IntKind.wrap .i64 (j62.2 + (maxI 0 (IntKind.wrap .i64 ((a1.1.length : Int) - 1))))) = (p0.length : Int)))
          else
            some false : Option Bool)
      let j125 ← (do
          if (j119 && (decide ((a1.1.length : Int) ≤ 16))) then
            let a126 ← M.fixed
            some a126
          else
            some false : Option Bool)
      some j125
end Go.Sen
