/- JsM: what a program of ours printed of the program's functions. -/
import Derived.Test.YtcfkkgpnggdlnaaGreatDoorPeE
import Derived.Lib.ValidLaws
import Derived.Lib.SlTrimSet
import Derived.Lib.AtoiAll
import Derived.Lib.ItoaNum
import Derived.Lib.Bytealg
import Derived.Lib.SlicesCompact
set_option linter.all false
namespace Go.Sen
open Go.Lk Go.Pe
structure T_utf8_acceptRange where
  glo : Int
  ghi : Int
def T_utf8_acceptRange.enc : T_utf8_acceptRange → List D
  | ⟨a0, a1⟩ => [D.int .u8 a0, D.int .u8 a1]
theorem T_utf8_acceptRange.enc_c : ∀ x : T_utf8_acceptRange, T_utf8_acceptRange.enc x = [D.int .u8 x.glo, D.int .u8 x.ghi]
  | ⟨a0, a1⟩ => by first | rfl | simp [T_utf8_acceptRange.enc]
structure T_json_reader where
  gs : List UInt8
def T_json_reader.enc : T_json_reader → List D
  | ⟨a0⟩ => [D.str a0]
theorem T_json_reader.enc_c : ∀ x : T_json_reader, T_json_reader.enc x = [D.str x.gs]
  | ⟨a0⟩ => by first | rfl | simp [T_json_reader.enc]
structure T_api_Json where
  gKind : Int
  gText : List UInt8
  gList : List T_api_Json
  gKeys : List (List UInt8)
mutual
def T_api_Json.enc : T_api_Json → List D
  | ⟨a0, a1, a2, a3⟩ => [D.int .i64 a0, D.str a1, D.sl 25 4 (T_api_Json.encs a2), D.sl 9 1 (a3.map eS)]
def T_api_Json.encs : List T_api_Json → List (List D)
  | [] => []
  | x :: xs => x.enc :: T_api_Json.encs xs
end
theorem T_api_Json.encs_eq : ∀ l : List T_api_Json, T_api_Json.encs l = l.map T_api_Json.enc
  | [] => rfl
  | x :: xs => by simp [T_api_Json.encs, T_api_Json.encs_eq xs]
theorem T_api_Json.enc_c : ∀ x : T_api_Json, T_api_Json.enc x = [D.int .i64 x.gKind, D.str x.gText, D.sl 25 4 (T_api_Json.encs x.gList), D.sl 9 1 (x.gKeys.map eS)]
  | ⟨a0, a1, a2, a3⟩ => by first | rfl | simp [T_api_Json.enc]
structure T_seneschalref02_reader where
  gs : List UInt8
  gi : Int
  ge : Int
def T_seneschalref02_reader.enc : T_seneschalref02_reader → List D
  | ⟨a0, a1, a2⟩ => [D.str a0, D.int .i64 a1, D.int .i64 a2]
theorem T_seneschalref02_reader.enc_c : ∀ x : T_seneschalref02_reader, T_seneschalref02_reader.enc x = [D.str x.gs, D.int .i64 x.gi, D.int .i64 x.ge]
  | ⟨a0, a1, a2⟩ => by first | rfl | simp [T_seneschalref02_reader.enc]
def utf8First : List Int := (List.range 256).map fun c => (Lib.firstT c : Int)
def utf8Acc : List T_utf8_acceptRange := (List.range 16).map fun i => ⟨(Lib.accLo i : Int), (Lib.accHi i : Int)⟩
def M.copyCheck (p0 : List Int) : Option Unit := some ()
def M.validString (p0 : List UInt8) : Option Bool := do
  let _ ← chk (decide (p0.length ≤ 9223372036854775807))
  some (Lib.validD p0)
def M.builderString (p0 : List Int) : Option (List UInt8) := do
  let _ ← chk (decide (unb (byt p0) = p0))
  some (byt p0)
def M.indexByte (p0 : List UInt8) (p1 : Int) : Option Int := some (Lib.indexByte p0 p1.toNat.toUInt8)
def M.trimLeft (p0 p1 : List UInt8) : Option (List UInt8) := do
  let _ ← chk (decide (p1.length < 4294967281) && p1.all fun b => decide (b.toNat < 128))
  some (Lib.trimLeftS p0 p1)
def M.trim (p0 p1 : List UInt8) : Option (List UInt8) := do
  let _ ← chk (decide (p0.length ≤ 9223372036854775807) && (decide (p1.length < 4294967281) && p1.all fun b => decide (b.toNat < 128)))
  some (Lib.trimS p0 p1)
def M.atoi (p0 : List UInt8) : Option (Int × Bool) := do
  let _ ← chk (decide (p0.length ≤ 281474976710656))
  match Lib.atoiAll p0 with
  | .ok v => some (v, true)
  | .range => some (Lib.atoiSat p0, false)
  | _ => some (0, false)
def M.itoa (p0 : Int) : Option (List UInt8) := do
  let _ ← chk (decide (-9223372036854775808 ≤ p0) && decide (p0 ≤ 9223372036854775807))
  some (Lib.itoa p0)
def M.single (p0 : List (List UInt8)) : Option Bool := do
  let _ ← chk (decide (p0.length * 16 ≤ 140737488355328))
  some (decide (((Lib.compact (p0.mergeSort fun x y => decide (x ≤ y))).length : Int) = p0.length))
def M.strings_Builder_WriteByte (p0 : List Int) (p1 : Int) : Option (List Int) := do
  let a_1 ← M.copyCheck p0
  let l_3 ← app 1 p0 [p1]
  some l_3
def M.strings_Builder_WriteString (p0 : List Int) (p1 : List UInt8) : Option (Int × (List Int)) := do
  let a_1 ← M.copyCheck p0
  let l_3 ← app 1 p0 (unb p1)
  some ((p1.length : Int), l_3)
def M.strings_Builder_Len (p0 : List Int) : Option Int := do
  some (p0.length : Int)
def M.internal_stringslite_HasPrefix (p0 : List UInt8) (p1 : List UInt8) : Option Bool := do
  let j_3 ← (do
      if (decide ((p1.length : Int) ≤ (p0.length : Int))) then
        let s_4 ← sub p0 0 (p1.length : Int)
        some (decide (s_4 = p1))
      else
        some false : Option Bool)
  some j_3
def M.strings_HasPrefix (p0 : List UInt8) (p1 : List UInt8) : Option Bool := do
  let a_1 ← M.internal_stringslite_HasPrefix p0 p1
  some a_1
def M.internal_stringslite_TrimPrefix (p0 : List UInt8) (p1 : List UInt8) : Option (List UInt8) := do
  let a_1 ← M.internal_stringslite_HasPrefix p0 p1
  if a_1 then
    let s_3 ← sub p0 (p1.length : Int) (p0.length : Int)
    some s_3
  else
    some p0
def M.strings_TrimPrefix (p0 : List UInt8) (p1 : List UInt8) : Option (List UInt8) := do
  let a_1 ← M.internal_stringslite_TrimPrefix p0 p1
  some a_1
def M.internal_stringslite_CutPrefix (p0 : List UInt8) (p1 : List UInt8) : Option ((List UInt8) × Bool) := do
  let a_3 ← M.internal_stringslite_HasPrefix p0 p1
  if (!a_3) then
    some (p0, false)
  else
    let s_5 ← sub p0 (p1.length : Int) (p0.length : Int)
    some (s_5, true)
def M.strings_CutPrefix (p0 : List UInt8) (p1 : List UInt8) : Option ((List UInt8) × Bool) := do
  let a_1 ← M.internal_stringslite_CutPrefix p0 p1
  some (a_1.1, a_1.2)
def M.slices_Index_string_string_k1 (p0 : List (List UInt8)) (p1 : List UInt8) (x_7 : Int) : Option (Jn Int Unit) := do
  if (decide (x_7 < (p0.length : Int))) then
    let x_9 ← ix p0 x_7
    if (decide (p1 = x_9)) then
      some (.done x_7)
    else
      M.slices_Index_string_string_k1 p0 p1 (IntKind.wrap .i64 (x_7 + 1))
  else
    some (.go ())
  partial_fixpoint
def M.slices_Index_string_string (p0 : List (List UInt8)) (p1 : List UInt8) : Option Int := do
  let q_5 ← (do
      M.slices_Index_string_string_k1 p0 p1 0 : Option (Jn Int Unit))
  match q_5 with
  | .done r => some r
  | .go j_5 =>
    some (-1)
def M.slices_Contains_string_string (p0 : List (List UInt8)) (p1 : List UInt8) : Option Bool := do
  let a_1 ← M.slices_Index_string_string p0 p1
  some (decide (0 ≤ a_1))
def M.json_checked_1 (p0 : List UInt8) : Option Bool := do
  let a_1 ← M.validString p0
  some (!a_1)
def M.slices_IndexFunc_string_string_k1 (p0 : List (List UInt8)) (x_15 : Int) : Option (Jn Int Unit) := do
  if (decide (x_15 < (p0.length : Int))) then
    let x_19 ← ix p0 x_15
    let a_20 ← M.json_checked_1 x_19
    if a_20 then
      some (.done x_15)
    else
      M.slices_IndexFunc_string_string_k1 p0 (IntKind.wrap .i64 (x_15 + 1))
  else
    some (.go ())
  partial_fixpoint
def M.slices_IndexFunc_string_string (p0 : List (List UInt8)) : Option Int := do
  let q_11 ← (do
      M.slices_IndexFunc_string_string_k1 p0 0 : Option (Jn Int Unit))
  match q_11 with
  | .done r => some r
  | .go j_11 =>
    some (-1)
def M.slices_ContainsFunc_string_string (p0 : List (List UInt8)) : Option Bool := do
  let a_1 ← M.slices_IndexFunc_string_string p0
  some (decide (0 ≤ a_1))
def M.internal_strconv_lower (p0 : Int) : Option Int := do
  some (orI .u8 p0 32)
def M.internal_strconv_ParseUint_k1 (j_65 : (List UInt8) × Int) (p1 : Int) (j_106 : Int) (j_102 : Int) (x_301 : Bool) (x_302 : Int) (x_303 : Int) : Option (Jn (Int × Bool) (Bool × Int)) := do
  if (decide (x_303 < ((unb j_65.1).length : Int))) then
    let x_351 ← ix (unb j_65.1) x_303
    let q_381 ← (do
        if ((decide (x_351 = 95)) && (decide (p1 = 0))) then
          (do
            M.internal_strconv_ParseUint_k1 j_65 p1 j_106 j_102 true x_302 (IntKind.wrap .i64 (x_303 + 1))) >>= fun r => some (.done r)
        else
          if ((decide (48 ≤ x_351)) && (decide (x_351 ≤ 57))) then
            some (.go (IntKind.wrap .u8 (x_351 - 48)))
          else
            let a_386 ← M.internal_strconv_lower x_351
            let j_391 ← (do
                if (decide (97 ≤ a_386)) then
                  let a_392 ← M.internal_strconv_lower x_351
                  some (decide (a_392 ≤ 122))
                else
                  some false : Option Bool)
            if j_391 then
              let a_394 ← M.internal_strconv_lower x_351
              some (.go (IntKind.wrap .u8 ((IntKind.wrap .u8 (a_394 - 97)) + 10)))
            else
              some (.done (.done (0, false))) : Option (Jn (Jn (Int × Bool) (Bool × Int)) Int))
    match q_381 with
    | .done r => some r
    | .go j_381 =>
      if (decide ((IntKind.wrap .u8 j_65.2) ≤ j_381)) then
        some (.done (0, false))
      else
        if (decide (j_106 ≤ x_302)) then
          some (.done ((IntKind.wrap .u64 ((shlI .u64 1 (IntKind.wrap .u64 j_102)) - 1)), false))
        else
          if ((decide ((IntKind.wrap .u64 ((IntKind.wrap .u64 (x_302 * (IntKind.wrap .u64 j_65.2))) + (IntKind.wrap .u64 j_381))) < (IntKind.wrap .u64 (x_302 * (IntKind.wrap .u64 j_65.2))))) || (decide ((IntKind.wrap .u64 ((shlI .u64 1 (IntKind.wrap .u64 j_102)) - 1)) < (IntKind.wrap .u64 ((IntKind.wrap .u64 (x_302 * (IntKind.wrap .u64 j_65.2))) + (IntKind.wrap .u64 j_381)))))) then
            some (.done ((IntKind.wrap .u64 ((shlI .u64 1 (IntKind.wrap .u64 j_102)) - 1)), false))
          else
            M.internal_strconv_ParseUint_k1 j_65 p1 j_106 j_102 x_301 (IntKind.wrap .u64 ((IntKind.wrap .u64 (x_302 * (IntKind.wrap .u64 j_65.2))) + (IntKind.wrap .u64 j_381))) (IntKind.wrap .i64 (x_303 + 1))
  else
    some (.go (x_301, x_302))
  partial_fixpoint
def M.internal_strconv_ParseUint (p0 : List UInt8) (p1 : Int) (p2 : Int) : Option (Int × Bool) := do
  if (decide (p0 = ([] : List UInt8))) then
    some (0, false)
  else
    let q_65 ← (do
        if ((decide (2 ≤ p1)) && (decide (p1 ≤ 36))) then
          some (.go (p0, p1))
        else
          if (decide (p1 = 0)) then
            let c_68 ← ix p0 0
            if (decide ((c_68.toNat : Int) = 48)) then
              let j_73 ← (do
                  if (decide (3 ≤ (p0.length : Int))) then
                    let c_74 ← ix p0 1
                    let a_75 ← M.internal_strconv_lower (c_74.toNat : Int)
                    some (decide (a_75 = 98))
                  else
                    some false : Option Bool)
              if j_73 then
                let s_77 ← sub p0 2 (p0.length : Int)
                some (.go (s_77, 2))
              else
                let j_82 ← (do
                    if (decide (3 ≤ (p0.length : Int))) then
                      let c_83 ← ix p0 1
                      let a_84 ← M.internal_strconv_lower (c_83.toNat : Int)
                      some (decide (a_84 = 111))
                    else
                      some false : Option Bool)
                if j_82 then
                  let s_86 ← sub p0 2 (p0.length : Int)
                  some (.go (s_86, 8))
                else
                  let j_91 ← (do
                      if (decide (3 ≤ (p0.length : Int))) then
                        let c_92 ← ix p0 1
                        let a_93 ← M.internal_strconv_lower (c_92.toNat : Int)
                        some (decide (a_93 = 120))
                      else
                        some false : Option Bool)
                  if j_91 then
                    let s_95 ← sub p0 2 (p0.length : Int)
                    some (.go (s_95, 16))
                  else
                    let s_96 ← sub p0 1 (p0.length : Int)
                    some (.go (s_96, 8))
            else
              some (.go (p0, 10))
          else
            some (.done (0, false)) : Option (Jn (Int × Bool) ((List UInt8) × Int)))
    match q_65 with
    | .done r => some r
    | .go j_65 =>
      let q_102 ← (do
          if (decide (p2 = 0)) then
            some (.go 64)
          else
            if ((decide (p2 < 0)) || (decide (64 < p2))) then
              some (.done (0, false))
            else
              some (.go p2) : Option (Jn (Int × Bool) Int))
      match q_102 with
      | .done r => some r
      | .go j_102 =>
        let j_106 ← (do
            if (decide (j_65.2 = 10)) then
              some 1844674407370955162
            else
              if (decide (j_65.2 = 16)) then
                some 1152921504606846976
              else
                let _ ← chk (decide ((IntKind.wrap .u64 j_65.2) ≠ 0))
                some (IntKind.wrap .u64 ((IntKind.wrap .u64 (Int.tdiv 18446744073709551615 (IntKind.wrap .u64 j_65.2))) + 1)) : Option Int)
        let _ ← chk (decide (0 ≤ (IntKind.wrap .u64 j_102)))
        let q_253 ← (do
            let _ ← chk (decide (j_65.1.length ≤ 9223372036854775807))
            M.internal_strconv_ParseUint_k1 j_65 p1 j_106 j_102 false 0 0 : Option (Jn (Int × Bool) (Bool × Int)))
        match q_253 with
        | .done r => some r
        | .go j_253 =>
          let j_398 ← (do
              if j_253.1 then
                none
              else
                some () : Option Unit)
          some (j_253.2, true)
def M.strconv_ParseUint (p0 : List UInt8) (p1 : Int) (p2 : Int) : Option (Int × Bool) := do
  let a_1 ← M.internal_strconv_ParseUint p0 p1 p2
  if (!a_1.2) then
    none
  else
    some (a_1.1, true)
def M.word (p0 : List Int) : Option Int := do
  let x_1 ← ix p0 0
  let x_2 ← ix p0 1
  let x_3 ← ix p0 2
  let x_4 ← ix p0 3
  let x_5 ← ix p0 4
  let x_6 ← ix p0 5
  let x_7 ← ix p0 6
  let x_8 ← ix p0 7
  some (orI .u64 (orI .u64 (orI .u64 (orI .u64 (orI .u64 (orI .u64 (orI .u64 (IntKind.wrap .u64 x_1) (shlI .u64 (IntKind.wrap .u64 x_2) 8)) (shlI .u64 (IntKind.wrap .u64 x_3) 16)) (shlI .u64 (IntKind.wrap .u64 x_4) 24)) (shlI .u64 (IntKind.wrap .u64 x_5) 32)) (shlI .u64 (IntKind.wrap .u64 x_6) 40)) (shlI .u64 (IntKind.wrap .u64 x_7) 48)) (shlI .u64 (IntKind.wrap .u64 x_8) 56))
def M.valid_k2 (x_1601 : List Int) : Option (List Int) := do
  if (decide (32 < (x_1601.length : Int))) then
    let l_1614 ← sub x_1601 8 (x_1601.length : Int)
    let l_1615 ← sub x_1601 16 (x_1601.length : Int)
    let l_1616 ← sub x_1601 24 (x_1601.length : Int)
    let a_1617 ← M.word x_1601
    let a_1619 ← M.word l_1614
    let a_1621 ← M.word l_1615
    let a_1623 ← M.word l_1616
    if (decide ((andI .u64 (orI .u64 (orI .u64 a_1617 a_1619) (orI .u64 a_1621 a_1623)) 9259542123273814144) = 0)) then
      let l_1625 ← sub x_1601 32 (x_1601.length : Int)
      M.valid_k2 l_1625
    else
      some x_1601
  else
    some x_1601
  partial_fixpoint
def M.valid_k1 (x_1096 : List Int) : Option (Jn Bool Unit) := do
  if (decide (0 < (x_1096.length : Int))) then
    let x_1370 ← ix x_1096 0
    let q_1498 ← (do
        if (decide (x_1370 < 128)) then
          let l_1499 ← sub x_1096 1 (x_1096.length : Int)
          let j_1563 ← (do
              let j_1567 ← (do
                  if (decide (8 < (l_1499.length : Int))) then
                    let a_1568 ← M.word l_1499
                    some (decide ((andI .u64 a_1568 9259542123273814144) = 0))
                  else
                    some false : Option Bool)
              if j_1567 then
                let l_1570 ← sub l_1499 8 (l_1499.length : Int)
                let j_1582 ← (do
                    if (decide (16 < (l_1570.length : Int))) then
                      let l_1583 ← sub l_1570 8 (l_1570.length : Int)
                      let a_1584 ← M.word l_1570
                      let a_1586 ← M.word l_1583
                      some (decide ((andI .u64 (orI .u64 a_1584 a_1586) 9259542123273814144) = 0))
                    else
                      some false : Option Bool)
                if j_1582 then
                  let l_1588 ← sub l_1570 16 (l_1570.length : Int)
                  M.valid_k2 l_1588
                else
                  some l_1570
              else
                some l_1499 : Option (List Int))
          (do
            M.valid_k1 j_1563) >>= fun r => some (.done r)
        else
          some (.go ()) : Option (Jn (Jn Bool Unit) Unit))
    match q_1498 with
    | .done r => some r
    | .go j_1498 =>
      let x_1626 ← ix utf8First x_1370
      let x_1627 ← ix utf8Acc (shrI .u8 x_1626 4)
      if (decide ((IntKind.wrap .i64 (andI .u8 x_1626 7)) = 2)) then
        if (decide ((x_1096.length : Int) < 2)) then
          some (.done false)
        else
          let x_1628 ← ix x_1096 1
          if (decide (x_1628 < x_1627.glo)) then
            some (.done false)
          else
            let x_1629 ← ix x_1096 1
            if (decide (x_1627.ghi < x_1629)) then
              some (.done false)
            else
              let l_1630 ← sub x_1096 2 (x_1096.length : Int)
              M.valid_k1 l_1630
      else
        if (decide ((IntKind.wrap .i64 (andI .u8 x_1626 7)) = 3)) then
          if (decide ((x_1096.length : Int) < 3)) then
            some (.done false)
          else
            let x_1631 ← ix x_1096 1
            if (decide (x_1631 < x_1627.glo)) then
              some (.done false)
            else
              let x_1632 ← ix x_1096 1
              if (decide (x_1627.ghi < x_1632)) then
                some (.done false)
              else
                let x_1633 ← ix x_1096 2
                if (decide (x_1633 < 128)) then
                  some (.done false)
                else
                  let x_1634 ← ix x_1096 2
                  if (decide (191 < x_1634)) then
                    some (.done false)
                  else
                    let l_1635 ← sub x_1096 3 (x_1096.length : Int)
                    M.valid_k1 l_1635
        else
          if (decide ((IntKind.wrap .i64 (andI .u8 x_1626 7)) = 4)) then
            if (decide ((x_1096.length : Int) < 4)) then
              some (.done false)
            else
              let x_1636 ← ix x_1096 1
              if (decide (x_1636 < x_1627.glo)) then
                some (.done false)
              else
                let x_1637 ← ix x_1096 1
                if (decide (x_1627.ghi < x_1637)) then
                  some (.done false)
                else
                  let x_1638 ← ix x_1096 2
                  if (decide (x_1638 < 128)) then
                    some (.done false)
                  else
                    let x_1639 ← ix x_1096 2
                    if (decide (191 < x_1639)) then
                      some (.done false)
                    else
                      let x_1640 ← ix x_1096 3
                      if (decide (x_1640 < 128)) then
                        some (.done false)
                      else
                        let x_1641 ← ix x_1096 3
                        if (decide (191 < x_1641)) then
                          some (.done false)
                        else
                          let l_1642 ← sub x_1096 4 (x_1096.length : Int)
                          M.valid_k1 l_1642
          else
            some (.done false)
  else
    some (.go ())
  partial_fixpoint
def M.valid (p0 : List Int) : Option Bool := do
  let _ ← chk (decide ((p0.length : Int) ≤ (p0.length : Int)) && decide ((p0.length : Int) ≤ (p0.length : Int)))
  let l_1 ← sub p0 0 (p0.length : Int)
  let q_822 ← (do
      M.valid_k1 l_1 : Option (Jn Bool Unit))
  match q_822 with
  | .done r => some r
  | .go j_822 =>
    some true
def M.json_reader_blanks (p0 : T_json_reader) : Option T_json_reader := do
  let a_1 ← M.trimLeft p0.gs ([32, 9, 10, 13] : List UInt8)
  some (T_json_reader.mk a_1)
def M.json_must (p0 : Bool) (p1 : Int) : Option (Rs Unit) := do
  if (!p0) then
    some (.pan p1)
  else
    some (.ok ())
def M.json_reader_take (p0 : T_json_reader) (p1 : List UInt8) : Option (Bool × T_json_reader) := do
  let a_1 ← M.strings_CutPrefix p0.gs p1
  if a_1.2 then
    let a_3 ← M.json_reader_blanks (T_json_reader.mk a_1.1)
    some (a_1.2, a_3)
  else
    some (a_1.2, p0)
def M.json_reader_unit (p0 : T_json_reader) : Option (Rs (Int × T_json_reader)) := do
  let a_1 ← M.strings_CutPrefix p0.gs ([92, 117] : List UInt8)
  let j_9 ← (do
      if (a_1.2 && (decide (4 ≤ (a_1.1.length : Int)))) then
        let s_10 ← sub a_1.1 0 4
        let a_11 ← M.trim s_10 ([48, 49, 50, 51, 52, 53, 54, 55, 56, 57, 97, 98, 99, 100, 101, 102, 65, 66, 67, 68, 69, 70] : List UInt8)
        some (decide (a_11 = ([] : List UInt8)))
      else
        some false : Option Bool)
  let a_13 ← M.json_must j_9 20
  match a_13 with
  | .pan e_16 =>
    some (.pan e_16)
  | .ok a_15 =>
    let s_17 ← sub a_1.1 0 4
    let a_18 ← M.strconv_ParseUint s_17 16 16
    let a_20 ← M.json_must a_18.2 20
    match a_20 with
    | .pan e_23 =>
      some (.pan e_23)
    | .ok a_22 =>
      let s_24 ← sub a_1.1 4 (a_1.1.length : Int)
      some (.ok ((IntKind.wrap .i32 a_18.1), (T_json_reader.mk s_24)))
def M.json_reader_escaped (p0 : T_json_reader) : Option (Rs ((List UInt8) × T_json_reader)) := do
  let a_1 ← M.json_must (decide (2 ≤ (p0.gs.length : Int))) 20
  match a_1 with
  | .pan e_4 =>
    some (.pan e_4)
  | .ok a_3 =>
    let c_10 ← ix p0.gs 1
    let a_11 ← M.indexByte ([34, 92, 47, 98, 102, 110, 114, 116] : List UInt8) (c_10.toNat : Int)
    if (decide (0 ≤ a_11)) then
      let s_13 ← sub p0.gs 2 (p0.gs.length : Int)
      let s_14 ← sub ([34, 92, 47, 8, 12, 10, 13, 9] : List UInt8) a_11 (IntKind.wrap .i64 (a_11 + 1))
      some (.ok (s_14, (T_json_reader.mk s_13)))
    else
      let a_15 ← M.json_reader_unit p0
      match a_15 with
      | .pan e_18 =>
        some (.pan e_18)
      | .ok a_17 =>
        let a_21 ← M.json_must ((decide (a_17.1 < 56320)) || (decide (57343 < a_17.1))) 20
        match a_21 with
        | .pan e_24 =>
          some (.pan e_24)
        | .ok a_23 =>
          if ((decide (a_17.1 < 55296)) || (decide (57343 < a_17.1))) then
            some (.ok ((encS a_17.1), a_17.2))
          else
            let a_29 ← M.json_reader_unit a_17.2
            match a_29 with
            | .pan e_32 =>
              some (.pan e_32)
            | .ok a_31 =>
              let a_35 ← M.json_must ((decide (56320 ≤ a_31.1)) && (decide (a_31.1 ≤ 57343))) 20
              match a_35 with
              | .pan e_38 =>
                some (.pan e_38)
              | .ok a_37 =>
                some (.ok ((encS (IntKind.wrap .i32 ((IntKind.wrap .i32 ((IntKind.wrap .i32 (65536 + (shlI .i32 (IntKind.wrap .i32 (a_17.1 - 55296)) 10))) + a_31.1)) - 56320))), a_31.2))
def M.json_reader_text_k1 (x_37 : List UInt8) (x_38 : List Int) : Option (Rs ((List UInt8) × T_json_reader)) := do
  let j_71 ← (do
      if (!decide (x_37 = ([] : List UInt8))) then
        let c_72 ← ix x_37 0
        some (decide (32 ≤ (c_72.toNat : Int)))
      else
        some false : Option Bool)
  let a_73 ← M.json_must j_71 20
  match a_73 with
  | .pan e_76 =>
    some (.pan e_76)
  | .ok a_75 =>
    let c_77 ← ix x_37 0
    if (decide ((c_77.toNat : Int) = 34)) then
      let a_78 ← M.builderString x_38
      let a_80 ← M.validString a_78
      let a_82 ← M.json_must a_80 20
      match a_82 with
      | .pan e_85 =>
        some (.pan e_85)
      | .ok a_84 =>
        let a_86 ← M.json_reader_take (T_json_reader.mk x_37) ([34] : List UInt8)
        let a_88 ← M.builderString x_38
        some (.ok (a_88, a_86.2))
    else
      if (decide ((c_77.toNat : Int) = 92)) then
        let a_90 ← M.json_reader_escaped (T_json_reader.mk x_37)
        match a_90 with
        | .pan e_93 =>
          some (.pan e_93)
        | .ok a_92 =>
          let a_94 ← M.strings_Builder_WriteString x_38 a_92.1
          M.json_reader_text_k1 a_92.2.gs a_94.2
      else
        let a_96 ← M.strings_Builder_WriteByte x_38 (c_77.toNat : Int)
        let s_98 ← sub x_37 1 (x_37.length : Int)
        M.json_reader_text_k1 s_98 a_96
  partial_fixpoint
def M.json_reader_text (p0 : T_json_reader) : Option (Rs ((List UInt8) × T_json_reader)) := do
  let a_1 ← M.strings_CutPrefix p0.gs ([34] : List UInt8)
  let a_3 ← M.json_must a_1.2 20
  match a_3 with
  | .pan e_6 =>
    some (.pan e_6)
  | .ok a_5 =>
    M.json_reader_text_k1 a_1.1 ([] : List Int)
def M.json_digits (p0 : List UInt8) : Option Int := do
  let a_1 ← M.trimLeft p0 ([48, 49, 50, 51, 52, 53, 54, 55, 56, 57] : List UInt8)
  some (IntKind.wrap .i64 ((p0.length : Int) - (a_1.length : Int)))
def M.json_number (p0 : List UInt8) : Option Int := do
  let j_6 ← (do
      let a_7 ← M.strings_HasPrefix p0 ([45] : List UInt8)
      if a_7 then
        some 1
      else
        some 0 : Option Int)
  let s_9 ← sub p0 j_6 (p0.length : Int)
  let a_10 ← M.json_digits s_9
  if (decide (a_10 = 0)) then
    some 0
  else
    let j_15 ← (do
        let c_16 ← ix p0 j_6
        if (decide ((c_16.toNat : Int) = 48)) then
          some 1
        else
          some a_10 : Option Int)
    let j_30 ← (do
        let s_31 ← sub p0 (IntKind.wrap .i64 (j_6 + j_15)) (p0.length : Int)
        let a_32 ← M.strings_HasPrefix s_31 ([46] : List UInt8)
        if a_32 then
          let s_34 ← sub p0 (IntKind.wrap .i64 ((IntKind.wrap .i64 (j_6 + j_15)) + 1)) (p0.length : Int)
          let a_35 ← M.json_digits s_34
          if (decide (0 < a_35)) then
            some (IntKind.wrap .i64 ((IntKind.wrap .i64 (j_6 + j_15)) + (IntKind.wrap .i64 (1 + a_35))))
          else
            some (IntKind.wrap .i64 (j_6 + j_15))
        else
          some (IntKind.wrap .i64 (j_6 + j_15)) : Option Int)
    let j_40 ← (do
        if (decide (j_30 < (p0.length : Int))) then
          let c_41 ← ix p0 j_30
          if (decide ((c_41.toNat : Int) = 101)) then
            some true
          else
            let c_42 ← ix p0 j_30
            some (decide ((c_42.toNat : Int) = 69))
        else
          some false : Option Bool)
    if j_40 then
      let j_56 ← (do
          let j_60 ← (do
              if (decide ((IntKind.wrap .i64 (j_30 + 1)) < (p0.length : Int))) then
                let c_61 ← ix p0 (IntKind.wrap .i64 (j_30 + 1))
                if (decide ((c_61.toNat : Int) = 43)) then
                  some true
                else
                  let c_62 ← ix p0 (IntKind.wrap .i64 (j_30 + 1))
                  some (decide ((c_62.toNat : Int) = 45))
              else
                some false : Option Bool)
          if j_60 then
            some (IntKind.wrap .i64 ((IntKind.wrap .i64 (j_30 + 1)) + 1))
          else
            some (IntKind.wrap .i64 (j_30 + 1)) : Option Int)
      let s_63 ← sub p0 j_56 (p0.length : Int)
      let a_64 ← M.json_digits s_63
      if (decide (0 < a_64)) then
        some (IntKind.wrap .i64 (j_56 + a_64))
      else
        some j_30
    else
      some j_30
def M.json_reader_value_k1 (x_53 : Int) (x_54 : List UInt8) : Option (Jn (Rs (T_api_Json × T_json_reader)) (List UInt8)) := do
  if (decide (x_53 < ([([110, 117, 108, 108] : List UInt8), ([102, 97, 108, 115, 101] : List UInt8), ([116, 114, 117, 101] : List UInt8)].length : Int))) then
    let x_58 ← ix [([110, 117, 108, 108] : List UInt8), ([102, 97, 108, 115, 101] : List UInt8), ([116, 114, 117, 101] : List UInt8)] x_53
    let a_59 ← M.json_reader_take (T_json_reader.mk x_54) x_58
    if a_59.1 then
      some (.done (.ok ((T_api_Json.mk x_53 ([] : List UInt8) ([] : List T_api_Json) ([] : List (List UInt8))), a_59.2)))
    else
      M.json_reader_value_k1 (IntKind.wrap .i64 (x_53 + 1)) a_59.2.gs
  else
    some (.go x_54)
  partial_fixpoint
def M.json_reader_nested_k1 (p1 : Int) (self_json_reader_value : T_json_reader → Int → Option (Rs (T_api_Json × T_json_reader))) (p2 : Int) (p3 : List UInt8) (x_79 : List UInt8) (x_80 : List T_api_Json) (x_81 : List (List UInt8)) : Option (Rs (T_api_Json × T_json_reader)) := do
  let q_190 ← (do
      if (decide (p1 = 6)) then
        let a_191 ← M.json_reader_text (T_json_reader.mk x_79)
        match a_191 with
        | .pan e_194 =>
          some (.done (.pan e_194))
        | .ok a_193 =>
          let a_195 ← M.slices_Contains_string_string x_81 a_193.1
          let j_201 ← (do
              if (!a_195) then
                let a_202 ← M.json_reader_take a_193.2 ([58] : List UInt8)
                some (a_202.1, a_202.2.gs)
              else
                some (false, a_193.2.gs) : Option (Bool × (List UInt8)))
          let a_204 ← M.json_must j_201.1 20
          match a_204 with
          | .pan e_207 =>
            some (.done (.pan e_207))
          | .ok a_206 =>
            let l_208 ← app 16 x_81 [a_193.1]
            some (.go (j_201.2, l_208))
      else
        some (.go (x_79, x_81)) : Option (Jn (Rs (T_api_Json × T_json_reader)) ((List UInt8) × (List (List UInt8)))))
  match q_190 with
  | .done r => some r
  | .go j_190 =>
    let a_209 ← self_json_reader_value (T_json_reader.mk j_190.1) (IntKind.wrap .i64 (p2 + 1))
    match a_209 with
    | .pan e_212 =>
      some (.pan e_212)
    | .ok a_211 =>
      let l_213 ← app 72 x_80 [a_211.1]
      let a_214 ← M.json_reader_take a_211.2 p3
      if a_214.1 then
        some (.ok ((T_api_Json.mk p1 ([] : List UInt8) l_213 j_190.2), a_214.2))
      else
        let a_216 ← M.json_reader_take a_214.2 ([44] : List UInt8)
        let a_218 ← M.json_must a_216.1 20
        match a_218 with
        | .pan e_221 =>
          some (.pan e_221)
        | .ok a_220 =>
          M.json_reader_nested_k1 p1 self_json_reader_value p2 p3 a_216.2.gs l_213 j_190.2
  partial_fixpoint
mutual
def M.json_reader_value : Nat → T_json_reader → Int → Option (Rs (T_api_Json × T_json_reader))
  | 0, _, _ => none
  | fuel + 1, p0, p1 => do
    let a_19 ← M.strings_HasPrefix p0.gs ([34] : List UInt8)
    if a_19 then
      let a_21 ← M.json_reader_text p0
      match a_21 with
      | .pan e_24 =>
        some (.pan e_24)
      | .ok a_23 =>
        some (.ok ((T_api_Json.mk 4 a_23.1 ([] : List T_api_Json) ([] : List (List UInt8))), a_23.2))
    else
      let a_25 ← M.json_reader_take p0 ([91] : List UInt8)
      if a_25.1 then
        let a_27 ← (M.json_reader_nested fuel) a_25.2 5 p1 ([93] : List UInt8)
        match a_27 with
        | .pan e_30 =>
          some (.pan e_30)
        | .ok a_29 =>
          some (.ok (a_29.1, a_29.2))
      else
        let a_31 ← M.json_reader_take a_25.2 ([123] : List UInt8)
        if a_31.1 then
          let a_33 ← (M.json_reader_nested fuel) a_31.2 6 p1 ([125] : List UInt8)
          match a_33 with
          | .pan e_36 =>
            some (.pan e_36)
          | .ok a_35 =>
            some (.ok (a_35.1, a_35.2))
        else
          let q_49 ← (do
              M.json_reader_value_k1 0 a_31.2.gs : Option (Jn (Rs (T_api_Json × T_json_reader)) (List UInt8)))
          match q_49 with
          | .done r => some r
          | .go j_49 =>
            let a_61 ← M.json_number j_49
            let a_63 ← M.json_must (decide (0 < a_61)) 20
            match a_63 with
            | .pan e_66 =>
              some (.pan e_66)
            | .ok a_65 =>
              let s_67 ← sub j_49 0 a_61
              let a_68 ← M.json_reader_take (T_json_reader.mk j_49) s_67
              some (.ok ((T_api_Json.mk 3 s_67 ([] : List T_api_Json) ([] : List (List UInt8))), a_68.2))
def M.json_reader_nested : Nat → T_json_reader → Int → Int → (List UInt8) → Option (Rs (T_api_Json × T_json_reader))
  | 0, _, _, _, _ => none
  | fuel + 1, p0, p1, p2, p3 => do
    let a_1 ← M.json_must (decide (p2 < 16)) 21
    match a_1 with
    | .pan e_4 =>
      some (.pan e_4)
    | .ok a_3 =>
      let a_7 ← M.json_reader_take p0 p3
      if a_7.1 then
        some (.ok ((T_api_Json.mk p1 ([] : List UInt8) ([] : List T_api_Json) ([] : List (List UInt8))), a_7.2))
      else
        M.json_reader_nested_k1 p1 (M.json_reader_value fuel) p2 p3 a_7.2.gs [] []
end
def M.json_Parse (fuel : Nat) (p0 : List UInt8) : Option (T_api_Json × Int) := do
  if (decide (16384 < (p0.length : Int))) then
    some ((T_api_Json.mk 0 ([] : List UInt8) ([] : List T_api_Json) ([] : List (List UInt8))), 22)
  else
    let a_1 ← M.json_reader_blanks (T_json_reader.mk p0)
    let a_3 ← M.json_reader_value fuel a_1 0
    match a_3 with
    | .pan e_6 =>
      some ((T_api_Json.mk 0 ([] : List UInt8) ([] : List T_api_Json) ([] : List (List UInt8))), e_6)
    | .ok a_5 =>
      let a_7 ← M.json_must (decide (a_5.2.gs = ([] : List UInt8))) 20
      match a_7 with
      | .pan e_10 =>
        some ((T_api_Json.mk 0 ([] : List UInt8) ([] : List T_api_Json) ([] : List (List UInt8))), e_10)
      | .ok a_9 =>
        some (a_5.1, 0)
def M.json_checked_k1 (p0 : T_api_Json) (self_json_checked : T_api_Json → Int → Option (Rs Unit)) (p1 : Int) (x_108 : Int) : Option (Rs Unit) := do
  if (decide (x_108 < (p0.gList.length : Int))) then
    let x_114 ← ix p0.gList x_108
    let a_115 ← self_json_checked x_114 (IntKind.wrap .i64 (p1 + 1))
    match a_115 with
    | .pan e_118 =>
      some (.pan e_118)
    | .ok a_117 =>
      M.json_checked_k1 p0 self_json_checked p1 (IntKind.wrap .i64 (x_108 + 1))
  else
    some (.ok ())
  partial_fixpoint
def M.json_checked : Nat → T_api_Json → Int → Option (Rs Unit)
  | 0, _, _ => none
  | fuel + 1, p0, p1 => do
    let a_5 ← M.json_must ((!((decide (p0.gKind = 5)) || (decide (p0.gKind = 6)))) || (decide (p1 < 16))) 21
    match a_5 with
    | .pan e_8 =>
      some (.pan e_8)
    | .ok a_7 =>
      let a_11 ← M.json_must ((decide (0 ≤ p0.gKind)) && (decide (p0.gKind < 7))) 23
      match a_11 with
      | .pan e_14 =>
        some (.pan e_14)
      | .ok a_13 =>
        let a_17 ← M.json_must (((decide (p0.gKind = 5)) || (decide (p0.gKind = 6))) || (decide ((p0.gList.length : Int) = 0))) 23
        match a_17 with
        | .pan e_20 =>
          some (.pan e_20)
        | .ok a_19 =>
          let a_26 ← M.json_must (((decide (p0.gKind = 6)) && (decide ((p0.gKeys.length : Int) = (p0.gList.length : Int)))) || ((decide ((p0.gKeys.length : Int) = 0)) && (!decide (p0.gKind = 6)))) 23
          match a_26 with
          | .pan e_29 =>
            some (.pan e_29)
          | .ok a_28 =>
            let a_30 ← M.slices_ContainsFunc_string_string p0.gKeys
            let j_35 ← (do
                if (!a_30) then
                  let a_36 ← M.single p0.gKeys
                  some a_36
                else
                  some false : Option Bool)
            let a_38 ← M.json_must j_35 23
            match a_38 with
            | .pan e_41 =>
              some (.pan e_41)
            | .ok a_40 =>
              let q_82 ← (do
                  if (decide (p0.gKind = 3)) then
                    if (!decide (p0.gText = ([] : List UInt8))) then
                      let a_83 ← M.json_number p0.gText
                      let a_85 ← M.json_must (decide (a_83 = (p0.gText.length : Int))) 23
                      match a_85 with
                      | .pan e_88 =>
                        some (.done (.pan e_88))
                      | .ok a_87 =>
                        some (.go ())
                    else
                      let a_89 ← M.json_must false 23
                      match a_89 with
                      | .pan e_92 =>
                        some (.done (.pan e_92))
                      | .ok a_91 =>
                        some (.go ())
                  else
                    if (decide (p0.gKind = 4)) then
                      let a_93 ← M.validString p0.gText
                      let a_95 ← M.json_must a_93 23
                      match a_95 with
                      | .pan e_98 =>
                        some (.done (.pan e_98))
                      | .ok a_97 =>
                        some (.go ())
                    else
                      let a_99 ← M.json_must (decide (p0.gText = ([] : List UInt8))) 23
                      match a_99 with
                      | .pan e_102 =>
                        some (.done (.pan e_102))
                      | .ok a_101 =>
                        some (.go ()) : Option (Jn (Rs Unit) Unit))
              match q_82 with
              | .done r => some r
              | .go j_82 =>
                M.json_checked_k1 p0 (M.json_checked fuel) p1 0
def M.json_Check (fuel : Nat) (p0 : T_api_Json) : Option Int := do
  let a_1 ← M.json_checked fuel p0 0
  match a_1 with
  | .pan e_4 =>
    some e_4
  | .ok a_3 =>
    some 0
def M.json_quoted_k1 (p1 : List UInt8) (x_67 : Int) (x_68 : List Int) : Option (List Int) := do
  if (decide (x_67 < ((unb p1).length : Int))) then
    let x_84 ← ix (unb p1) x_67
    let a_85 ← M.indexByte ([34, 92, 8, 9, 10, 12, 13] : List UInt8) x_84
    if (decide (0 ≤ a_85)) then
      let s_87 ← sub ([34, 92, 98, 116, 110, 102, 114] : List UInt8) a_85 (IntKind.wrap .i64 (a_85 + 1))
      let s_88 ← cat ([92] : List UInt8) s_87
      let a_89 ← M.strings_Builder_WriteString x_68 s_88
      M.json_quoted_k1 p1 (IntKind.wrap .i64 (x_67 + 1)) a_89.2
    else
      if (decide (x_84 < 32)) then
        let s_91 ← sub ([48, 49] : List UInt8) (shrI .u8 x_84 4) (IntKind.wrap .u8 ((shrI .u8 x_84 4) + 1))
        let s_92 ← cat ([92, 117, 48, 48] : List UInt8) s_91
        let s_93 ← sub ([48, 49, 50, 51, 52, 53, 54, 55, 56, 57, 97, 98, 99, 100, 101, 102] : List UInt8) (andI .u8 x_84 15) (IntKind.wrap .u8 ((andI .u8 x_84 15) + 1))
        let s_94 ← cat s_92 s_93
        let a_95 ← M.strings_Builder_WriteString x_68 s_94
        M.json_quoted_k1 p1 (IntKind.wrap .i64 (x_67 + 1)) a_95.2
      else
        let a_97 ← M.strings_Builder_WriteByte x_68 x_84
        M.json_quoted_k1 p1 (IntKind.wrap .i64 (x_67 + 1)) a_97
  else
    some x_68
  partial_fixpoint
def M.json_quoted (p0 : List Int) (p1 : List UInt8) : Option (List Int) := do
  let a_1 ← M.strings_Builder_WriteByte p0 34
  let j_51 ← (do
      let _ ← chk (decide (p1.length ≤ 9223372036854775807))
      M.json_quoted_k1 p1 0 a_1 : Option (List Int))
  let a_99 ← M.strings_Builder_WriteByte j_51 34
  some a_99
def M.json_laid_k1 (p1 : T_api_Json) (self_json_laid : (List Int) → T_api_Json → Option (List Int)) (x_92 : Int) (x_93 : List Int) : Option (List Int) := do
  if (decide (x_92 < (p1.gList.length : Int))) then
    let x_112 ← ix p1.gList x_92
    let j_118 ← (do
        if (decide (0 < x_92)) then
          let a_119 ← M.strings_Builder_WriteByte x_93 44
          some a_119
        else
          some x_93 : Option (List Int))
    if (decide (p1.gKind = 6)) then
      let x_121 ← ix p1.gKeys x_92
      let a_122 ← M.json_quoted j_118 x_121
      let a_124 ← M.strings_Builder_WriteByte a_122 58
      let a_126 ← self_json_laid a_124 x_112
      M.json_laid_k1 p1 self_json_laid (IntKind.wrap .i64 (x_92 + 1)) a_126
    else
      let a_128 ← self_json_laid j_118 x_112
      M.json_laid_k1 p1 self_json_laid (IntKind.wrap .i64 (x_92 + 1)) a_128
  else
    some x_93
  partial_fixpoint
def M.json_laid : Nat → (List Int) → T_api_Json → Option (List Int)
  | 0, _, _ => none
  | fuel + 1, p0, p1 => do
    if (decide (p1.gKind = 0)) then
      let a_1 ← M.strings_Builder_WriteString p0 ([110, 117, 108, 108] : List UInt8)
      some a_1.2
    else
      if (decide (p1.gKind = 1)) then
        let a_3 ← M.strings_Builder_WriteString p0 ([102, 97, 108, 115, 101] : List UInt8)
        some a_3.2
      else
        if (decide (p1.gKind = 2)) then
          let a_5 ← M.strings_Builder_WriteString p0 ([116, 114, 117, 101] : List UInt8)
          some a_5.2
        else
          if (decide (p1.gKind = 3)) then
            let a_7 ← M.strings_Builder_WriteString p0 p1.gText
            some a_7.2
          else
            if (decide (p1.gKind = 4)) then
              let a_9 ← M.json_quoted p0 p1.gText
              some a_9
            else
              let j_12 ← (do
                  if (decide (p1.gKind = 6)) then
                    some ([123, 125] : List UInt8)
                  else
                    some ([91, 93] : List UInt8) : Option (List UInt8))
              let c_13 ← ix j_12 0
              let a_14 ← M.strings_Builder_WriteByte p0 (c_13.toNat : Int)
              let j_73 ← (do
                  M.json_laid_k1 p1 (M.json_laid fuel) 0 a_14 : Option (List Int))
              let c_130 ← ix j_12 1
              let a_131 ← M.strings_Builder_WriteByte j_73 (c_130.toNat : Int)
              some a_131
def M.json_Print (fuel : Nat) (p0 : T_api_Json) : Option ((List UInt8) × Int) := do
  let a_3 ← M.json_Check fuel p0
  if (!decide (a_3 = 0)) then
    some (([] : List UInt8), a_3)
  else
    let a_5 ← M.json_laid fuel ([] : List Int) p0
    let a_7 ← M.strings_Builder_Len a_5
    if (decide (16384 < a_7)) then
      some (([] : List UInt8), 22)
    else
      let a_9 ← M.builderString a_5
      some (a_9, 0)
def M.json_Member (p0 : T_api_Json) (p1 : List UInt8) : Option (T_api_Json × Bool) := do
  let a_1 ← M.slices_Index_string_string p0.gKeys p1
  if (((decide (p0.gKind = 6)) && (decide (0 ≤ a_1))) && (decide (a_1 < (p0.gList.length : Int)))) then
    let x_7 ← ix p0.gList a_1
    some (x_7, true)
  else
    some ((T_api_Json.mk 0 ([] : List UInt8) [] []), false)
def M.json_Int (p0 : T_api_Json) : Option (Int × Bool) := do
  let a_1 ← M.strings_TrimPrefix p0.gText ([45] : List UInt8)
  let a_3 ← M.atoi p0.gText
  if (!decide (p0.gKind = 3)) then
    some (0, false)
  else
    if (!a_3.2) then
      some (0, false)
    else
      if (decide (15 < (a_1.length : Int))) then
        some (0, false)
      else
        let a_5 ← M.itoa a_3.1
        if (!decide (a_5 = p0.gText)) then
          some (0, false)
        else
          some (a_3.1, true)
def M.json_Texts_k1 (p0 : T_api_Json) (x_13 : List (List UInt8)) (x_14 : Int) : Option (Jn ((List (List UInt8)) × Bool) (List (List UInt8))) := do
  if (decide (x_14 < (p0.gList.length : Int))) then
    let x_17 ← ix p0.gList x_14
    if (!decide (x_17.gKind = 4)) then
      some (.done ([], false))
    else
      let l_18 ← app 16 x_13 [x_17.gText]
      M.json_Texts_k1 p0 l_18 (IntKind.wrap .i64 (x_14 + 1))
  else
    some (.go x_13)
  partial_fixpoint
def M.json_Texts (p0 : T_api_Json) : Option ((List (List UInt8)) × Bool) := do
  if (!decide (p0.gKind = 5)) then
    some ([], false)
  else
    let q_10 ← (do
        M.json_Texts_k1 p0 [] 0 : Option (Jn ((List (List UInt8)) × Bool) (List (List UInt8))))
    match q_10 with
    | .done r => some r
    | .go j_10 =>
      some (j_10, true)
def M.l02_awake (fuel : Nat)  : Option Bool := do
  let a_1 ← M.json_Parse fuel ([32, 123, 32, 34, 97, 34, 32, 58, 32, 91, 32, 49, 32, 44, 32, 45, 48, 46, 53, 101, 43, 51, 32, 44, 32, 34, 92, 117, 48, 48, 101, 57, 92, 47, 34, 32, 93, 32, 44, 32, 34, 34, 32, 58, 32, 110, 117, 108, 108, 32, 125, 32] : List UInt8)
  let a_3 ← M.json_Print fuel a_1.1
  let a_5 ← M.json_Parse fuel ([123, 34, 97, 34, 58, 49, 44, 34, 97, 34, 58, 50, 125] : List UInt8)
  let a_7 ← M.json_Parse fuel ([91, 91, 91, 91, 91, 91, 91, 91, 91, 91, 91, 91, 91, 91, 91, 91, 91, 93, 93, 93, 93, 93, 93, 93, 93, 93, 93, 93, 93, 93, 93, 93, 93, 93] : List UInt8)
  let a_9 ← M.json_Print fuel (T_api_Json.mk 7 ([] : List UInt8) [] [])
  let a_11 ← M.json_Member a_1.1 ([97] : List UInt8)
  let a_13 ← M.json_Int (T_api_Json.mk 3 ([45, 55] : List UInt8) [] [])
  let a_15 ← M.json_Texts (T_api_Json.mk 5 ([] : List UInt8) [(T_api_Json.mk 4 ([120] : List UInt8) [] [])] [])
  let j_39 ← (do
      if (((((((((((decide (a_1.2 = 0)) && (decide (a_3.1 = ([123, 34, 97, 34, 58, 91, 49, 44, 45, 48, 46, 53, 101, 43, 51, 44, 34, 195, 169, 47, 34, 93, 44, 34, 34, 58, 110, 117, 108, 108, 125] : List UInt8)))) && (decide (a_3.2 = 0))) && (decide (a_5.2 = 20))) && (decide (a_7.2 = 21))) && (decide (a_9.2 = 23))) && a_11.2) && (decide ((a_11.1.gList.length : Int) = 3))) && (decide (a_13.1 = (-7)))) && a_13.2) && (decide ((a_15.1.length : Int) = 1))) then
        let x_40 ← ix a_15.1 0
        some (decide (x_40 = ([120] : List UInt8)))
      else
        some false : Option Bool)
  let j_46 ← (do
      if (j_39 && a_15.2) then
        let a_47 ← M.json_Check fuel a_1.1
        some (decide (a_47 = 0))
      else
        some false : Option Bool)
  some ((((j_46 && true) && true) && true) && true)
def M.r02_digit (p0 : Int) : Option Bool := do
  some ((decide (48 ≤ p0)) && (decide (p0 ≤ 57)))
def M.r02_number_k1 (p0 : List UInt8) (j_10 : Int) (x_66 : Int) : Option Int := do
  let j_83 ← (do
      if (decide (x_66 < (p0.length : Int))) then
        let c_84 ← ix p0 x_66
        let a_85 ← M.r02_digit (c_84.toNat : Int)
        some a_85
      else
        some false : Option Bool)
  let j_89 ← (do
      if j_83 then
        if (decide (x_66 = j_10)) then
          some true
        else
          let c_90 ← ix p0 j_10
          some (!decide ((c_90.toNat : Int) = 48))
      else
        some false : Option Bool)
  if j_89 then
    M.r02_number_k1 p0 j_10 (IntKind.wrap .i64 (x_66 + 1))
  else
    some x_66
  partial_fixpoint
def M.r02_number_k2 (p0 : List UInt8) (x_150 : Int) : Option Int := do
  let j_163 ← (do
      if (decide (x_150 < (p0.length : Int))) then
        let c_164 ← ix p0 x_150
        let a_165 ← M.r02_digit (c_164.toNat : Int)
        some a_165
      else
        some false : Option Bool)
  if j_163 then
    M.r02_number_k2 p0 (IntKind.wrap .i64 (x_150 + 1))
  else
    some x_150
  partial_fixpoint
def M.r02_number_k3 (p0 : List UInt8) (x_308 : Int) : Option Int := do
  let j_321 ← (do
      if (decide (x_308 < (p0.length : Int))) then
        let c_322 ← ix p0 x_308
        let a_323 ← M.r02_digit (c_322.toNat : Int)
        some a_323
      else
        some false : Option Bool)
  if j_321 then
    M.r02_number_k3 p0 (IntKind.wrap .i64 (x_308 + 1))
  else
    some x_308
  partial_fixpoint
def M.r02_number (p0 : List UInt8) : Option Int := do
  let j_10 ← (do
      let j_13 ← (do
          if (decide (0 < (p0.length : Int))) then
            let c_14 ← ix p0 0
            some (decide ((c_14.toNat : Int) = 45))
          else
            some false : Option Bool)
      if j_13 then
        some (IntKind.wrap .i64 (0 + 1))
      else
        some 0 : Option Int)
  let j_53 ← (do
      M.r02_number_k1 p0 j_10 j_10 : Option Int)
  if (decide (j_53 = j_10)) then
    some 0
  else
    let j_129 ← (do
        let j_132 ← (do
            if (decide ((IntKind.wrap .i64 (j_53 + 1)) < (p0.length : Int))) then
              let c_133 ← ix p0 j_53
              some (decide ((c_133.toNat : Int) = 46))
            else
              some false : Option Bool)
        let j_138 ← (do
            if j_132 then
              let c_139 ← ix p0 (IntKind.wrap .i64 (j_53 + 1))
              let a_140 ← M.r02_digit (c_139.toNat : Int)
              some a_140
            else
              some false : Option Bool)
        if j_138 then
          M.r02_number_k2 p0 (IntKind.wrap .i64 (j_53 + 1))
        else
          some j_53 : Option Int)
    let j_246 ← (do
        let j_250 ← (do
            if (decide (j_129 < (p0.length : Int))) then
              let c_251 ← ix p0 j_129
              if (decide ((c_251.toNat : Int) = 101)) then
                some true
              else
                let c_252 ← ix p0 j_129
                some (decide ((c_252.toNat : Int) = 69))
            else
              some false : Option Bool)
        if j_250 then
          let j_266 ← (do
              let j_270 ← (do
                  if (decide ((IntKind.wrap .i64 (j_129 + 1)) < (p0.length : Int))) then
                    let c_271 ← ix p0 (IntKind.wrap .i64 (j_129 + 1))
                    if (decide ((c_271.toNat : Int) = 43)) then
                      some true
                    else
                      let c_272 ← ix p0 (IntKind.wrap .i64 (j_129 + 1))
                      some (decide ((c_272.toNat : Int) = 45))
                  else
                    some false : Option Bool)
              if j_270 then
                some (IntKind.wrap .i64 ((IntKind.wrap .i64 (j_129 + 1)) + 1))
              else
                some (IntKind.wrap .i64 (j_129 + 1)) : Option Int)
          let j_299 ← (do
              M.r02_number_k3 p0 j_266 : Option Int)
          if (decide (j_266 < j_299)) then
            some j_299
          else
            some j_129
        else
          some j_129 : Option Int)
    some j_246
def M.r02_twice_k2 (x_63 : Int) (p0 : List (List UInt8)) (x_89 : Int) : Option (Jn (Jn Bool Unit) Unit) := do
  if (decide (x_89 < x_63)) then
    let x_92 ← ix p0 x_63
    let x_93 ← ix p0 x_89
    if (decide (x_92 = x_93)) then
      some (.done (.done true))
    else
      M.r02_twice_k2 x_63 p0 (IntKind.wrap .i64 (x_89 + 1))
  else
    some (.go ())
  partial_fixpoint
def M.r02_twice_k1 (p0 : List (List UInt8)) (x_63 : Int) : Option (Jn Bool Unit) := do
  if (decide (x_63 < (p0.length : Int))) then
    let q_86 ← (do
        M.r02_twice_k2 x_63 p0 0 : Option (Jn (Jn Bool Unit) Unit))
    match q_86 with
    | .done r => some r
    | .go j_86 =>
      M.r02_twice_k1 p0 (IntKind.wrap .i64 (x_63 + 1))
  else
    some (.go ())
  partial_fixpoint
def M.r02_twice (p0 : List (List UInt8)) : Option Bool := do
  let q_47 ← (do
      M.r02_twice_k1 p0 0 : Option (Jn Bool Unit))
  match q_47 with
  | .done r => some r
  | .go j_47 =>
    some false
def M.r02_form_k1 (p0 : T_api_Json) (x_15 : Int) : Option (Jn Bool Unit) := do
  if (decide (x_15 < (p0.gKeys.length : Int))) then
    let x_19 ← ix p0.gKeys x_15
    let a_20 ← M.validString x_19
    if (!a_20) then
      some (.done false)
    else
      M.r02_form_k1 p0 (IntKind.wrap .i64 (x_15 + 1))
  else
    some (.go ())
  partial_fixpoint
def M.r02_form (p0 : T_api_Json) : Option Bool := do
  let q_11 ← (do
      M.r02_form_k1 p0 0 : Option (Jn Bool Unit))
  match q_11 with
  | .done r => some r
  | .go j_11 =>
    let j_23 ← (do
        if (decide (p0.gKind = 0)) then
          some (decide (p0.gKind = 0))
        else
          if (decide (p0.gKind = 1)) then
            some (decide (p0.gKind = 1))
          else
            some (decide (p0.gKind = 2)) : Option Bool)
    if j_23 then
      some (((decide (p0.gText = ([] : List UInt8))) && (decide ((p0.gList.length : Int) = 0))) && (decide ((p0.gKeys.length : Int) = 0)))
    else
      if (decide (p0.gKind = 3)) then
        if (!decide (p0.gText = ([] : List UInt8))) then
          let a_28 ← M.r02_number p0.gText
          if (decide (a_28 = (p0.gText.length : Int))) then
            if (decide ((p0.gList.length : Int) = 0)) then
              some (decide ((p0.gKeys.length : Int) = 0))
            else
              some false
          else
            some false
        else
          some false
      else
        if (decide (p0.gKind = 4)) then
          let a_30 ← M.validString p0.gText
          some ((a_30 && (decide ((p0.gList.length : Int) = 0))) && (decide ((p0.gKeys.length : Int) = 0)))
        else
          if (decide (p0.gKind = 5)) then
            some ((decide (p0.gText = ([] : List UInt8))) && (decide ((p0.gKeys.length : Int) = 0)))
          else
            if (decide (p0.gKind = 6)) then
              let j_43 ← (do
                  if ((decide (p0.gText = ([] : List UInt8))) && (decide ((p0.gKeys.length : Int) = (p0.gList.length : Int)))) then
                    let a_44 ← M.r02_twice p0.gKeys
                    some (!a_44)
                  else
                    some false : Option Bool)
              some j_43
            else
              some false
def M.r02_check_k1 (p0 : T_api_Json) (self_r02_check : T_api_Json → Int → Option Int) (p1 : Int) (x_27 : Int) : Option (Jn Int Unit) := do
  if (decide (x_27 < (p0.gList.length : Int))) then
    let x_31 ← ix p0.gList x_27
    let a_32 ← self_r02_check x_31 (IntKind.wrap .i64 (p1 + 1))
    if (!decide (a_32 = 0)) then
      some (.done a_32)
    else
      M.r02_check_k1 p0 self_r02_check p1 (IntKind.wrap .i64 (x_27 + 1))
  else
    some (.go ())
  partial_fixpoint
def M.r02_check : Nat → T_api_Json → Int → Option Int
  | 0, _, _ => none
  | fuel + 1, p0, p1 => do
    if (((decide (p0.gKind = 5)) || (decide (p0.gKind = 6))) && (decide (16 ≤ p1))) then
      some 21
    else
      let a_11 ← M.r02_form p0
      if (!a_11) then
        some 23
      else
        let q_23 ← (do
            M.r02_check_k1 p0 (M.r02_check fuel) p1 0 : Option (Jn Int Unit))
        match q_23 with
        | .done r => some r
        | .go j_23 =>
          some 0
def M.r02_Check (fuel : Nat) (p0 : T_api_Json) : Option Int := do
  let a_1 ← M.r02_check fuel p0 0
  some a_1
def M.l02_JsonChecks (fuel : Nat) (p0 : T_api_Json) : Option Bool := do
  let a_1 ← M.l02_awake fuel
  if a_1 then
    let a_3 ← M.json_Check fuel p0
    let a_5 ← M.r02_Check fuel p0
    some (decide (a_3 = a_5))
  else
    some false
def M.r02_Text_k1 (p0 : List UInt8) (x_57 : List Int) (x_58 : Int) : Option (List Int) := do
  if (decide (x_58 < (p0.length : Int))) then
    let c_72 ← ix p0 x_58
    if ((decide ((c_72.toNat : Int) = 34)) || (decide ((c_72.toNat : Int) = 92))) then
      let l_75 ← app 1 x_57 [92, (c_72.toNat : Int)]
      M.r02_Text_k1 p0 l_75 (IntKind.wrap .i64 (x_58 + 1))
    else
      if (decide ((c_72.toNat : Int) = 8)) then
        let l_76 ← app 1 x_57 (unb ([92, 98] : List UInt8))
        M.r02_Text_k1 p0 l_76 (IntKind.wrap .i64 (x_58 + 1))
      else
        if (decide ((c_72.toNat : Int) = 9)) then
          let l_77 ← app 1 x_57 (unb ([92, 116] : List UInt8))
          M.r02_Text_k1 p0 l_77 (IntKind.wrap .i64 (x_58 + 1))
        else
          if (decide ((c_72.toNat : Int) = 10)) then
            let l_78 ← app 1 x_57 (unb ([92, 110] : List UInt8))
            M.r02_Text_k1 p0 l_78 (IntKind.wrap .i64 (x_58 + 1))
          else
            if (decide ((c_72.toNat : Int) = 12)) then
              let l_79 ← app 1 x_57 (unb ([92, 102] : List UInt8))
              M.r02_Text_k1 p0 l_79 (IntKind.wrap .i64 (x_58 + 1))
            else
              if (decide ((c_72.toNat : Int) = 13)) then
                let l_80 ← app 1 x_57 (unb ([92, 114] : List UInt8))
                M.r02_Text_k1 p0 l_80 (IntKind.wrap .i64 (x_58 + 1))
              else
                if (decide ((c_72.toNat : Int) < 32)) then
                  let c_81 ← ix ([48, 49, 50, 51, 52, 53, 54, 55, 56, 57, 97, 98, 99, 100, 101, 102] : List UInt8) (IntKind.wrap .u8 (Int.tdiv (c_72.toNat : Int) 16))
                  let c_82 ← ix ([48, 49, 50, 51, 52, 53, 54, 55, 56, 57, 97, 98, 99, 100, 101, 102] : List UInt8) (Int.tmod (c_72.toNat : Int) 16)
                  let l_83 ← app 1 x_57 [92, 117, 48, 48, (c_81.toNat : Int), (c_82.toNat : Int)]
                  M.r02_Text_k1 p0 l_83 (IntKind.wrap .i64 (x_58 + 1))
                else
                  let l_84 ← app 1 x_57 [(c_72.toNat : Int)]
                  M.r02_Text_k1 p0 l_84 (IntKind.wrap .i64 (x_58 + 1))
  else
    some x_57
  partial_fixpoint
def M.r02_Text (p0 : List UInt8) : Option (List Int) := do
  let j_43 ← (do
      M.r02_Text_k1 p0 [34] 0 : Option (List Int))
  let l_85 ← app 1 j_43 [34]
  some l_85
def M.r02_Form_k1 (p0 : T_api_Json) (self_r02_Form : T_api_Json → Option (List Int)) (x_125 : List Int) (x_126 : Int) : Option (List Int) := do
  if (decide (x_126 < (p0.gList.length : Int))) then
    let j_156 ← (do
        if (decide (0 < x_126)) then
          let l_157 ← app 1 x_125 [44]
          some l_157
        else
          some x_125 : Option (List Int))
    let j_169 ← (do
        if (decide (p0.gKind = 6)) then
          let x_170 ← ix p0.gKeys x_126
          let a_171 ← M.r02_Text x_170
          let l_173 ← app 1 j_156 a_171
          let l_174 ← app 1 l_173 [58]
          some l_174
        else
          some j_156 : Option (List Int))
    let x_175 ← ix p0.gList x_126
    let a_176 ← self_r02_Form x_175
    let l_178 ← app 1 j_169 a_176
    M.r02_Form_k1 p0 self_r02_Form l_178 (IntKind.wrap .i64 (x_126 + 1))
  else
    some x_125
  partial_fixpoint
def M.r02_Form : Nat → T_api_Json → Option (List Int)
  | 0, _ => none
  | fuel + 1, p0 => do
    if (decide (p0.gKind = 0)) then
      let l_7 ← app 1 ([] : List Int) (unb ([110, 117, 108, 108] : List UInt8))
      some l_7
    else
      if (decide (p0.gKind = 1)) then
        let l_8 ← app 1 ([] : List Int) (unb ([102, 97, 108, 115, 101] : List UInt8))
        some l_8
      else
        if (decide (p0.gKind = 2)) then
          let l_9 ← app 1 ([] : List Int) (unb ([116, 114, 117, 101] : List UInt8))
          some l_9
        else
          if (decide (p0.gKind = 3)) then
            let l_10 ← app 1 ([] : List Int) (unb p0.gText)
            some l_10
          else
            if (decide (p0.gKind = 4)) then
              let a_11 ← M.r02_Text p0.gText
              some a_11
            else
              let j_15 ← (do
                  if (decide (p0.gKind = 6)) then
                    some (123, 125)
                  else
                    some (91, 93) : Option (Int × Int))
              let l_16 ← app 1 ([] : List Int) [j_15.1]
              let j_98 ← (do
                  M.r02_Form_k1 p0 (M.r02_Form fuel) l_16 0 : Option (List Int))
              let l_179 ← app 1 j_98 [j_15.2]
              some l_179
def M.r02_Print (fuel : Nat) (p0 : T_api_Json) : Option ((List UInt8) × Int) := do
  let a_1 ← M.r02_Check fuel p0
  if (!decide (a_1 = 0)) then
    some (([] : List UInt8), a_1)
  else
    let a_3 ← M.r02_Form fuel p0
    if (decide (16384 < ((byt a_3).length : Int))) then
      some (([] : List UInt8), 22)
    else
      some ((byt a_3), 0)
def M.l02_JsonPrints (fuel : Nat) (p0 : T_api_Json) : Option Bool := do
  let a_1 ← M.json_Print fuel p0
  let a_3 ← M.r02_Print fuel p0
  let a_5 ← M.l02_awake fuel
  some ((a_5 && (decide (a_1.1 = a_3.1))) && (decide (a_1.2 = a_3.2)))
def M.r02_Member_k1 (p0 : T_api_Json) (p1 : List UInt8) (x_27 : Int) : Option (Jn (T_api_Json × Bool) Unit) := do
  if ((decide (x_27 < (p0.gKeys.length : Int))) && (decide (x_27 < (p0.gList.length : Int)))) then
    let x_38 ← ix p0.gKeys x_27
    if (decide (x_38 = p1)) then
      let x_39 ← ix p0.gList x_27
      some (.done (x_39, true))
    else
      M.r02_Member_k1 p0 p1 (IntKind.wrap .i64 (x_27 + 1))
  else
    some (.go ())
  partial_fixpoint
def M.r02_Member (p0 : T_api_Json) (p1 : List UInt8) : Option (T_api_Json × Bool) := do
  if (!decide (p0.gKind = 6)) then
    some ((T_api_Json.mk 0 ([] : List UInt8) [] []), false)
  else
    let q_20 ← (do
        M.r02_Member_k1 p0 p1 0 : Option (Jn (T_api_Json × Bool) Unit))
    match q_20 with
    | .done r => some r
    | .go j_20 =>
      some ((T_api_Json.mk 0 ([] : List UInt8) [] []), false)
def M.r02_Int_k1 (j_13 : (List UInt8) × Int) (x_67 : Int) (x_68 : Int) : Option (Jn (Int × Bool) Int) := do
  if (decide (x_68 < (j_13.1.length : Int))) then
    let c_85 ← ix j_13.1 x_68
    let a_86 ← M.r02_digit (c_85.toNat : Int)
    if ((!a_86) || (decide (15 ≤ x_68))) then
      some (.done (0, false))
    else
      let c_90 ← ix j_13.1 x_68
      M.r02_Int_k1 j_13 (IntKind.wrap .i64 ((IntKind.wrap .i64 (10 * x_67)) + (IntKind.wrap .i64 (j_13.2 * (IntKind.wrap .i64 (IntKind.wrap .u8 ((c_90.toNat : Int) - 48))))))) (IntKind.wrap .i64 (x_68 + 1))
  else
    some (.go x_67)
  partial_fixpoint
def M.r02_Int (p0 : T_api_Json) : Option (Int × Bool) := do
  if (!decide (p0.gKind = 3)) then
    some (0, false)
  else
    let j_13 ← (do
        let j_16 ← (do
            if (!decide (p0.gText = ([] : List UInt8))) then
              let c_17 ← ix p0.gText 0
              some (decide ((c_17.toNat : Int) = 45))
            else
              some false : Option Bool)
        if j_16 then
          let s_18 ← sub p0.gText 1 (p0.gText.length : Int)
          some (s_18, (-1))
        else
          some (p0.gText, 1) : Option ((List UInt8) × Int))
    let q_55 ← (do
        M.r02_Int_k1 j_13 0 0 : Option (Jn (Int × Bool) Int))
    match q_55 with
    | .done r => some r
    | .go j_55 =>
      let j_93 ← (do
          if (decide (j_13.1 = ([] : List UInt8))) then
            some true
          else
            let c_94 ← ix j_13.1 0
            if (decide ((c_94.toNat : Int) = 48)) then
              if (decide (1 < (j_13.1.length : Int))) then
                some true
              else
                some (decide (j_13.2 < 0))
            else
              some false : Option Bool)
      if j_93 then
        some (0, false)
      else
        some (j_55, true)
def M.r02_Texts_k1 (p0 : T_api_Json) (x_21 : List (List UInt8)) (x_22 : Int) : Option (Jn ((List (List UInt8)) × Bool) (List (List UInt8))) := do
  if (decide (x_22 < (p0.gList.length : Int))) then
    let x_28 ← ix p0.gList x_22
    if (!decide (x_28.gKind = 4)) then
      some (.done ([], false))
    else
      let x_29 ← ix p0.gList x_22
      let l_30 ← app 16 x_21 [x_29.gText]
      M.r02_Texts_k1 p0 l_30 (IntKind.wrap .i64 (x_22 + 1))
  else
    some (.go x_21)
  partial_fixpoint
def M.r02_Texts (p0 : T_api_Json) : Option ((List (List UInt8)) × Bool) := do
  if (!decide (p0.gKind = 5)) then
    some ([], false)
  else
    let q_16 ← (do
        M.r02_Texts_k1 p0 ([] : List (List UInt8)) 0 : Option (Jn ((List (List UInt8)) × Bool) (List (List UInt8))))
    match q_16 with
    | .done r => some r
    | .go j_16 =>
      some (j_16, true)
def M.r02_Same_k1 (p0 : T_api_Json) (p1 : T_api_Json) (x_23 : Int) : Option (Jn Bool Unit) := do
  if (decide (x_23 < (p0.gKeys.length : Int))) then
    let x_26 ← ix p0.gKeys x_23
    let x_27 ← ix p1.gKeys x_23
    if (!decide (x_26 = x_27)) then
      some (.done false)
    else
      M.r02_Same_k1 p0 p1 (IntKind.wrap .i64 (x_23 + 1))
  else
    some (.go ())
  partial_fixpoint
def M.r02_Same_k2 (p0 : T_api_Json) (p1 : T_api_Json) (self_r02_Same : T_api_Json → T_api_Json → Option Bool) (x_46 : Int) : Option (Jn Bool Unit) := do
  if (decide (x_46 < (p0.gList.length : Int))) then
    let x_51 ← ix p0.gList x_46
    let x_52 ← ix p1.gList x_46
    let a_53 ← self_r02_Same x_51 x_52
    if (!a_53) then
      some (.done false)
    else
      M.r02_Same_k2 p0 p1 self_r02_Same (IntKind.wrap .i64 (x_46 + 1))
  else
    some (.go ())
  partial_fixpoint
def M.r02_Same : Nat → T_api_Json → T_api_Json → Option Bool
  | 0, _, _ => none
  | fuel + 1, p0, p1 => do
    if ((((!decide (p0.gKind = p1.gKind)) || (!decide (p0.gText = p1.gText))) || (!decide ((p0.gList.length : Int) = (p1.gList.length : Int)))) || (!decide ((p0.gKeys.length : Int) = (p1.gKeys.length : Int)))) then
      some false
    else
      let q_20 ← (do
          M.r02_Same_k1 p0 p1 0 : Option (Jn Bool Unit))
      match q_20 with
      | .done r => some r
      | .go j_20 =>
        let q_41 ← (do
            M.r02_Same_k2 p0 p1 (M.r02_Same fuel) 0 : Option (Jn Bool Unit))
        match q_41 with
        | .done r => some r
        | .go j_41 =>
          some true
def M.r02_SameTexts_k1 (p0 : List (List UInt8)) (p1 : List (List UInt8)) (x_11 : Int) : Option (Jn Bool Unit) := do
  if (decide (x_11 < (p0.length : Int))) then
    let x_14 ← ix p0 x_11
    let x_15 ← ix p1 x_11
    if (!decide (x_14 = x_15)) then
      some (.done false)
    else
      M.r02_SameTexts_k1 p0 p1 (IntKind.wrap .i64 (x_11 + 1))
  else
    some (.go ())
  partial_fixpoint
def M.r02_SameTexts (p0 : List (List UInt8)) (p1 : List (List UInt8)) : Option Bool := do
  if (!decide ((p0.length : Int) = (p1.length : Int))) then
    some false
  else
    let q_8 ← (do
        M.r02_SameTexts_k1 p0 p1 0 : Option (Jn Bool Unit))
    match q_8 with
    | .done r => some r
    | .go j_8 =>
      some true
def M.l02_JsonFinds (fuel : Nat) (p0 : T_api_Json) (p1 : List UInt8) : Option Bool := do
  let a_1 ← M.json_Member p0 p1
  let a_3 ← M.r02_Member p0 p1
  let a_5 ← M.json_Int p0
  let a_7 ← M.r02_Int p0
  let a_9 ← M.json_Texts p0
  let a_11 ← M.r02_Texts p0
  let a_13 ← M.l02_awake fuel
  let j_20 ← (do
      if (a_13 && (a_1.2 == a_3.2)) then
        let a_21 ← M.r02_Same fuel a_1.1 a_3.1
        some a_21
      else
        some false : Option Bool)
  let j_32 ← (do
      if (((j_20 && (decide (a_5.1 = a_7.1))) && (a_5.2 == a_7.2)) && (a_9.2 == a_11.2)) then
        let a_33 ← M.r02_SameTexts a_9.1 a_11.1
        some a_33
      else
        some false : Option Bool)
  some j_32
def M.l02_JsonBack (fuel : Nat) (p0 : T_api_Json) (p1 : List UInt8) : Option Bool := do
  let a_1 ← M.json_Print fuel p0
  let a_15 ← M.l02_awake fuel
  let j_22 ← (do
      if (!a_15) then
        some true
      else
        if (decide (a_1.2 = 0)) then
          let a_23 ← M.json_Check fuel p0
          some (!(true == (decide (a_23 = 0))))
        else
          let a_25 ← M.json_Check fuel p0
          some (!((decide (a_1.2 = 22)) == (decide (a_25 = 0)))) : Option Bool)
  if j_22 then
    some false
  else
    let q_43 ← (do
        if (decide (a_1.2 = 0)) then
          let a_44 ← M.json_Parse fuel a_1.1
          let j_49 ← (do
              if (!decide (a_44.2 = 0)) then
                some true
              else
                let a_50 ← M.r02_Same fuel p0 a_44.1
                some (!a_50) : Option Bool)
          if j_49 then
            some (.done false)
          else
            some (.go ())
        else
          some (.go ()) : Option (Jn Bool Unit))
    match q_43 with
    | .done r => some r
    | .go j_43 =>
      let a_52 ← M.json_Parse fuel p1
      if (!decide (a_52.2 = 0)) then
        let a_56 ← M.r02_Same fuel a_52.1 (T_api_Json.mk 0 ([] : List UInt8) [] [])
        some a_56
      else
        let a_58 ← M.json_Print fuel a_52.1
        if (decide (a_58.2 = 22)) then
          let a_62 ← M.json_Check fuel a_52.1
          some (decide (a_62 = 0))
        else
          let a_64 ← M.json_Parse fuel a_58.1
          let j_71 ← (do
              if ((decide (a_58.2 = 0)) && (decide (a_64.2 = 0))) then
                let a_72 ← M.r02_Same fuel a_52.1 a_64.1
                some a_72
              else
                some false : Option Bool)
          some j_71
def M.l02_JsonSafe_k1 (a_1 : (List UInt8) × Int) (x_13 : Int) : Option (Jn Bool Unit) := do
  if (decide (x_13 < (a_1.1.length : Int))) then
    let c_15 ← ix a_1.1 x_13
    if (decide ((c_15.toNat : Int) < 32)) then
      some (.done false)
    else
      M.l02_JsonSafe_k1 a_1 (IntKind.wrap .i64 (x_13 + 1))
  else
    some (.go ())
  partial_fixpoint
def M.l02_JsonSafe (fuel : Nat) (p0 : T_api_Json) : Option Bool := do
  let a_1 ← M.json_Print fuel p0
  let a_5 ← M.l02_awake fuel
  if (!a_5) then
    some false
  else
    if (!decide (a_1.2 = 0)) then
      some (decide (a_1.1 = ([] : List UInt8)))
    else
      let q_11 ← (do
          M.l02_JsonSafe_k1 a_1 0 : Option (Jn Bool Unit))
      match q_11 with
      | .done r => some r
      | .go j_11 =>
        let s_16 ← cat ([91] : List UInt8) a_1.1
        let s_17 ← cat s_16 ([44] : List UInt8)
        let s_18 ← cat s_17 a_1.1
        let s_19 ← cat s_18 ([93] : List UInt8)
        let a_20 ← M.json_Parse fuel s_19
        if (!decide (a_20.2 = 0)) then
          some true
        else
          if (decide ((a_20.1.gList.length : Int) = 2)) then
            let x_22 ← ix a_20.1.gList 0
            let x_23 ← ix a_20.1.gList 0
            let a_24 ← M.r02_Same fuel x_23 p0
            if a_24 then
              let x_26 ← ix a_20.1.gList 1
              let x_27 ← ix a_20.1.gList 1
              let a_28 ← M.r02_Same fuel x_27 p0
              some a_28
            else
              some false
          else
            some false
def M.l02_JsonBlanks_k1 (p1 : Int) (x_33 : List UInt8) (x_34 : Int) : Option (List UInt8) := do
  if (decide (x_34 < p1)) then
    let s_37 ← sub ([32, 9, 10, 13] : List UInt8) (Int.tmod x_34 4) (IntKind.wrap .i64 ((Int.tmod x_34 4) + 1))
    let s_38 ← cat s_37 x_33
    M.l02_JsonBlanks_k1 p1 s_38 (IntKind.wrap .i64 (x_34 + 1))
  else
    some x_33
  partial_fixpoint
def M.l02_JsonBlanks_k2 (p2 : Int) (x_51 : List UInt8) (x_52 : Int) : Option (List UInt8) := do
  if (decide (x_52 < p2)) then
    let s_55 ← sub ([32, 9, 10, 13] : List UInt8) (Int.tmod x_52 4) (IntKind.wrap .i64 ((Int.tmod x_52 4) + 1))
    let s_56 ← cat x_51 s_55
    M.l02_JsonBlanks_k2 p2 s_56 (IntKind.wrap .i64 (x_52 + 1))
  else
    some x_51
  partial_fixpoint
def M.l02_JsonBlanks (fuel : Nat) (p0 : List UInt8) (p1 : Int) (p2 : Int) : Option Bool := do
  let a_3 ← M.l02_awake fuel
  if (!a_3) then
    some false
  else
    if (((((decide (p1 < 0)) || (decide (p2 < 0))) || (decide (100 < p1))) || (decide (100 < p2))) || (decide (16000 < (p0.length : Int)))) then
      some true
    else
      let j_30 ← (do
          M.l02_JsonBlanks_k1 p1 p0 0 : Option (List UInt8))
      let j_48 ← (do
          M.l02_JsonBlanks_k2 p2 j_30 0 : Option (List UInt8))
      let a_57 ← M.json_Parse fuel p0
      let a_59 ← M.json_Parse fuel j_48
      let j_64 ← (do
          if (decide (a_57.2 = a_59.2)) then
            let a_65 ← M.r02_Same fuel a_57.1 a_59.1
            some a_65
          else
            some false : Option Bool)
      some j_64
def M.r02_reader_blanks_k1 (p0 : T_seneschalref02_reader) (x_14 : Int) : Option T_seneschalref02_reader := do
  let q_36 ← (do
      if (decide (x_14 < (p0.gs.length : Int))) then
        let c_37 ← ix p0.gs x_14
        if (decide ((c_37.toNat : Int) = 32)) then
          some (.go ())
        else
          let c_38 ← ix p0.gs x_14
          if (decide ((c_38.toNat : Int) = 9)) then
            some (.go ())
          else
            let c_39 ← ix p0.gs x_14
            if (decide ((c_39.toNat : Int) = 10)) then
              some (.go ())
            else
              let c_40 ← ix p0.gs x_14
              if (decide ((c_40.toNat : Int) = 13)) then
                some (.go ())
              else
                some (.done (T_seneschalref02_reader.mk p0.gs x_14 p0.ge))
      else
        some (.done (T_seneschalref02_reader.mk p0.gs x_14 p0.ge)) : Option (Jn T_seneschalref02_reader Unit))
  match q_36 with
  | .done r => some r
  | .go j_36 =>
    M.r02_reader_blanks_k1 p0 (IntKind.wrap .i64 (x_14 + 1))
  partial_fixpoint
def M.r02_reader_blanks (p0 : T_seneschalref02_reader) : Option T_seneschalref02_reader := do
  M.r02_reader_blanks_k1 p0 p0.gi
def M.r02_reader_at (p0 : T_seneschalref02_reader) : Option Int := do
  if (decide (p0.gi < (p0.gs.length : Int))) then
    let c_1 ← ix p0.gs p0.gi
    some (c_1.toNat : Int)
  else
    some 0
def M.r02_reader_wrong (p0 : T_seneschalref02_reader) (p1 : Int) : Option T_seneschalref02_reader := do
  if (decide (p0.ge = 0)) then
    some (T_seneschalref02_reader.mk p0.gs p0.gi p1)
  else
    some p0
def M.r02_reader_four_k1 (p1 : Int) (p0 : T_seneschalref02_reader) (x_49 : Int) (x_50 : Int) : Option (Jn Int Int) := do
  if (decide (x_50 < (IntKind.wrap .i64 (p1 + 6)))) then
    let c_58 ← ix p0.gs x_50
    let a_59 ← M.r02_digit (c_58.toNat : Int)
    if a_59 then
      M.r02_reader_four_k1 p1 p0 (IntKind.wrap .i64 ((IntKind.wrap .i64 (16 * x_49)) + (IntKind.wrap .i64 (IntKind.wrap .u8 ((c_58.toNat : Int) - 48))))) (IntKind.wrap .i64 (x_50 + 1))
    else
      if ((decide (97 ≤ (c_58.toNat : Int))) && (decide ((c_58.toNat : Int) ≤ 102))) then
        M.r02_reader_four_k1 p1 p0 (IntKind.wrap .i64 ((IntKind.wrap .i64 ((IntKind.wrap .i64 (16 * x_49)) + (IntKind.wrap .i64 (IntKind.wrap .u8 ((c_58.toNat : Int) - 97))))) + 10)) (IntKind.wrap .i64 (x_50 + 1))
      else
        if ((decide (65 ≤ (c_58.toNat : Int))) && (decide ((c_58.toNat : Int) ≤ 70))) then
          M.r02_reader_four_k1 p1 p0 (IntKind.wrap .i64 ((IntKind.wrap .i64 ((IntKind.wrap .i64 (16 * x_49)) + (IntKind.wrap .i64 (IntKind.wrap .u8 ((c_58.toNat : Int) - 65))))) + 10)) (IntKind.wrap .i64 (x_50 + 1))
        else
          some (.done (-1))
  else
    some (.go x_49)
  partial_fixpoint
def M.r02_reader_four (p0 : T_seneschalref02_reader) (p1 : Int) : Option Int := do
  let j_11 ← (do
      if (decide ((p0.gs.length : Int) < (IntKind.wrap .i64 (p1 + 6)))) then
        some true
      else
        let c_12 ← ix p0.gs p1
        some (!decide ((c_12.toNat : Int) = 92)) : Option Bool)
  let j_15 ← (do
      if j_11 then
        some true
      else
        let c_16 ← ix p0.gs (IntKind.wrap .i64 (p1 + 1))
        some (!decide ((c_16.toNat : Int) = 117)) : Option Bool)
  if j_15 then
    some (-1)
  else
    let q_41 ← (do
        M.r02_reader_four_k1 p1 p0 0 (IntKind.wrap .i64 (p1 + 2)) : Option (Jn Int Int))
    match q_41 with
    | .done r => some r
    | .go j_41 =>
      some j_41
def M.r02_reader_escaped_k1 (p0 : T_seneschalref02_reader) (x_15 : Int) : Option (Jn ((List UInt8) × T_seneschalref02_reader) Unit) := do
  if (decide (x_15 < (([34, 92, 47, 98, 102, 110, 114, 116] : List UInt8).length : Int))) then
    let c_19 ← ix p0.gs (IntKind.wrap .i64 (p0.gi + 1))
    let c_20 ← ix ([34, 92, 47, 98, 102, 110, 114, 116] : List UInt8) x_15
    if (decide ((c_19.toNat : Int) = (c_20.toNat : Int))) then
      let s_21 ← sub ([34, 92, 47, 8, 12, 10, 13, 9] : List UInt8) x_15 (IntKind.wrap .i64 (x_15 + 1))
      some (.done (s_21, (T_seneschalref02_reader.mk p0.gs (IntKind.wrap .i64 (p0.gi + 2)) p0.ge)))
    else
      M.r02_reader_escaped_k1 p0 (IntKind.wrap .i64 (x_15 + 1))
  else
    some (.go ())
  partial_fixpoint
def M.r02_reader_escaped (p0 : T_seneschalref02_reader) : Option ((List UInt8) × T_seneschalref02_reader) := do
  let q_11 ← (do
      if (decide ((IntKind.wrap .i64 (p0.gi + 1)) < (p0.gs.length : Int))) then
        M.r02_reader_escaped_k1 p0 0
      else
        some (.go ()) : Option (Jn ((List UInt8) × T_seneschalref02_reader) Unit))
  match q_11 with
  | .done r => some r
  | .go j_11 =>
    let a_22 ← M.r02_reader_four p0 p0.gi
    if ((decide (a_22 < 0)) || ((decide (56320 ≤ a_22)) && (decide (a_22 ≤ 57343)))) then
      let a_32 ← M.r02_reader_wrong p0 20
      some (([] : List UInt8), a_32)
    else
      if ((decide (a_22 < 55296)) || (decide (56319 < a_22))) then
        some ((encS (IntKind.wrap .i32 a_22)), (T_seneschalref02_reader.mk p0.gs (IntKind.wrap .i64 (p0.gi + 6)) p0.ge))
      else
        let a_38 ← M.r02_reader_four (T_seneschalref02_reader.mk p0.gs (IntKind.wrap .i64 (p0.gi + 6)) p0.ge) (IntKind.wrap .i64 (p0.gi + 6))
        if ((decide (a_38 < 56320)) || (decide (57343 < a_38))) then
          let a_46 ← M.r02_reader_wrong (T_seneschalref02_reader.mk p0.gs (IntKind.wrap .i64 (p0.gi + 6)) p0.ge) 20
          some (([] : List UInt8), a_46)
        else
          some ((encS (IntKind.wrap .i32 (IntKind.wrap .i64 ((IntKind.wrap .i64 ((IntKind.wrap .i64 (65536 + (IntKind.wrap .i64 (1024 * (IntKind.wrap .i64 (a_22 - 55296)))))) + a_38)) - 56320)))), (T_seneschalref02_reader.mk p0.gs (IntKind.wrap .i64 ((IntKind.wrap .i64 (p0.gi + 6)) + 6)) p0.ge))
def M.r02_reader_text_k1 (x_65 : List Int) (x_66 : List UInt8) (x_67 : Int) (x_68 : Int) : Option (Jn ((List UInt8) × T_seneschalref02_reader) ((List UInt8) × Int × Int)) := do
  if (decide (x_68 = 0)) then
    let a_81 ← M.r02_reader_at (T_seneschalref02_reader.mk x_66 x_67 x_68)
    if (decide (a_81 = 34)) then
      let a_83 ← M.valid x_65
      if (!a_83) then
        let a_85 ← M.r02_reader_wrong (T_seneschalref02_reader.mk x_66 (IntKind.wrap .i64 (x_67 + 1)) x_68) 20
        some (.done ((byt x_65), a_85))
      else
        some (.done ((byt x_65), (T_seneschalref02_reader.mk x_66 (IntKind.wrap .i64 (x_67 + 1)) x_68)))
    else
      if (decide (a_81 < 32)) then
        let a_87 ← M.r02_reader_wrong (T_seneschalref02_reader.mk x_66 x_67 x_68) 20
        M.r02_reader_text_k1 x_65 a_87.gs a_87.gi a_87.ge
      else
        if (decide (a_81 = 92)) then
          let a_89 ← M.r02_reader_escaped (T_seneschalref02_reader.mk x_66 x_67 x_68)
          let l_91 ← app 1 x_65 (unb a_89.1)
          M.r02_reader_text_k1 l_91 a_89.2.gs a_89.2.gi a_89.2.ge
        else
          let l_92 ← app 1 x_65 [a_81]
          M.r02_reader_text_k1 l_92 x_66 (IntKind.wrap .i64 (x_67 + 1)) x_68
  else
    some (.go (x_66, x_67, x_68))
  partial_fixpoint
def M.r02_reader_text (p0 : T_seneschalref02_reader) : Option ((List UInt8) × T_seneschalref02_reader) := do
  let a_5 ← M.r02_reader_at p0
  if (!decide (a_5 = 34)) then
    let a_7 ← M.r02_reader_wrong p0 20
    some (([] : List UInt8), a_7)
  else
    let q_52 ← (do
        M.r02_reader_text_k1 ([] : List Int) p0.gs (IntKind.wrap .i64 (p0.gi + 1)) p0.ge : Option (Jn ((List UInt8) × T_seneschalref02_reader) ((List UInt8) × Int × Int)))
    match q_52 with
    | .done r => some r
    | .go j_52 =>
      some (([] : List UInt8), (T_seneschalref02_reader.mk j_52.1 j_52.2.1 j_52.2.2))
def M.r02_reader_word_k1 (p0 : T_seneschalref02_reader) (x_27 : Int) : Option (Jn (T_api_Json × T_seneschalref02_reader) Unit) := do
  if (decide (x_27 < 3)) then
    let x_34 ← ix [([110, 117, 108, 108] : List UInt8), ([102, 97, 108, 115, 101] : List UInt8), ([116, 114, 117, 101] : List UInt8)] x_27
    let j_38 ← (do
        if (decide ((x_34.length : Int) ≤ (IntKind.wrap .i64 ((p0.gs.length : Int) - p0.gi)))) then
          let s_39 ← sub p0.gs p0.gi (IntKind.wrap .i64 (p0.gi + (x_34.length : Int)))
          some (decide (s_39 = x_34))
        else
          some false : Option Bool)
    if j_38 then
      some (.done ((T_api_Json.mk x_27 ([] : List UInt8) [] []), (T_seneschalref02_reader.mk p0.gs (IntKind.wrap .i64 (p0.gi + (x_34.length : Int))) p0.ge)))
    else
      M.r02_reader_word_k1 p0 (IntKind.wrap .i64 (x_27 + 1))
  else
    some (.go ())
  partial_fixpoint
def M.r02_reader_word (p0 : T_seneschalref02_reader) : Option (T_api_Json × T_seneschalref02_reader) := do
  let q_20 ← (do
      M.r02_reader_word_k1 p0 0 : Option (Jn (T_api_Json × T_seneschalref02_reader) Unit))
  match q_20 with
  | .done r => some r
  | .go j_20 =>
    let s_40 ← sub p0.gs p0.gi (p0.gs.length : Int)
    let a_41 ← M.r02_number s_40
    if (decide (a_41 = 0)) then
      let a_45 ← M.r02_reader_wrong p0 20
      some ((T_api_Json.mk 0 ([] : List UInt8) [] []), a_45)
    else
      let s_47 ← sub p0.gs (IntKind.wrap .i64 ((IntKind.wrap .i64 (p0.gi + a_41)) - a_41)) (IntKind.wrap .i64 (p0.gi + a_41))
      some ((T_api_Json.mk 3 s_47 [] []), (T_seneschalref02_reader.mk p0.gs (IntKind.wrap .i64 (p0.gi + a_41)) p0.ge))
def M.r02_reader_value_k1 (a_3 : Int) (self_r02_reader_value : T_seneschalref02_reader → Int → Option (T_api_Json × T_seneschalref02_reader)) (p1 : Int) (x_1875 : Bool) (x_1876 : List UInt8) (x_1877 : Int) (x_1878 : Int) (x_1879 : List T_api_Json) (x_1880 : List (List UInt8)) : Option ((List UInt8) × Int × Int × (List T_api_Json) × (List (List UInt8))) := do
  let j_2062 ← (do
      if x_1875 then
        some (decide (x_1878 = 0))
      else
        some false : Option Bool)
  if j_2062 then
    let j_2169 ← (do
        if (decide (a_3 = 123)) then
          let a_2170 ← M.r02_reader_blanks (T_seneschalref02_reader.mk x_1876 x_1877 x_1878)
          let a_2172 ← M.r02_reader_text a_2170
          let l_2174 ← app 16 x_1880 [a_2172.1]
          let j_2194 ← (do
              let j_2198 ← (do
                  if (decide (a_2172.2.ge = 0)) then
                    let a_2199 ← M.r02_twice l_2174
                    some a_2199
                  else
                    some false : Option Bool)
              if j_2198 then
                let a_2201 ← M.r02_reader_wrong a_2172.2 20
                some (a_2201.gs, a_2201.gi, a_2201.ge)
              else
                some (a_2172.2.gs, a_2172.2.gi, a_2172.2.ge) : Option ((List UInt8) × Int × Int))
          let a_2203 ← M.r02_reader_blanks (T_seneschalref02_reader.mk j_2194.1 j_2194.2.1 j_2194.2.2)
          let j_2216 ← (do
              let a_2217 ← M.r02_reader_at a_2203
              if (!decide (a_2217 = 58)) then
                let a_2219 ← M.r02_reader_wrong a_2203 20
                some (a_2219.gs, a_2219.gi, a_2219.ge)
              else
                some (a_2203.gs, a_2203.gi, a_2203.ge) : Option ((List UInt8) × Int × Int))
          some (j_2216.1, (IntKind.wrap .i64 (j_2216.2.1 + 1)), j_2216.2.2, l_2174)
        else
          some (x_1876, x_1877, x_1878, x_1880) : Option ((List UInt8) × Int × Int × (List (List UInt8))))
    let j_2231 ← (do
        if (decide (j_2169.2.2.1 = 0)) then
          let a_2232 ← self_r02_reader_value (T_seneschalref02_reader.mk j_2169.1 j_2169.2.1 j_2169.2.2.1) (IntKind.wrap .i64 (p1 + 1))
          let l_2234 ← app 72 x_1879 [a_2232.1]
          some (a_2232.2.gs, a_2232.2.gi, a_2232.2.ge, l_2234)
        else
          some (j_2169.1, j_2169.2.1, j_2169.2.2.1, x_1879) : Option ((List UInt8) × Int × Int × (List T_api_Json)))
    let a_2235 ← M.r02_reader_at (T_seneschalref02_reader.mk j_2231.1 j_2231.2.1 j_2231.2.2.1)
    if (decide (a_2235 = 44)) then
      M.r02_reader_value_k1 a_3 self_r02_reader_value p1 (decide (a_2235 = 44)) j_2231.1 (IntKind.wrap .i64 (j_2231.2.1 + 1)) j_2231.2.2.1 j_2231.2.2.2 j_2169.2.2.2
    else
      M.r02_reader_value_k1 a_3 self_r02_reader_value p1 (decide (a_2235 = 44)) j_2231.1 j_2231.2.1 j_2231.2.2.1 j_2231.2.2.2 j_2169.2.2.2
  else
    some (x_1876, x_1877, x_1878, x_1879, x_1880)
  partial_fixpoint
def M.r02_reader_value : Nat → T_seneschalref02_reader → Int → Option (T_api_Json × T_seneschalref02_reader)
  | 0, _, _ => none
  | fuel + 1, p0, p1 => do
    let a_1 ← M.r02_reader_blanks p0
    let a_3 ← M.r02_reader_at a_1
    let q_1133 ← (do
        if (decide (a_3 = 34)) then
          let a_1134 ← M.r02_reader_text a_1
          some (.go (a_1134.2.gs, a_1134.2.gi, a_1134.2.ge, 4, a_1134.1, [], []))
        else
          let j_1137 ← (do
              if (decide (a_3 = 91)) then
                some (decide (a_3 = 91))
              else
                some (decide (a_3 = 123)) : Option Bool)
          if j_1137 then
            if (decide (16 ≤ p1)) then
              let a_1140 ← M.r02_reader_wrong a_1 21
              some (.done ((T_api_Json.mk 0 ([] : List UInt8) [] []), a_1140))
            else
              let j_1144 ← (do
                  if (decide (a_3 = 123)) then
                    some (125, 6)
                  else
                    some (93, 5) : Option (Int × Int))
              let a_1145 ← M.r02_reader_blanks (T_seneschalref02_reader.mk a_1.gs (IntKind.wrap .i64 (a_1.gi + 1)) a_1.ge)
              let j_1694 ← (do
                  let a_1695 ← M.r02_reader_at a_1145
                  M.r02_reader_value_k1 a_3 (M.r02_reader_value fuel) p1 (!decide (a_1695 = j_1144.1)) a_1145.gs a_1145.gi a_1145.ge [] [] : Option ((List UInt8) × Int × Int × (List T_api_Json) × (List (List UInt8))))
              let j_2248 ← (do
                  let a_2249 ← M.r02_reader_at (T_seneschalref02_reader.mk j_1694.1 j_1694.2.1 j_1694.2.2.1)
                  if (!decide (a_2249 = j_1144.1)) then
                    let a_2251 ← M.r02_reader_wrong (T_seneschalref02_reader.mk j_1694.1 j_1694.2.1 j_1694.2.2.1) 20
                    some (a_2251.gs, a_2251.gi, a_2251.ge)
                  else
                    some (j_1694.1, j_1694.2.1, j_1694.2.2.1) : Option ((List UInt8) × Int × Int))
              some (.go (j_2248.1, (IntKind.wrap .i64 (j_2248.2.1 + 1)), j_2248.2.2, j_1144.2, ([] : List UInt8), j_1694.2.2.2.1, j_1694.2.2.2.2))
          else
            let a_2253 ← M.r02_reader_word a_1
            some (.go (a_2253.2.gs, a_2253.2.gi, a_2253.2.ge, a_2253.1.gKind, a_2253.1.gText, a_2253.1.gList, a_2253.1.gKeys)) : Option (Jn (T_api_Json × T_seneschalref02_reader) ((List UInt8) × Int × Int × Int × (List UInt8) × (List T_api_Json) × (List (List UInt8)))))
    match q_1133 with
    | .done r => some r
    | .go j_1133 =>
      if (decide (j_1133.2.2.1 = 0)) then
        let a_2255 ← M.r02_reader_blanks (T_seneschalref02_reader.mk j_1133.1 j_1133.2.1 j_1133.2.2.1)
        some ((T_api_Json.mk j_1133.2.2.2.1 j_1133.2.2.2.2.1 j_1133.2.2.2.2.2.1 j_1133.2.2.2.2.2.2), a_2255)
      else
        some ((T_api_Json.mk j_1133.2.2.2.1 j_1133.2.2.2.2.1 j_1133.2.2.2.2.2.1 j_1133.2.2.2.2.2.2), (T_seneschalref02_reader.mk j_1133.1 j_1133.2.1 j_1133.2.2.1))
def M.r02_Parse (fuel : Nat) (p0 : List UInt8) : Option (T_api_Json × Int) := do
  if (decide (16384 < (p0.length : Int))) then
    some ((T_api_Json.mk 0 ([] : List UInt8) [] []), 22)
  else
    let a_1 ← M.r02_reader_value fuel (T_seneschalref02_reader.mk p0 0 0) 0
    let j_10 ← (do
        if (decide (a_1.2.gi < (p0.length : Int))) then
          let a_11 ← M.r02_reader_wrong a_1.2 20
          some (a_11.gs, a_11.gi, a_11.ge)
        else
          some (a_1.2.gs, a_1.2.gi, a_1.2.ge) : Option ((List UInt8) × Int × Int))
    if (!decide (j_10.2.2 = 0)) then
      some ((T_api_Json.mk 0 ([] : List UInt8) [] []), j_10.2.2)
    else
      some (a_1.1, 0)
def M.l02_JsonReads_k2 (x_500 : Int) (x_501 : List T_api_Json) : Option (List T_api_Json) := do
  if (decide (x_500 < (x_501.length : Int))) then
    let x_504 ← ix x_501 x_500
    let l_505 ← setx x_501 x_500 (T_api_Json.mk 2 ([] : List UInt8) [] [])
    M.l02_JsonReads_k2 (IntKind.wrap .i64 (x_500 + 1)) l_505
  else
    some x_501
  partial_fixpoint
def M.l02_JsonReads_k3 (x_508 : Int) (x_509 : List (List UInt8)) : Option (Jn (Jn Bool Unit) Unit) := do
  if (decide (x_508 < (x_509.length : Int))) then
    let x_512 ← ix x_509 x_508
    let l_513 ← setx x_509 x_508 ([115, 112, 111, 105, 108, 116] : List UInt8)
    M.l02_JsonReads_k3 (IntKind.wrap .i64 (x_508 + 1)) l_513
  else
    some (.go ())
  partial_fixpoint
def M.l02_JsonReads_k1 (fuel : Nat) (p0 : List UInt8) (x_343 : Int) : Option (Jn Bool Unit) := do
  if (decide (x_343 < 2)) then
    let q_471 ← (do
        let a_472 ← M.json_Parse fuel p0
        let a_474 ← M.r02_Parse fuel p0
        let j_485 ← (do
            if (!decide (a_472.2 = a_474.2)) then
              some true
            else
              let a_486 ← M.r02_Same fuel a_472.1 a_474.1
              some (!a_486) : Option Bool)
        if j_485 then
          some (.done (.done false))
        else
          let j_497 ← (do
              M.l02_JsonReads_k2 0 a_472.1.gList : Option (List T_api_Json))
          M.l02_JsonReads_k3 0 a_472.1.gKeys : Option (Jn (Jn Bool Unit) Unit))
    match q_471 with
    | .done r => some r
    | .go j_471 =>
      M.l02_JsonReads_k1 fuel p0 (IntKind.wrap .i64 (x_343 + 1))
  else
    some (.go ())
  partial_fixpoint
def M.l02_JsonReads (fuel : Nat) (p0 : List UInt8) : Option Bool := do
  let q_257 ← (do
      M.l02_JsonReads_k1 fuel p0 0 : Option (Jn Bool Unit))
  match q_257 with
  | .done r => some r
  | .go j_257 =>
    let a_514 ← M.l02_awake fuel
    some a_514
end Go.Sen
