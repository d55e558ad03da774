/- LkM: models and contracts of the program's functions, printed by a program of ours. -/
import Derived.Test.YtmbckfhcljgniaaDoorLkJ
import Derived.Lib.ValidU
namespace Go.Proofs.YtmbckfhcljgniaaDoor
open Go.Lk
structure T_api_Cbor where
  gKind : Int
  gNum : Int
  gText : List UInt8
  gList : List T_api_Cbor
mutual
def T_api_Cbor.enc : T_api_Cbor → List D
  | ⟨a0, a1, a2, a3⟩ => [D.int .i64 a0, D.int .i64 a1, D.str a2, D.sl 24 4 (T_api_Cbor.encs a3)]
def T_api_Cbor.encs : List T_api_Cbor → List (List D)
  | [] => []
  | x :: xs => x.enc :: T_api_Cbor.encs xs
end
theorem T_api_Cbor.encs_eq : ∀ l : List T_api_Cbor, T_api_Cbor.encs l = l.map T_api_Cbor.enc
  | [] => rfl
  | x :: xs => by simp [T_api_Cbor.encs, T_api_Cbor.encs_eq xs]
theorem T_api_Cbor.opn {w : World} {O : Nat → Prop} {x : T_api_Cbor} {cs : List Value} (h : RDs w O x.enc cs) : ∃ v3, cs = [Value.int .i64 x.gKind, Value.int .i64 x.gNum, Value.string ⟨List.toArray x.gText⟩, v3] ∧ RD w O (D.sl 24 4 (x.gList.map T_api_Cbor.enc)) v3 := by
  obtain ⟨a0, a1, a2, a3⟩ := x
  simp only [RDs, T_api_Cbor.enc, T_api_Cbor.encs_eq, RD.RDs, List.cons_append, List.nil_append, List.append_nil] at h
  obtain ⟨c0, r0, rfl, h0, c1, r1, rfl, h1, c2, r2, rfl, h2, c3, r3, rfl, h3, rfl⟩ := h
  simp only [RD] at h0
  subst h0
  simp only [RD] at h1
  subst h1
  simp only [RD] at h2
  subst h2
  exact ⟨c3, rfl, h3⟩
theorem T_api_Cbor.shut {w : World} {O : Nat → Prop} {x : T_api_Cbor} {v3 : Value} (h3 : RD w O (D.sl 24 4 (x.gList.map T_api_Cbor.enc)) v3) : RDs w O x.enc [Value.int .i64 x.gKind, Value.int .i64 x.gNum, Value.string ⟨List.toArray x.gText⟩, v3] := by
  obtain ⟨a0, a1, a2, a3⟩ := x
  simp only [RDs, T_api_Cbor.enc, T_api_Cbor.encs_eq, RD.RDs, List.cons_append, List.nil_append, List.append_nil]
  exact ⟨_, _, rfl, (by simp only [RD]), ⟨_, _, rfl, (by simp only [RD]), ⟨_, _, rfl, (by simp only [RD]), ⟨_, _, rfl, h3, rfl⟩⟩⟩⟩
structure T_cbor_reader where
  gs : List UInt8
def T_cbor_reader.enc : T_cbor_reader → List D
  | ⟨a0⟩ => [D.str a0]
theorem T_cbor_reader.opn {w : World} {O : Nat → Prop} {x : T_cbor_reader} {cs : List Value} (h : RDs w O x.enc cs) : cs = [Value.string ⟨List.toArray x.gs⟩] := by
  obtain ⟨a0⟩ := x
  simp only [RDs, T_cbor_reader.enc, RD.RDs, List.cons_append, List.nil_append, List.append_nil] at h
  obtain ⟨c0, r0, rfl, h0, rfl⟩ := h
  simp only [RD] at h0
  subst h0
  exact rfl
theorem T_cbor_reader.shut {w : World} {O : Nat → Prop} {x : T_cbor_reader} : RDs w O x.enc [Value.string ⟨List.toArray x.gs⟩] := by
  obtain ⟨a0⟩ := x
  simp only [RDs, T_cbor_reader.enc, RD.RDs, List.cons_append, List.nil_append, List.append_nil]
  exact ⟨_, _, rfl, (by simp only [RD]), rfl⟩
structure T_seneschalref03_reader where
  gs : List UInt8
  gi : Int
def T_seneschalref03_reader.enc : T_seneschalref03_reader → List D
  | ⟨a0, a1⟩ => [D.str a0, D.int .i64 a1]
theorem T_seneschalref03_reader.opn {w : World} {O : Nat → Prop} {x : T_seneschalref03_reader} {cs : List Value} (h : RDs w O x.enc cs) : cs = [Value.string ⟨List.toArray x.gs⟩, Value.int .i64 x.gi] := by
  obtain ⟨a0, a1⟩ := x
  simp only [RDs, T_seneschalref03_reader.enc, RD.RDs, List.cons_append, List.nil_append, List.append_nil] at h
  obtain ⟨c0, r0, rfl, h0, c1, r1, rfl, h1, rfl⟩ := h
  simp only [RD] at h0
  subst h0
  simp only [RD] at h1
  subst h1
  exact rfl
theorem T_seneschalref03_reader.shut {w : World} {O : Nat → Prop} {x : T_seneschalref03_reader} : RDs w O x.enc [Value.string ⟨List.toArray x.gs⟩, Value.int .i64 x.gi] := by
  obtain ⟨a0, a1⟩ := x
  simp only [RDs, T_seneschalref03_reader.enc, RD.RDs, List.cons_append, List.nil_append, List.append_nil]
  exact ⟨_, _, rfl, (by simp only [RD]), ⟨_, _, rfl, (by simp only [RD]), rfl⟩⟩
def M.copyCheck (p0 : List Int) : Option (List Int) := some p0
def M.validString (p0 : List UInt8) : Option Bool := do
  let _ ← chk (decide (p0.length ≤ 9223372036854775807))
  some (Lib.validD p0)
def M.strings_Builder_Write (p0 : List Int) (p1 : List Int) : Option (Int × (List Int)) := do
  let y1 ← M.copyCheck p0
  let l17 ← app 1 y1 p1
  some ((p1.length : Int), l17)
def M.strings_Builder_WriteString (p0 : List Int) (p1 : List UInt8) : Option (Int × (List Int)) := do
  let y1 ← M.copyCheck p0
  let l17 ← app 1 y1 (unb p1)
  some ((p1.length : Int), l17)
def M.strings_Builder_String (p0 : List Int) : Option (List UInt8) := do
  some (byt p0)
def M.l03_number (p0 : Int) : Option T_api_Cbor := do
  some (T_api_Cbor.mk 0 p0 ([] : List UInt8) [])
def M.l03_text (p0 : List UInt8) : Option T_api_Cbor := do
  some (T_api_Cbor.mk 2 0 p0 [])
def M.cbor_must (p0 : Bool) (p1 : Int) : Option (Res Unit) := do
  if (!p0) then
    some (.pan (Value.iface 58 (Value.agg (List.toArray [Value.int .i64 p1]))))
  else
    some (.ok ())
def M.cbor_fields (p0 : T_api_Cbor) : Option Bool := do
  let x40 ← (if (((((decide (0 ≤ p0.gKind)) && (decide (p0.gKind < 5))) && ((decide (p0.gKind = 0)) || (decide (p0.gNum = 0)))) && (((decide (p0.gKind = 1)) || (decide (p0.gKind = 2))) || (decide (p0.gText = ([] : List UInt8))))) && (((decide (p0.gKind = 3)) || (decide (p0.gKind = 4))) || (decide ((p0.gList.length : Int) = 0)))) then do
        let x54 ← (if (!decide (p0.gKind = 2)) then do
              some true
            else do
              let y61 ← M.validString p0.gText
              some y61)
        some x54
      else do
        some false)
  some x40
def M.cbor_big_k1 (p1 : Int) (x7 : List Int) (x11 : Int) : Option (List Int) := do
  if (decide (0 ≤ x11)) then
    let _ ← chk (decide (0 ≤ (IntKind.wrap .i64 (8 * x11))))
    let l27 ← app 1 x7 [(IntKind.wrap .u8 (shrI .u64 p1 (IntKind.wrap .i64 (8 * x11))))]
    M.cbor_big_k1 p1 l27 (IntKind.wrap .i64 (x11 - 1))
  else
    some x7
  partial_fixpoint
def M.cbor_big (p0 : List Int) (p1 : Int) (p2 : Int) : Option (List Int) := do
  M.cbor_big_k1 p1 p0 (IntKind.wrap .i64 (p2 - 1))
def M.cbor_head (p0 : Int) (p1 : Int) : Option (List Int) := do
  if (decide (p1 < 24)) then
    some [(orI .u8 (shlI .u8 p0 5) (IntKind.wrap .u8 p1))]
  else
    if (decide (p1 < 256)) then
      some [(orI .u8 (shlI .u8 p0 5) 24), (IntKind.wrap .u8 p1)]
    else
      if (decide (p1 < 65536)) then
        let y38 ← M.cbor_big [(orI .u8 (shlI .u8 p0 5) 25)] p1 2
        some y38
      else
        if (decide (p1 < 4294967296)) then
          let y63 ← M.cbor_big [(orI .u8 (shlI .u8 p0 5) 26)] p1 4
          some y63
        else
          let y87 ← M.cbor_big [(orI .u8 (shlI .u8 p0 5) 27)] p1 8
          some y87
def M.r03_head_k2 (p1 : Int) (x27 : List Int) (x31 : Int) : Option (List Int) := do
  if (decide (0 ≤ x31)) then
    let _ ← chk (decide (0 ≤ (IntKind.wrap .i64 (8 * x31))))
    let l47 ← app 1 x27 [(IntKind.wrap .u8 (andI .i64 (shrI .i64 p1 (IntKind.wrap .i64 (8 * x31))) 255))]
    M.r03_head_k2 p1 l47 (IntKind.wrap .i64 (x31 - 1))
  else
    some x27
  partial_fixpoint
def M.r03_head_k1 (p0 : Int) (p1 : Int) (x7 : Int) (x8 : Int) : Option (List Int) := do
  M.r03_head_k2 p1 [(IntKind.wrap .u8 (IntKind.wrap .i64 ((IntKind.wrap .i64 (32 * p0)) + x8)))] (IntKind.wrap .i64 (x7 - 1))
def M.r03_head (p0 : Int) (p1 : Int) : Option (List Int) := do
  if (decide (p1 < 24)) then
    M.r03_head_k1 p0 p1 0 p1
  else
    if (decide (p1 < 256)) then
      M.r03_head_k1 p0 p1 1 24
    else
      if (decide (p1 < 65536)) then
        M.r03_head_k1 p0 p1 2 25
      else
        if (decide (p1 < 4294967296)) then
          M.r03_head_k1 p0 p1 4 26
        else
          M.r03_head_k1 p0 p1 8 27
def M.cbor_reader_take (p0 : T_cbor_reader) (p1 : Int) : Option (Res ((List UInt8) × T_cbor_reader)) := do
  let y1 ← M.cbor_must (decide (p1 ≤ (IntKind.wrap .u64 (p0.gs.length : Int)))) 30
  match y1 with
  | .pan pv4 => some (.pan pv4)
  | .ok a3 =>
    let s11 ← sub p0.gs 0 p1
    let s20 ← sub p0.gs p1 (p0.gs.length : Int)
    some (.ok (s11, (T_cbor_reader.mk s20)))
def M.cbor_reader_head_k1 (c13 : UInt8) (a38 : (List UInt8) × T_cbor_reader) (x64 : Int) (x66 : Int) : Option (Res (Int × Int × T_cbor_reader)) := do
  if (decide (x66 < ((unb a38.1).length : Int))) then
    let x71 ← ix (unb a38.1) x66
    M.cbor_reader_head_k1 c13 a38 (orI .u64 (shlI .u64 x64 8) (IntKind.wrap .u64 x71)) (IntKind.wrap .i64 (x66 + 1))
  else
    let x94 ← (if (decide (x64 < 9223372036854775808)) then do
          let y98 ← M.cbor_head (shrI .u8 (c13.toNat : Int) 5) x64
          some (decide ((y98.length : Int) = (IntKind.wrap .i64 (1 + (a38.1.length : Int)))))
        else do
          some false)
    let y109 ← M.cbor_must x94 30
    match y109 with
    | .pan pv112 => some (.pan pv112)
    | .ok a111 =>
      some (.ok ((shrI .u8 (c13.toNat : Int) 5), x64, a38.2))
  partial_fixpoint
def M.cbor_reader_head (p0 : T_cbor_reader) : Option (Res (Int × Int × T_cbor_reader)) := do
  let y1 ← M.cbor_reader_take p0 1
  match y1 with
  | .pan pv4 => some (.pan pv4)
  | .ok a3 =>
    let c13 ← ix a3.1 0
    let y22 ← M.cbor_must ((decide ((shrI .u8 (c13.toNat : Int) 5) ≤ 5)) && (decide ((IntKind.wrap .u64 (andI .u8 (c13.toNat : Int) 31)) < 28))) 30
    match y22 with
    | .pan pv25 => some (.pan pv25)
    | .ok a24 =>
      if (decide ((IntKind.wrap .u64 (andI .u8 (c13.toNat : Int) 31)) < 24)) then
        some (.ok ((shrI .u8 (c13.toNat : Int) 5), (IntKind.wrap .u64 (andI .u8 (c13.toNat : Int) 31)), a3.2))
      else
        let _ ← chk (decide (0 ≤ (IntKind.wrap .u64 ((IntKind.wrap .u64 (andI .u8 (c13.toNat : Int) 31)) - 24))))
        let y36 ← M.cbor_reader_take a3.2 (shlI .u64 1 (IntKind.wrap .u64 ((IntKind.wrap .u64 (andI .u8 (c13.toNat : Int) 31)) - 24)))
        match y36 with
        | .pan pv39 => some (.pan pv39)
        | .ok a38 =>
          let _ ← chk (decide (a38.1.length ≤ 9223372036854775807))
          M.cbor_reader_head_k1 c13 a38 0 0
def M.cbor_laid_k2 (fuel : Nat) (self_cbor_laid : (List Int) → T_api_Cbor → Option (List Int)) (p1 : T_api_Cbor) (x45 : List Int) (x51 : Int) : Option (List Int) := do
  if (decide (x51 < (p1.gList.length : Int))) then
    let x57 ← ix p1.gList x51
    let y96 ← self_cbor_laid x45 x57
    M.cbor_laid_k2 fuel self_cbor_laid p1 y96 (IntKind.wrap .i64 (x51 + 1))
  else
    some x45
  partial_fixpoint
def M.cbor_laid_k1 (fuel : Nat) (self_cbor_laid : (List Int) → T_api_Cbor → Option (List Int)) (p1 : T_api_Cbor) (x25 : List Int) : Option (List Int) := do
  M.cbor_laid_k2 fuel self_cbor_laid p1 x25 0
def M.cbor_laid_k3 (fuel : Nat) (self_cbor_laid : (List Int) → T_api_Cbor → Option (List Int)) (p1 : T_api_Cbor) (p0 : List Int) (x204 : Bool) : Option (List Int) := do
  if x204 then
    let y207 ← M.cbor_head (IntKind.wrap .u8 ((IntKind.wrap .u8 p1.gKind) + 1)) (IntKind.wrap .u64 (p1.gText.length : Int))
    let y220 ← M.strings_Builder_Write p0 y207
    let y239 ← M.strings_Builder_WriteString y220.2 p1.gText
    M.cbor_laid_k1 fuel self_cbor_laid p1 y239.2
  else
    if (decide (p1.gKind = 3)) then
      let y260 ← M.cbor_head 4 (IntKind.wrap .u64 (p1.gList.length : Int))
      let y273 ← M.strings_Builder_Write p0 y260
      M.cbor_laid_k1 fuel self_cbor_laid p1 y273.2
    else
      if (decide (p1.gKind = 4)) then
        let y294 ← M.cbor_head 5 (IntKind.wrap .u64 (IntKind.wrap .i64 (Int.tdiv (p1.gList.length : Int) 2)))
        let y307 ← M.strings_Builder_Write p0 y294
        M.cbor_laid_k1 fuel self_cbor_laid p1 y307.2
      else
        M.cbor_laid_k1 fuel self_cbor_laid p1 p0
def M.cbor_laid : Nat → (List Int) → T_api_Cbor → Option (List Int)
  | 0, _, _ => none
  | fuel + 1, p0, p1 => do
    if (decide (p1.gKind = 0)) then
      if (decide (p1.gNum < 0)) then
        let y123 ← M.cbor_head 1 (IntKind.wrap .u64 (notI .i64 p1.gNum))
        let y136 ← M.strings_Builder_Write p0 y123
        M.cbor_laid_k1 (fuel + 1) (M.cbor_laid fuel) p1 y136.2
      else
        let y159 ← M.cbor_head 0 (IntKind.wrap .u64 p1.gNum)
        let y172 ← M.strings_Builder_Write p0 y159
        M.cbor_laid_k1 (fuel + 1) (M.cbor_laid fuel) p1 y172.2
    else
      if (decide (p1.gKind = 1)) then
        M.cbor_laid_k3 (fuel + 1) (M.cbor_laid fuel) p1 p0 (decide (p1.gKind = 1))
      else
        M.cbor_laid_k3 (fuel + 1) (M.cbor_laid fuel) p1 p0 (decide (p1.gKind = 2))
def M.cbor_told (fuel : Nat) (p0 : T_api_Cbor) : Option (List UInt8) := do
  let y26 ← M.cbor_laid fuel ([] : List Int) p0
  let y45 ← M.strings_Builder_String y26
  some y45
def M.cbor_key (fuel : Nat) (p0 : T_api_Cbor) (p1 : List UInt8) : Option ((List UInt8) × Bool) := do
  let x25 ← (if ((!decide (p0.gKind = 0)) && (!decide (p0.gKind = 2))) then do
        some true
      else do
        let y33 ← M.cbor_fields p0
        some (!y33))
  if x25 then
    some (([] : List UInt8), false)
  else
    let y44 ← M.cbor_told fuel p0
    some (y44, (!(slt y44 p1 || decide (y44 = p1))))
def M.cbor_reader_item_k1 (fuel : Nat) (self_cbor_reader_item : T_cbor_reader → Int → Option (Res (T_api_Cbor × T_cbor_reader))) (p1 : Int) (a15 : Int × Int × T_cbor_reader) (x181 : List UInt8) (x184 : Int) (x185 : Int) (x186 : List UInt8) (x187 : List T_api_Cbor) (x192 : Int) (x193 : List UInt8) : Option (Res (T_api_Cbor × T_cbor_reader)) := do
  if (decide (0 < x192)) then
    if (decide (a15.1 = 5)) then
      let y202 ← self_cbor_reader_item (T_cbor_reader.mk x181) (IntKind.wrap .i64 (p1 + 1))
      match y202 with
      | .pan pv205 => some (.pan pv205)
      | .ok a204 =>
        let y250 ← M.cbor_key fuel a204.1 x193
        let y263 ← M.cbor_must y250.2 30
        match y263 with
        | .pan pv266 => some (.pan pv266)
        | .ok a265 =>
          let l293 ← app 56 x187 [a204.1]
          let y328 ← self_cbor_reader_item a204.2 (IntKind.wrap .i64 (p1 + 1))
          match y328 with
          | .pan pv331 => some (.pan pv331)
          | .ok a330 =>
            let l363 ← app 56 l293 [a330.1]
            M.cbor_reader_item_k1 fuel self_cbor_reader_item p1 a15 a330.2.gs x184 x185 x186 l363 (IntKind.wrap .u64 (x192 - 1)) y250.1
    else
      let y407 ← self_cbor_reader_item (T_cbor_reader.mk x181) (IntKind.wrap .i64 (p1 + 1))
      match y407 with
      | .pan pv410 => some (.pan pv410)
      | .ok a409 =>
        let l440 ← app 56 x187 [a409.1]
        M.cbor_reader_item_k1 fuel self_cbor_reader_item p1 a15 a409.2.gs x184 x185 x186 l440 (IntKind.wrap .u64 (x192 - 1)) x193
  else
    some (.ok ((T_api_Cbor.mk x184 x185 x186 x187), (T_cbor_reader.mk x181)))
  partial_fixpoint
def M.cbor_reader_item : Nat → T_cbor_reader → Int → Option (Res (T_api_Cbor × T_cbor_reader))
  | 0, _, _ => none
  | fuel + 1, p0, p1 => do
    let y13 ← M.cbor_reader_head p0
    match y13 with
    | .pan pv16 => some (.pan pv16)
    | .ok a15 =>
      if (decide (a15.1 = 0)) then
        some (.ok ((T_api_Cbor.mk 0 (IntKind.wrap .i64 a15.2.1) ([] : List UInt8) []), a15.2.2))
      else
        if (decide (a15.1 = 1)) then
          some (.ok ((T_api_Cbor.mk 0 (notI .i64 (IntKind.wrap .i64 a15.2.1)) ([] : List UInt8) []), a15.2.2))
        else
          if (decide (a15.1 = 2)) then
            let y46 ← M.cbor_reader_take a15.2.2 a15.2.1
            match y46 with
            | .pan pv49 => some (.pan pv49)
            | .ok a48 =>
              some (.ok ((T_api_Cbor.mk 1 0 a48.1 []), a48.2))
          else
            if (decide (a15.1 = 3)) then
              let y71 ← M.cbor_reader_take a15.2.2 a15.2.1
              match y71 with
              | .pan pv74 => some (.pan pv74)
              | .ok a73 =>
                let y106 ← M.validString a73.1
                let y117 ← M.cbor_must y106 30
                match y117 with
                | .pan pv120 => some (.pan pv120)
                | .ok a119 =>
                  some (.ok ((T_api_Cbor.mk 2 0 a73.1 []), a73.2))
            else
              let y142 ← M.cbor_must (decide (p1 < 16)) 31
              match y142 with
              | .pan pv145 => some (.pan pv145)
              | .ok a144 =>
                M.cbor_reader_item_k1 (fuel + 1) (M.cbor_reader_item fuel) p1 a15 a15.2.2.gs (IntKind.wrap .i64 ((IntKind.wrap .i64 a15.1) - 1)) 0 ([] : List UInt8) [] a15.2.1 ([] : List UInt8)
def M.cbor_Decode (fuel : Nat) (p0 : List UInt8) : Option (T_api_Cbor × Int × Int) := do
  if (decide (4096 < (p0.length : Int))) then
    some ((T_api_Cbor.mk 0 0 ([] : List UInt8) []), 0, 32)
  else
    let y51 ← M.cbor_reader_item fuel (T_cbor_reader.mk p0) 0
    match y51 with
    | .pan pv54 => do
        let e55 ← asErr 58 .i64 pv54
        some ((T_api_Cbor.mk 0 0 ([] : List UInt8) []), 0, e55)
    | .ok a53 =>
      some (a53.1, (IntKind.wrap .i64 ((p0.length : Int) - (a53.2.gs.length : Int))), 0)
def M.r03_reader_head_k2 (c14 : UInt8) (c19 : UInt8) (x54 : List UInt8) (x55 : Int) (x57 : Int) (x58 : Int) : Option (Int × Int × Bool × T_seneschalref03_reader) := do
  if (decide (x58 < (shlI .i64 1 (IntKind.wrap .i64 ((IntKind.wrap .i64 (andI .u8 (c19.toNat : Int) 31)) - 24))))) then
    let c69 ← ix x54 x55
    M.r03_reader_head_k2 c14 c19 x54 (IntKind.wrap .i64 (x55 + 1)) (IntKind.wrap .i64 ((IntKind.wrap .i64 (256 * x57)) + (IntKind.wrap .i64 (c69.toNat : Int)))) (IntKind.wrap .i64 (x58 + 1))
  else
    let y81 ← M.r03_head (IntKind.wrap .i64 (shrI .u8 (c14.toNat : Int) 5)) x57
    some ((IntKind.wrap .i64 (shrI .u8 (c14.toNat : Int) 5)), x57, (decide ((y81.length : Int) = (IntKind.wrap .i64 (1 + (shlI .i64 1 (IntKind.wrap .i64 ((IntKind.wrap .i64 (andI .u8 (c19.toNat : Int) 31)) - 24))))))), (T_seneschalref03_reader.mk x54 x55))
  partial_fixpoint
def M.r03_reader_head_k1 (c14 : UInt8) (c19 : UInt8) (p0 : T_seneschalref03_reader) (x44 : Bool) : Option (Int × Int × Bool × T_seneschalref03_reader) := do
  if x44 then
    some (0, 0, false, (T_seneschalref03_reader.mk p0.gs (IntKind.wrap .i64 (p0.gi + 1))))
  else
    M.r03_reader_head_k2 c14 c19 p0.gs (IntKind.wrap .i64 (p0.gi + 1)) 0 0
def M.r03_reader_head (p0 : T_seneschalref03_reader) : Option (Int × Int × Bool × T_seneschalref03_reader) := do
  if (decide ((p0.gs.length : Int) ≤ p0.gi)) then
    some (0, 0, false, p0)
  else
    let c14 ← ix p0.gs p0.gi
    let c19 ← ix p0.gs p0.gi
    if ((decide (5 < (IntKind.wrap .i64 (shrI .u8 (c14.toNat : Int) 5)))) || (decide (27 < (IntKind.wrap .i64 (andI .u8 (c19.toNat : Int) 31))))) then
      some (0, 0, false, (T_seneschalref03_reader.mk p0.gs (IntKind.wrap .i64 (p0.gi + 1))))
    else
      if (decide ((IntKind.wrap .i64 (andI .u8 (c19.toNat : Int) 31)) < 24)) then
        some ((IntKind.wrap .i64 (shrI .u8 (c14.toNat : Int) 5)), (IntKind.wrap .i64 (andI .u8 (c19.toNat : Int) 31)), true, (T_seneschalref03_reader.mk p0.gs (IntKind.wrap .i64 (p0.gi + 1))))
      else
        let _ ← chk (decide (0 ≤ (IntKind.wrap .i64 ((IntKind.wrap .i64 (andI .u8 (c19.toNat : Int) 31)) - 24))))
        if (decide ((IntKind.wrap .i64 ((p0.gs.length : Int) - (IntKind.wrap .i64 (p0.gi + 1)))) < (shlI .i64 1 (IntKind.wrap .i64 ((IntKind.wrap .i64 (andI .u8 (c19.toNat : Int) 31)) - 24))))) then
          M.r03_reader_head_k1 c14 c19 p0 true
        else
          if (decide ((shlI .i64 1 (IntKind.wrap .i64 ((IntKind.wrap .i64 (andI .u8 (c19.toNat : Int) 31)) - 24))) = 8)) then
            let c107 ← ix p0.gs (IntKind.wrap .i64 (p0.gi + 1))
            M.r03_reader_head_k1 c14 c19 p0 (decide (127 < (c107.toNat : Int)))
          else
            M.r03_reader_head_k1 c14 c19 p0 false
def M.r03_reader_item_k3 (fuel : Nat) (self_r03_reader_item : T_seneschalref03_reader → Int → Option (T_api_Cbor × Int × T_seneschalref03_reader)) (p1 : Int) (y13 : Int × Int × Bool × T_seneschalref03_reader) (x180 : List UInt8) (x181 : Int) (x183 : Int) (x184 : Int) (x185 : List UInt8) (x186 : List T_api_Cbor) (x190 : Int) (x191 : Int) (x192 : List UInt8) (x193 : List T_api_Cbor) (x198 : List UInt8) (x199 : Int) : Option (T_api_Cbor × Int × T_seneschalref03_reader) := do
  if (decide (x199 < y13.2.1)) then
    if (decide (y13.1 = 5)) then
      let y208 ← self_r03_reader_item (T_seneschalref03_reader.mk x180 x181) (IntKind.wrap .i64 (p1 + 1))
      if (decide (y208.2.1 = 0)) then
        if (!decide (y208.1.gKind = 0)) then
          if (!decide (y208.1.gKind = 2)) then
            if (!decide (30 = 0)) then
              some ((T_api_Cbor.mk 0 0 ([] : List UInt8) []), 30, y208.2.2)
            else
              let s275 ← sub y208.2.2.gs x181 y208.2.2.gi
              let l304 ← app 56 x193 [y208.1]
              let y333 ← self_r03_reader_item y208.2.2 (IntKind.wrap .i64 (p1 + 1))
              if (!decide (y333.2.1 = 0)) then
                some ((T_api_Cbor.mk 0 0 ([] : List UInt8) []), y333.2.1, y333.2.2)
              else
                let l411 ← app 56 l304 [y333.1]
                M.r03_reader_item_k3 fuel self_r03_reader_item p1 y13 y333.2.2.gs y333.2.2.gi x183 x184 x185 x186 x190 x191 x192 l411 s275 (IntKind.wrap .i64 (x199 + 1))
          else
            let s443 ← sub y208.2.2.gs x181 y208.2.2.gi
            if (slt s443 x198 || decide (s443 = x198)) then
              if (!decide (30 = 0)) then
                some ((T_api_Cbor.mk 0 0 ([] : List UInt8) []), 30, y208.2.2)
              else
                let s470 ← sub y208.2.2.gs x181 y208.2.2.gi
                let l499 ← app 56 x193 [y208.1]
                let y528 ← self_r03_reader_item y208.2.2 (IntKind.wrap .i64 (p1 + 1))
                if (!decide (y528.2.1 = 0)) then
                  some ((T_api_Cbor.mk 0 0 ([] : List UInt8) []), y528.2.1, y528.2.2)
                else
                  let l606 ← app 56 l499 [y528.1]
                  M.r03_reader_item_k3 fuel self_r03_reader_item p1 y13 y528.2.2.gs y528.2.2.gi x183 x184 x185 x186 x190 x191 x192 l606 s470 (IntKind.wrap .i64 (x199 + 1))
            else
              if (!decide (y208.2.1 = 0)) then
                some ((T_api_Cbor.mk 0 0 ([] : List UInt8) []), y208.2.1, y208.2.2)
              else
                let s654 ← sub y208.2.2.gs x181 y208.2.2.gi
                let l683 ← app 56 x193 [y208.1]
                let y712 ← self_r03_reader_item y208.2.2 (IntKind.wrap .i64 (p1 + 1))
                if (!decide (y712.2.1 = 0)) then
                  some ((T_api_Cbor.mk 0 0 ([] : List UInt8) []), y712.2.1, y712.2.2)
                else
                  let l790 ← app 56 l683 [y712.1]
                  M.r03_reader_item_k3 fuel self_r03_reader_item p1 y13 y712.2.2.gs y712.2.2.gi x183 x184 x185 x186 x190 x191 x192 l790 s654 (IntKind.wrap .i64 (x199 + 1))
        else
          let s822 ← sub y208.2.2.gs x181 y208.2.2.gi
          if (slt s822 x198 || decide (s822 = x198)) then
            if (!decide (30 = 0)) then
              some ((T_api_Cbor.mk 0 0 ([] : List UInt8) []), 30, y208.2.2)
            else
              let s849 ← sub y208.2.2.gs x181 y208.2.2.gi
              let l878 ← app 56 x193 [y208.1]
              let y907 ← self_r03_reader_item y208.2.2 (IntKind.wrap .i64 (p1 + 1))
              if (!decide (y907.2.1 = 0)) then
                some ((T_api_Cbor.mk 0 0 ([] : List UInt8) []), y907.2.1, y907.2.2)
              else
                let l985 ← app 56 l878 [y907.1]
                M.r03_reader_item_k3 fuel self_r03_reader_item p1 y13 y907.2.2.gs y907.2.2.gi x183 x184 x185 x186 x190 x191 x192 l985 s849 (IntKind.wrap .i64 (x199 + 1))
          else
            if (!decide (y208.2.1 = 0)) then
              some ((T_api_Cbor.mk 0 0 ([] : List UInt8) []), y208.2.1, y208.2.2)
            else
              let s1033 ← sub y208.2.2.gs x181 y208.2.2.gi
              let l1062 ← app 56 x193 [y208.1]
              let y1091 ← self_r03_reader_item y208.2.2 (IntKind.wrap .i64 (p1 + 1))
              if (!decide (y1091.2.1 = 0)) then
                some ((T_api_Cbor.mk 0 0 ([] : List UInt8) []), y1091.2.1, y1091.2.2)
              else
                let l1169 ← app 56 l1062 [y1091.1]
                M.r03_reader_item_k3 fuel self_r03_reader_item p1 y13 y1091.2.2.gs y1091.2.2.gi x183 x184 x185 x186 x190 x191 x192 l1169 s1033 (IntKind.wrap .i64 (x199 + 1))
      else
        if (!decide (y208.2.1 = 0)) then
          some ((T_api_Cbor.mk 0 0 ([] : List UInt8) []), y208.2.1, y208.2.2)
        else
          let s1219 ← sub y208.2.2.gs x181 y208.2.2.gi
          let l1248 ← app 56 x193 [y208.1]
          let y1277 ← self_r03_reader_item y208.2.2 (IntKind.wrap .i64 (p1 + 1))
          if (!decide (y1277.2.1 = 0)) then
            some ((T_api_Cbor.mk 0 0 ([] : List UInt8) []), y1277.2.1, y1277.2.2)
          else
            let l1355 ← app 56 l1248 [y1277.1]
            M.r03_reader_item_k3 fuel self_r03_reader_item p1 y13 y1277.2.2.gs y1277.2.2.gi x183 x184 x185 x186 x190 x191 x192 l1355 s1219 (IntKind.wrap .i64 (x199 + 1))
    else
      let y1386 ← self_r03_reader_item (T_seneschalref03_reader.mk x180 x181) (IntKind.wrap .i64 (p1 + 1))
      if (!decide (y1386.2.1 = 0)) then
        some ((T_api_Cbor.mk 0 0 ([] : List UInt8) []), y1386.2.1, y1386.2.2)
      else
        let l1458 ← app 56 x193 [y1386.1]
        M.r03_reader_item_k3 fuel self_r03_reader_item p1 y13 y1386.2.2.gs y1386.2.2.gi x183 x184 x185 x186 x190 x191 x192 l1458 x198 (IntKind.wrap .i64 (x199 + 1))
  else
    some ((T_api_Cbor.mk x190 x191 x192 x193), 0, (T_seneschalref03_reader.mk x180 x181))
  partial_fixpoint
def M.r03_reader_item_k1 (fuel : Nat) (self_r03_reader_item : T_seneschalref03_reader → Int → Option (T_api_Cbor × Int × T_seneschalref03_reader)) (p1 : Int) (y13 : Int × Int × Bool × T_seneschalref03_reader) (x60 : Bool) : Option (T_api_Cbor × Int × T_seneschalref03_reader) := do
  if x60 then
    if (decide ((IntKind.wrap .i64 ((y13.2.2.2.gs.length : Int) - y13.2.2.2.gi)) < y13.2.1)) then
      some ((T_api_Cbor.mk 0 0 ([] : List UInt8) []), 30, y13.2.2.2)
    else
      let s84 ← sub y13.2.2.2.gs y13.2.2.2.gi (IntKind.wrap .i64 (y13.2.2.2.gi + y13.2.1))
      let x111 ← (if (decide (y13.1 = 3)) then do
            let y117 ← M.validString s84
            some (!y117)
          else do
            some false)
      if x111 then
        some ((T_api_Cbor.mk 0 0 ([] : List UInt8) []), 30, (T_seneschalref03_reader.mk y13.2.2.2.gs (IntKind.wrap .i64 (y13.2.2.2.gi + y13.2.1))))
      else
        some ((T_api_Cbor.mk (IntKind.wrap .i64 (y13.1 - 1)) 0 s84 []), 0, (T_seneschalref03_reader.mk y13.2.2.2.gs (IntKind.wrap .i64 (y13.2.2.2.gi + y13.2.1))))
  else
    if (decide (16 ≤ p1)) then
      some ((T_api_Cbor.mk 0 0 ([] : List UInt8) []), 31, y13.2.2.2)
    else
      M.r03_reader_item_k3 fuel self_r03_reader_item p1 y13 y13.2.2.2.gs y13.2.2.2.gi 0 0 ([] : List UInt8) [] (IntKind.wrap .i64 (y13.1 - 1)) 0 ([] : List UInt8) [] ([] : List UInt8) 0
def M.r03_reader_item : Nat → T_seneschalref03_reader → Int → Option (T_api_Cbor × Int × T_seneschalref03_reader)
  | 0, _, _ => none
  | fuel + 1, p0, p1 => do
    let y13 ← M.r03_reader_head p0
    if (!y13.2.2.1) then
      some ((T_api_Cbor.mk 0 0 ([] : List UInt8) []), 30, y13.2.2.2)
    else
      if (decide (y13.1 = 0)) then
        some ((T_api_Cbor.mk 0 y13.2.1 ([] : List UInt8) []), 0, y13.2.2.2)
      else
        if (decide (y13.1 = 1)) then
          some ((T_api_Cbor.mk 0 (IntKind.wrap .i64 ((-1) - y13.2.1)) ([] : List UInt8) []), 0, y13.2.2.2)
        else
          if (decide (y13.1 = 2)) then
            M.r03_reader_item_k1 (fuel + 1) (M.r03_reader_item fuel) p1 y13 (decide (y13.1 = 2))
          else
            M.r03_reader_item_k1 (fuel + 1) (M.r03_reader_item fuel) p1 y13 (decide (y13.1 = 3))
def M.r03_Decode (fuel : Nat) (p0 : List UInt8) : Option (T_api_Cbor × Int × Int) := do
  if (decide (4096 < (p0.length : Int))) then
    some ((T_api_Cbor.mk 0 0 ([] : List UInt8) []), 0, 32)
  else
    let y29 ← M.r03_reader_item fuel (T_seneschalref03_reader.mk p0 0) 0
    if (!decide (y29.2.1 = 0)) then
      some ((T_api_Cbor.mk 0 0 ([] : List UInt8) []), 0, y29.2.1)
    else
      some (y29.1, y29.2.2.gi, 0)
def M.r03_Same_k1 (fuel : Nat) (self_r03_Same : T_api_Cbor → T_api_Cbor → Option Bool) (p0 : T_api_Cbor) (p1 : T_api_Cbor) (x47 : Int) : Option Bool := do
  if (decide (x47 < (p0.gList.length : Int))) then
    let x59 ← ix p0.gList x47
    let x77 ← ix p1.gList x47
    let y94 ← self_r03_Same x59 x77
    if (!y94) then
      some false
    else
      M.r03_Same_k1 fuel self_r03_Same p0 p1 (IntKind.wrap .i64 (x47 + 1))
  else
    some true
  partial_fixpoint
def M.r03_Same : Nat → T_api_Cbor → T_api_Cbor → Option Bool
  | 0, _, _ => none
  | fuel + 1, p0, p1 => do
    if ((((!decide (p0.gKind = p1.gKind)) || (!decide (p0.gNum = p1.gNum))) || (!decide (p0.gText = p1.gText))) || (!decide ((p0.gList.length : Int) = (p1.gList.length : Int)))) then
      some false
    else
      M.r03_Same_k1 (fuel + 1) (M.r03_Same fuel) p0 p1 0
def M.cbor_checked_k2 (fuel : Nat) (self_cbor_checked : T_api_Cbor → Int → Option (Res Unit)) (p1 : Int) (p0 : T_api_Cbor) (x67 : Int) : Option (Res Unit) := do
  if (decide (x67 < (p0.gList.length : Int))) then
    let x72 ← ix p0.gList x67
    let y105 ← self_cbor_checked x72 (IntKind.wrap .i64 (p1 + 1))
    match y105 with
    | .pan pv108 => some (.pan pv108)
    | .ok a107 =>
      M.cbor_checked_k2 fuel self_cbor_checked p1 p0 (IntKind.wrap .i64 (x67 + 1))
  else
    some (.ok ())
  partial_fixpoint
def M.cbor_checked_k1 (fuel : Nat) (self_cbor_checked : T_api_Cbor → Int → Option (Res Unit)) (p1 : Int) (p0 : T_api_Cbor) : Option (Res Unit) := do
  M.cbor_checked_k2 fuel self_cbor_checked p1 p0 0
def M.cbor_checked_k3 (fuel : Nat) (self_cbor_checked : T_api_Cbor → Int → Option (Res Unit)) (p1 : Int) (p0 : T_api_Cbor) (x142 : List UInt8) (x143 : Int) : Option (Res Unit) := do
  if (decide (x143 < (p0.gList.length : Int))) then
    let x148 ← ix p0.gList x143
    let y164 ← M.cbor_key fuel x148 x142
    let y173 ← M.cbor_must y164.2 33
    match y173 with
    | .pan pv176 => some (.pan pv176)
    | .ok a175 =>
      M.cbor_checked_k3 fuel self_cbor_checked p1 p0 y164.1 (IntKind.wrap .i64 (x143 + 2))
  else
    M.cbor_checked_k1 fuel self_cbor_checked p1 p0
  partial_fixpoint
def M.cbor_checked : Nat → T_api_Cbor → Int → Option (Res Unit)
  | 0, _, _ => none
  | fuel + 1, p0, p1 => do
    let y19 ← M.cbor_must (((!decide (p0.gKind = 3)) && (!decide (p0.gKind = 4))) || (decide (p1 < 16))) 31
    match y19 with
    | .pan pv22 => some (.pan pv22)
    | .ok a21 =>
      let y31 ← M.cbor_fields p0
      let y40 ← M.cbor_must y31 33
      match y40 with
      | .pan pv43 => some (.pan pv43)
      | .ok a42 =>
        if (decide (p0.gKind = 4)) then
          let y124 ← M.cbor_must (decide ((Int.tmod (p0.gList.length : Int) 2) = 0)) 33
          match y124 with
          | .pan pv127 => some (.pan pv127)
          | .ok a126 =>
            M.cbor_checked_k3 (fuel + 1) (M.cbor_checked fuel) p1 p0 ([] : List UInt8) 0
        else
          M.cbor_checked_k1 (fuel + 1) (M.cbor_checked fuel) p1 p0
def M.cbor_Check (fuel : Nat) (p0 : T_api_Cbor) : Option Int := do
  let y25 ← M.cbor_checked fuel p0 0
  match y25 with
  | .pan pv28 => do
      let e29 ← asErr 58 .i64 pv28
      some e29
  | .ok a27 =>
    some 0
def M.cbor_Encode (fuel : Nat) (p0 : T_api_Cbor) : Option ((List UInt8) × Int) := do
  let y14 ← M.cbor_Check fuel p0
  if (!decide (y14 = 0)) then
    some (([] : List UInt8), y14)
  else
    let y25 ← M.cbor_told fuel p0
    if (decide (4096 < (y25.length : Int))) then
      some (([] : List UInt8), 32)
    else
      some (y25, 0)
def M.cbor_ByInt_1 (p0 : T_api_Cbor) (p1 : Int) : Option Bool := do
  some ((decide (p0.gKind = 0)) && (decide (p0.gNum = p1)))
def M.cbor_by_k1 (p1 : T_api_Cbor → Option Bool) (p0 : T_api_Cbor) (x32 : Int) (x33 : Int) (x34 : List UInt8) (x35 : List T_api_Cbor) (x40 : Int) : Option (T_api_Cbor × Bool) := do
  if ((decide (x40 < (p0.gList.length : Int))) && (decide (p0.gKind = 4))) then
    let x48 ← ix p0.gList (IntKind.wrap .i64 (x40 - 1))
    let y64 ← p1 x48
    if y64 then
      let x74 ← ix p0.gList x40
      some (x74, true)
    else
      M.cbor_by_k1 p1 p0 x32 x33 x34 x35 (IntKind.wrap .i64 (x40 + 2))
  else
    some ((T_api_Cbor.mk 0 0 ([] : List UInt8) []), false)
  partial_fixpoint
def M.cbor_by (p0 : T_api_Cbor) (p1 : T_api_Cbor → Option Bool) : Option (T_api_Cbor × Bool) := do
  M.cbor_by_k1 p1 p0 0 0 ([] : List UInt8) [] 1
def M.cbor_ByInt (p0 : T_api_Cbor) (p1 : Int) : Option (T_api_Cbor × Bool) := do
  let y42 ← M.cbor_by p0 (fun x0 => M.cbor_ByInt_1 x0 p1)
  some (y42.1, y42.2)
def M.cbor_ByText_1 (p0 : T_api_Cbor) (p1 : List UInt8) : Option Bool := do
  some ((decide (p0.gKind = 2)) && (decide (p0.gText = p1)))
def M.cbor_ByText (p0 : T_api_Cbor) (p1 : List UInt8) : Option (T_api_Cbor × Bool) := do
  let y42 ← M.cbor_by p0 (fun x0 => M.cbor_ByText_1 x0 p1)
  some (y42.1, y42.2)
def M.l03_awake (fuel : Nat)  : Option Bool := do
  let y1 ← M.l03_number 1
  let y13 ← M.l03_number 2
  let y25 ← M.l03_number (-1)
  let y37 ← M.l03_text ([97] : List UInt8)
  let y81 ← M.cbor_Encode fuel (T_api_Cbor.mk 4 0 ([] : List UInt8) [y1, y13, y25, y37])
  let y90 ← M.cbor_Decode fuel ([162, 1, 2, 32, 97, 97, 255] : List UInt8)
  let y121 ← M.cbor_Decode fuel ([24, 23] : List UInt8)
  let y156 ← M.cbor_Decode fuel ([129, 129, 129, 129, 129, 129, 129, 129, 129, 129, 129, 129, 129, 129, 129, 129, 129, 0] : List UInt8)
  let y195 ← M.cbor_Encode fuel (T_api_Cbor.mk 5 0 ([] : List UInt8) [])
  let y208 ← M.cbor_ByInt (T_api_Cbor.mk 4 0 ([] : List UInt8) [y1, y13, y25, y37]) (-1)
  let y252 ← M.cbor_ByText (T_api_Cbor.mk 4 0 ([] : List UInt8) [y1, y13, y25, y37]) ([97] : List UInt8)
  let _ ← chk (decide (y81.1 = ([162, 1, 2, 32, 97, 97] : List UInt8)))
  let _ ← chk (decide (y81.2 = 0))
  let y309 ← M.r03_Same fuel (T_api_Cbor.mk 4 0 ([] : List UInt8) [y1, y13, y25, y37]) y90.1
  let _ ← chk y309
  let _ ← chk (decide (y90.2.1 = 6))
  let _ ← chk (decide (y90.2.2 = 0))
  let _ ← chk (decide (y121.2.2 = 30))
  let _ ← chk (decide (y156.2.2 = 31))
  let _ ← chk (decide (y195.2 = 33))
  let y329 ← M.l03_text ([97] : List UInt8)
  let y348 ← M.r03_Same fuel y208.1 y329
  let _ ← chk y348
  let _ ← chk y208.2
  let _ ← chk (!y252.2)
  let y366 ← M.cbor_Check fuel (T_api_Cbor.mk 4 0 ([] : List UInt8) [y1, y13, y25, y37])
  let _ ← chk (decide (y366 = 0))
  some true
def M.l03_CborReads_k4 (fuel : Nat) (p0 : List UInt8) (x7 : Int) (x129 : Int) (x130 : Int) (x131 : List UInt8) (x132 : List T_api_Cbor) (x137 : Int) : Option (Jn Bool Unit) := do
  if (decide (x137 < (x132.length : Int))) then
    let x148 ← ix x132 x137
    let l164 ← setx x132 x137 (T_api_Cbor.mk 0 (-5) ([] : List UInt8) [])
    M.l03_CborReads_k4 fuel p0 x7 x129 x130 x131 l164 (IntKind.wrap .i64 (x137 + 1))
  else
    some (.go ())
  partial_fixpoint
def M.l03_CborReads_k1 (fuel : Nat) (p0 : List UInt8) (x7 : Int) : Option Bool := do
  if (decide (x7 < 2)) then
    let y12 ← M.cbor_Decode fuel p0
    let y43 ← M.r03_Decode fuel p0
    let x91 ← (if ((!decide (y12.2.2 = y43.2.2)) || (!decide (y12.2.1 = y43.2.1))) then do
          some true
        else do
          let y103 ← M.r03_Same fuel y12.1 y43.1
          some (!y103))
    if x91 then
      some false
    else
      let j175 ← M.l03_CborReads_k4 fuel p0 x7 y12.1.gKind y12.1.gNum y12.1.gText y12.1.gList 0
      match j175 with
      | .done r178 => some r178
      | .go () =>
        M.l03_CborReads_k1 fuel p0 (IntKind.wrap .i64 (x7 + 1))
  else
    let y179 ← M.l03_awake fuel 
    some y179
  partial_fixpoint
def M.l03_CborReads (fuel : Nat) (p0 : List UInt8) : Option Bool := do
  M.l03_CborReads_k1 fuel p0 0
def M.r03_by_k1 (p0 : T_api_Cbor) (p1 : T_api_Cbor) (x51 : Int) (x52 : Int) (x53 : List UInt8) (x54 : List T_api_Cbor) (x58 : Int) : Option (T_api_Cbor × Bool) := do
  if (decide ((IntKind.wrap .i64 (x58 + 1)) < (p0.gList.length : Int))) then
    let x63 ← ix p0.gList x58
    if ((decide (x63.gKind = p1.gKind)) && (((decide (x63.gKind = 0)) && (decide (x63.gNum = p1.gNum))) || ((decide (x63.gKind = 2)) && (decide (x63.gText = p1.gText))))) then
      let x107 ← ix p0.gList (IntKind.wrap .i64 (x58 + 1))
      some (x107, true)
    else
      M.r03_by_k1 p0 p1 x51 x52 x53 x54 (IntKind.wrap .i64 (x58 + 2))
  else
    some ((T_api_Cbor.mk 0 0 ([] : List UInt8) []), false)
  partial_fixpoint
def M.r03_by (p0 : T_api_Cbor) (p1 : T_api_Cbor) : Option (T_api_Cbor × Bool) := do
  if (decide (p0.gKind = 4)) then
    M.r03_by_k1 p0 p1 0 0 ([] : List UInt8) [] 0
  else
    some ((T_api_Cbor.mk 0 0 ([] : List UInt8) []), false)
def M.r03_ByInt (p0 : T_api_Cbor) (p1 : Int) : Option (T_api_Cbor × Bool) := do
  let y25 ← M.r03_by p0 (T_api_Cbor.mk 0 p1 ([] : List UInt8) [])
  some (y25.1, y25.2)
def M.r03_ByText (p0 : T_api_Cbor) (p1 : List UInt8) : Option (T_api_Cbor × Bool) := do
  let y25 ← M.r03_by p0 (T_api_Cbor.mk 2 0 p1 [])
  some (y25.1, y25.2)
def M.l03_CborFinds (fuel : Nat) (p0 : T_api_Cbor) (p1 : Int) (p2 : List UInt8) : Option Bool := do
  let y14 ← M.cbor_ByInt p0 p1
  let y46 ← M.r03_ByInt p0 p1
  let y82 ← M.cbor_ByText p0 p2
  let y122 ← M.r03_ByText p0 p2
  let y165 ← M.l03_awake fuel 
  let x197 ← (if ((y165 && (y14.2 == y46.2)) && (y82.2 == y122.2)) then do
        let y209 ← M.r03_Same fuel y14.1 y46.1
        some y209
      else do
        some false)
  let x253 ← (if x197 then do
        let y257 ← M.r03_Same fuel y82.1 y122.1
        some y257
      else do
        some false)
  some x253
def M.l03_CborBack_k2 (fuel : Nat) (p1 : List UInt8) : Option Bool := do
  let y74 ← M.cbor_Decode fuel p1
  if (!decide (y74.2.2 = 0)) then
    let x111 ← (if (decide (y74.2.1 = 0)) then do
          let y117 ← M.r03_Same fuel y74.1 (T_api_Cbor.mk 0 0 ([] : List UInt8) [])
          some y117
        else do
          some false)
    some x111
  else
    let y131 ← M.cbor_Encode fuel y74.1
    let x154 ← (if (((decide (y131.2 = 0)) && (decide (1 ≤ y74.2.1))) && (decide (y74.2.1 ≤ (p1.length : Int)))) then do
          let s158 ← sub p1 0 y74.2.1
          some (decide (y131.1 = s158))
        else do
          some false)
    some x154
def M.l03_CborBack (fuel : Nat) (p0 : T_api_Cbor) (p1 : List UInt8) : Option Bool := do
  let y14 ← M.cbor_Encode fuel p0
  let y23 ← M.l03_awake fuel 
  let x40 ← (if (!y23) then do
        some true
      else do
        let y53 ← M.cbor_Check fuel p0
        some (!(((decide (y14.2 = 0)) || (decide (y14.2 = 32))) == (decide (y53 = 0)))))
  if x40 then
    some false
  else
    if ((decide (y14.2 = 0)) && (decide ((IntKind.wrap .i64 ((y14.1.length : Int) + (p1.length : Int))) ≤ 4096))) then
      let s174 ← cat y14.1 p1
      let y178 ← M.cbor_Decode fuel s174
      let x223 ← (if ((!decide (y178.2.2 = 0)) || (!decide (y178.2.1 = (y14.1.length : Int)))) then do
            some true
          else do
            let y235 ← M.r03_Same fuel p0 y178.1
            some (!y235))
      if x223 then
        some false
      else
        M.l03_CborBack_k2 fuel p1
    else
      M.l03_CborBack_k2 fuel p1
def M.l03_CborCuts (fuel : Nat) (p0 : T_api_Cbor) (p1 : Int) : Option Bool := do
  let y14 ← M.cbor_Encode fuel p0
  let y23 ← M.l03_awake fuel 
  if (!y23) then
    some false
  else
    if (((!decide (y14.2 = 0)) || (decide (p1 < 0))) || (decide ((y14.1.length : Int) ≤ p1))) then
      some true
    else
      let s38 ← sub y14.1 0 p1
      let y49 ← M.cbor_Decode fuel s38
      let x91 ← (if ((decide (y49.2.2 = 30)) && (decide (y49.2.1 = 0))) then do
            let y98 ← M.r03_Same fuel y49.1 (T_api_Cbor.mk 0 0 ([] : List UInt8) [])
            some y98
          else do
            some false)
      some x91
end Go.Proofs.YtmbckfhcljgniaaDoor
