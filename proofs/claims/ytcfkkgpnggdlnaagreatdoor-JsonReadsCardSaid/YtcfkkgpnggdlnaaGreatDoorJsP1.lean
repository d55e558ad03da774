/- JsP1: what a program of ours printed of the program's functions. -/
import Derived.Test.YtcfkkgpnggdlnaaGreatDoorJsG
import Derived.Test.YtcfkkgpnggdlnaaGreatDoorJsC
set_option linter.all false
namespace Go.Proofs.YtcfkkgpnggdlnaaGreatDoor
open Go.Lk Go.Pe Go.Sen Go.RowKit
def A.strings_Builder_WriteByte : Ann := { reg := [(2, [(11, 0, { L := [], B := [0], A := [100101], H := [(.cell 0 1, 100101, 5, 1)] })])], fin := [(.cell 0 1, 0, 5, 1)], nb := 1 }
@[reducible] def I.strings_Builder_WriteByte (p0 : List Int) (p1 : Int) : CIn := ⟨[.ptr 0 0, .int .u8 p1], [⟨52, [.selfp 0, .ref 0]⟩], [(5, 1, (p0.map (eI .u8)))]⟩
@[reducible] def O.strings_Builder_WriteByte : (List Int) → COut
  | r => .ok [.nilI] [⟨52, [.selfp 0, .ref 0]⟩] [some (5, 1, (r.map (eI .u8)))]
set_option maxRecDepth 1000000 in
set_option maxHeartbeats 4000000 in
theorem L.strings_Builder_WriteByte (p0 : List Int) (p1 : Int) : S (M.strings_Builder_WriteByte p0 p1) fun r => ex TB CT A.strings_Builder_WriteByte (Con Tryz.prog GG) (bodyOf Tryz.f50) (entry (I.strings_Builder_WriteByte p0 p1)) (fin TB A.strings_Builder_WriteByte [.tmp 4] (O.strings_Builder_WriteByte r)) := by
  unfold M.strings_Builder_WriteByte
  refine S.k [0] [0] [5020] (C.copyCheck p0) rfl ⟨⟨rfl, rfl⟩, trivial⟩ ⟨⟨rfl, rfl, rfl⟩, trivial⟩ rfl fun a_1 => ?_
  refine S.an rfl ?_
  refine S.appE (f := (eI .u8)) (E := (fun l => l.map (eI .u8))) (xs := p0) (ys := [p1]) (fun _ => rfl) rfl rfl fun l_3 => ?_
  refine S.jp (⟨[], [(0, ⟨52, [.selfp 0, .ref 100101]⟩)], [(100101, ⟨false, 5, 1, (l_3.map (eI .u8))⟩)], none⟩) (fun _ => rfl) ?_
  exact S.z ⟨rfl, ⟨⟨rfl, rfl⟩, trivial⟩, ⟨⟨rfl, rfl, rfl⟩, trivial⟩, rfl⟩
set_option maxRecDepth 1000000 in
set_option maxHeartbeats 4000000 in
theorem C.strings_Builder_WriteByte (p0 : List Int) (p1 : Int) : S (M.strings_Builder_WriteByte p0 p1) fun r => Con Tryz.prog GG 50 (I.strings_Builder_WriteByte p0 p1) (O.strings_Builder_WriteByte r) := by
  intro r hm; exact Con.of TBG (fun _ _ => rfl) Tryz.func50 rfl rfl (res := [.tmp 4]) rfl (by kernel_rfl) rfl rfl rfl (L.strings_Builder_WriteByte p0 p1 r hm)
def A.strings_Builder_WriteString : Ann := { reg := [(2, [(10, 0, { L := [1], B := [0], A := [100101], H := [(.cell 0 1, 100101, 5, 1)] })])], fin := [(.cell 0 1, 0, 5, 1)], nb := 1 }
@[reducible] def I.strings_Builder_WriteString (p0 : List Int) (p1 : List UInt8) : CIn := ⟨[.ptr 0 0, .str p1], [⟨52, [.selfp 0, .ref 0]⟩], [(5, 1, (p0.map (eI .u8)))]⟩
@[reducible] def O.strings_Builder_WriteString : Int × (List Int) → COut
  | r => .ok [.int .i64 r.1, .nilI] [⟨52, [.selfp 0, .ref 0]⟩] [some (5, 1, (r.2.map (eI .u8)))]
set_option maxRecDepth 1000000 in
set_option maxHeartbeats 4000000 in
theorem L.strings_Builder_WriteString (p0 : List Int) (p1 : List UInt8) : S (M.strings_Builder_WriteString p0 p1) fun r => ex TB CT A.strings_Builder_WriteString (Con Tryz.prog GG) (bodyOf Tryz.f48) (entry (I.strings_Builder_WriteString p0 p1)) (fin TB A.strings_Builder_WriteString [.tmp 4, .tmp 5] (O.strings_Builder_WriteString r)) := by
  unfold M.strings_Builder_WriteString
  refine S.k [0] [0] [5020] (C.copyCheck p0) rfl ⟨⟨rfl, rfl⟩, trivial⟩ ⟨⟨rfl, rfl, rfl⟩, trivial⟩ rfl fun a_1 => ?_
  refine S.an rfl ?_
  refine S.appE (f := (eI .u8)) (E := (fun l => l.map (eI .u8))) (xs := p0) (ys := (unb p1)) (fun _ => rfl) rfl rfl fun l_3 => ?_
  refine S.jp (⟨[(1, .str p1)], [(0, ⟨52, [.selfp 0, .ref 100101]⟩)], [(100101, ⟨false, 5, 1, (l_3.map (eI .u8))⟩)], none⟩) (fun _ => rfl) ?_
  exact S.z ⟨rfl, ⟨⟨rfl, rfl⟩, trivial⟩, ⟨⟨rfl, rfl, rfl⟩, trivial⟩, rfl⟩
set_option maxRecDepth 1000000 in
set_option maxHeartbeats 4000000 in
theorem C.strings_Builder_WriteString (p0 : List Int) (p1 : List UInt8) : S (M.strings_Builder_WriteString p0 p1) fun r => Con Tryz.prog GG 48 (I.strings_Builder_WriteString p0 p1) (O.strings_Builder_WriteString r) := by
  intro r hm; exact Con.of TBG (fun _ _ => rfl) Tryz.func48 rfl rfl (res := [.tmp 4, .tmp 5]) rfl (by kernel_rfl) rfl rfl rfl (L.strings_Builder_WriteString p0 p1 r hm)
def A.strings_Builder_Len : Ann := { nb := 1 }
@[reducible] def I.strings_Builder_Len (p0 : List Int) : CIn := ⟨[.ptr 0 0], [⟨52, [.selfp 0, .ref 0]⟩], [(5, 1, (p0.map (eI .u8)))]⟩
@[reducible] def O.strings_Builder_Len (p0 : List Int) : Int → COut
  | r => .ok [.int .i64 r] [⟨52, [.selfp 0, .ref 0]⟩] [some (5, 1, (p0.map (eI .u8)))]
set_option maxRecDepth 1000000 in
set_option maxHeartbeats 4000000 in
theorem L.strings_Builder_Len (p0 : List Int) : S (M.strings_Builder_Len p0) fun r => ex TB CT A.strings_Builder_Len (Con Tryz.prog GG) (bodyOf Tryz.f29) (entry (I.strings_Builder_Len p0)) (fin TB A.strings_Builder_Len [.tmp 2] (O.strings_Builder_Len p0 r)) := by
  unfold M.strings_Builder_Len
  refine S.eq lenD_map ?_
  exact S.z ⟨rfl, ⟨⟨rfl, rfl⟩, trivial⟩, ⟨⟨rfl, rfl, rfl⟩, trivial⟩, rfl⟩
set_option maxRecDepth 1000000 in
set_option maxHeartbeats 4000000 in
theorem C.strings_Builder_Len (p0 : List Int) : S (M.strings_Builder_Len p0) fun r => Con Tryz.prog GG 29 (I.strings_Builder_Len p0) (O.strings_Builder_Len p0 r) := by
  intro r hm; exact Con.of TBG (fun _ _ => rfl) Tryz.func29 rfl rfl (res := [.tmp 2]) rfl (by kernel_rfl) rfl rfl rfl (L.strings_Builder_Len p0 r hm)
def A.internal_stringslite_HasPrefix : Ann := { reg := [(1, [(6, 7, { L := [17], B := [], A := [] })])] }
@[reducible] def I.internal_stringslite_HasPrefix (p0 : List UInt8) (p1 : List UInt8) : CIn := ⟨[.str p0, .str p1], [], []⟩
@[reducible] def O.internal_stringslite_HasPrefix : Bool → COut
  | r => .ok [.bool r] [] []
set_option maxRecDepth 1000000 in
set_option maxHeartbeats 4000000 in
theorem L.internal_stringslite_HasPrefix (p0 : List UInt8) (p1 : List UInt8) : S (M.internal_stringslite_HasPrefix p0 p1) fun r => ex TB CT A.internal_stringslite_HasPrefix (Con Tryz.prog GG) (bodyOf Tryz.f75) (entry (I.internal_stringslite_HasPrefix p0 p1)) (fin TB A.internal_stringslite_HasPrefix [.tmp 4] (O.internal_stringslite_HasPrefix r)) := by
  unfold M.internal_stringslite_HasPrefix
  refine S.j (fun j_3 => ⟨[(17, .bool j_3)], [], [], none⟩) (fun r => ?_) fun j_3 => ?_
  · refine S.cb ?_ ?_
    · refine S.e fun s_4 => ?_
      exact S.z rfl
    · exact S.z rfl
  · exact S.z ⟨rfl, trivial, trivial, rfl⟩
set_option maxRecDepth 1000000 in
set_option maxHeartbeats 4000000 in
theorem C.internal_stringslite_HasPrefix (p0 : List UInt8) (p1 : List UInt8) : S (M.internal_stringslite_HasPrefix p0 p1) fun r => Con Tryz.prog GG 75 (I.internal_stringslite_HasPrefix p0 p1) (O.internal_stringslite_HasPrefix r) := by
  intro r hm; exact Con.of TBG (fun _ _ => rfl) Tryz.func75 rfl rfl (res := [.tmp 4]) rfl (by kernel_rfl) rfl rfl rfl (L.internal_stringslite_HasPrefix p0 p1 r hm)
def A.strings_HasPrefix : Ann := {}
@[reducible] def I.strings_HasPrefix (p0 : List UInt8) (p1 : List UInt8) : CIn := ⟨[.str p0, .str p1], [], []⟩
@[reducible] def O.strings_HasPrefix : Bool → COut
  | r => .ok [.bool r] [] []
set_option maxRecDepth 1000000 in
set_option maxHeartbeats 4000000 in
theorem L.strings_HasPrefix (p0 : List UInt8) (p1 : List UInt8) : S (M.strings_HasPrefix p0 p1) fun r => ex TB CT A.strings_HasPrefix (Con Tryz.prog GG) (bodyOf Tryz.f57) (entry (I.strings_HasPrefix p0 p1)) (fin TB A.strings_HasPrefix [.tmp 4] (O.strings_HasPrefix r)) := by
  unfold M.strings_HasPrefix
  refine S.k [] [] [] (C.internal_stringslite_HasPrefix p0 p1) rfl trivial trivial rfl fun a_1 => ?_
  refine S.an rfl ?_
  exact S.z ⟨rfl, trivial, trivial, rfl⟩
set_option maxRecDepth 1000000 in
set_option maxHeartbeats 4000000 in
theorem C.strings_HasPrefix (p0 : List UInt8) (p1 : List UInt8) : S (M.strings_HasPrefix p0 p1) fun r => Con Tryz.prog GG 57 (I.strings_HasPrefix p0 p1) (O.strings_HasPrefix r) := by
  intro r hm; exact Con.of TBG (fun _ _ => rfl) Tryz.func57 rfl rfl (res := [.tmp 4]) rfl (by kernel_rfl) rfl rfl rfl (L.strings_HasPrefix p0 p1 r hm)
def A.internal_stringslite_TrimPrefix : Ann := { reg := [(2, [(5, 0, { L := [4], B := [], A := [] })])] }
@[reducible] def I.internal_stringslite_TrimPrefix (p0 : List UInt8) (p1 : List UInt8) : CIn := ⟨[.str p0, .str p1], [], []⟩
@[reducible] def O.internal_stringslite_TrimPrefix : (List UInt8) → COut
  | r => .ok [.str r] [] []
set_option maxRecDepth 1000000 in
set_option maxHeartbeats 4000000 in
theorem L.internal_stringslite_TrimPrefix (p0 : List UInt8) (p1 : List UInt8) : S (M.internal_stringslite_TrimPrefix p0 p1) fun r => ex TB CT A.internal_stringslite_TrimPrefix (Con Tryz.prog GG) (bodyOf Tryz.f52) (entry (I.internal_stringslite_TrimPrefix p0 p1)) (fin TB A.internal_stringslite_TrimPrefix [.tmp 4] (O.internal_stringslite_TrimPrefix r)) := by
  unfold M.internal_stringslite_TrimPrefix
  refine S.k [] [] [] (C.internal_stringslite_HasPrefix p0 p1) rfl trivial trivial rfl fun a_1 => ?_
  refine S.an rfl ?_
  refine S.cb ?_ ?_
  · refine S.e fun s_3 => ?_
    refine S.jp (⟨[(4, .str s_3)], [], [], none⟩) (fun _ => rfl) ?_
    exact S.z ⟨rfl, trivial, trivial, rfl⟩
  · exact S.z ⟨rfl, trivial, trivial, rfl⟩
set_option maxRecDepth 1000000 in
set_option maxHeartbeats 4000000 in
theorem C.internal_stringslite_TrimPrefix (p0 : List UInt8) (p1 : List UInt8) : S (M.internal_stringslite_TrimPrefix p0 p1) fun r => Con Tryz.prog GG 52 (I.internal_stringslite_TrimPrefix p0 p1) (O.internal_stringslite_TrimPrefix r) := by
  intro r hm; exact Con.of TBG (fun _ _ => rfl) Tryz.func52 rfl rfl (res := [.tmp 4]) rfl (by kernel_rfl) rfl rfl rfl (L.internal_stringslite_TrimPrefix p0 p1 r hm)
def A.strings_TrimPrefix : Ann := {}
@[reducible] def I.strings_TrimPrefix (p0 : List UInt8) (p1 : List UInt8) : CIn := ⟨[.str p0, .str p1], [], []⟩
@[reducible] def O.strings_TrimPrefix : (List UInt8) → COut
  | r => .ok [.str r] [] []
set_option maxRecDepth 1000000 in
set_option maxHeartbeats 4000000 in
theorem L.strings_TrimPrefix (p0 : List UInt8) (p1 : List UInt8) : S (M.strings_TrimPrefix p0 p1) fun r => ex TB CT A.strings_TrimPrefix (Con Tryz.prog GG) (bodyOf Tryz.f33) (entry (I.strings_TrimPrefix p0 p1)) (fin TB A.strings_TrimPrefix [.tmp 4] (O.strings_TrimPrefix r)) := by
  unfold M.strings_TrimPrefix
  refine S.k [] [] [] (C.internal_stringslite_TrimPrefix p0 p1) rfl trivial trivial rfl fun a_1 => ?_
  refine S.an rfl ?_
  exact S.z ⟨rfl, trivial, trivial, rfl⟩
set_option maxRecDepth 1000000 in
set_option maxHeartbeats 4000000 in
theorem C.strings_TrimPrefix (p0 : List UInt8) (p1 : List UInt8) : S (M.strings_TrimPrefix p0 p1) fun r => Con Tryz.prog GG 33 (I.strings_TrimPrefix p0 p1) (O.strings_TrimPrefix r) := by
  intro r hm; exact Con.of TBG (fun _ _ => rfl) Tryz.func33 rfl rfl (res := [.tmp 4]) rfl (by kernel_rfl) rfl rfl rfl (L.strings_TrimPrefix p0 p1 r hm)
def A.internal_stringslite_CutPrefix : Ann := { reg := [(3, [(6, 0, { L := [4, 5], B := [], A := [] })])] }
@[reducible] def I.internal_stringslite_CutPrefix (p0 : List UInt8) (p1 : List UInt8) : CIn := ⟨[.str p0, .str p1], [], []⟩
@[reducible] def O.internal_stringslite_CutPrefix : (List UInt8) × Bool → COut
  | r => .ok [.str r.1, .bool r.2] [] []
set_option maxRecDepth 1000000 in
set_option maxHeartbeats 4000000 in
theorem L.internal_stringslite_CutPrefix (p0 : List UInt8) (p1 : List UInt8) : S (M.internal_stringslite_CutPrefix p0 p1) fun r => ex TB CT A.internal_stringslite_CutPrefix (Con Tryz.prog GG) (bodyOf Tryz.f106) (entry (I.internal_stringslite_CutPrefix p0 p1)) (fin TB A.internal_stringslite_CutPrefix [.tmp 4, .tmp 5] (O.internal_stringslite_CutPrefix r)) := by
  unfold M.internal_stringslite_CutPrefix
  refine S.k [] [] [] (C.internal_stringslite_HasPrefix p0 p1) rfl trivial trivial rfl fun a_3 => ?_
  refine S.an rfl ?_
  refine S.cb ?_ ?_
  · exact S.z ⟨rfl, trivial, trivial, rfl⟩
  · refine S.e fun s_5 => ?_
    refine S.jp (⟨[(4, .str s_5), (5, .bool true)], [], [], none⟩) (fun _ => rfl) ?_
    exact S.z ⟨rfl, trivial, trivial, rfl⟩
set_option maxRecDepth 1000000 in
set_option maxHeartbeats 4000000 in
theorem C.internal_stringslite_CutPrefix (p0 : List UInt8) (p1 : List UInt8) : S (M.internal_stringslite_CutPrefix p0 p1) fun r => Con Tryz.prog GG 106 (I.internal_stringslite_CutPrefix p0 p1) (O.internal_stringslite_CutPrefix r) := by
  intro r hm; exact Con.of TBG (fun _ _ => rfl) Tryz.func106 rfl rfl (res := [.tmp 4, .tmp 5]) rfl (by kernel_rfl) rfl rfl rfl (L.internal_stringslite_CutPrefix p0 p1 r hm)
def A.strings_CutPrefix : Ann := {}
@[reducible] def I.strings_CutPrefix (p0 : List UInt8) (p1 : List UInt8) : CIn := ⟨[.str p0, .str p1], [], []⟩
@[reducible] def O.strings_CutPrefix : (List UInt8) × Bool → COut
  | r => .ok [.str r.1, .bool r.2] [] []
set_option maxRecDepth 1000000 in
set_option maxHeartbeats 4000000 in
theorem L.strings_CutPrefix (p0 : List UInt8) (p1 : List UInt8) : S (M.strings_CutPrefix p0 p1) fun r => ex TB CT A.strings_CutPrefix (Con Tryz.prog GG) (bodyOf Tryz.f86) (entry (I.strings_CutPrefix p0 p1)) (fin TB A.strings_CutPrefix [.tmp 4, .tmp 5] (O.strings_CutPrefix r)) := by
  unfold M.strings_CutPrefix
  refine S.k [] [] [] (C.internal_stringslite_CutPrefix p0 p1) rfl trivial trivial rfl fun a_1 => ?_
  refine S.an rfl ?_
  exact S.z ⟨rfl, trivial, trivial, rfl⟩
set_option maxRecDepth 1000000 in
set_option maxHeartbeats 4000000 in
theorem C.strings_CutPrefix (p0 : List UInt8) (p1 : List UInt8) : S (M.strings_CutPrefix p0 p1) fun r => Con Tryz.prog GG 86 (I.strings_CutPrefix p0 p1) (O.strings_CutPrefix r) := by
  intro r hm; exact Con.of TBG (fun _ _ => rfl) Tryz.func86 rfl rfl (res := [.tmp 4, .tmp 5]) rfl (by kernel_rfl) rfl rfl rfl (L.strings_CutPrefix p0 p1 r hm)
def A.slices_Index_string_string : Ann := { seq := [(7, { L := [], B := [], A := [] })], loop := [(2, { L := [0, 1, 7, 8], B := [], A := [] })] }
@[reducible] def I.slices_Index_string_string (p0 : List (List UInt8)) (p1 : List UInt8) : CIn := ⟨[.sl 9 1 (p0.map eS), .str p1], [], []⟩
@[reducible] def O.slices_Index_string_string : Int → COut
  | r => .ok [.int .i64 r] [] []
set_option maxRecDepth 1000000 in
set_option maxHeartbeats 4000000 in
theorem L.slices_Index_string_string (p0 : List (List UInt8)) (p1 : List UInt8) : S (M.slices_Index_string_string p0 p1) fun r => ex TB CT A.slices_Index_string_string (Con Tryz.prog GG) (bodyOf Tryz.f32) (entry (I.slices_Index_string_string p0 p1)) (fin TB A.slices_Index_string_string [.tmp 4] (O.slices_Index_string_string r)) := by
  unfold M.slices_Index_string_string
  refine S.jn (fun _ => ⟨[], [], [], none⟩) ?_ (fun _ => rfl) fun j_5 => ?_
  · refine S.eq lenD_map ?_
    refine S.lw (L := M.slices_Index_string_string_k1 p0 p1) (fun x_7 => ⟨[(0, .sl 9 1 (p0.map eS)), (1, .str p1), (7, .int .i64 (p0.length : Int)), (8, .int .i64 x_7)], [], [], none⟩) (M.slices_Index_string_string_k1.partial_correctness p0 p1) rfl fun f_slices_Index_string_string_k1 I_slices_Index_string_string_k1 ih_slices_Index_string_string_k1 x_7 => ?_
    refine S.cb ?_ ?_
    · refine S.ixE (f := eS) (c := fun x => [D.str x]) (fun _ => rfl) rfl (fun _ => rfl) fun x_9 => ?_
      refine S.cb ?_ ?_
      · exact S.z ⟨rfl, trivial, trivial, rfl⟩
      · exact ih_slices_Index_string_string_k1 _
    · exact S.z rfl
  · exact S.z ⟨rfl, trivial, trivial, rfl⟩
set_option maxRecDepth 1000000 in
set_option maxHeartbeats 4000000 in
theorem C.slices_Index_string_string (p0 : List (List UInt8)) (p1 : List UInt8) : S (M.slices_Index_string_string p0 p1) fun r => Con Tryz.prog GG 32 (I.slices_Index_string_string p0 p1) (O.slices_Index_string_string r) := by
  intro r hm; exact Con.of TBG (fun _ _ => rfl) Tryz.func32 rfl rfl (res := [.tmp 4]) rfl (by kernel_rfl) rfl rfl rfl (L.slices_Index_string_string p0 p1 r hm)
def A.slices_Contains_string_string : Ann := {}
@[reducible] def I.slices_Contains_string_string (p0 : List (List UInt8)) (p1 : List UInt8) : CIn := ⟨[.sl 9 1 (p0.map eS), .str p1], [], []⟩
@[reducible] def O.slices_Contains_string_string : Bool → COut
  | r => .ok [.bool r] [] []
set_option maxRecDepth 1000000 in
set_option maxHeartbeats 4000000 in
theorem L.slices_Contains_string_string (p0 : List (List UInt8)) (p1 : List UInt8) : S (M.slices_Contains_string_string p0 p1) fun r => ex TB CT A.slices_Contains_string_string (Con Tryz.prog GG) (bodyOf Tryz.f88) (entry (I.slices_Contains_string_string p0 p1)) (fin TB A.slices_Contains_string_string [.tmp 4] (O.slices_Contains_string_string r)) := by
  unfold M.slices_Contains_string_string
  refine S.k [] [] [] (C.slices_Index_string_string p0 p1) rfl trivial trivial rfl fun a_1 => ?_
  refine S.an rfl ?_
  exact S.z ⟨rfl, trivial, trivial, rfl⟩
set_option maxRecDepth 1000000 in
set_option maxHeartbeats 4000000 in
theorem C.slices_Contains_string_string (p0 : List (List UInt8)) (p1 : List UInt8) : S (M.slices_Contains_string_string p0 p1) fun r => Con Tryz.prog GG 88 (I.slices_Contains_string_string p0 p1) (O.slices_Contains_string_string r) := by
  intro r hm; exact Con.of TBG (fun _ _ => rfl) Tryz.func88 rfl rfl (res := [.tmp 4]) rfl (by kernel_rfl) rfl rfl rfl (L.slices_Contains_string_string p0 p1 r hm)
def A.json_checked_1 : Ann := {}
@[reducible] def I.json_checked_1 (p0 : List UInt8) : CIn := ⟨[.str p0], [], []⟩
@[reducible] def O.json_checked_1 : Bool → COut
  | r => .ok [.bool r] [] []
set_option maxRecDepth 1000000 in
set_option maxHeartbeats 4000000 in
theorem L.json_checked_1 (p0 : List UInt8) : S (M.json_checked_1 p0) fun r => ex TB CT A.json_checked_1 (Con Tryz.prog GG) (bodyOf Tryz.f43) (entry (I.json_checked_1 p0)) (fin TB A.json_checked_1 [.tmp 2] (O.json_checked_1 r)) := by
  unfold M.json_checked_1
  refine S.k [] [] [] (C.validString p0) rfl trivial trivial rfl fun a_1 => ?_
  refine S.an rfl ?_
  exact S.z ⟨rfl, trivial, trivial, rfl⟩
set_option maxRecDepth 1000000 in
set_option maxHeartbeats 4000000 in
theorem C.json_checked_1 (p0 : List UInt8) : S (M.json_checked_1 p0) fun r => Con Tryz.prog GG 43 (I.json_checked_1 p0) (O.json_checked_1 r) := by
  intro r hm; exact Con.of TBG (fun _ _ => rfl) Tryz.func43 rfl rfl (res := [.tmp 2]) rfl (by kernel_rfl) rfl rfl rfl (L.json_checked_1 p0 r hm)
def A.slices_IndexFunc_string_string : Ann := { seq := [(7, { L := [], B := [], A := [] })], loop := [(2, { L := [0, 1, 7, 8], B := [], A := [] })], reg := [(5, [(2, 0, { L := [4], B := [], A := [] })]), (6, [(2, 0, { L := [0, 1, 7, 8], B := [], A := [] })])] }
@[reducible] def I.slices_IndexFunc_string_string (p0 : List (List UInt8)) : CIn := ⟨[.sl 9 1 (p0.map eS), .fn 43 [] []], [], []⟩
@[reducible] def O.slices_IndexFunc_string_string : Int → COut
  | r => .ok [.int .i64 r] [] []
set_option maxRecDepth 1000000 in
set_option maxHeartbeats 4000000 in
theorem L.slices_IndexFunc_string_string (p0 : List (List UInt8)) : S (M.slices_IndexFunc_string_string p0) fun r => ex TB CT A.slices_IndexFunc_string_string (Con Tryz.prog GG) (bodyOf Tryz.f66) (entry (I.slices_IndexFunc_string_string p0)) (fin TB A.slices_IndexFunc_string_string [.tmp 4] (O.slices_IndexFunc_string_string r)) := by
  unfold M.slices_IndexFunc_string_string
  refine S.jn (fun _ => ⟨[], [], [], none⟩) ?_ (fun _ => rfl) fun j_11 => ?_
  · refine S.eq lenD_map ?_
    refine S.lw (L := M.slices_IndexFunc_string_string_k1 p0) (fun x_15 => ⟨[(0, .sl 9 1 (p0.map eS)), (1, .fn 43 [] []), (7, .int .i64 (p0.length : Int)), (8, .int .i64 x_15)], [], [], none⟩) (M.slices_IndexFunc_string_string_k1.partial_correctness p0) rfl fun f_slices_IndexFunc_string_string_k1 I_slices_IndexFunc_string_string_k1 ih_slices_IndexFunc_string_string_k1 x_15 => ?_
    refine S.cb ?_ ?_
    · refine S.ixE (f := eS) (c := fun x => [D.str x]) (fun _ => rfl) rfl (fun _ => rfl) fun x_19 => ?_
      refine S.k [] [] [] (C.json_checked_1 x_19) rfl trivial trivial rfl fun a_20 => ?_
      refine S.an rfl ?_
      refine S.cb ?_ ?_
      · refine S.jp (⟨[(4, .int .i64 x_15)], [], [], none⟩) (fun _ => rfl) ?_
        exact S.z ⟨rfl, trivial, trivial, rfl⟩
      · refine S.jp (⟨[(0, .sl 9 1 (p0.map eS)), (1, .fn 43 [] []), (7, .int .i64 (p0.length : Int)), (8, .int .i64 (IntKind.wrap .i64 (x_15 + 1)))], [], [], none⟩) (fun _ => rfl) ?_
        exact ih_slices_IndexFunc_string_string_k1 _
    · exact S.z rfl
  · exact S.z ⟨rfl, trivial, trivial, rfl⟩
set_option maxRecDepth 1000000 in
set_option maxHeartbeats 4000000 in
theorem C.slices_IndexFunc_string_string (p0 : List (List UInt8)) : S (M.slices_IndexFunc_string_string p0) fun r => Con Tryz.prog GG 66 (I.slices_IndexFunc_string_string p0) (O.slices_IndexFunc_string_string r) := by
  intro r hm; exact Con.of TBG (fun _ _ => rfl) Tryz.func66 rfl rfl (res := [.tmp 4]) rfl (by kernel_rfl) rfl rfl rfl (L.slices_IndexFunc_string_string p0 r hm)
def A.slices_ContainsFunc_string_string : Ann := {}
@[reducible] def I.slices_ContainsFunc_string_string (p0 : List (List UInt8)) : CIn := ⟨[.sl 9 1 (p0.map eS), .fn 43 [] []], [], []⟩
@[reducible] def O.slices_ContainsFunc_string_string : Bool → COut
  | r => .ok [.bool r] [] []
set_option maxRecDepth 1000000 in
set_option maxHeartbeats 4000000 in
theorem L.slices_ContainsFunc_string_string (p0 : List (List UInt8)) : S (M.slices_ContainsFunc_string_string p0) fun r => ex TB CT A.slices_ContainsFunc_string_string (Con Tryz.prog GG) (bodyOf Tryz.f42) (entry (I.slices_ContainsFunc_string_string p0)) (fin TB A.slices_ContainsFunc_string_string [.tmp 4] (O.slices_ContainsFunc_string_string r)) := by
  unfold M.slices_ContainsFunc_string_string
  refine S.k [] [] [] (C.slices_IndexFunc_string_string p0) rfl trivial trivial rfl fun a_1 => ?_
  refine S.an rfl ?_
  exact S.z ⟨rfl, trivial, trivial, rfl⟩
set_option maxRecDepth 1000000 in
set_option maxHeartbeats 4000000 in
theorem C.slices_ContainsFunc_string_string (p0 : List (List UInt8)) : S (M.slices_ContainsFunc_string_string p0) fun r => Con Tryz.prog GG 42 (I.slices_ContainsFunc_string_string p0) (O.slices_ContainsFunc_string_string r) := by
  intro r hm; exact Con.of TBG (fun _ _ => rfl) Tryz.func42 rfl rfl (res := [.tmp 4]) rfl (by kernel_rfl) rfl rfl rfl (L.slices_ContainsFunc_string_string p0 r hm)
def A.internal_strconv_lower : Ann := {}
@[reducible] def I.internal_strconv_lower (p0 : Int) : CIn := ⟨[.int .u8 p0], [], []⟩
@[reducible] def O.internal_strconv_lower : Int → COut
  | r => .ok [.int .u8 r] [] []
set_option maxRecDepth 1000000 in
set_option maxHeartbeats 4000000 in
theorem L.internal_strconv_lower (p0 : Int) : S (M.internal_strconv_lower p0) fun r => ex TB CT A.internal_strconv_lower (Con Tryz.prog GG) (bodyOf Tryz.f114) (entry (I.internal_strconv_lower p0)) (fin TB A.internal_strconv_lower [.tmp 2] (O.internal_strconv_lower r)) := by
  unfold M.internal_strconv_lower
  exact S.z ⟨rfl, trivial, trivial, rfl⟩
set_option maxRecDepth 1000000 in
set_option maxHeartbeats 4000000 in
theorem C.internal_strconv_lower (p0 : Int) : S (M.internal_strconv_lower p0) fun r => Con Tryz.prog GG 114 (I.internal_strconv_lower p0) (O.internal_strconv_lower r) := by
  intro r hm; exact Con.of TBG (fun _ _ => rfl) Tryz.func114 rfl rfl (res := [.tmp 2]) rfl (by kernel_rfl) rfl rfl rfl (L.internal_strconv_lower p0 r hm)
def A.internal_strconv_ParseUint : Ann := { seq := [(21, { L := [0, 1, 2, 8, 9], B := [], A := [] }), (25, { L := [0, 1, 2, 8, 9], B := [], A := [] }), (32, { L := [0, 1, 2, 8, 9, 10], B := [], A := [] }), (46, { L := [1, 8, 9, 10, 11, 12, 13, 16, 99, 100, 101], B := [], A := [] }), (56, { L := [9, 12, 13], B := [], A := [] })], loop := [(36, { L := [1, 8, 9, 10, 11, 12, 13, 99, 100, 101], B := [], A := [] })], reg := [(6, [(3, 3, { L := [0, 1, 2, 8, 9, 31], B := [], A := [] })]), (12, [(4, 5, { L := [0, 2, 8, 9, 49], B := [], A := [] })]), (15, [(4, 5, { L := [0, 2, 8, 9, 61], B := [], A := [] })]), (18, [(4, 5, { L := [0, 2, 8, 9, 73], B := [], A := [] })]), (23, [(3, 3, { L := [0, 1, 2, 8, 9, 83], B := [], A := [] })]), (40, [(3, 2, { L := [1, 8, 9, 10, 11, 12, 13, 15, 99, 100, 101, 111], B := [], A := [] })]), (42, [(3, 3, { L := [1, 8, 9, 10, 11, 12, 13, 15, 99, 100, 101, 118], B := [], A := [] })]), (44, [(4, 4, { L := [1, 8, 9, 10, 11, 12, 13, 15, 99, 100, 101, 129], B := [], A := [] })]), (52, [(4, 4, { L := [1, 8, 9, 10, 11, 12, 17, 99, 100, 101, 159], B := [], A := [] })]), (56, [(2, 4, { L := [13, 169], B := [], A := [] })])] }
@[reducible] def I.internal_strconv_ParseUint (p0 : List UInt8) (p1 : Int) (p2 : Int) : CIn := ⟨[.str p0, .int .i64 p1, .int .i64 p2], [], []⟩
@[reducible] def O.internal_strconv_ParseUint : Int × Bool → COut
  | r => .ok [.int .u64 r.1, .err r.2] [] []
set_option maxRecDepth 1000000 in
set_option maxHeartbeats 4000000 in
theorem L.internal_strconv_ParseUint (p0 : List UInt8) (p1 : Int) (p2 : Int) : S (M.internal_strconv_ParseUint p0 p1 p2) fun r => ex TB CT A.internal_strconv_ParseUint (Con Tryz.prog GG) (bodyOf Tryz.f96) (entry (I.internal_strconv_ParseUint p0 p1 p2)) (fin TB A.internal_strconv_ParseUint [.tmp 6, .tmp 7] (O.internal_strconv_ParseUint r)) := by
  unfold M.internal_strconv_ParseUint
  refine S.cb ?_ ?_
  · exact S.z ⟨rfl, trivial, trivial, rfl⟩
  · refine S.jn (fun j_65 => ⟨[(0, .str j_65.1), (1, .int .i64 j_65.2), (2, .int .i64 p2), (8, .bool (decide (p1 = 0))), (9, .str p0)], [], [], none⟩) ?_ (fun _ => rfl) fun j_65 => ?_
    · refine S.jb (v := ((decide (2 ≤ p1)) && (decide (p1 ≤ 36)))) (fun x_66 => ⟨[(0, .str p0), (1, .int .i64 p1), (2, .int .i64 p2), (8, .bool (decide (p1 = 0))), (9, .str p0), (31, .bool x_66)], [], [], none⟩) (fun r => ?_) ?_
      · refine cnd (fun h_67 => ?_) (fun h_67 => ?_)
        · exact jbI rfl (and_t h_67 rfl)
        · exact jbI rfl (and_f h_67)
      · refine S.cb ?_ ?_
        · exact S.z rfl
        · refine S.cb ?_ ?_
          · refine S.e fun c_68 => ?_
            refine S.cb ?_ ?_
            · refine S.j (fun j_73 => ⟨[(0, .str p0), (2, .int .i64 p2), (8, .bool (decide (p1 = 0))), (9, .str p0), (49, .bool j_73)], [], [], none⟩) (fun r => ?_) fun j_73 => ?_
              · refine S.cb ?_ ?_
                · refine S.e fun c_74 => ?_
                  refine S.k [] [] [] (C.internal_strconv_lower (c_74.toNat : Int)) rfl trivial trivial rfl fun a_75 => ?_
                  refine S.an rfl ?_
                  exact S.z rfl
                · exact S.z rfl
              · refine S.cb ?_ ?_
                · refine S.e fun s_77 => ?_
                  exact S.z rfl
                · refine S.j (fun j_82 => ⟨[(0, .str p0), (2, .int .i64 p2), (8, .bool (decide (p1 = 0))), (9, .str p0), (61, .bool j_82)], [], [], none⟩) (fun r => ?_) fun j_82 => ?_
                  · refine S.cb ?_ ?_
                    · refine S.e fun c_83 => ?_
                      refine S.k [] [] [] (C.internal_strconv_lower (c_83.toNat : Int)) rfl trivial trivial rfl fun a_84 => ?_
                      refine S.an rfl ?_
                      exact S.z rfl
                    · exact S.z rfl
                  · refine S.cb ?_ ?_
                    · refine S.e fun s_86 => ?_
                      exact S.z rfl
                    · refine S.j (fun j_91 => ⟨[(0, .str p0), (2, .int .i64 p2), (8, .bool (decide (p1 = 0))), (9, .str p0), (73, .bool j_91)], [], [], none⟩) (fun r => ?_) fun j_91 => ?_
                      · refine S.cb ?_ ?_
                        · refine S.e fun c_92 => ?_
                          refine S.k [] [] [] (C.internal_strconv_lower (c_92.toNat : Int)) rfl trivial trivial rfl fun a_93 => ?_
                          refine S.an rfl ?_
                          exact S.z rfl
                        · exact S.z rfl
                      · refine S.cb ?_ ?_
                        · refine S.e fun s_95 => ?_
                          exact S.z rfl
                        · refine S.e fun s_96 => ?_
                          exact S.z rfl
            · exact S.z rfl
          · exact S.z ⟨rfl, trivial, trivial, rfl⟩
    · refine S.jn (fun j_102 => ⟨[(0, .str j_65.1), (1, .int .i64 j_65.2), (2, .int .i64 j_102), (8, .bool (decide (p1 = 0))), (9, .str p0)], [], [], none⟩) ?_ (fun _ => rfl) fun j_102 => ?_
      · refine S.cb ?_ ?_
        · exact S.z rfl
        · refine S.jb (v := ((decide (p2 < 0)) || (decide (64 < p2)))) (fun x_103 => ⟨[(0, .str j_65.1), (1, .int .i64 j_65.2), (2, .int .i64 p2), (8, .bool (decide (p1 = 0))), (9, .str p0), (83, .bool x_103)], [], [], none⟩) (fun r => ?_) ?_
          · refine cnd (fun h_104 => ?_) (fun h_104 => ?_)
            · exact jbI rfl (or_t h_104)
            · exact jbI rfl (or_f h_104 rfl)
          · refine S.cb ?_ ?_
            · exact S.z ⟨rfl, trivial, trivial, rfl⟩
            · exact S.z rfl
      · refine S.j (fun j_106 => ⟨[(0, .str j_65.1), (1, .int .i64 j_65.2), (2, .int .i64 j_102), (8, .bool (decide (p1 = 0))), (9, .str p0), (10, .int .u64 j_106)], [], [], none⟩) (fun r => ?_) fun j_106 => ?_
        · refine S.cb ?_ ?_
          · exact S.z rfl
          · refine S.cb ?_ ?_
            · exact S.z rfl
            · refine S.e fun _ => ?_
              exact S.z rfl
        · refine S.e fun _ => ?_
          refine S.jn (fun j_253 => ⟨[(9, .str p0), (12, .bool j_253.1), (13, .int .u64 j_253.2)], [], [], none⟩) ?_ (fun _ => rfl) fun j_253 => ?_
          · refine S.e fun _ => ?_
            refine S.eq lenD_map ?_
            refine S.lw3 (L := M.internal_strconv_ParseUint_k1 j_65 p1 j_106 j_102) (fun x_301 x_302 x_303 => ⟨[(1, .int .i64 j_65.2), (8, .bool (decide (p1 = 0))), (9, .str p0), (10, .int .u64 j_106), (11, .int .u64 (IntKind.wrap .u64 ((shlI .u64 1 (IntKind.wrap .u64 j_102)) - 1))), (12, .bool x_301), (13, .int .u64 x_302), (99, .sl 5 1 ((unb j_65.1).map (eI .u8))), (100, .int .i64 ((unb j_65.1).length : Int)), (101, .int .i64 x_303)], [], [], none⟩) (M.internal_strconv_ParseUint_k1.partial_correctness j_65 p1 j_106 j_102) rfl fun f_internal_strconv_ParseUint_k1 I_internal_strconv_ParseUint_k1 ih_internal_strconv_ParseUint_k1 x_301 x_302 x_303 => ?_
            refine S.cb ?_ ?_
            · refine S.ixE (f := (eI .u8)) (c := fun x => [D.int .u8 x]) (fun _ => rfl) rfl (fun _ => rfl) fun x_351 => ?_
              refine S.jn (fun j_381 => ⟨[(1, .int .i64 j_65.2), (8, .bool (decide (p1 = 0))), (9, .str p0), (10, .int .u64 j_106), (11, .int .u64 (IntKind.wrap .u64 ((shlI .u64 1 (IntKind.wrap .u64 j_102)) - 1))), (12, .bool x_301), (13, .int .u64 x_302), (16, .int .u8 j_381), (99, .sl 5 1 ((unb j_65.1).map (eI .u8))), (100, .int .i64 ((unb j_65.1).length : Int)), (101, .int .i64 x_303)], [], [], none⟩) ?_ (fun _ => rfl) fun j_381 => ?_
              · refine S.jb (v := ((decide (x_351 = 95)) && (decide (p1 = 0)))) (fun x_382 => ⟨[(1, .int .i64 j_65.2), (8, .bool (decide (p1 = 0))), (9, .str p0), (10, .int .u64 j_106), (11, .int .u64 (IntKind.wrap .u64 ((shlI .u64 1 (IntKind.wrap .u64 j_102)) - 1))), (12, .bool x_301), (13, .int .u64 x_302), (15, .int .u8 x_351), (99, .sl 5 1 ((unb j_65.1).map (eI .u8))), (100, .int .i64 ((unb j_65.1).length : Int)), (101, .int .i64 x_303), (111, .bool x_382)], [], [], none⟩) (fun r => ?_) ?_
                · refine cnd (fun h_383 => ?_) (fun h_383 => ?_)
                  · exact jbI rfl (and_t h_383 rfl)
                  · exact jbI rfl (and_f h_383)
                · refine S.cb ?_ ?_
                  · refine S.dn ?_
                    exact ih_internal_strconv_ParseUint_k1 _ _ _
                  · refine S.jb (v := ((decide (48 ≤ x_351)) && (decide (x_351 ≤ 57)))) (fun x_384 => ⟨[(1, .int .i64 j_65.2), (8, .bool (decide (p1 = 0))), (9, .str p0), (10, .int .u64 j_106), (11, .int .u64 (IntKind.wrap .u64 ((shlI .u64 1 (IntKind.wrap .u64 j_102)) - 1))), (12, .bool x_301), (13, .int .u64 x_302), (15, .int .u8 x_351), (99, .sl 5 1 ((unb j_65.1).map (eI .u8))), (100, .int .i64 ((unb j_65.1).length : Int)), (101, .int .i64 x_303), (118, .bool x_384)], [], [], none⟩) (fun r => ?_) ?_
                    · refine cnd (fun h_385 => ?_) (fun h_385 => ?_)
                      · exact jbI rfl (and_t h_385 rfl)
                      · exact jbI rfl (and_f h_385)
                    · refine S.cb ?_ ?_
                      · exact S.z rfl
                      · refine S.k [] [] [] (C.internal_strconv_lower x_351) rfl trivial trivial rfl fun a_386 => ?_
                        refine S.an rfl ?_
                        refine S.j (fun j_391 => ⟨[(1, .int .i64 j_65.2), (8, .bool (decide (p1 = 0))), (9, .str p0), (10, .int .u64 j_106), (11, .int .u64 (IntKind.wrap .u64 ((shlI .u64 1 (IntKind.wrap .u64 j_102)) - 1))), (12, .bool x_301), (13, .int .u64 x_302), (15, .int .u8 x_351), (99, .sl 5 1 ((unb j_65.1).map (eI .u8))), (100, .int .i64 ((unb j_65.1).length : Int)), (101, .int .i64 x_303), (129, .bool j_391)], [], [], none⟩) (fun r => ?_) fun j_391 => ?_
                        · refine S.cb ?_ ?_
                          · refine S.k [] [] [] (C.internal_strconv_lower x_351) rfl trivial trivial rfl fun a_392 => ?_
                            refine S.an rfl ?_
                            exact S.z rfl
                          · exact S.z rfl
                        · refine S.cb ?_ ?_
                          · refine S.k [] [] [] (C.internal_strconv_lower x_351) rfl trivial trivial rfl fun a_394 => ?_
                            refine S.an rfl ?_
                            exact S.z rfl
                          · exact S.z ⟨rfl, trivial, trivial, rfl⟩
              · refine S.cb ?_ ?_
                · exact S.z ⟨rfl, trivial, trivial, rfl⟩
                · refine S.cb ?_ ?_
                  · exact S.z ⟨rfl, trivial, trivial, rfl⟩
                  · refine S.jb (v := ((decide ((IntKind.wrap .u64 ((IntKind.wrap .u64 (x_302 * (IntKind.wrap .u64 j_65.2))) + (IntKind.wrap .u64 j_381))) < (IntKind.wrap .u64 (x_302 * (IntKind.wrap .u64 j_65.2))))) || (decide ((IntKind.wrap .u64 ((shlI .u64 1 (IntKind.wrap .u64 j_102)) - 1)) < (IntKind.wrap .u64 ((IntKind.wrap .u64 (x_302 * (IntKind.wrap .u64 j_65.2))) + (IntKind.wrap .u64 j_381))))))) (fun x_396 => ⟨[(1, .int .i64 j_65.2), (8, .bool (decide (p1 = 0))), (9, .str p0), (10, .int .u64 j_106), (11, .int .u64 (IntKind.wrap .u64 ((shlI .u64 1 (IntKind.wrap .u64 j_102)) - 1))), (12, .bool x_301), (17, .int .u64 (IntKind.wrap .u64 ((IntKind.wrap .u64 (x_302 * (IntKind.wrap .u64 j_65.2))) + (IntKind.wrap .u64 j_381)))), (99, .sl 5 1 ((unb j_65.1).map (eI .u8))), (100, .int .i64 ((unb j_65.1).length : Int)), (101, .int .i64 x_303), (159, .bool x_396)], [], [], none⟩) (fun r => ?_) ?_
                    · refine cnd (fun h_397 => ?_) (fun h_397 => ?_)
                      · exact jbI rfl (or_t h_397)
                      · exact jbI rfl (or_f h_397 rfl)
                    · refine S.cb ?_ ?_
                      · exact S.z ⟨rfl, trivial, trivial, rfl⟩
                      · exact ih_internal_strconv_ParseUint_k1 _ _ _
            · exact S.z rfl
          · refine S.j (fun _ => ⟨[(13, .int .u64 j_253.2), (169, .bool false)], [], [], none⟩) (fun r => ?_) fun j_398 => ?_
            · refine S.cb ?_ ?_
              · exact fun _ h => by cases h
              · exact S.z rfl
            · exact S.z ⟨rfl, trivial, trivial, rfl⟩
set_option maxRecDepth 1000000 in
set_option maxHeartbeats 4000000 in
theorem C.internal_strconv_ParseUint (p0 : List UInt8) (p1 : Int) (p2 : Int) : S (M.internal_strconv_ParseUint p0 p1 p2) fun r => Con Tryz.prog GG 96 (I.internal_strconv_ParseUint p0 p1 p2) (O.internal_strconv_ParseUint r) := by
  intro r hm; exact Con.of TBG (fun _ _ => rfl) Tryz.func96 rfl rfl (res := [.tmp 6, .tmp 7]) rfl (by kernel_rfl) rfl rfl rfl (L.internal_strconv_ParseUint p0 p1 p2 r hm)
def A.strconv_ParseUint : Ann := { reg := [(1, [(9, 0, { L := [0, 1, 2, 8, 9], B := [], A := [] })])] }
@[reducible] def I.strconv_ParseUint (p0 : List UInt8) (p1 : Int) (p2 : Int) : CIn := ⟨[.str p0, .int .i64 p1, .int .i64 p2], [], []⟩
@[reducible] def O.strconv_ParseUint : Int × Bool → COut
  | r => .ok [.int .u64 r.1, .err r.2] [] []
set_option maxRecDepth 1000000 in
set_option maxHeartbeats 4000000 in
theorem L.strconv_ParseUint (p0 : List UInt8) (p1 : Int) (p2 : Int) : S (M.strconv_ParseUint p0 p1 p2) fun r => ex TB CT A.strconv_ParseUint (Con Tryz.prog GG) (bodyOf Tryz.f124) (entry (I.strconv_ParseUint p0 p1 p2)) (fin TB A.strconv_ParseUint [.tmp 6, .tmp 7] (O.strconv_ParseUint r)) := by
  unfold M.strconv_ParseUint
  refine S.k [] [] [] (C.internal_strconv_ParseUint p0 p1 p2) rfl trivial trivial rfl fun a_1 => ?_
  refine S.an rfl ?_
  refine S.jp (⟨[(0, .str p0), (1, .int .i64 p1), (2, .int .i64 p2), (8, .int .u64 a_1.1), (9, .err a_1.2)], [], [], none⟩) (fun _ => rfl) ?_
  refine S.cb ?_ ?_
  · exact fun _ h => by cases h
  · exact S.z ⟨rfl, trivial, trivial, rfl⟩
set_option maxRecDepth 1000000 in
set_option maxHeartbeats 4000000 in
theorem C.strconv_ParseUint (p0 : List UInt8) (p1 : Int) (p2 : Int) : S (M.strconv_ParseUint p0 p1 p2) fun r => Con Tryz.prog GG 124 (I.strconv_ParseUint p0 p1 p2) (O.strconv_ParseUint r) := by
  intro r hm; exact Con.of TBG (fun _ _ => rfl) Tryz.func124 rfl rfl (res := [.tmp 6, .tmp 7]) rfl (by kernel_rfl) rfl rfl rfl (L.strconv_ParseUint p0 p1 p2 r hm)
def A.word : Ann := { drw := [(1, { anc := [0, 1, 3, 7, 0, 16, 48, 112, 240, 511, 0, 1024, 3072, 7168, 15360, 32767, 0, 65536, 196608, 458752, 983040, 2097151, 4194303], E := [], qs := [0, 1, 2, 3, 4, 5, 6, 7, 8, 9, 10, 11, 12, 13, 14, 15, 16, 17, 18, 19, 20, 21, 22], g := .fin }), (2, { anc := [0, 1, 3, 7, 0, 16, 48, 112, 240, 511, 0, 1024, 3072, 7168, 15360, 32767, 0, 65536, 196608, 458752, 983040, 2097151, 0, 4194304, 12582912, 29360128, 62914560, 134217727, 0, 268435456, 805306368, 1879048192, 4026531840, 8589934591, 0, 17179869184, 51539607552, 120259084288, 257698037760, 549755813887, 0, 1099511627776, 3298534883328, 7696581394432, 16492674416640, 35184372088831, 70368744177663], E := [], qs := [0, 1, 2, 3, 4, 5, 6, 7, 8, 9, 10, 11, 12, 13, 14, 15, 16, 17, 18, 19, 20, 21, 22, 23, 24, 25, 26, 27, 28, 29, 30, 31, 32, 33, 34, 35, 36, 37, 38, 39, 40, 41, 42, 43, 44, 45, 46], g := .fin })] }
@[reducible] def I.word (p0 : List Int) : CIn := ⟨[.sl 5 1 (p0.map (eI .u8))], [], []⟩
@[reducible] def O.word : Int → COut
  | r => .ok [.int .u64 r] [] []
set_option maxRecDepth 1000000 in
set_option maxHeartbeats 4000000 in
theorem L.word (p0 : List Int) : S (M.word p0) fun r => ex TB CT A.word (Con Tryz.prog GG) (bodyOf Tryz.f108) (entry (I.word p0)) (fin TB A.word [.tmp 2] (O.word r)) := by
  unfold M.word
  refine S.ixE (f := (eI .u8)) (c := fun x => [D.int .u8 x]) (fun _ => rfl) rfl (fun _ => rfl) fun x_1 => ?_
  refine S.ixE (f := (eI .u8)) (c := fun x => [D.int .u8 x]) (fun _ => rfl) rfl (fun _ => rfl) fun x_2 => ?_
  refine S.eq (by decide : chk _ = some ()) ?_
  refine S.ixE (f := (eI .u8)) (c := fun x => [D.int .u8 x]) (fun _ => rfl) rfl (fun _ => rfl) fun x_3 => ?_
  refine S.eq (by decide : chk _ = some ()) ?_
  refine S.ixE (f := (eI .u8)) (c := fun x => [D.int .u8 x]) (fun _ => rfl) rfl (fun _ => rfl) fun x_4 => ?_
  refine S.eq (by decide : chk _ = some ()) ?_
  refine S.ixE (f := (eI .u8)) (c := fun x => [D.int .u8 x]) (fun _ => rfl) rfl (fun _ => rfl) fun x_5 => ?_
  refine S.eq (by decide : chk _ = some ()) ?_
  refine S.ixE (f := (eI .u8)) (c := fun x => [D.int .u8 x]) (fun _ => rfl) rfl (fun _ => rfl) fun x_6 => ?_
  refine S.eq (by decide : chk _ = some ()) ?_
  refine S.ixE (f := (eI .u8)) (c := fun x => [D.int .u8 x]) (fun _ => rfl) rfl (fun _ => rfl) fun x_7 => ?_
  refine S.eq (by decide : chk _ = some ()) ?_
  refine S.ixE (f := (eI .u8)) (c := fun x => [D.int .u8 x]) (fun _ => rfl) rfl (fun _ => rfl) fun x_8 => ?_
  refine S.eq (by decide : chk _ = some ()) ?_
  refine S.an trivial ?_
  exact S.z ⟨rfl, trivial, trivial, rfl⟩
set_option maxRecDepth 1000000 in
set_option maxHeartbeats 4000000 in
theorem C.word (p0 : List Int) : S (M.word p0) fun r => Con Tryz.prog GG 108 (I.word p0) (O.word r) := by
  intro r hm; exact Con.of TBG (fun _ _ => rfl) Tryz.func108 rfl rfl (res := [.tmp 2]) rfl (by kernel_rfl) rfl rfl rfl (L.word p0 r hm)
def A.valid : Ann := { seq := [(9, { L := [0, 46], B := [], A := [] }), (12, { L := [0, 3], B := [], A := [] }), (29, { L := [], B := [], A := [] }), (1000001, { L := [0], B := [], A := [] })], loop := [(2, { L := [0], B := [], A := [] }), (10, { L := [0], B := [], A := [] })], reg := [(6, [(4, 5, { L := [0, 31], B := [], A := [] })]), (11, [(3, 0, { L := [0], B := [], A := [] })]), (17, [(2, 0, { L := [0, 6, 82, 83], B := [1006], A := [] })]), (20, [(3, 0, { L := [0], B := [], A := [] })]), (24, [(3, 0, { L := [0], B := [], A := [] })]), (28, [(3, 0, { L := [0], B := [], A := [] })])], drw := [(8, { anc := [0, 1, 3, 7, 15, 31, 15, 79, 255, 511, 1023, 2047, 4095], E := [5, 8], qs := [0, 1, 2, 3, 4, 6, 7], g := .one 5 [6, 7] [] (.one 8 [] [9, 10, 11, 12] (.fin)) }), (10, { anc := [0, 1, 3, 7, 15, 31, 15, 79, 255, 511, 15, 1039, 3583, 15, 8207, 32255, 65023, 131071, 262143, 524287, 1048575], E := [5, 8, 12, 15], qs := [0, 1, 2, 3, 4, 6, 7, 10, 11, 13, 14], g := .one 5 [6, 7, 10, 11, 13, 14] [] (.one 8 [10, 11, 13, 14] [9] (.one 12 [13, 14, 9] [] (.one 15 [9] [16, 17, 18, 19, 20] (.fin)))) }), (18, { anc := [0, 1, 3, 7, 15, 31, 63, 15, 143, 511, 1023, 2047, 4095, 8191, 4095, 20479, 53247, 131071, 262143], E := [], qs := [0, 1, 2, 3, 4, 5, 6, 7, 8, 9, 10, 11, 12, 13, 14, 15, 16, 17, 18], g := .fin }), (22, { anc := [0, 1, 3, 7, 15, 31, 63, 15, 143, 511, 1023, 2047, 4095, 8191, 4095, 20479, 53247, 131071, 262143, 524287, 1048575, 2097151, 4194303, 8388607, 16777215, 33554431, 67108863, 134217727, 268435455, 536870911, 1073741823], E := [], qs := [0, 1, 2, 3, 4, 5, 6, 7, 8, 9, 10, 11, 12, 13, 14, 15, 16, 17, 18, 19, 20, 21, 22, 23, 24, 25, 26, 27, 28, 29, 30], g := .fin }), (26, { anc := [0, 1, 3, 7, 15, 31, 63, 15, 143, 511, 1023, 2047, 4095, 8191, 4095, 20479, 53247, 131071, 262143, 524287, 1048575, 2097151, 4194303, 8388607, 16777215, 33554431, 67108863, 134217727, 268435455, 536870911, 1073741823, 2147483647, 4294967295, 8589934591, 17179869183, 34359738367, 68719476735, 137438953471, 274877906943, 549755813887, 1099511627775, 2199023255551, 4398046511103], E := [], qs := [0, 1, 2, 3, 4, 5, 6, 7, 8, 9, 10, 11, 12, 13, 14, 15, 16, 17, 18, 19, 20, 21, 22, 23, 24, 25, 26, 27, 28, 29, 30, 31, 32, 33, 34, 35, 36, 37, 38, 39, 40, 41, 42], g := .fin })] }
@[reducible] def I.valid (p0 : List Int) : CIn := ⟨[.sl 5 1 (p0.map (eI .u8))], [], []⟩
@[reducible] def O.valid : Bool → COut
  | r => .ok [.bool r] [] []
set_option maxRecDepth 1000000 in
set_option maxHeartbeats 4000000 in
theorem L.valid (p0 : List Int) : S (M.valid p0) fun r => ex TB CT A.valid (Con Tryz.prog GG) (bodyOf Tryz.f89) (entry (I.valid p0)) (fin TB A.valid [.tmp 2] (O.valid r)) := by
  unfold M.valid
  refine S.eq lenD_map ?_
  refine S.eq lenD_map ?_
  refine S.eq lenD_map ?_
  refine S.e fun _ => ?_
  refine S.subE (f := (eI .u8)) (E := (fun l => l.map (eI .u8))) (fun _ => rfl) rfl fun l_1 => ?_
  refine S.jn (fun _ => ⟨[], [], [], none⟩) ?_ (fun _ => rfl) fun j_822 => ?_
  · refine S.lw (L := M.valid_k1) (fun x_1096 => ⟨[(0, .sl 5 1 (x_1096.map (eI .u8)))], [], [], none⟩) (M.valid_k1.partial_correctness) rfl fun f_valid_k1 I_valid_k1 ih_valid_k1 x_1096 => ?_
    refine S.eq lenD_map ?_
    refine S.cb ?_ ?_
    · refine S.ixE (f := (eI .u8)) (c := fun x => [D.int .u8 x]) (fun _ => rfl) rfl (fun _ => rfl) fun x_1370 => ?_
      refine S.jn (fun _ => ⟨[(0, .sl 5 1 (x_1096.map (eI .u8))), (3, .int .u8 x_1370)], [], [], none⟩) ?_ (fun _ => rfl) fun j_1498 => ?_
      · refine S.cb ?_ ?_
        · refine S.eq lenD_map ?_
          refine S.subE (f := (eI .u8)) (E := (fun l => l.map (eI .u8))) (fun _ => rfl) rfl fun l_1499 => ?_
          refine S.j (fun j_1563 => ⟨[(0, .sl 5 1 (j_1563.map (eI .u8)))], [], [], none⟩) (fun r => ?_) fun j_1563 => ?_
          · refine S.eq lenD_map ?_
            refine S.j (fun j_1567 => ⟨[(0, .sl 5 1 (l_1499.map (eI .u8))), (31, .bool j_1567)], [], [], none⟩) (fun r => ?_) fun j_1567 => ?_
            · refine S.cb ?_ ?_
              · refine S.k [] [] [] (C.word l_1499) rfl trivial trivial rfl fun a_1568 => ?_
                refine S.an rfl ?_
                exact S.z rfl
              · exact S.z rfl
            · refine S.cb ?_ ?_
              · refine S.eq lenD_map ?_
                refine S.subE (f := (eI .u8)) (E := (fun l => l.map (eI .u8))) (fun _ => rfl) rfl fun l_1570 => ?_
                refine S.j (fun j_1582 => ⟨[(0, .sl 5 1 (l_1570.map (eI .u8))), (46, .bool j_1582)], [], [], none⟩) (fun r => ?_) fun j_1582 => ?_
                · refine S.eq lenD_map ?_
                  refine S.cb ?_ ?_
                  · refine S.eq lenD_map ?_
                    refine S.subE (f := (eI .u8)) (E := (fun l => l.map (eI .u8))) (fun _ => rfl) rfl fun l_1583 => ?_
                    refine S.an trivial ?_
                    refine S.k [] [] [] (C.word l_1570) rfl trivial trivial rfl fun a_1584 => ?_
                    refine S.an rfl ?_
                    refine S.an trivial ?_
                    refine S.k [] [] [] (C.word l_1583) rfl trivial trivial rfl fun a_1586 => ?_
                    refine S.an rfl ?_
                    refine S.an trivial ?_
                    exact S.z rfl
                  · refine S.an trivial ?_
                    refine S.an trivial ?_
                    refine S.an trivial ?_
                    exact S.z rfl
                · refine S.cb ?_ ?_
                  · refine S.eq lenD_map ?_
                    refine S.subE (f := (eI .u8)) (E := (fun l => l.map (eI .u8))) (fun _ => rfl) rfl fun l_1588 => ?_
                    refine S.lw (L := M.valid_k2) (fun x_1601 => ⟨[(0, .sl 5 1 (x_1601.map (eI .u8)))], [], [], none⟩) (M.valid_k2.partial_correctness) rfl fun f_valid_k2 I_valid_k2 ih_valid_k2 x_1601 => ?_
                    refine S.eq lenD_map ?_
                    refine S.cb ?_ ?_
                    · refine S.eq lenD_map ?_
                      refine S.subE (f := (eI .u8)) (E := (fun l => l.map (eI .u8))) (fun _ => rfl) rfl fun l_1614 => ?_
                      refine S.eq lenD_map ?_
                      refine S.subE (f := (eI .u8)) (E := (fun l => l.map (eI .u8))) (fun _ => rfl) rfl fun l_1615 => ?_
                      refine S.eq lenD_map ?_
                      refine S.subE (f := (eI .u8)) (E := (fun l => l.map (eI .u8))) (fun _ => rfl) rfl fun l_1616 => ?_
                      refine S.an trivial ?_
                      refine S.k [] [] [] (C.word x_1601) rfl trivial trivial rfl fun a_1617 => ?_
                      refine S.an rfl ?_
                      refine S.an trivial ?_
                      refine S.k [] [] [] (C.word l_1614) rfl trivial trivial rfl fun a_1619 => ?_
                      refine S.an rfl ?_
                      refine S.an trivial ?_
                      refine S.k [] [] [] (C.word l_1615) rfl trivial trivial rfl fun a_1621 => ?_
                      refine S.an rfl ?_
                      refine S.an trivial ?_
                      refine S.k [] [] [] (C.word l_1616) rfl trivial trivial rfl fun a_1623 => ?_
                      refine S.an rfl ?_
                      refine S.an trivial ?_
                      refine S.cb ?_ ?_
                      · refine S.eq lenD_map ?_
                        refine S.subE (f := (eI .u8)) (E := (fun l => l.map (eI .u8))) (fun _ => rfl) rfl fun l_1625 => ?_
                        refine S.jp (⟨[(0, .sl 5 1 (l_1625.map (eI .u8)))], [], [], none⟩) (fun _ => rfl) ?_
                        exact ih_valid_k2 _
                      · exact S.z rfl
                    · refine S.an trivial ?_
                      refine S.an trivial ?_
                      refine S.an trivial ?_
                      refine S.an trivial ?_
                      refine S.an trivial ?_
                      exact S.z rfl
                  · exact S.z rfl
              · exact S.z rfl
          · refine S.dn ?_
            exact ih_valid_k1 _
        · exact S.z rfl
      · refine S.ixE (f := (eI .u8)) (c := fun x => [D.int .u8 x]) (fun _ => rfl) rfl (fun _ => rfl) fun x_1626 => ?_
        refine S.eq (by decide : chk _ = some ()) ?_
        refine S.ixE (fun _ => rfl) rfl T_utf8_acceptRange.enc_c fun x_1627 => ?_
        refine S.jp (⟨[(0, .sl 5 1 (x_1096.map (eI .u8))), (6, .ptr 1006 0), (82, .int .i64 (IntKind.wrap .i64 (andI .u8 x_1626 7))), (83, .bool (decide ((IntKind.wrap .i64 (andI .u8 x_1626 7)) = 2)))], [(1006, ⟨93, [.int .u8 x_1627.glo, .int .u8 x_1627.ghi]⟩)], [], none⟩) (fun _ => rfl) ?_
        refine S.cb ?_ ?_
        · refine S.eq lenD_map ?_
          refine S.cb ?_ ?_
          · refine S.an trivial ?_
            exact S.z ⟨rfl, trivial, trivial, rfl⟩
          · refine S.ixE (f := (eI .u8)) (c := fun x => [D.int .u8 x]) (fun _ => rfl) rfl (fun _ => rfl) fun x_1628 => ?_
            refine S.cb ?_ ?_
            · refine S.an trivial ?_
              exact S.z ⟨rfl, trivial, trivial, rfl⟩
            · refine S.ixE (f := (eI .u8)) (c := fun x => [D.int .u8 x]) (fun _ => rfl) rfl (fun _ => rfl) fun x_1629 => ?_
              refine S.an trivial ?_
              refine S.cb ?_ ?_
              · exact S.z ⟨rfl, trivial, trivial, rfl⟩
              · refine S.eq lenD_map ?_
                refine S.subE (f := (eI .u8)) (E := (fun l => l.map (eI .u8))) (fun _ => rfl) rfl fun l_1630 => ?_
                refine S.jp (⟨[(0, .sl 5 1 (l_1630.map (eI .u8)))], [], [], none⟩) (fun _ => rfl) ?_
                exact ih_valid_k1 _
        · refine S.cb ?_ ?_
          · refine S.eq lenD_map ?_
            refine S.cb ?_ ?_
            · refine S.an trivial ?_
              exact S.z ⟨rfl, trivial, trivial, rfl⟩
            · refine S.ixE (f := (eI .u8)) (c := fun x => [D.int .u8 x]) (fun _ => rfl) rfl (fun _ => rfl) fun x_1631 => ?_
              refine S.cb ?_ ?_
              · refine S.an trivial ?_
                exact S.z ⟨rfl, trivial, trivial, rfl⟩
              · refine S.ixE (f := (eI .u8)) (c := fun x => [D.int .u8 x]) (fun _ => rfl) rfl (fun _ => rfl) fun x_1632 => ?_
                refine S.cb ?_ ?_
                · refine S.an trivial ?_
                  exact S.z ⟨rfl, trivial, trivial, rfl⟩
                · refine S.ixE (f := (eI .u8)) (c := fun x => [D.int .u8 x]) (fun _ => rfl) rfl (fun _ => rfl) fun x_1633 => ?_
                  refine S.cb ?_ ?_
                  · refine S.an trivial ?_
                    exact S.z ⟨rfl, trivial, trivial, rfl⟩
                  · refine S.ixE (f := (eI .u8)) (c := fun x => [D.int .u8 x]) (fun _ => rfl) rfl (fun _ => rfl) fun x_1634 => ?_
                    refine S.an trivial ?_
                    refine S.cb ?_ ?_
                    · exact S.z ⟨rfl, trivial, trivial, rfl⟩
                    · refine S.eq lenD_map ?_
                      refine S.subE (f := (eI .u8)) (E := (fun l => l.map (eI .u8))) (fun _ => rfl) rfl fun l_1635 => ?_
                      refine S.jp (⟨[(0, .sl 5 1 (l_1635.map (eI .u8)))], [], [], none⟩) (fun _ => rfl) ?_
                      exact ih_valid_k1 _
          · refine S.cb ?_ ?_
            · refine S.eq lenD_map ?_
              refine S.cb ?_ ?_
              · refine S.an trivial ?_
                exact S.z ⟨rfl, trivial, trivial, rfl⟩
              · refine S.ixE (f := (eI .u8)) (c := fun x => [D.int .u8 x]) (fun _ => rfl) rfl (fun _ => rfl) fun x_1636 => ?_
                refine S.cb ?_ ?_
                · refine S.an trivial ?_
                  exact S.z ⟨rfl, trivial, trivial, rfl⟩
                · refine S.ixE (f := (eI .u8)) (c := fun x => [D.int .u8 x]) (fun _ => rfl) rfl (fun _ => rfl) fun x_1637 => ?_
                  refine S.cb ?_ ?_
                  · refine S.an trivial ?_
                    exact S.z ⟨rfl, trivial, trivial, rfl⟩
                  · refine S.ixE (f := (eI .u8)) (c := fun x => [D.int .u8 x]) (fun _ => rfl) rfl (fun _ => rfl) fun x_1638 => ?_
                    refine S.cb ?_ ?_
                    · refine S.an trivial ?_
                      exact S.z ⟨rfl, trivial, trivial, rfl⟩
                    · refine S.ixE (f := (eI .u8)) (c := fun x => [D.int .u8 x]) (fun _ => rfl) rfl (fun _ => rfl) fun x_1639 => ?_
                      refine S.cb ?_ ?_
                      · refine S.an trivial ?_
                        exact S.z ⟨rfl, trivial, trivial, rfl⟩
                      · refine S.ixE (f := (eI .u8)) (c := fun x => [D.int .u8 x]) (fun _ => rfl) rfl (fun _ => rfl) fun x_1640 => ?_
                        refine S.cb ?_ ?_
                        · refine S.an trivial ?_
                          exact S.z ⟨rfl, trivial, trivial, rfl⟩
                        · refine S.ixE (f := (eI .u8)) (c := fun x => [D.int .u8 x]) (fun _ => rfl) rfl (fun _ => rfl) fun x_1641 => ?_
                          refine S.an trivial ?_
                          refine S.cb ?_ ?_
                          · exact S.z ⟨rfl, trivial, trivial, rfl⟩
                          · refine S.eq lenD_map ?_
                            refine S.subE (f := (eI .u8)) (E := (fun l => l.map (eI .u8))) (fun _ => rfl) rfl fun l_1642 => ?_
                            refine S.jp (⟨[(0, .sl 5 1 (l_1642.map (eI .u8)))], [], [], none⟩) (fun _ => rfl) ?_
                            exact ih_valid_k1 _
            · exact S.z ⟨rfl, trivial, trivial, rfl⟩
    · exact S.z rfl
  · exact S.z ⟨rfl, trivial, trivial, rfl⟩
set_option maxRecDepth 1000000 in
set_option maxHeartbeats 4000000 in
theorem C.valid (p0 : List Int) : S (M.valid p0) fun r => Con Tryz.prog GG 89 (I.valid p0) (O.valid r) := by
  intro r hm; exact Con.of TBG (fun _ _ => rfl) Tryz.func89 rfl rfl (res := [.tmp 2]) rfl (by kernel_rfl) rfl rfl rfl (L.valid p0 r hm)
def A.json_reader_blanks : Ann := { reg := [(0, [(9, 0, { L := [], B := [0], A := [] })])], nb := 1 }
@[reducible] def I.json_reader_blanks (p0 : T_json_reader) : CIn := ⟨[.ptr 0 0], [⟨67, [.str p0.gs]⟩], []⟩
@[reducible] def O.json_reader_blanks : T_json_reader → COut
  | r => .ok [] [⟨67, [.str r.gs]⟩] []
set_option maxRecDepth 1000000 in
set_option maxHeartbeats 4000000 in
theorem L.json_reader_blanks (p0 : T_json_reader) : S (M.json_reader_blanks p0) fun r => ex TB CT A.json_reader_blanks (Con Tryz.prog GG) (bodyOf Tryz.f37) (entry (I.json_reader_blanks p0)) (fin TB A.json_reader_blanks [] (O.json_reader_blanks r)) := by
  unfold M.json_reader_blanks
  refine S.k [] [] [] (C.trimLeft p0.gs ([32, 9, 10, 13] : List UInt8)) rfl trivial trivial rfl fun a_1 => ?_
  refine S.an rfl ?_
  refine S.jp (⟨[], [(0, ⟨67, [.str a_1]⟩)], [], none⟩) (fun _ => rfl) ?_
  exact S.z ⟨rfl, ⟨⟨rfl, rfl⟩, trivial⟩, trivial, rfl⟩
set_option maxRecDepth 1000000 in
set_option maxHeartbeats 4000000 in
theorem C.json_reader_blanks (p0 : T_json_reader) : S (M.json_reader_blanks p0) fun r => Con Tryz.prog GG 37 (I.json_reader_blanks p0) (O.json_reader_blanks r) := by
  intro r hm; exact Con.of TBG (fun _ _ => rfl) Tryz.func37 rfl rfl (res := []) rfl (by kernel_rfl) rfl rfl rfl (L.json_reader_blanks p0 r hm)
def A.json_must : Ann := {}
@[reducible] def I.json_must (p0 : Bool) (p1 : Int) : CIn := ⟨[.bool p0, .int .i64 p1], [], []⟩
@[reducible] def O.json_must : Rs Unit → COut
  | .ok r => .ok [] [] []
  | .pan e => .pan (.iface 75 (.agg [.int .i64 e]))
set_option maxRecDepth 1000000 in
set_option maxHeartbeats 4000000 in
theorem L.json_must (p0 : Bool) (p1 : Int) : S (M.json_must p0 p1) fun r => ex TB CT A.json_must (Con Tryz.prog GG) (bodyOf Tryz.f39) (entry (I.json_must p0 p1)) (fin TB A.json_must [] (O.json_must r)) := by
  unfold M.json_must
  refine S.cb ?_ ?_
  · exact S.z rfl
  · exact S.z ⟨rfl, trivial, trivial, rfl⟩
set_option maxRecDepth 1000000 in
set_option maxHeartbeats 4000000 in
theorem C.json_must (p0 : Bool) (p1 : Int) : S (M.json_must p0 p1) fun r => Con Tryz.prog GG 39 (I.json_must p0 p1) (O.json_must r) := by
  intro r hm; exact Con.of TBG (fun _ _ => rfl) Tryz.func39 rfl rfl (res := []) rfl (by kernel_rfl) rfl rfl rfl (L.json_must p0 p1 r hm)
def A.json_reader_take : Ann := { reg := [(1, [(11, 0, { L := [0, 5, 6], B := [0], A := [] })]), (4, [(2, 0, { L := [6], B := [0], A := [] })])], nb := 1 }
@[reducible] def I.json_reader_take (p0 : T_json_reader) (p1 : List UInt8) : CIn := ⟨[.ptr 0 0, .str p1], [⟨67, [.str p0.gs]⟩], []⟩
@[reducible] def O.json_reader_take : Bool × T_json_reader → COut
  | r => .ok [.bool r.1] [⟨67, [.str r.2.gs]⟩] []
set_option maxRecDepth 1000000 in
set_option maxHeartbeats 4000000 in
theorem L.json_reader_take (p0 : T_json_reader) (p1 : List UInt8) : S (M.json_reader_take p0 p1) fun r => ex TB CT A.json_reader_take (Con Tryz.prog GG) (bodyOf Tryz.f59) (entry (I.json_reader_take p0 p1)) (fin TB A.json_reader_take [.tmp 4] (O.json_reader_take r)) := by
  unfold M.json_reader_take
  refine S.k [] [] [] (C.strings_CutPrefix p0.gs p1) rfl trivial trivial rfl fun a_1 => ?_
  refine S.an rfl ?_
  refine S.jp (⟨[(0, .ptr 0 0), (5, .str a_1.1), (6, .bool a_1.2)], [(0, ⟨67, [.str p0.gs]⟩)], [], none⟩) (fun _ => rfl) ?_
  refine S.cb ?_ ?_
  · refine S.k [0] [] [] (C.json_reader_blanks (T_json_reader.mk a_1.1)) rfl ⟨⟨rfl, rfl⟩, trivial⟩ trivial rfl fun a_3 => ?_
    refine S.an rfl ?_
    refine S.jp (⟨[(6, .bool a_1.2)], [(0, ⟨67, [.str a_3.gs]⟩)], [], none⟩) (fun _ => rfl) ?_
    exact S.z ⟨rfl, ⟨⟨rfl, rfl⟩, trivial⟩, trivial, rfl⟩
  · exact S.z ⟨rfl, ⟨⟨rfl, rfl⟩, trivial⟩, trivial, rfl⟩
set_option maxRecDepth 1000000 in
set_option maxHeartbeats 4000000 in
theorem C.json_reader_take (p0 : T_json_reader) (p1 : List UInt8) : S (M.json_reader_take p0 p1) fun r => Con Tryz.prog GG 59 (I.json_reader_take p0 p1) (O.json_reader_take r) := by
  intro r hm; exact Con.of TBG (fun _ _ => rfl) Tryz.func59 rfl rfl (res := [.tmp 4]) rfl (by kernel_rfl) rfl rfl rfl (L.json_reader_take p0 p1 r hm)
def A.json_reader_unit : Ann := { reg := [(1, [(10, 0, { L := [0, 3, 4], B := [0], A := [] })]), (2, [(2, 4, { L := [0, 3, 20], B := [0], A := [] }), (1, 5, { L := [0, 3, 26], B := [0], A := [] })]), (3, [(8, 0, { L := [0, 3, 5, 6], B := [0], A := [] })]), (5, [(6, 0, { L := [5], B := [0], A := [] })])], nb := 1 }
@[reducible] def I.json_reader_unit (p0 : T_json_reader) : CIn := ⟨[.ptr 0 0], [⟨67, [.str p0.gs]⟩], []⟩
@[reducible] def O.json_reader_unit : Rs (Int × T_json_reader) → COut
  | .ok r => .ok [.int .i32 r.1] [⟨67, [.str r.2.gs]⟩] []
  | .pan e => .pan (.iface 75 (.agg [.int .i64 e]))
set_option maxRecDepth 1000000 in
set_option maxHeartbeats 4000000 in
theorem L.json_reader_unit (p0 : T_json_reader) : S (M.json_reader_unit p0) fun r => ex TB CT A.json_reader_unit (Con Tryz.prog GG) (bodyOf Tryz.f107) (entry (I.json_reader_unit p0)) (fin TB A.json_reader_unit [.tmp 2] (O.json_reader_unit r)) := by
  unfold M.json_reader_unit
  refine S.k [] [] [] (C.strings_CutPrefix p0.gs ([92, 117] : List UInt8)) rfl trivial trivial rfl fun a_1 => ?_
  refine S.an rfl ?_
  refine S.jp (⟨[(0, .ptr 0 0), (3, .str a_1.1), (4, .bool a_1.2)], [(0, ⟨67, [.str p0.gs]⟩)], [], none⟩) (fun _ => rfl) ?_
  refine S.jb (v := (a_1.2 && (decide (4 ≤ (a_1.1.length : Int))))) (fun x_3 => ⟨[(0, .ptr 0 0), (3, .str a_1.1), (20, .bool x_3)], [(0, ⟨67, [.str p0.gs]⟩)], [], none⟩) (fun r => ?_) ?_
  · refine cnd (fun h_4 => ?_) (fun h_4 => ?_)
    · exact jbI rfl (and_t h_4 rfl)
    · exact jbI rfl (and_f h_4)
  · refine S.j (fun j_9 => ⟨[(0, .ptr 0 0), (3, .str a_1.1), (26, .bool j_9)], [(0, ⟨67, [.str p0.gs]⟩)], [], none⟩) (fun r => ?_) fun j_9 => ?_
    · refine S.cb ?_ ?_
      · refine S.e fun s_10 => ?_
        refine S.k [] [] [] (C.trim s_10 ([48, 49, 50, 51, 52, 53, 54, 55, 56, 57, 97, 98, 99, 100, 101, 102, 65, 66, 67, 68, 69, 70] : List UInt8)) rfl trivial trivial rfl fun a_11 => ?_
        refine S.an rfl ?_
        exact S.z rfl
      · exact S.z rfl
    · refine S.k [] [] [] (C.json_must j_9 20) rfl trivial trivial rfl fun a_13 => ?_
      cases a_13 with
      | pan e_16 =>
        refine S.an rfl ?_
        exact S.z rfl
      | ok a_15 =>
        refine S.an rfl ?_
        refine S.e fun s_17 => ?_
        refine S.k [] [] [] (C.strconv_ParseUint s_17 16 16) rfl trivial trivial rfl fun a_18 => ?_
        refine S.an rfl ?_
        refine S.jp (⟨[(0, .ptr 0 0), (3, .str a_1.1), (5, .int .u64 a_18.1), (6, .err a_18.2)], [(0, ⟨67, [.str p0.gs]⟩)], [], none⟩) (fun _ => rfl) ?_
        refine S.k [] [] [] (C.json_must a_18.2 20) rfl trivial trivial rfl fun a_20 => ?_
        cases a_20 with
        | pan e_23 =>
          refine S.an rfl ?_
          exact S.z rfl
        | ok a_22 =>
          refine S.an rfl ?_
          refine S.e fun s_24 => ?_
          refine S.jp (⟨[(5, .int .u64 a_18.1)], [(0, ⟨67, [.str s_24]⟩)], [], none⟩) (fun _ => rfl) ?_
          exact S.z ⟨rfl, ⟨⟨rfl, rfl⟩, trivial⟩, trivial, rfl⟩
set_option maxRecDepth 1000000 in
set_option maxHeartbeats 4000000 in
theorem C.json_reader_unit (p0 : T_json_reader) : S (M.json_reader_unit p0) fun r => Con Tryz.prog GG 107 (I.json_reader_unit p0) (O.json_reader_unit r) := by
  intro r hm; exact Con.of TBG (fun _ _ => rfl) Tryz.func107 rfl rfl (res := [.tmp 2]) rfl (by kernel_rfl) rfl rfl rfl (L.json_reader_unit p0 r hm)
def A.json_reader_escaped : Ann := { reg := [(1, [(7, 0, { L := [0], B := [0], A := [] })]), (4, [(9, 0, { L := [3], B := [0], A := [] })]), (6, [(3, 0, { L := [0, 4], B := [0], A := [] })]), (7, [(3, 3, { L := [0, 4, 40], B := [0], A := [] })]), (8, [(3, 3, { L := [0, 4, 47], B := [0], A := [] })]), (11, [(3, 3, { L := [4, 5, 57], B := [0], A := [] })])], nb := 1 }
@[reducible] def I.json_reader_escaped (p0 : T_json_reader) : CIn := ⟨[.ptr 0 0], [⟨67, [.str p0.gs]⟩], []⟩
@[reducible] def O.json_reader_escaped : Rs ((List UInt8) × T_json_reader) → COut
  | .ok r => .ok [.str r.1] [⟨67, [.str r.2.gs]⟩] []
  | .pan e => .pan (.iface 75 (.agg [.int .i64 e]))
set_option maxRecDepth 1000000 in
set_option maxHeartbeats 4000000 in
theorem L.json_reader_escaped (p0 : T_json_reader) : S (M.json_reader_escaped p0) fun r => ex TB CT A.json_reader_escaped (Con Tryz.prog GG) (bodyOf Tryz.f87) (entry (I.json_reader_escaped p0)) (fin TB A.json_reader_escaped [.tmp 2] (O.json_reader_escaped r)) := by
  unfold M.json_reader_escaped
  refine S.k [] [] [] (C.json_must (decide (2 ≤ (p0.gs.length : Int))) 20) rfl trivial trivial rfl fun a_1 => ?_
  cases a_1 with
  | pan e_4 =>
    refine S.an rfl ?_
    exact S.z rfl
  | ok a_3 =>
    refine S.an rfl ?_
    refine S.jp (⟨[(0, .ptr 0 0)], [(0, ⟨67, [.str p0.gs]⟩)], [], none⟩) (fun _ => rfl) ?_
    refine S.e fun c_10 => ?_
    refine S.k [] [] [] (C.indexByte ([34, 92, 47, 98, 102, 110, 114, 116] : List UInt8) (c_10.toNat : Int)) rfl trivial trivial rfl fun a_11 => ?_
    refine S.an rfl ?_
    refine S.cb ?_ ?_
    · refine S.e fun s_13 => ?_
      refine S.jp (⟨[(3, .int .i64 a_11)], [(0, ⟨67, [.str s_13]⟩)], [], none⟩) (fun _ => rfl) ?_
      refine S.e fun s_14 => ?_
      exact S.z ⟨rfl, ⟨⟨rfl, rfl⟩, trivial⟩, trivial, rfl⟩
    · refine S.k [0] [] [] (C.json_reader_unit p0) rfl ⟨⟨rfl, rfl⟩, trivial⟩ trivial rfl fun a_15 => ?_
      cases a_15 with
      | pan e_18 =>
        refine S.an rfl ?_
        exact S.z rfl
      | ok a_17 =>
        refine S.an rfl ?_
        refine S.jp (⟨[(0, .ptr 0 0), (4, .int .i32 a_17.1)], [(0, ⟨67, [.str a_17.2.gs]⟩)], [], none⟩) (fun _ => rfl) ?_
        refine S.jb (v := ((decide (a_17.1 < 56320)) || (decide (57343 < a_17.1)))) (fun x_19 => ⟨[(0, .ptr 0 0), (4, .int .i32 a_17.1), (40, .bool x_19)], [(0, ⟨67, [.str a_17.2.gs]⟩)], [], none⟩) (fun r => ?_) ?_
        · refine cnd (fun h_20 => ?_) (fun h_20 => ?_)
          · exact jbI rfl (or_t h_20)
          · exact jbI rfl (or_f h_20 rfl)
        · refine S.k [] [] [] (C.json_must ((decide (a_17.1 < 56320)) || (decide (57343 < a_17.1))) 20) rfl trivial trivial rfl fun a_21 => ?_
          cases a_21 with
          | pan e_24 =>
            refine S.an rfl ?_
            exact S.z rfl
          | ok a_23 =>
            refine S.an rfl ?_
            refine S.jb (v := ((decide (a_17.1 < 55296)) || (decide (57343 < a_17.1)))) (fun x_27 => ⟨[(0, .ptr 0 0), (4, .int .i32 a_17.1), (47, .bool x_27)], [(0, ⟨67, [.str a_17.2.gs]⟩)], [], none⟩) (fun r => ?_) ?_
            · refine cnd (fun h_28 => ?_) (fun h_28 => ?_)
              · exact jbI rfl (or_t h_28)
              · exact jbI rfl (or_f h_28 rfl)
            · refine S.cb ?_ ?_
              · exact S.z ⟨rfl, ⟨⟨rfl, rfl⟩, trivial⟩, trivial, rfl⟩
              · refine S.k [0] [] [] (C.json_reader_unit a_17.2) rfl ⟨⟨rfl, rfl⟩, trivial⟩ trivial rfl fun a_29 => ?_
                cases a_29 with
                | pan e_32 =>
                  refine S.an rfl ?_
                  exact S.z rfl
                | ok a_31 =>
                  refine S.an rfl ?_
                  refine S.jb (v := ((decide (56320 ≤ a_31.1)) && (decide (a_31.1 ≤ 57343)))) (fun x_33 => ⟨[(4, .int .i32 a_17.1), (5, .int .i32 a_31.1), (57, .bool x_33)], [(0, ⟨67, [.str a_31.2.gs]⟩)], [], none⟩) (fun r => ?_) ?_
                  · refine cnd (fun h_34 => ?_) (fun h_34 => ?_)
                    · exact jbI rfl (and_t h_34 rfl)
                    · exact jbI rfl (and_f h_34)
                  · refine S.k [] [] [] (C.json_must ((decide (56320 ≤ a_31.1)) && (decide (a_31.1 ≤ 57343))) 20) rfl trivial trivial rfl fun a_35 => ?_
                    cases a_35 with
                    | pan e_38 =>
                      refine S.an rfl ?_
                      exact S.z rfl
                    | ok a_37 =>
                      refine S.an rfl ?_
                      refine S.eq (by decide : chk _ = some ()) ?_
                      exact S.z ⟨rfl, ⟨⟨rfl, rfl⟩, trivial⟩, trivial, rfl⟩
set_option maxRecDepth 1000000 in
set_option maxHeartbeats 4000000 in
theorem C.json_reader_escaped (p0 : T_json_reader) : S (M.json_reader_escaped p0) fun r => Con Tryz.prog GG 87 (I.json_reader_escaped p0) (O.json_reader_escaped r) := by
  intro r hm; exact Con.of TBG (fun _ _ => rfl) Tryz.func87 rfl rfl (res := [.tmp 2]) rfl (by kernel_rfl) rfl rfl rfl (L.json_reader_escaped p0 r hm)
end Go.Proofs.YtcfkkgpnggdlnaaGreatDoor
