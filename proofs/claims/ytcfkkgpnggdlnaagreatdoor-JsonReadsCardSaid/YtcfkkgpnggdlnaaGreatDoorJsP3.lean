/- JsP3: what a program of ours printed of the program's functions. -/
import Derived.Test.YtcfkkgpnggdlnaaGreatDoorJsP2
set_option linter.all false
namespace Go.Proofs.YtcfkkgpnggdlnaaGreatDoor
open Go.Lk Go.Pe Go.Sen Go.RowKit
def A.json_Int : Ann := { reg := [(1, [(4, 0, { L := [1, 4], B := [], A := [] })]), (4, [(2, 0, { L := [2, 3], B := [], A := [] })]), (5, [(3, 0, { L := [2, 3], B := [], A := [] })])], drw := [(3, { anc := [0, 1, 3, 7, 15, 31, 63, 127, 255, 511, 1023, 2047, 4095, 8191, 16383, 8191, 40959, 131071, 262143], E := [14], qs := [0, 1, 2, 3, 4, 5, 6, 7, 8, 9, 10, 11, 12, 13, 15, 16], g := .one 14 [15, 16] [17, 18] (.fin) })], ro := [1] }
@[reducible] def I.json_Int (p0 : T_api_Json) : CIn := ⟨[.agg [.int .i64 p0.gKind, .str p0.gText, .sl 25 4 (T_api_Json.encs p0.gList), .sl 9 1 (p0.gKeys.map eS)]], [], []⟩
@[reducible] def O.json_Int : Int × Bool → COut
  | r => .ok [.int .i64 r.1, .bool r.2] [] []
set_option maxRecDepth 1000000 in
set_option maxHeartbeats 4000000 in
theorem L.json_Int (p0 : T_api_Json) : S (M.json_Int p0) fun r => ex TB CT A.json_Int (Con Tryz.prog GG) (bodyOf Tryz.f17) (entry (I.json_Int p0)) (fin TB A.json_Int [.tmp 2, .tmp 3] (O.json_Int r)) := by
  unfold M.json_Int
  refine S.k [] [] [] (C.strings_TrimPrefix p0.gText ([45] : List UInt8)) rfl trivial trivial rfl fun a_1 => ?_
  refine S.an rfl ?_
  refine S.jp (⟨[(1, .cptr [.int .i64 p0.gKind, .str p0.gText, .sl 25 4 (T_api_Json.encs p0.gList), .sl 9 1 (p0.gKeys.map eS)] 0), (4, .str a_1)], [], [], none⟩) (fun _ => rfl) ?_
  refine S.k [] [] [] (C.atoi p0.gText) rfl trivial trivial rfl fun a_3 => ?_
  refine S.an rfl ?_
  refine S.cb ?_ ?_
  · refine S.an trivial ?_
    refine S.an trivial ?_
    refine S.jp (⟨[(2, .int .i64 0), (3, .bool false)], [], [], none⟩) (fun _ => rfl) ?_
    exact S.z ⟨rfl, trivial, trivial, rfl⟩
  · refine S.cb ?_ ?_
    · refine S.an trivial ?_
      refine S.an trivial ?_
      refine S.jp (⟨[(2, .int .i64 0), (3, .bool false)], [], [], none⟩) (fun _ => rfl) ?_
      exact S.z ⟨rfl, trivial, trivial, rfl⟩
    · refine S.cb ?_ ?_
      · refine S.an trivial ?_
        refine S.an trivial ?_
        refine S.jp (⟨[(2, .int .i64 0), (3, .bool false)], [], [], none⟩) (fun _ => rfl) ?_
        exact S.z ⟨rfl, trivial, trivial, rfl⟩
      · refine S.an trivial ?_
        refine S.k [] [] [] (C.itoa a_3.1) rfl trivial trivial rfl fun a_5 => ?_
        refine S.an rfl ?_
        refine S.an trivial ?_
        refine S.cb ?_ ?_
        · refine S.jp (⟨[(2, .int .i64 0), (3, .bool false)], [], [], none⟩) (fun _ => rfl) ?_
          exact S.z ⟨rfl, trivial, trivial, rfl⟩
        · refine S.jp (⟨[(2, .int .i64 a_3.1), (3, .bool true)], [], [], none⟩) (fun _ => rfl) ?_
          exact S.z ⟨rfl, trivial, trivial, rfl⟩
set_option maxRecDepth 1000000 in
set_option maxHeartbeats 4000000 in
theorem C.json_Int (p0 : T_api_Json) : S (M.json_Int p0) fun r => Con Tryz.prog GG 17 (I.json_Int p0) (O.json_Int r) := by
  intro r hm; exact Con.of TBG (fun _ _ => rfl) Tryz.func17 rfl rfl (res := [.tmp 2, .tmp 3]) rfl (by kernel_rfl) rfl rfl rfl (L.json_Int p0 r hm)
def A.json_Texts : Ann := { seq := [(11, { L := [4], B := [], A := [3002], H := [(.slot 4 none, 3002, 9, 1)] })], loop := [(5, { L := [4, 11, 12, 13], B := [], A := [3003], H := [(.slot 4 none, 3003, 9, 1)] })], reg := [(9, [(6, 0, { L := [4, 11, 12, 13], B := [], A := [100451], H := [(.slot 4 none, 100451, 9, 1)] })])], ro := [1] }
@[reducible] def I.json_Texts (p0 : T_api_Json) : CIn := ⟨[.agg [.int .i64 p0.gKind, .str p0.gText, .sl 25 4 (T_api_Json.encs p0.gList), .sl 9 1 (p0.gKeys.map eS)]], [], []⟩
@[reducible] def O.json_Texts : (List (List UInt8)) × Bool → COut
  | r => .ok [.sl 9 1 (r.1.map eS), .bool r.2] [] []
set_option maxRecDepth 1000000 in
set_option maxHeartbeats 4000000 in
theorem L.json_Texts (p0 : T_api_Json) : S (M.json_Texts p0) fun r => ex TB CT A.json_Texts (Con Tryz.prog GG) (bodyOf Tryz.f19) (entry (I.json_Texts p0)) (fin TB A.json_Texts [.tmp 2, .tmp 3] (O.json_Texts r)) := by
  unfold M.json_Texts
  refine S.cb ?_ ?_
  · exact S.z ⟨rfl, trivial, trivial, rfl⟩
  · refine S.jn (fun j_10 => ⟨[(4, .ref 3002)], [], [(3002, ⟨true, 9, 1, (j_10.map eS)⟩)], none⟩) ?_ (fun _ => rfl) fun j_10 => ?_
    · refine S.eq (lenD_E T_api_Json.encs_eq) ?_
      refine S.lw2 (L := M.json_Texts_k1 p0) (fun x_13 x_14 => ⟨[(4, .ref 3003), (11, .sl 25 4 (T_api_Json.encs p0.gList)), (12, .int .i64 (p0.gList.length : Int)), (13, .int .i64 x_14)], [], [(3003, ⟨true, 9, 1, (x_13.map eS)⟩)], none⟩) (M.json_Texts_k1.partial_correctness p0) rfl fun f_json_Texts_k1 I_json_Texts_k1 ih_json_Texts_k1 x_13 x_14 => ?_
      refine S.cb ?_ ?_
      · refine S.ixE T_api_Json.encs_eq rfl T_api_Json.enc_c fun x_17 => ?_
        refine S.cb ?_ ?_
        · exact S.z ⟨rfl, trivial, trivial, rfl⟩
        · refine S.appE (f := eS) (E := (fun l => l.map eS)) (xs := x_13) (ys := [x_17.gText]) (fun _ => rfl) rfl rfl fun l_18 => ?_
          refine S.jp (⟨[(4, .ref 100451), (11, .sl 25 4 (T_api_Json.encs p0.gList)), (12, .int .i64 (p0.gList.length : Int)), (13, .int .i64 x_14)], [], [(100451, ⟨true, 9, 1, (l_18.map eS)⟩)], none⟩) (fun _ => rfl) ?_
          exact ih_json_Texts_k1 _ _
      · exact S.z rfl
    · exact S.z ⟨rfl, trivial, trivial, rfl⟩
set_option maxRecDepth 1000000 in
set_option maxHeartbeats 4000000 in
theorem C.json_Texts (p0 : T_api_Json) : S (M.json_Texts p0) fun r => Con Tryz.prog GG 19 (I.json_Texts p0) (O.json_Texts r) := by
  intro r hm; exact Con.of TBG (fun _ _ => rfl) Tryz.func19 rfl rfl (res := [.tmp 2, .tmp 3]) rfl (by kernel_rfl) rfl rfl rfl (L.json_Texts p0 r hm)
def A.l02_awake : Ann := { reg := [(1, [(7, 0, { L := [1, 2], B := [1001], A := [100051, 100052], H := [(.cell 1001 2, 100051, 25, 4), (.cell 1001 3, 100052, 9, 1)] })]), (3, [(7, 0, { L := [1, 2, 3, 4, 6], B := [1001], A := [100151, 100152], H := [(.cell 1001 2, 100151, 25, 4), (.cell 1001 3, 100152, 9, 1)] })]), (4, [(7, 0, { L := [1, 2, 3, 4, 6, 8], B := [1001], A := [100201, 100202], H := [(.cell 1001 2, 100201, 25, 4), (.cell 1001 3, 100202, 9, 1)] })]), (6, [(8, 0, { L := [1, 2, 3, 4, 6, 8, 10, 11, 12], B := [1001, 1011], A := [] })]), (8, [(9, 0, { L := [1, 2, 3, 4, 6, 8, 10, 11, 12, 13, 14, 15, 16], B := [1001, 1011], A := [] })]), (9, [(3, 3, { L := [1, 4, 6, 8, 10, 11, 12, 13, 14, 15, 16, 61], B := [1001, 1011], A := [] }), (1, 3, { L := [1, 6, 8, 10, 11, 12, 13, 14, 15, 16, 65], B := [1001, 1011], A := [] }), (1, 3, { L := [1, 8, 10, 11, 12, 13, 14, 15, 16, 69], B := [1001, 1011], A := [] }), (1, 3, { L := [1, 10, 11, 12, 13, 14, 15, 16, 73], B := [1001, 1011], A := [] }), (1, 3, { L := [1, 11, 12, 13, 14, 15, 16, 77], B := [1001, 1011], A := [] }), (1, 2, { L := [1, 11, 13, 14, 15, 16, 80], B := [1001, 1011], A := [] }), (1, 5, { L := [1, 13, 14, 15, 16, 86], B := [1001], A := [] }), (1, 3, { L := [1, 14, 15, 16, 90], B := [1001], A := [] }), (1, 2, { L := [1, 15, 16, 93], B := [1001], A := [] }), (1, 4, { L := [1, 15, 16, 98], B := [1001], A := [] }), (1, 5, { L := [1, 16, 104], B := [1001], A := [] }), (1, 2, { L := [1, 107], B := [1001], A := [] }), (1, 4, { L := [112], B := [], A := [] }), (1, 1, { L := [114], B := [], A := [] }), (1, 1, { L := [116], B := [], A := [] }), (1, 1, { L := [118], B := [], A := [] }), (1, 1, { L := [120], B := [], A := [] })])] }
@[reducible] def I.l02_awake : CIn := ⟨[], [], []⟩
@[reducible] def O.l02_awake : Bool → COut
  | r => .ok [.bool r] [] []
set_option maxRecDepth 1000000 in
set_option maxHeartbeats 4000000 in
theorem L.l02_awake (fuel : Nat) : S (M.l02_awake fuel) fun r => ex TB CT A.l02_awake (Con Tryz.prog GG) (bodyOf Tryz.f10) (entry (I.l02_awake)) (fin TB A.l02_awake [.tmp 0] (O.l02_awake r)) := by
  unfold M.l02_awake
  refine S.k [] [] [5020, 5021] (C.json_Parse fuel ([32, 123, 32, 34, 97, 34, 32, 58, 32, 91, 32, 49, 32, 44, 32, 45, 48, 46, 53, 101, 43, 51, 32, 44, 32, 34, 92, 117, 48, 48, 101, 57, 92, 47, 34, 32, 93, 32, 44, 32, 34, 34, 32, 58, 32, 110, 117, 108, 108, 32, 125, 32] : List UInt8)) rfl trivial trivial rfl fun a_1 => ?_
  refine S.an rfl ?_
  refine S.jp (⟨[(1, .ptr 1001 0), (2, .int .i64 a_1.2)], [(1001, ⟨25, [.int .i64 a_1.1.gKind, .str a_1.1.gText, .ref 100051, .ref 100052]⟩)], [(100051, ⟨true, 25, 4, (T_api_Json.encs a_1.1.gList)⟩), (100052, ⟨true, 9, 1, (a_1.1.gKeys.map eS)⟩)], none⟩) (fun _ => rfl) ?_
  refine S.k [] [] [] (C.json_Print fuel a_1.1) rfl trivial trivial rfl fun a_3 => ?_
  refine S.an rfl ?_
  refine S.k [] [] [5060, 5061] (C.json_Parse fuel ([123, 34, 97, 34, 58, 49, 44, 34, 97, 34, 58, 50, 125] : List UInt8)) rfl trivial trivial rfl fun a_5 => ?_
  refine S.an rfl ?_
  refine S.jp (⟨[(1, .ptr 1001 0), (2, .int .i64 a_1.2), (3, .str a_3.1), (4, .int .i64 a_3.2), (6, .int .i64 a_5.2)], [(1001, ⟨25, [.int .i64 a_1.1.gKind, .str a_1.1.gText, .ref 100151, .ref 100152]⟩)], [(100151, ⟨true, 25, 4, (T_api_Json.encs a_1.1.gList)⟩), (100152, ⟨true, 9, 1, (a_1.1.gKeys.map eS)⟩)], none⟩) (fun _ => rfl) ?_
  refine S.k [] [] [5080, 5081] (C.json_Parse fuel ([91, 91, 91, 91, 91, 91, 91, 91, 91, 91, 91, 91, 91, 91, 91, 91, 91, 93, 93, 93, 93, 93, 93, 93, 93, 93, 93, 93, 93, 93, 93, 93, 93, 93] : List UInt8)) rfl trivial trivial rfl fun a_7 => ?_
  refine S.an rfl ?_
  refine S.jp (⟨[(1, .ptr 1001 0), (2, .int .i64 a_1.2), (3, .str a_3.1), (4, .int .i64 a_3.2), (6, .int .i64 a_5.2), (8, .int .i64 a_7.2)], [(1001, ⟨25, [.int .i64 a_1.1.gKind, .str a_1.1.gText, .ref 100201, .ref 100202]⟩)], [(100201, ⟨true, 25, 4, (T_api_Json.encs a_1.1.gList)⟩), (100202, ⟨true, 9, 1, (a_1.1.gKeys.map eS)⟩)], none⟩) (fun _ => rfl) ?_
  refine S.k [] [] [] (C.json_Print fuel (T_api_Json.mk 7 ([] : List UInt8) [] [])) rfl trivial trivial rfl fun a_9 => ?_
  refine S.an rfl ?_
  refine S.k [] [] [] (C.json_Member a_1.1 ([97] : List UInt8)) rfl trivial trivial rfl fun a_11 => ?_
  refine S.an rfl ?_
  refine S.jp (⟨[(1, .ptr 1001 0), (2, .int .i64 a_1.2), (3, .str a_3.1), (4, .int .i64 a_3.2), (6, .int .i64 a_5.2), (8, .int .i64 a_7.2), (10, .int .i64 a_9.2), (11, .ptr 1011 0), (12, .bool a_11.2)], [(1001, ⟨25, [.int .i64 a_1.1.gKind, .str a_1.1.gText, .sl 25 4 (T_api_Json.encs a_1.1.gList), .sl 9 1 (a_1.1.gKeys.map eS)]⟩), (1011, ⟨25, [.int .i64 a_11.1.gKind, .str a_11.1.gText, .sl 25 4 (T_api_Json.encs a_11.1.gList), .sl 9 1 (a_11.1.gKeys.map eS)]⟩)], [], none⟩) (fun _ => rfl) ?_
  refine S.k [] [] [] (C.json_Int (T_api_Json.mk 3 ([45, 55] : List UInt8) [] [])) rfl trivial trivial rfl fun a_13 => ?_
  refine S.an rfl ?_
  refine S.k [] [] [] (C.json_Texts (T_api_Json.mk 5 ([] : List UInt8) [(T_api_Json.mk 4 ([120] : List UInt8) [] [])] [])) rfl trivial trivial rfl fun a_15 => ?_
  refine S.an rfl ?_
  refine S.jp (⟨[(1, .ptr 1001 0), (2, .int .i64 a_1.2), (3, .str a_3.1), (4, .int .i64 a_3.2), (6, .int .i64 a_5.2), (8, .int .i64 a_7.2), (10, .int .i64 a_9.2), (11, .ptr 1011 0), (12, .bool a_11.2), (13, .int .i64 a_13.1), (14, .bool a_13.2), (15, .sl 9 1 (a_15.1.map eS)), (16, .bool a_15.2)], [(1001, ⟨25, [.int .i64 a_1.1.gKind, .str a_1.1.gText, .sl 25 4 (T_api_Json.encs a_1.1.gList), .sl 9 1 (a_1.1.gKeys.map eS)]⟩), (1011, ⟨25, [.int .i64 a_11.1.gKind, .str a_11.1.gText, .sl 25 4 (T_api_Json.encs a_11.1.gList), .sl 9 1 (a_11.1.gKeys.map eS)]⟩)], [], none⟩) (fun _ => rfl) ?_
  refine S.jb (v := ((decide (a_1.2 = 0)) && (decide (a_3.1 = ([123, 34, 97, 34, 58, 91, 49, 44, 45, 48, 46, 53, 101, 43, 51, 44, 34, 195, 169, 47, 34, 93, 44, 34, 34, 58, 110, 117, 108, 108, 125] : List UInt8))))) (fun x_17 => ⟨[(1, .ptr 1001 0), (4, .int .i64 a_3.2), (6, .int .i64 a_5.2), (8, .int .i64 a_7.2), (10, .int .i64 a_9.2), (11, .ptr 1011 0), (12, .bool a_11.2), (13, .int .i64 a_13.1), (14, .bool a_13.2), (15, .sl 9 1 (a_15.1.map eS)), (16, .bool a_15.2), (61, .bool x_17)], [(1001, ⟨25, [.int .i64 a_1.1.gKind, .str a_1.1.gText, .sl 25 4 (T_api_Json.encs a_1.1.gList), .sl 9 1 (a_1.1.gKeys.map eS)]⟩), (1011, ⟨25, [.int .i64 a_11.1.gKind, .str a_11.1.gText, .sl 25 4 (T_api_Json.encs a_11.1.gList), .sl 9 1 (a_11.1.gKeys.map eS)]⟩)], [], none⟩) (fun r => ?_) ?_
  · refine cnd (fun h_18 => ?_) (fun h_18 => ?_)
    · exact jbI rfl (and_t h_18 rfl)
    · exact jbI rfl (and_f h_18)
  · refine S.jb (v := (((decide (a_1.2 = 0)) && (decide (a_3.1 = ([123, 34, 97, 34, 58, 91, 49, 44, 45, 48, 46, 53, 101, 43, 51, 44, 34, 195, 169, 47, 34, 93, 44, 34, 34, 58, 110, 117, 108, 108, 125] : List UInt8)))) && (decide (a_3.2 = 0)))) (fun x_19 => ⟨[(1, .ptr 1001 0), (6, .int .i64 a_5.2), (8, .int .i64 a_7.2), (10, .int .i64 a_9.2), (11, .ptr 1011 0), (12, .bool a_11.2), (13, .int .i64 a_13.1), (14, .bool a_13.2), (15, .sl 9 1 (a_15.1.map eS)), (16, .bool a_15.2), (65, .bool x_19)], [(1001, ⟨25, [.int .i64 a_1.1.gKind, .str a_1.1.gText, .sl 25 4 (T_api_Json.encs a_1.1.gList), .sl 9 1 (a_1.1.gKeys.map eS)]⟩), (1011, ⟨25, [.int .i64 a_11.1.gKind, .str a_11.1.gText, .sl 25 4 (T_api_Json.encs a_11.1.gList), .sl 9 1 (a_11.1.gKeys.map eS)]⟩)], [], none⟩) (fun r => ?_) ?_
    · refine cnd (fun h_20 => ?_) (fun h_20 => ?_)
      · exact jbI rfl (and_t h_20 rfl)
      · exact jbI rfl (and_f h_20)
    · refine S.jb (v := ((((decide (a_1.2 = 0)) && (decide (a_3.1 = ([123, 34, 97, 34, 58, 91, 49, 44, 45, 48, 46, 53, 101, 43, 51, 44, 34, 195, 169, 47, 34, 93, 44, 34, 34, 58, 110, 117, 108, 108, 125] : List UInt8)))) && (decide (a_3.2 = 0))) && (decide (a_5.2 = 20)))) (fun x_21 => ⟨[(1, .ptr 1001 0), (8, .int .i64 a_7.2), (10, .int .i64 a_9.2), (11, .ptr 1011 0), (12, .bool a_11.2), (13, .int .i64 a_13.1), (14, .bool a_13.2), (15, .sl 9 1 (a_15.1.map eS)), (16, .bool a_15.2), (69, .bool x_21)], [(1001, ⟨25, [.int .i64 a_1.1.gKind, .str a_1.1.gText, .sl 25 4 (T_api_Json.encs a_1.1.gList), .sl 9 1 (a_1.1.gKeys.map eS)]⟩), (1011, ⟨25, [.int .i64 a_11.1.gKind, .str a_11.1.gText, .sl 25 4 (T_api_Json.encs a_11.1.gList), .sl 9 1 (a_11.1.gKeys.map eS)]⟩)], [], none⟩) (fun r => ?_) ?_
      · refine cnd (fun h_22 => ?_) (fun h_22 => ?_)
        · exact jbI rfl (and_t h_22 rfl)
        · exact jbI rfl (and_f h_22)
      · refine S.jb (v := (((((decide (a_1.2 = 0)) && (decide (a_3.1 = ([123, 34, 97, 34, 58, 91, 49, 44, 45, 48, 46, 53, 101, 43, 51, 44, 34, 195, 169, 47, 34, 93, 44, 34, 34, 58, 110, 117, 108, 108, 125] : List UInt8)))) && (decide (a_3.2 = 0))) && (decide (a_5.2 = 20))) && (decide (a_7.2 = 21)))) (fun x_23 => ⟨[(1, .ptr 1001 0), (10, .int .i64 a_9.2), (11, .ptr 1011 0), (12, .bool a_11.2), (13, .int .i64 a_13.1), (14, .bool a_13.2), (15, .sl 9 1 (a_15.1.map eS)), (16, .bool a_15.2), (73, .bool x_23)], [(1001, ⟨25, [.int .i64 a_1.1.gKind, .str a_1.1.gText, .sl 25 4 (T_api_Json.encs a_1.1.gList), .sl 9 1 (a_1.1.gKeys.map eS)]⟩), (1011, ⟨25, [.int .i64 a_11.1.gKind, .str a_11.1.gText, .sl 25 4 (T_api_Json.encs a_11.1.gList), .sl 9 1 (a_11.1.gKeys.map eS)]⟩)], [], none⟩) (fun r => ?_) ?_
        · refine cnd (fun h_24 => ?_) (fun h_24 => ?_)
          · exact jbI rfl (and_t h_24 rfl)
          · exact jbI rfl (and_f h_24)
        · refine S.jb (v := ((((((decide (a_1.2 = 0)) && (decide (a_3.1 = ([123, 34, 97, 34, 58, 91, 49, 44, 45, 48, 46, 53, 101, 43, 51, 44, 34, 195, 169, 47, 34, 93, 44, 34, 34, 58, 110, 117, 108, 108, 125] : List UInt8)))) && (decide (a_3.2 = 0))) && (decide (a_5.2 = 20))) && (decide (a_7.2 = 21))) && (decide (a_9.2 = 23)))) (fun x_25 => ⟨[(1, .ptr 1001 0), (11, .ptr 1011 0), (12, .bool a_11.2), (13, .int .i64 a_13.1), (14, .bool a_13.2), (15, .sl 9 1 (a_15.1.map eS)), (16, .bool a_15.2), (77, .bool x_25)], [(1001, ⟨25, [.int .i64 a_1.1.gKind, .str a_1.1.gText, .sl 25 4 (T_api_Json.encs a_1.1.gList), .sl 9 1 (a_1.1.gKeys.map eS)]⟩), (1011, ⟨25, [.int .i64 a_11.1.gKind, .str a_11.1.gText, .sl 25 4 (T_api_Json.encs a_11.1.gList), .sl 9 1 (a_11.1.gKeys.map eS)]⟩)], [], none⟩) (fun r => ?_) ?_
          · refine cnd (fun h_26 => ?_) (fun h_26 => ?_)
            · exact jbI rfl (and_t h_26 rfl)
            · exact jbI rfl (and_f h_26)
          · refine S.jb (v := (((((((decide (a_1.2 = 0)) && (decide (a_3.1 = ([123, 34, 97, 34, 58, 91, 49, 44, 45, 48, 46, 53, 101, 43, 51, 44, 34, 195, 169, 47, 34, 93, 44, 34, 34, 58, 110, 117, 108, 108, 125] : List UInt8)))) && (decide (a_3.2 = 0))) && (decide (a_5.2 = 20))) && (decide (a_7.2 = 21))) && (decide (a_9.2 = 23))) && a_11.2)) (fun x_27 => ⟨[(1, .ptr 1001 0), (11, .ptr 1011 0), (13, .int .i64 a_13.1), (14, .bool a_13.2), (15, .sl 9 1 (a_15.1.map eS)), (16, .bool a_15.2), (80, .bool x_27)], [(1001, ⟨25, [.int .i64 a_1.1.gKind, .str a_1.1.gText, .sl 25 4 (T_api_Json.encs a_1.1.gList), .sl 9 1 (a_1.1.gKeys.map eS)]⟩), (1011, ⟨25, [.int .i64 a_11.1.gKind, .str a_11.1.gText, .sl 25 4 (T_api_Json.encs a_11.1.gList), .sl 9 1 (a_11.1.gKeys.map eS)]⟩)], [], none⟩) (fun r => ?_) ?_
            · refine cnd (fun h_28 => ?_) (fun h_28 => ?_)
              · exact jbI rfl (and_t h_28 rfl)
              · exact jbI rfl (and_f h_28)
            · refine S.jb (v := ((((((((decide (a_1.2 = 0)) && (decide (a_3.1 = ([123, 34, 97, 34, 58, 91, 49, 44, 45, 48, 46, 53, 101, 43, 51, 44, 34, 195, 169, 47, 34, 93, 44, 34, 34, 58, 110, 117, 108, 108, 125] : List UInt8)))) && (decide (a_3.2 = 0))) && (decide (a_5.2 = 20))) && (decide (a_7.2 = 21))) && (decide (a_9.2 = 23))) && a_11.2) && (decide ((a_11.1.gList.length : Int) = 3)))) (fun x_29 => ⟨[(1, .ptr 1001 0), (13, .int .i64 a_13.1), (14, .bool a_13.2), (15, .sl 9 1 (a_15.1.map eS)), (16, .bool a_15.2), (86, .bool x_29)], [(1001, ⟨25, [.int .i64 a_1.1.gKind, .str a_1.1.gText, .sl 25 4 (T_api_Json.encs a_1.1.gList), .sl 9 1 (a_1.1.gKeys.map eS)]⟩)], [], none⟩) (fun r => ?_) ?_
              · refine cnd (fun h_30 => ?_) (fun h_30 => ?_)
                · refine Ex.i (lenD_E T_api_Json.encs_eq) ?_
                  exact jbI rfl (and_t h_30 rfl)
                · exact jbI rfl (and_f h_30)
              · refine S.jb (v := (((((((((decide (a_1.2 = 0)) && (decide (a_3.1 = ([123, 34, 97, 34, 58, 91, 49, 44, 45, 48, 46, 53, 101, 43, 51, 44, 34, 195, 169, 47, 34, 93, 44, 34, 34, 58, 110, 117, 108, 108, 125] : List UInt8)))) && (decide (a_3.2 = 0))) && (decide (a_5.2 = 20))) && (decide (a_7.2 = 21))) && (decide (a_9.2 = 23))) && a_11.2) && (decide ((a_11.1.gList.length : Int) = 3))) && (decide (a_13.1 = (-7))))) (fun x_31 => ⟨[(1, .ptr 1001 0), (14, .bool a_13.2), (15, .sl 9 1 (a_15.1.map eS)), (16, .bool a_15.2), (90, .bool x_31)], [(1001, ⟨25, [.int .i64 a_1.1.gKind, .str a_1.1.gText, .sl 25 4 (T_api_Json.encs a_1.1.gList), .sl 9 1 (a_1.1.gKeys.map eS)]⟩)], [], none⟩) (fun r => ?_) ?_
                · refine cnd (fun h_32 => ?_) (fun h_32 => ?_)
                  · exact jbI rfl (and_t h_32 rfl)
                  · exact jbI rfl (and_f h_32)
                · refine S.jb (v := ((((((((((decide (a_1.2 = 0)) && (decide (a_3.1 = ([123, 34, 97, 34, 58, 91, 49, 44, 45, 48, 46, 53, 101, 43, 51, 44, 34, 195, 169, 47, 34, 93, 44, 34, 34, 58, 110, 117, 108, 108, 125] : List UInt8)))) && (decide (a_3.2 = 0))) && (decide (a_5.2 = 20))) && (decide (a_7.2 = 21))) && (decide (a_9.2 = 23))) && a_11.2) && (decide ((a_11.1.gList.length : Int) = 3))) && (decide (a_13.1 = (-7)))) && a_13.2)) (fun x_33 => ⟨[(1, .ptr 1001 0), (15, .sl 9 1 (a_15.1.map eS)), (16, .bool a_15.2), (93, .bool x_33)], [(1001, ⟨25, [.int .i64 a_1.1.gKind, .str a_1.1.gText, .sl 25 4 (T_api_Json.encs a_1.1.gList), .sl 9 1 (a_1.1.gKeys.map eS)]⟩)], [], none⟩) (fun r => ?_) ?_
                  · refine cnd (fun h_34 => ?_) (fun h_34 => ?_)
                    · exact jbI rfl (and_t h_34 rfl)
                    · exact jbI rfl (and_f h_34)
                  · refine S.jb (v := (((((((((((decide (a_1.2 = 0)) && (decide (a_3.1 = ([123, 34, 97, 34, 58, 91, 49, 44, 45, 48, 46, 53, 101, 43, 51, 44, 34, 195, 169, 47, 34, 93, 44, 34, 34, 58, 110, 117, 108, 108, 125] : List UInt8)))) && (decide (a_3.2 = 0))) && (decide (a_5.2 = 20))) && (decide (a_7.2 = 21))) && (decide (a_9.2 = 23))) && a_11.2) && (decide ((a_11.1.gList.length : Int) = 3))) && (decide (a_13.1 = (-7)))) && a_13.2) && (decide ((a_15.1.length : Int) = 1)))) (fun x_35 => ⟨[(1, .ptr 1001 0), (15, .sl 9 1 (a_15.1.map eS)), (16, .bool a_15.2), (98, .bool x_35)], [(1001, ⟨25, [.int .i64 a_1.1.gKind, .str a_1.1.gText, .sl 25 4 (T_api_Json.encs a_1.1.gList), .sl 9 1 (a_1.1.gKeys.map eS)]⟩)], [], none⟩) (fun r => ?_) ?_
                    · refine cnd (fun h_36 => ?_) (fun h_36 => ?_)
                      · refine Ex.i lenD_map ?_
                        exact jbI rfl (and_t h_36 rfl)
                      · exact jbI rfl (and_f h_36)
                    · refine S.j (fun j_39 => ⟨[(1, .ptr 1001 0), (16, .bool a_15.2), (104, .bool j_39)], [(1001, ⟨25, [.int .i64 a_1.1.gKind, .str a_1.1.gText, .sl 25 4 (T_api_Json.encs a_1.1.gList), .sl 9 1 (a_1.1.gKeys.map eS)]⟩)], [], none⟩) (fun r => ?_) fun j_39 => ?_
                      · refine S.cb ?_ ?_
                        · refine S.ixE (f := eS) (c := fun x => [D.str x]) (fun _ => rfl) rfl (fun _ => rfl) fun x_40 => ?_
                          exact S.z rfl
                        · exact S.z rfl
                      · refine S.jb (v := (j_39 && a_15.2)) (fun x_41 => ⟨[(1, .ptr 1001 0), (107, .bool x_41)], [(1001, ⟨25, [.int .i64 a_1.1.gKind, .str a_1.1.gText, .sl 25 4 (T_api_Json.encs a_1.1.gList), .sl 9 1 (a_1.1.gKeys.map eS)]⟩)], [], none⟩) (fun r => ?_) ?_
                        · refine cnd (fun h_42 => ?_) (fun h_42 => ?_)
                          · exact jbI rfl (and_t h_42 rfl)
                          · exact jbI rfl (and_f h_42)
                        · refine S.j (fun j_46 => ⟨[(112, .bool j_46)], [], [], none⟩) (fun r => ?_) fun j_46 => ?_
                          · refine S.cb ?_ ?_
                            · refine S.k [] [] [] (C.json_Check fuel a_1.1) rfl trivial trivial rfl fun a_47 => ?_
                              refine S.an rfl ?_
                              exact S.z rfl
                            · exact S.z rfl
                          · refine S.jb (v := (j_46 && true)) (fun x_49 => ⟨[(114, .bool x_49)], [], [], none⟩) (fun r => ?_) ?_
                            · refine cnd (fun h_50 => ?_) (fun h_50 => ?_)
                              · exact jbI rfl (and_t h_50 rfl)
                              · exact jbI rfl (and_f h_50)
                            · refine S.jb (v := ((j_46 && true) && true)) (fun x_51 => ⟨[(116, .bool x_51)], [], [], none⟩) (fun r => ?_) ?_
                              · refine cnd (fun h_52 => ?_) (fun h_52 => ?_)
                                · exact jbI rfl (and_t h_52 rfl)
                                · exact jbI rfl (and_f h_52)
                              · refine S.jb (v := (((j_46 && true) && true) && true)) (fun x_53 => ⟨[(118, .bool x_53)], [], [], none⟩) (fun r => ?_) ?_
                                · refine cnd (fun h_54 => ?_) (fun h_54 => ?_)
                                  · exact jbI rfl (and_t h_54 rfl)
                                  · exact jbI rfl (and_f h_54)
                                · refine S.jb (v := ((((j_46 && true) && true) && true) && true)) (fun x_55 => ⟨[(120, .bool x_55)], [], [], none⟩) (fun r => ?_) ?_
                                  · refine cnd (fun h_56 => ?_) (fun h_56 => ?_)
                                    · exact jbI rfl (and_t h_56 rfl)
                                    · exact jbI rfl (and_f h_56)
                                  · exact S.z ⟨rfl, trivial, trivial, rfl⟩
set_option maxRecDepth 1000000 in
set_option maxHeartbeats 4000000 in
theorem C.l02_awake (fuel : Nat) : S (M.l02_awake fuel) fun r => Con Tryz.prog GG 10 (I.l02_awake) (O.l02_awake r) := by
  intro r hm; exact Con.of TBG (fun _ _ => rfl) Tryz.func10 rfl rfl (res := [.tmp 0]) rfl (by kernel_rfl) rfl rfl rfl (L.l02_awake fuel r hm)
def A.r02_digit : Ann := { reg := [(1, [(3, 3, { L := [8], B := [], A := [] })])] }
@[reducible] def I.r02_digit (p0 : Int) : CIn := ⟨[.int .u8 p0], [], []⟩
@[reducible] def O.r02_digit : Bool → COut
  | r => .ok [.bool r] [] []
set_option maxRecDepth 1000000 in
set_option maxHeartbeats 4000000 in
theorem L.r02_digit (p0 : Int) : S (M.r02_digit p0) fun r => ex TB CT A.r02_digit (Con Tryz.prog GG) (bodyOf Tryz.f36) (entry (I.r02_digit p0)) (fin TB A.r02_digit [.tmp 2] (O.r02_digit r)) := by
  unfold M.r02_digit
  refine S.jb (v := ((decide (48 ≤ p0)) && (decide (p0 ≤ 57)))) (fun x_1 => ⟨[(8, .bool x_1)], [], [], none⟩) (fun r => ?_) ?_
  · refine cnd (fun h_2 => ?_) (fun h_2 => ?_)
    · exact jbI rfl (and_t h_2 rfl)
    · exact jbI rfl (and_f h_2)
  · exact S.z ⟨rfl, trivial, trivial, rfl⟩
set_option maxRecDepth 1000000 in
set_option maxHeartbeats 4000000 in
theorem C.r02_digit (p0 : Int) : S (M.r02_digit p0) fun r => Con Tryz.prog GG 36 (I.r02_digit p0) (O.r02_digit r) := by
  intro r hm; exact Con.of TBG (fun _ _ => rfl) Tryz.func36 rfl rfl (res := [.tmp 2]) rfl (by kernel_rfl) rfl rfl rfl (L.r02_digit p0 r hm)
def A.r02_number : Ann := { seq := [(4, { L := [0, 3], B := [], A := [] }), (7, { L := [0, 3, 4], B := [], A := [] }), (13, { L := [0, 3], B := [], A := [] }), (17, { L := [0, 3, 5], B := [], A := [] }), (20, { L := [3, 4, 5], B := [], A := [] }), (22, { L := [3], B := [], A := [] })], loop := [(5, { L := [0, 3, 4], B := [], A := [] }), (11, { L := [0, 3], B := [], A := [] }), (18, { L := [0, 3, 4, 5], B := [], A := [] })], reg := [(2, [(5, 5, { L := [0, 3, 15], B := [], A := [] })]), (5, [(5, 5, { L := [0, 3, 4, 28], B := [], A := [] }), (1, 10, { L := [0, 3, 4, 39], B := [], A := [] })]), (9, [(6, 5, { L := [0, 3, 55], B := [], A := [] }), (1, 6, { L := [0, 3, 62], B := [], A := [] })]), (11, [(5, 5, { L := [0, 3, 74], B := [], A := [] })]), (13, [(5, 11, { L := [0, 3, 92], B := [], A := [] })]), (15, [(5, 11, { L := [0, 3, 5, 110], B := [], A := [] })]), (18, [(5, 5, { L := [0, 3, 4, 5, 123], B := [], A := [] })])] }
@[reducible] def I.r02_number (p0 : List UInt8) : CIn := ⟨[.str p0], [], []⟩
@[reducible] def O.r02_number : Int → COut
  | r => .ok [.int .i64 r] [] []
set_option maxRecDepth 1000000 in
set_option maxHeartbeats 4000000 in
theorem L.r02_number (p0 : List UInt8) : S (M.r02_number p0) fun r => ex TB CT A.r02_number (Con Tryz.prog GG) (bodyOf Tryz.f72) (entry (I.r02_number p0)) (fin TB A.r02_number [.tmp 2] (O.r02_number r)) := by
  unfold M.r02_number
  refine S.j (fun j_10 => ⟨[(0, .str p0), (3, .int .i64 j_10)], [], [], none⟩) (fun r => ?_) fun j_10 => ?_
  · refine S.j (fun j_13 => ⟨[(0, .str p0), (3, .int .i64 0), (15, .bool j_13)], [], [], none⟩) (fun r => ?_) fun j_13 => ?_
    · refine S.cb ?_ ?_
      · refine S.e fun c_14 => ?_
        exact S.z rfl
      · exact S.z rfl
    · refine S.cb ?_ ?_
      · exact S.z rfl
      · exact S.z rfl
  · refine S.j (fun j_53 => ⟨[(0, .str p0), (3, .int .i64 j_53), (4, .int .i64 j_10)], [], [], none⟩) (fun r => ?_) fun j_53 => ?_
    · refine S.lw (L := M.r02_number_k1 p0 j_10) (fun x_66 => ⟨[(0, .str p0), (3, .int .i64 x_66), (4, .int .i64 j_10)], [], [], none⟩) (M.r02_number_k1.partial_correctness p0 j_10) rfl fun f_r02_number_k1 I_r02_number_k1 ih_r02_number_k1 x_66 => ?_
      refine S.j (fun j_83 => ⟨[(0, .str p0), (3, .int .i64 x_66), (4, .int .i64 j_10), (28, .bool j_83)], [], [], none⟩) (fun r => ?_) fun j_83 => ?_
      · refine S.cb ?_ ?_
        · refine S.e fun c_84 => ?_
          refine S.k [] [] [] (C.r02_digit (c_84.toNat : Int)) rfl trivial trivial rfl fun a_85 => ?_
          refine S.an rfl ?_
          exact S.z rfl
        · exact S.z rfl
      · refine S.j (fun j_89 => ⟨[(0, .str p0), (3, .int .i64 x_66), (4, .int .i64 j_10), (39, .bool j_89)], [], [], none⟩) (fun r => ?_) fun j_89 => ?_
        · refine S.cb ?_ ?_
          · refine S.cb ?_ ?_
            · exact S.z rfl
            · refine S.e fun c_90 => ?_
              exact S.z rfl
          · exact S.z rfl
        · refine S.cb ?_ ?_
          · exact ih_r02_number_k1 _
          · exact S.z rfl
    · refine S.cb ?_ ?_
      · exact S.z ⟨rfl, trivial, trivial, rfl⟩
      · refine S.j (fun j_129 => ⟨[(0, .str p0), (3, .int .i64 j_129)], [], [], none⟩) (fun r => ?_) fun j_129 => ?_
        · refine S.j (fun j_132 => ⟨[(0, .str p0), (3, .int .i64 j_53), (55, .bool j_132)], [], [], none⟩) (fun r => ?_) fun j_132 => ?_
          · refine S.cb ?_ ?_
            · refine S.e fun c_133 => ?_
              exact S.z rfl
            · exact S.z rfl
          · refine S.j (fun j_138 => ⟨[(0, .str p0), (3, .int .i64 j_53), (62, .bool j_138)], [], [], none⟩) (fun r => ?_) fun j_138 => ?_
            · refine S.cb ?_ ?_
              · refine S.e fun c_139 => ?_
                refine S.k [] [] [] (C.r02_digit (c_139.toNat : Int)) rfl trivial trivial rfl fun a_140 => ?_
                refine S.an rfl ?_
                exact S.z rfl
              · exact S.z rfl
            · refine S.cb ?_ ?_
              · refine S.lw (L := M.r02_number_k2 p0) (fun x_150 => ⟨[(0, .str p0), (3, .int .i64 x_150)], [], [], none⟩) (M.r02_number_k2.partial_correctness p0) rfl fun f_r02_number_k2 I_r02_number_k2 ih_r02_number_k2 x_150 => ?_
                refine S.j (fun j_163 => ⟨[(0, .str p0), (3, .int .i64 x_150), (74, .bool j_163)], [], [], none⟩) (fun r => ?_) fun j_163 => ?_
                · refine S.cb ?_ ?_
                  · refine S.e fun c_164 => ?_
                    refine S.k [] [] [] (C.r02_digit (c_164.toNat : Int)) rfl trivial trivial rfl fun a_165 => ?_
                    refine S.an rfl ?_
                    exact S.z rfl
                  · exact S.z rfl
                · refine S.cb ?_ ?_
                  · exact ih_r02_number_k2 _
                  · exact S.z rfl
              · exact S.z rfl
        · refine S.j (fun j_246 => ⟨[(3, .int .i64 j_246)], [], [], none⟩) (fun r => ?_) fun j_246 => ?_
          · refine S.j (fun j_250 => ⟨[(0, .str p0), (3, .int .i64 j_129), (92, .bool j_250)], [], [], none⟩) (fun r => ?_) fun j_250 => ?_
            · refine S.cb ?_ ?_
              · refine S.e fun c_251 => ?_
                refine S.cb ?_ ?_
                · exact S.z rfl
                · refine S.e fun c_252 => ?_
                  exact S.z rfl
              · exact S.z rfl
            · refine S.cb ?_ ?_
              · refine S.j (fun j_266 => ⟨[(0, .str p0), (3, .int .i64 j_129), (5, .int .i64 j_266)], [], [], none⟩) (fun r => ?_) fun j_266 => ?_
                · refine S.j (fun j_270 => ⟨[(0, .str p0), (3, .int .i64 j_129), (5, .int .i64 (IntKind.wrap .i64 (j_129 + 1))), (110, .bool j_270)], [], [], none⟩) (fun r => ?_) fun j_270 => ?_
                  · refine S.cb ?_ ?_
                    · refine S.e fun c_271 => ?_
                      refine S.cb ?_ ?_
                      · exact S.z rfl
                      · refine S.e fun c_272 => ?_
                        exact S.z rfl
                    · exact S.z rfl
                  · refine S.cb ?_ ?_
                    · exact S.z rfl
                    · exact S.z rfl
                · refine S.j (fun j_299 => ⟨[(3, .int .i64 j_129), (4, .int .i64 j_266), (5, .int .i64 j_299)], [], [], none⟩) (fun r => ?_) fun j_299 => ?_
                  · refine S.lw (L := M.r02_number_k3 p0) (fun x_308 => ⟨[(0, .str p0), (3, .int .i64 j_129), (4, .int .i64 j_266), (5, .int .i64 x_308)], [], [], none⟩) (M.r02_number_k3.partial_correctness p0) rfl fun f_r02_number_k3 I_r02_number_k3 ih_r02_number_k3 x_308 => ?_
                    refine S.j (fun j_321 => ⟨[(0, .str p0), (3, .int .i64 j_129), (4, .int .i64 j_266), (5, .int .i64 x_308), (123, .bool j_321)], [], [], none⟩) (fun r => ?_) fun j_321 => ?_
                    · refine S.cb ?_ ?_
                      · refine S.e fun c_322 => ?_
                        refine S.k [] [] [] (C.r02_digit (c_322.toNat : Int)) rfl trivial trivial rfl fun a_323 => ?_
                        refine S.an rfl ?_
                        exact S.z rfl
                      · exact S.z rfl
                    · refine S.cb ?_ ?_
                      · exact ih_r02_number_k3 _
                      · exact S.z rfl
                  · refine S.cb ?_ ?_
                    · exact S.z rfl
                    · exact S.z rfl
              · exact S.z rfl
          · exact S.z ⟨rfl, trivial, trivial, rfl⟩
set_option maxRecDepth 1000000 in
set_option maxHeartbeats 4000000 in
theorem C.r02_number (p0 : List UInt8) : S (M.r02_number p0) fun r => Con Tryz.prog GG 72 (I.r02_number p0) (O.r02_number r) := by
  intro r hm; exact Con.of TBG (fun _ _ => rfl) Tryz.func72 rfl rfl (res := [.tmp 2]) rfl (by kernel_rfl) rfl rfl rfl (L.r02_number p0 r hm)
def A.r02_twice : Ann := { seq := [(3, { L := [0, 3], B := [], A := [] }), (9, { L := [], B := [], A := [] })], loop := [(2, { L := [0, 3], B := [], A := [] }), (5, { L := [0, 3, 4], B := [], A := [] })], drw := [(7, { anc := [0, 0, 3, 7, 0, 0, 48, 112, 255], E := [], qs := [0, 1, 2, 3, 4, 5, 6, 7, 8], g := .fin })] }
@[reducible] def I.r02_twice (p0 : List (List UInt8)) : CIn := ⟨[.sl 9 1 (p0.map eS)], [], []⟩
@[reducible] def O.r02_twice : Bool → COut
  | r => .ok [.bool r] [] []
set_option maxRecDepth 1000000 in
set_option maxHeartbeats 4000000 in
theorem L.r02_twice (p0 : List (List UInt8)) : S (M.r02_twice p0) fun r => ex TB CT A.r02_twice (Con Tryz.prog GG) (bodyOf Tryz.f64) (entry (I.r02_twice p0)) (fin TB A.r02_twice [.tmp 2] (O.r02_twice r)) := by
  unfold M.r02_twice
  refine S.jn (fun _ => ⟨[], [], [], none⟩) ?_ (fun _ => rfl) fun j_47 => ?_
  · refine S.lw (L := M.r02_twice_k1 p0) (fun x_63 => ⟨[(0, .sl 9 1 (p0.map eS)), (3, .int .i64 x_63)], [], [], none⟩) (M.r02_twice_k1.partial_correctness p0) rfl fun f_r02_twice_k1 I_r02_twice_k1 ih_r02_twice_k1 x_63 => ?_
    refine S.eq lenD_map ?_
    refine S.cb ?_ ?_
    · refine S.jn (fun _ => ⟨[(0, .sl 9 1 (p0.map eS)), (3, .int .i64 x_63)], [], [], none⟩) ?_ (fun _ => rfl) fun j_86 => ?_
      · refine S.lw (L := M.r02_twice_k2 x_63 p0) (fun x_89 => ⟨[(0, .sl 9 1 (p0.map eS)), (3, .int .i64 x_63), (4, .int .i64 x_89)], [], [], none⟩) (M.r02_twice_k2.partial_correctness x_63 p0) rfl fun f_r02_twice_k2 I_r02_twice_k2 ih_r02_twice_k2 x_89 => ?_
        refine S.cb ?_ ?_
        · refine S.ixE (f := eS) (c := fun x => [D.str x]) (fun _ => rfl) rfl (fun _ => rfl) fun x_92 => ?_
          refine S.ixE (f := eS) (c := fun x => [D.str x]) (fun _ => rfl) rfl (fun _ => rfl) fun x_93 => ?_
          refine S.an trivial ?_
          refine S.cb ?_ ?_
          · exact S.z ⟨rfl, trivial, trivial, rfl⟩
          · exact ih_r02_twice_k2 _
        · exact S.z rfl
      · exact ih_r02_twice_k1 _
    · exact S.z rfl
  · exact S.z ⟨rfl, trivial, trivial, rfl⟩
set_option maxRecDepth 1000000 in
set_option maxHeartbeats 4000000 in
theorem C.r02_twice (p0 : List (List UInt8)) : S (M.r02_twice p0) fun r => Con Tryz.prog GG 64 (I.r02_twice p0) (O.r02_twice r) := by
  intro r hm; exact Con.of TBG (fun _ _ => rfl) Tryz.func64 rfl rfl (res := [.tmp 2]) rfl (by kernel_rfl) rfl rfl rfl (L.r02_twice p0 r hm)
def A.r02_form : Ann := { seq := [(6, { L := [1], B := [], A := [] }), (10, { L := [1, 19, 20], B := [], A := [] })], loop := [(2, { L := [1, 3], B := [], A := [] })], reg := [(4, [(7, 0, { L := [1, 3, 17], B := [], A := [] })]), (10, [(4, 5, { L := [1, 32], B := [], A := [] }), (1, 5, { L := [38], B := [], A := [] })]), (14, [(4, 5, { L := [1, 75], B := [], A := [] }), (1, 5, { L := [81], B := [], A := [] })]), (16, [(4, 5, { L := [92], B := [], A := [] })]), (18, [(4, 8, { L := [1, 106], B := [], A := [] }), (1, 5, { L := [112], B := [], A := [] })])], drw := [(12, { anc := [0, 1, 3, 7, 15, 31, 63, 15, 143, 399, 1023, 2047, 4095, 8191, 16383, 32767, 65535, 131071, 262143, 524287, 1048575, 2097151, 4194303, 8388607, 16777215], E := [6], qs := [0, 1, 2, 3, 4, 5, 7, 8, 9], g := .one 6 [7, 8, 9] [10, 11, 12, 13, 14, 15, 16, 17, 18, 19, 20, 21, 22, 23, 24] (.fin) })], ro := [1] }
@[reducible] def I.r02_form (p0 : T_api_Json) : CIn := ⟨[.agg [.int .i64 p0.gKind, .str p0.gText, .sl 25 4 (T_api_Json.encs p0.gList), .sl 9 1 (p0.gKeys.map eS)]], [], []⟩
@[reducible] def O.r02_form : Bool → COut
  | r => .ok [.bool r] [] []
set_option maxRecDepth 1000000 in
set_option maxHeartbeats 4000000 in
theorem L.r02_form (p0 : T_api_Json) : S (M.r02_form p0) fun r => ex TB CT A.r02_form (Con Tryz.prog GG) (bodyOf Tryz.f47) (entry (I.r02_form p0)) (fin TB A.r02_form [.tmp 2] (O.r02_form r)) := by
  unfold M.r02_form
  refine S.jn (fun _ => ⟨[(1, .cptr [.int .i64 p0.gKind, .str p0.gText, .sl 25 4 (T_api_Json.encs p0.gList), .sl 9 1 (p0.gKeys.map eS)] 0)], [], [], none⟩) ?_ (fun _ => rfl) fun j_11 => ?_
  · refine S.lw (L := M.r02_form_k1 p0) (fun x_15 => ⟨[(1, .cptr [.int .i64 p0.gKind, .str p0.gText, .sl 25 4 (T_api_Json.encs p0.gList), .sl 9 1 (p0.gKeys.map eS)] 0), (3, .int .i64 x_15)], [], [], none⟩) (M.r02_form_k1.partial_correctness p0) rfl fun f_r02_form_k1 I_r02_form_k1 ih_r02_form_k1 x_15 => ?_
    refine S.eq lenD_map ?_
    refine S.cb ?_ ?_
    · refine S.ixE (f := eS) (c := fun x => [D.str x]) (fun _ => rfl) rfl (fun _ => rfl) fun x_19 => ?_
      refine S.k [] [] [] (C.validString x_19) rfl trivial trivial rfl fun a_20 => ?_
      refine S.an rfl ?_
      refine S.jp (⟨[(1, .cptr [.int .i64 p0.gKind, .str p0.gText, .sl 25 4 (T_api_Json.encs p0.gList), .sl 9 1 (p0.gKeys.map eS)] 0), (3, .int .i64 x_15), (17, .bool (!a_20))], [], [], none⟩) (fun _ => rfl) ?_
      refine S.cb ?_ ?_
      · exact S.z ⟨rfl, trivial, trivial, rfl⟩
      · exact ih_r02_form_k1 _
    · exact S.z rfl
  · refine S.j (fun j_23 => ⟨[(1, .cptr [.int .i64 p0.gKind, .str p0.gText, .sl 25 4 (T_api_Json.encs p0.gList), .sl 9 1 (p0.gKeys.map eS)] 0), (19, .int .i64 p0.gKind), (20, .bool j_23)], [], [], none⟩) (fun r => ?_) fun j_23 => ?_
    · refine S.cb ?_ ?_
      · exact S.z rfl
      · refine S.cb ?_ ?_
        · exact S.z rfl
        · exact S.z rfl
    · refine S.cb ?_ ?_
      · refine S.jb (v := ((decide (p0.gText = ([] : List UInt8))) && (decide ((p0.gList.length : Int) = 0)))) (fun x_24 => ⟨[(1, .cptr [.int .i64 p0.gKind, .str p0.gText, .sl 25 4 (T_api_Json.encs p0.gList), .sl 9 1 (p0.gKeys.map eS)] 0), (32, .bool x_24)], [], [], none⟩) (fun r => ?_) ?_
        · refine cnd (fun h_25 => ?_) (fun h_25 => ?_)
          · refine Ex.i (lenD_E T_api_Json.encs_eq) ?_
            exact jbI rfl (and_t h_25 rfl)
          · exact jbI rfl (and_f h_25)
        · refine S.jb (v := (((decide (p0.gText = ([] : List UInt8))) && (decide ((p0.gList.length : Int) = 0))) && (decide ((p0.gKeys.length : Int) = 0)))) (fun x_26 => ⟨[(38, .bool x_26)], [], [], none⟩) (fun r => ?_) ?_
          · refine cnd (fun h_27 => ?_) (fun h_27 => ?_)
            · refine Ex.i lenD_map ?_
              exact jbI rfl (and_t h_27 rfl)
            · exact jbI rfl (and_f h_27)
          · exact S.z ⟨rfl, trivial, trivial, rfl⟩
      · refine S.cb ?_ ?_
        · refine S.cb ?_ ?_
          · refine S.an trivial ?_
            refine S.k [] [] [] (C.r02_number p0.gText) rfl trivial trivial rfl fun a_28 => ?_
            refine S.an rfl ?_
            refine S.cb ?_ ?_
            · refine S.eq (lenD_E T_api_Json.encs_eq) ?_
              refine S.cb ?_ ?_
              · refine S.eq lenD_map ?_
                refine S.an trivial ?_
                exact S.z ⟨rfl, trivial, trivial, rfl⟩
              · refine S.an trivial ?_
                exact S.z ⟨rfl, trivial, trivial, rfl⟩
            · refine S.an trivial ?_
              exact S.z ⟨rfl, trivial, trivial, rfl⟩
          · refine S.an trivial ?_
            refine S.an trivial ?_
            exact S.z ⟨rfl, trivial, trivial, rfl⟩
        · refine S.cb ?_ ?_
          · refine S.k [] [] [] (C.validString p0.gText) rfl trivial trivial rfl fun a_30 => ?_
            refine S.an rfl ?_
            refine S.jb (v := (a_30 && (decide ((p0.gList.length : Int) = 0)))) (fun x_32 => ⟨[(1, .cptr [.int .i64 p0.gKind, .str p0.gText, .sl 25 4 (T_api_Json.encs p0.gList), .sl 9 1 (p0.gKeys.map eS)] 0), (75, .bool x_32)], [], [], none⟩) (fun r => ?_) ?_
            · refine cnd (fun h_33 => ?_) (fun h_33 => ?_)
              · refine Ex.i (lenD_E T_api_Json.encs_eq) ?_
                exact jbI rfl (and_t h_33 rfl)
              · exact jbI rfl (and_f h_33)
            · refine S.jb (v := ((a_30 && (decide ((p0.gList.length : Int) = 0))) && (decide ((p0.gKeys.length : Int) = 0)))) (fun x_34 => ⟨[(81, .bool x_34)], [], [], none⟩) (fun r => ?_) ?_
              · refine cnd (fun h_35 => ?_) (fun h_35 => ?_)
                · refine Ex.i lenD_map ?_
                  exact jbI rfl (and_t h_35 rfl)
                · exact jbI rfl (and_f h_35)
              · exact S.z ⟨rfl, trivial, trivial, rfl⟩
          · refine S.cb ?_ ?_
            · refine S.jb (v := ((decide (p0.gText = ([] : List UInt8))) && (decide ((p0.gKeys.length : Int) = 0)))) (fun x_36 => ⟨[(92, .bool x_36)], [], [], none⟩) (fun r => ?_) ?_
              · refine cnd (fun h_37 => ?_) (fun h_37 => ?_)
                · refine Ex.i lenD_map ?_
                  exact jbI rfl (and_t h_37 rfl)
                · exact jbI rfl (and_f h_37)
              · exact S.z ⟨rfl, trivial, trivial, rfl⟩
            · refine S.cb ?_ ?_
              · refine S.jb (v := ((decide (p0.gText = ([] : List UInt8))) && (decide ((p0.gKeys.length : Int) = (p0.gList.length : Int))))) (fun x_38 => ⟨[(1, .cptr [.int .i64 p0.gKind, .str p0.gText, .sl 25 4 (T_api_Json.encs p0.gList), .sl 9 1 (p0.gKeys.map eS)] 0), (106, .bool x_38)], [], [], none⟩) (fun r => ?_) ?_
                · refine cnd (fun h_39 => ?_) (fun h_39 => ?_)
                  · refine Ex.i lenD_map ?_
                    refine Ex.i (lenD_E T_api_Json.encs_eq) ?_
                    exact jbI rfl (and_t h_39 rfl)
                  · exact jbI rfl (and_f h_39)
                · refine S.j (fun j_43 => ⟨[(112, .bool j_43)], [], [], none⟩) (fun r => ?_) fun j_43 => ?_
                  · refine S.cb ?_ ?_
                    · refine S.k [] [] [] (C.r02_twice p0.gKeys) rfl trivial trivial rfl fun a_44 => ?_
                      refine S.an rfl ?_
                      exact S.z rfl
                    · exact S.z rfl
                  · exact S.z ⟨rfl, trivial, trivial, rfl⟩
              · exact S.z ⟨rfl, trivial, trivial, rfl⟩
set_option maxRecDepth 1000000 in
set_option maxHeartbeats 4000000 in
theorem C.r02_form (p0 : T_api_Json) : S (M.r02_form p0) fun r => Con Tryz.prog GG 47 (I.r02_form p0) (O.r02_form r) := by
  intro r hm; exact Con.of TBG (fun _ _ => rfl) Tryz.func47 rfl rfl (res := [.tmp 2]) rfl (by kernel_rfl) rfl rfl rfl (L.r02_form p0 r hm)
def A.r02_check : Ann := { seq := [(11, { L := [], B := [], A := [] })], loop := [(6, { L := [1, 2, 5], B := [], A := [] })], reg := [(1, [(4, 4, { L := [1, 2, 14], B := [], A := [] }), (1, 3, { L := [1, 2, 18], B := [], A := [] })]), (8, [(9, 0, { L := [1, 2, 5, 6], B := [], A := [] })])], ro := [2] }
@[reducible] def I.r02_check (p0 : T_api_Json) (p1 : Int) : CIn := ⟨[.agg [.int .i64 p0.gKind, .str p0.gText, .sl 25 4 (T_api_Json.encs p0.gList), .sl 9 1 (p0.gKeys.map eS)], .int .i64 p1], [], []⟩
@[reducible] def O.r02_check : Int → COut
  | r => .ok [.int .i64 r] [] []
set_option maxRecDepth 1000000 in
set_option maxHeartbeats 4000000 in
theorem L.r02_check (fuel : Nat) (ih_r02_check : ∀ (p0 : T_api_Json) (p1 : Int), S (M.r02_check fuel p0 p1) fun r => Con Tryz.prog GG 27 (I.r02_check p0 p1) (O.r02_check r)) (p0 : T_api_Json) (p1 : Int) : S (M.r02_check (fuel + 1) p0 p1) fun r => ex TB CT A.r02_check (Con Tryz.prog GG) (bodyOf Tryz.f27) (entry (I.r02_check p0 p1)) (fin TB A.r02_check [.tmp 4] (O.r02_check r)) := by
  unfold M.r02_check
  refine S.jb (v := ((decide (p0.gKind = 5)) || (decide (p0.gKind = 6)))) (fun x_5 => ⟨[(1, .int .i64 p1), (2, .cptr [.int .i64 p0.gKind, .str p0.gText, .sl 25 4 (T_api_Json.encs p0.gList), .sl 9 1 (p0.gKeys.map eS)] 0), (14, .bool x_5)], [], [], none⟩) (fun r => ?_) ?_
  · refine cnd (fun h_6 => ?_) (fun h_6 => ?_)
    · exact jbI rfl (or_t h_6)
    · exact jbI rfl (or_f h_6 rfl)
  · refine S.jb (v := (((decide (p0.gKind = 5)) || (decide (p0.gKind = 6))) && (decide (16 ≤ p1)))) (fun x_7 => ⟨[(1, .int .i64 p1), (2, .cptr [.int .i64 p0.gKind, .str p0.gText, .sl 25 4 (T_api_Json.encs p0.gList), .sl 9 1 (p0.gKeys.map eS)] 0), (18, .bool x_7)], [], [], none⟩) (fun r => ?_) ?_
    · refine cnd (fun h_8 => ?_) (fun h_8 => ?_)
      · exact jbI rfl (and_t h_8 rfl)
      · exact jbI rfl (and_f h_8)
    · refine S.cb ?_ ?_
      · exact S.z ⟨rfl, trivial, trivial, rfl⟩
      · refine S.k [] [] [] (C.r02_form p0) rfl trivial trivial rfl fun a_11 => ?_
        refine S.an rfl ?_
        refine S.cb ?_ ?_
        · exact S.z ⟨rfl, trivial, trivial, rfl⟩
        · refine S.jn (fun _ => ⟨[], [], [], none⟩) ?_ (fun _ => rfl) fun j_23 => ?_
          · refine S.lw (L := M.r02_check_k1 p0 (M.r02_check fuel) p1) (fun x_27 => ⟨[(1, .int .i64 p1), (2, .cptr [.int .i64 p0.gKind, .str p0.gText, .sl 25 4 (T_api_Json.encs p0.gList), .sl 9 1 (p0.gKeys.map eS)] 0), (5, .int .i64 x_27)], [], [], none⟩) (M.r02_check_k1.partial_correctness p0 (M.r02_check fuel) p1) rfl fun f_r02_check_k1 I_r02_check_k1 ih_r02_check_k1 x_27 => ?_
            refine S.eq (lenD_E T_api_Json.encs_eq) ?_
            refine S.cb ?_ ?_
            · refine S.ixE T_api_Json.encs_eq rfl T_api_Json.enc_c fun x_31 => ?_
              refine S.k [] [] [] (ih_r02_check x_31 (IntKind.wrap .i64 (p1 + 1))) rfl trivial trivial rfl fun a_32 => ?_
              refine S.an rfl ?_
              refine S.jp (⟨[(1, .int .i64 p1), (2, .cptr [.int .i64 p0.gKind, .str p0.gText, .sl 25 4 (T_api_Json.encs p0.gList), .sl 9 1 (p0.gKeys.map eS)] 0), (5, .int .i64 x_27), (6, .int .i64 a_32)], [], [], none⟩) (fun _ => rfl) ?_
              refine S.cb ?_ ?_
              · exact S.z ⟨rfl, trivial, trivial, rfl⟩
              · exact ih_r02_check_k1 _
            · exact S.z rfl
          · exact S.z ⟨rfl, trivial, trivial, rfl⟩
set_option maxRecDepth 1000000 in
set_option maxHeartbeats 4000000 in
theorem C.r02_check_all (fuel : Nat) : (∀ (p0 : T_api_Json) (p1 : Int), S (M.r02_check fuel p0 p1) fun r => Con Tryz.prog GG 27 (I.r02_check p0 p1) (O.r02_check r)) := by
  induction fuel with
  | zero => exact (by intros; intro r hm; cases hm)
  | succ fuel ih =>
    · intro p0 p1; intro r hm; exact Con.of TBG (fun _ _ => rfl) Tryz.func27 rfl rfl (res := [.tmp 4]) rfl (by kernel_rfl) rfl rfl rfl (L.r02_check fuel ih p0 p1 r hm)
theorem C.r02_check (fuel : Nat) (p0 : T_api_Json) (p1 : Int) : S (M.r02_check fuel p0 p1) fun r => Con Tryz.prog GG 27 (I.r02_check p0 p1) (O.r02_check r) := (C.r02_check_all fuel) p0 p1
def A.r02_Check : Ann := { ro := [1] }
@[reducible] def I.r02_Check (p0 : T_api_Json) : CIn := ⟨[.agg [.int .i64 p0.gKind, .str p0.gText, .sl 25 4 (T_api_Json.encs p0.gList), .sl 9 1 (p0.gKeys.map eS)]], [], []⟩
@[reducible] def O.r02_Check : Int → COut
  | r => .ok [.int .i64 r] [] []
set_option maxRecDepth 1000000 in
set_option maxHeartbeats 4000000 in
theorem L.r02_Check (fuel : Nat) (p0 : T_api_Json) : S (M.r02_Check fuel p0) fun r => ex TB CT A.r02_Check (Con Tryz.prog GG) (bodyOf Tryz.f12) (entry (I.r02_Check p0)) (fin TB A.r02_Check [.tmp 2] (O.r02_Check r)) := by
  unfold M.r02_Check
  refine S.k [] [] [] (C.r02_check fuel p0 0) rfl trivial trivial rfl fun a_1 => ?_
  refine S.an rfl ?_
  exact S.z ⟨rfl, trivial, trivial, rfl⟩
set_option maxRecDepth 1000000 in
set_option maxHeartbeats 4000000 in
theorem C.r02_Check (fuel : Nat) (p0 : T_api_Json) : S (M.r02_Check fuel p0) fun r => Con Tryz.prog GG 12 (I.r02_Check p0) (O.r02_Check r) := by
  intro r hm; exact Con.of TBG (fun _ _ => rfl) Tryz.func12 rfl rfl (res := [.tmp 2]) rfl (by kernel_rfl) rfl rfl rfl (L.r02_Check fuel p0 r hm)
def A.l02_JsonChecks : Ann := { drw := [(1, { anc := [0, 1, 3, 7, 3, 31, 63, 127, 255], E := [0, 3, 5], qs := [], g := .one 0 [] [1, 2, 4] (.one 3 [4] [] (.one 5 [] [6, 7, 8] (.fin))) })], ro := [1] }
@[reducible] def I.l02_JsonChecks (p0 : T_api_Json) : CIn := ⟨[.agg [.int .i64 p0.gKind, .str p0.gText, .sl 25 4 (T_api_Json.encs p0.gList), .sl 9 1 (p0.gKeys.map eS)]], [], []⟩
@[reducible] def O.l02_JsonChecks : Bool → COut
  | r => .ok [.bool r] [] []
set_option maxRecDepth 1000000 in
set_option maxHeartbeats 4000000 in
theorem L.l02_JsonChecks (fuel : Nat) (p0 : T_api_Json) : S (M.l02_JsonChecks fuel p0) fun r => ex TB CT A.l02_JsonChecks (Con Tryz.prog GG) (bodyOf Tryz.f3) (entry (I.l02_JsonChecks p0)) (fin TB A.l02_JsonChecks [.tmp 2] (O.l02_JsonChecks r)) := by
  unfold M.l02_JsonChecks
  refine S.an trivial ?_
  refine S.k [] [] [] (C.l02_awake fuel) rfl trivial trivial rfl fun a_1 => ?_
  refine S.an rfl ?_
  refine S.cb ?_ ?_
  · refine S.an trivial ?_
    refine S.k [] [] [] (C.json_Check fuel p0) rfl trivial trivial rfl fun a_3 => ?_
    refine S.an rfl ?_
    refine S.an trivial ?_
    refine S.k [] [] [] (C.r02_Check fuel p0) rfl trivial trivial rfl fun a_5 => ?_
    refine S.an rfl ?_
    refine S.an trivial ?_
    exact S.z ⟨rfl, trivial, trivial, rfl⟩
  · refine S.an trivial ?_
    refine S.an trivial ?_
    refine S.an trivial ?_
    exact S.z ⟨rfl, trivial, trivial, rfl⟩
set_option maxRecDepth 1000000 in
set_option maxHeartbeats 4000000 in
theorem C.l02_JsonChecks (fuel : Nat) (p0 : T_api_Json) : S (M.l02_JsonChecks fuel p0) fun r => Con Tryz.prog GG 3 (I.l02_JsonChecks p0) (O.l02_JsonChecks r) := by
  intro r hm; exact Con.of TBG (fun _ _ => rfl) Tryz.func3 rfl rfl (res := [.tmp 2]) rfl (by kernel_rfl) rfl rfl rfl (L.l02_JsonChecks fuel p0 r hm)
def A.r02_Text : Ann := { seq := [(21, { L := [3], B := [], A := [3006], H := [(.slot 3 none, 3006, 5, 1)] })], loop := [(3, { L := [0, 3, 4], B := [], A := [3009], H := [(.slot 3 none, 3009, 5, 1)] })], reg := [(6, [(5, 0, { L := [0, 3, 4], B := [], A := [100301], H := [(.slot 3 none, 100301, 5, 1)] })]), (7, [(3, 3, { L := [0, 3, 4, 5, 26], B := [], A := [3011], H := [(.slot 3 none, 3011, 5, 1)] })])], drw := [(20, { anc := [0, 0, 2, 6, 0, 16, 48, 126, 255, 511], E := [7, 8, 9], qs := [0, 1, 2, 3, 4, 5, 6], g := .one 7 [0] [] (.one 8 [] [] (.one 9 [] [] (.fin))) })], own := [6] }
@[reducible] def I.r02_Text (p0 : List UInt8) : CIn := ⟨[.str p0], [], []⟩
@[reducible] def O.r02_Text : (List Int) → COut
  | r => .ok [.sl 5 1 (r.map (eI .u8))] [] []
set_option maxRecDepth 1000000 in
set_option maxHeartbeats 4000000 in
theorem L.r02_Text (p0 : List UInt8) : S (M.r02_Text p0) fun r => ex TB CT A.r02_Text (Con Tryz.prog GG) (bodyOf Tryz.f51) (entry (I.r02_Text p0)) (fin TB A.r02_Text [.tmp 2] (O.r02_Text r)) := by
  unfold M.r02_Text
  refine S.j (fun j_43 => ⟨[(3, .ref 3006)], [], [(3006, ⟨true, 5, 1, (j_43.map (eI .u8))⟩)], none⟩) (fun r => ?_) fun j_43 => ?_
  · refine S.lw2 (L := M.r02_Text_k1 p0) (fun x_57 x_58 => ⟨[(0, .str p0), (3, .ref 3009), (4, .int .i64 x_58)], [], [(3009, ⟨true, 5, 1, (x_57.map (eI .u8))⟩)], none⟩) (M.r02_Text_k1.partial_correctness p0) rfl fun f_r02_Text_k1 I_r02_Text_k1 ih_r02_Text_k1 x_57 x_58 => ?_
    refine S.cb ?_ ?_
    · refine S.e fun c_72 => ?_
      refine S.jb (v := ((decide ((c_72.toNat : Int) = 34)) || (decide ((c_72.toNat : Int) = 92)))) (fun x_73 => ⟨[(0, .str p0), (3, .ref 3011), (4, .int .i64 x_58), (5, .int .u8 (c_72.toNat : Int)), (26, .bool x_73)], [], [(3011, ⟨true, 5, 1, (x_57.map (eI .u8))⟩)], none⟩) (fun r => ?_) ?_
      · refine cnd (fun h_74 => ?_) (fun h_74 => ?_)
        · exact jbI rfl (or_t h_74)
        · exact jbI rfl (or_f h_74 rfl)
      · refine S.cb ?_ ?_
        · refine S.appE (f := (eI .u8)) (E := (fun l => l.map (eI .u8))) (xs := x_57) (ys := [92, (c_72.toNat : Int)]) (fun _ => rfl) rfl rfl fun l_75 => ?_
          exact ih_r02_Text_k1 _ _
        · refine S.cb ?_ ?_
          · refine S.appE (f := (eI .u8)) (E := (fun l => l.map (eI .u8))) (xs := x_57) (ys := (unb ([92, 98] : List UInt8))) (fun _ => rfl) rfl rfl fun l_76 => ?_
            exact ih_r02_Text_k1 _ _
          · refine S.cb ?_ ?_
            · refine S.appE (f := (eI .u8)) (E := (fun l => l.map (eI .u8))) (xs := x_57) (ys := (unb ([92, 116] : List UInt8))) (fun _ => rfl) rfl rfl fun l_77 => ?_
              exact ih_r02_Text_k1 _ _
            · refine S.cb ?_ ?_
              · refine S.appE (f := (eI .u8)) (E := (fun l => l.map (eI .u8))) (xs := x_57) (ys := (unb ([92, 110] : List UInt8))) (fun _ => rfl) rfl rfl fun l_78 => ?_
                exact ih_r02_Text_k1 _ _
              · refine S.cb ?_ ?_
                · refine S.appE (f := (eI .u8)) (E := (fun l => l.map (eI .u8))) (xs := x_57) (ys := (unb ([92, 102] : List UInt8))) (fun _ => rfl) rfl rfl fun l_79 => ?_
                  exact ih_r02_Text_k1 _ _
                · refine S.cb ?_ ?_
                  · refine S.appE (f := (eI .u8)) (E := (fun l => l.map (eI .u8))) (xs := x_57) (ys := (unb ([92, 114] : List UInt8))) (fun _ => rfl) rfl rfl fun l_80 => ?_
                    exact ih_r02_Text_k1 _ _
                  · refine S.cb ?_ ?_
                    · refine S.eq (by decide : chk _ = some ()) ?_
                      refine S.e fun c_81 => ?_
                      refine S.eq (by decide : chk _ = some ()) ?_
                      refine S.e fun c_82 => ?_
                      refine S.an trivial ?_
                      refine S.an trivial ?_
                      refine S.appE (f := (eI .u8)) (E := (fun l => l.map (eI .u8))) (xs := x_57) (ys := [92, 117, 48, 48, (c_81.toNat : Int), (c_82.toNat : Int)]) (fun _ => rfl) rfl rfl fun l_83 => ?_
                      refine S.an trivial ?_
                      refine S.an trivial ?_
                      exact ih_r02_Text_k1 _ _
                    · refine S.appE (f := (eI .u8)) (E := (fun l => l.map (eI .u8))) (xs := x_57) (ys := [(c_72.toNat : Int)]) (fun _ => rfl) rfl rfl fun l_84 => ?_
                      refine S.jp (⟨[(0, .str p0), (3, .ref 100301), (4, .int .i64 x_58)], [], [(100301, ⟨true, 5, 1, (l_84.map (eI .u8))⟩)], none⟩) (fun _ => rfl) ?_
                      exact ih_r02_Text_k1 _ _
    · exact S.z rfl
  · refine S.appE (f := (eI .u8)) (E := (fun l => l.map (eI .u8))) (xs := j_43) (ys := [34]) (fun _ => rfl) rfl rfl fun l_85 => ?_
    exact S.z ⟨rfl, trivial, trivial, rfl⟩
set_option maxRecDepth 1000000 in
set_option maxHeartbeats 4000000 in
theorem C.r02_Text (p0 : List UInt8) : S (M.r02_Text p0) fun r => Con Tryz.prog GG 51 (I.r02_Text p0) (O.r02_Text r) := by
  intro r hm; exact Con.of TBG (fun _ _ => rfl) Tryz.func51 rfl rfl (res := [.tmp 2]) rfl (by kernel_rfl) rfl rfl rfl (L.r02_Text p0 r hm)
def A.r02_Form : Ann := { seq := [(16, { L := [1, 3, 4, 5], B := [], A := [3001], H := [(.slot 3 none, 3001, 5, 1)] }), (22, { L := [1, 3, 5, 6], B := [], A := [3017], H := [(.slot 3 none, 3017, 5, 1)] }), (25, { L := [1, 3, 5, 6], B := [], A := [3018], H := [(.slot 3 none, 3018, 5, 1)] }), (26, { L := [3, 5], B := [], A := [3010], H := [(.slot 3 none, 3010, 5, 1)] })], loop := [(18, { L := [1, 3, 5, 6], B := [], A := [3014], H := [(.slot 3 none, 3014, 5, 1)] })], reg := [(6, [(3, 0, { L := [2], B := [], A := [100301], H := [(.slot 2 none, 100301, 5, 1)] })]), (8, [(3, 0, { L := [2], B := [], A := [100401], H := [(.slot 2 none, 100401, 5, 1)] })]), (10, [(5, 0, { L := [2], B := [], A := [100501], H := [(.slot 2 none, 100501, 5, 1)] })]), (12, [(4, 0, { L := [2], B := [], A := [] })]), (13, [(2, 0, { L := [1, 3, 4, 5], B := [], A := [100651], H := [(.slot 3 none, 100651, 5, 1)] })]), (23, [(9, 0, { L := [1, 3, 5, 6], B := [], A := [101151], H := [(.slot 3 none, 101151, 5, 1)] })]), (25, [(9, 0, { L := [1, 3, 5, 6], B := [], A := [101251], H := [(.slot 3 none, 101251, 5, 1)] })])], own := [7], ro := [1] }
@[reducible] def I.r02_Form (p0 : T_api_Json) : CIn := ⟨[.agg [.int .i64 p0.gKind, .str p0.gText, .sl 25 4 (T_api_Json.encs p0.gList), .sl 9 1 (p0.gKeys.map eS)]], [], []⟩
@[reducible] def O.r02_Form : (List Int) → COut
  | r => .ok [.sl 5 1 (r.map (eI .u8))] [] []
set_option maxRecDepth 1000000 in
set_option maxHeartbeats 4000000 in
theorem L.r02_Form (fuel : Nat) (ih_r02_Form : ∀ (p0 : T_api_Json), S (M.r02_Form fuel p0) fun r => Con Tryz.prog GG 31 (I.r02_Form p0) (O.r02_Form r)) (p0 : T_api_Json) : S (M.r02_Form (fuel + 1) p0) fun r => ex TB CT A.r02_Form (Con Tryz.prog GG) (bodyOf Tryz.f31) (entry (I.r02_Form p0)) (fin TB A.r02_Form [.tmp 2] (O.r02_Form r)) := by
  unfold M.r02_Form
  refine S.cb ?_ ?_
  · refine S.appE (f := (eI .u8)) (E := (fun l => l.map (eI .u8))) (xs := ([] : List Int)) (ys := (unb ([110, 117, 108, 108] : List UInt8))) (fun _ => rfl) rfl rfl fun l_7 => ?_
    exact S.z ⟨rfl, trivial, trivial, rfl⟩
  · refine S.cb ?_ ?_
    · refine S.appE (f := (eI .u8)) (E := (fun l => l.map (eI .u8))) (xs := ([] : List Int)) (ys := (unb ([102, 97, 108, 115, 101] : List UInt8))) (fun _ => rfl) rfl rfl fun l_8 => ?_
      refine S.jp (⟨[(2, .ref 100301)], [], [(100301, ⟨true, 5, 1, (l_8.map (eI .u8))⟩)], none⟩) (fun _ => rfl) ?_
      exact S.z ⟨rfl, trivial, trivial, rfl⟩
    · refine S.cb ?_ ?_
      · refine S.appE (f := (eI .u8)) (E := (fun l => l.map (eI .u8))) (xs := ([] : List Int)) (ys := (unb ([116, 114, 117, 101] : List UInt8))) (fun _ => rfl) rfl rfl fun l_9 => ?_
        refine S.jp (⟨[(2, .ref 100401)], [], [(100401, ⟨true, 5, 1, (l_9.map (eI .u8))⟩)], none⟩) (fun _ => rfl) ?_
        exact S.z ⟨rfl, trivial, trivial, rfl⟩
      · refine S.cb ?_ ?_
        · refine S.appE (f := (eI .u8)) (E := (fun l => l.map (eI .u8))) (xs := ([] : List Int)) (ys := (unb p0.gText)) (fun _ => rfl) rfl rfl fun l_10 => ?_
          refine S.jp (⟨[(2, .ref 100501)], [], [(100501, ⟨true, 5, 1, (l_10.map (eI .u8))⟩)], none⟩) (fun _ => rfl) ?_
          exact S.z ⟨rfl, trivial, trivial, rfl⟩
        · refine S.cb ?_ ?_
          · refine S.k [] [] [] (C.r02_Text p0.gText) rfl trivial trivial rfl fun a_11 => ?_
            refine S.an rfl ?_
            refine S.jp (⟨[(2, .sl 5 1 (a_11.map (eI .u8)))], [], [], none⟩) (fun _ => rfl) ?_
            exact S.z ⟨rfl, trivial, trivial, rfl⟩
          · refine S.jp (⟨[(1, .cptr [.int .i64 p0.gKind, .str p0.gText, .sl 25 4 (T_api_Json.encs p0.gList), .sl 9 1 (p0.gKeys.map eS)] 0), (3, .ref 100651), (4, .int .u8 91), (5, .int .u8 93)], [], [(100651, ⟨true, 5, 1, (([] : List Int).map (eI .u8))⟩)], none⟩) (fun _ => rfl) ?_
            refine S.j (fun j_15 => ⟨[(1, .cptr [.int .i64 p0.gKind, .str p0.gText, .sl 25 4 (T_api_Json.encs p0.gList), .sl 9 1 (p0.gKeys.map eS)] 0), (3, .ref 3001), (4, .int .u8 j_15.1), (5, .int .u8 j_15.2)], [], [(3001, ⟨true, 5, 1, (([] : List Int).map (eI .u8))⟩)], none⟩) (fun r => ?_) fun j_15 => ?_
            · refine S.cb ?_ ?_
              · exact S.z rfl
              · exact S.z rfl
            · refine S.appE (f := (eI .u8)) (E := (fun l => l.map (eI .u8))) (xs := ([] : List Int)) (ys := [j_15.1]) (fun _ => rfl) rfl rfl fun l_16 => ?_
              refine S.j (fun j_98 => ⟨[(3, .ref 3010), (5, .int .u8 j_15.2)], [], [(3010, ⟨true, 5, 1, (j_98.map (eI .u8))⟩)], none⟩) (fun r => ?_) fun j_98 => ?_
              · refine S.lw2 (L := M.r02_Form_k1 p0 (M.r02_Form fuel)) (fun x_125 x_126 => ⟨[(1, .cptr [.int .i64 p0.gKind, .str p0.gText, .sl 25 4 (T_api_Json.encs p0.gList), .sl 9 1 (p0.gKeys.map eS)] 0), (3, .ref 3014), (5, .int .u8 j_15.2), (6, .int .i64 x_126)], [], [(3014, ⟨true, 5, 1, (x_125.map (eI .u8))⟩)], none⟩) (M.r02_Form_k1.partial_correctness p0 (M.r02_Form fuel)) rfl fun f_r02_Form_k1 I_r02_Form_k1 ih_r02_Form_k1 x_125 x_126 => ?_
                refine S.eq (lenD_E T_api_Json.encs_eq) ?_
                refine S.cb ?_ ?_
                · refine S.j (fun j_156 => ⟨[(1, .cptr [.int .i64 p0.gKind, .str p0.gText, .sl 25 4 (T_api_Json.encs p0.gList), .sl 9 1 (p0.gKeys.map eS)] 0), (3, .ref 3017), (5, .int .u8 j_15.2), (6, .int .i64 x_126)], [], [(3017, ⟨true, 5, 1, (j_156.map (eI .u8))⟩)], none⟩) (fun r => ?_) fun j_156 => ?_
                  · refine S.cb ?_ ?_
                    · refine S.appE (f := (eI .u8)) (E := (fun l => l.map (eI .u8))) (xs := x_125) (ys := [44]) (fun _ => rfl) rfl rfl fun l_157 => ?_
                      exact S.z rfl
                    · exact S.z rfl
                  · refine S.j (fun j_169 => ⟨[(1, .cptr [.int .i64 p0.gKind, .str p0.gText, .sl 25 4 (T_api_Json.encs p0.gList), .sl 9 1 (p0.gKeys.map eS)] 0), (3, .ref 3018), (5, .int .u8 j_15.2), (6, .int .i64 x_126)], [], [(3018, ⟨true, 5, 1, (j_169.map (eI .u8))⟩)], none⟩) (fun r => ?_) fun j_169 => ?_
                    · refine S.cb ?_ ?_
                      · refine S.ixE (f := eS) (c := fun x => [D.str x]) (fun _ => rfl) rfl (fun _ => rfl) fun x_170 => ?_
                        refine S.k [] [] [] (C.r02_Text x_170) rfl trivial trivial rfl fun a_171 => ?_
                        refine S.an rfl ?_
                        refine S.appE (f := (eI .u8)) (E := (fun l => l.map (eI .u8))) (xs := j_156) (ys := a_171) (fun _ => rfl) rfl rfl fun l_173 => ?_
                        refine S.jp (⟨[(1, .cptr [.int .i64 p0.gKind, .str p0.gText, .sl 25 4 (T_api_Json.encs p0.gList), .sl 9 1 (p0.gKeys.map eS)] 0), (3, .ref 101151), (5, .int .u8 j_15.2), (6, .int .i64 x_126)], [], [(101151, ⟨true, 5, 1, (l_173.map (eI .u8))⟩)], none⟩) (fun _ => rfl) ?_
                        refine S.appE (f := (eI .u8)) (E := (fun l => l.map (eI .u8))) (xs := l_173) (ys := [58]) (fun _ => rfl) rfl rfl fun l_174 => ?_
                        exact S.z rfl
                      · exact S.z rfl
                    · refine S.ixE T_api_Json.encs_eq rfl T_api_Json.enc_c fun x_175 => ?_
                      refine S.k [] [] [] (ih_r02_Form x_175) rfl trivial trivial rfl fun a_176 => ?_
                      refine S.an rfl ?_
                      refine S.appE (f := (eI .u8)) (E := (fun l => l.map (eI .u8))) (xs := j_169) (ys := a_176) (fun _ => rfl) rfl rfl fun l_178 => ?_
                      refine S.jp (⟨[(1, .cptr [.int .i64 p0.gKind, .str p0.gText, .sl 25 4 (T_api_Json.encs p0.gList), .sl 9 1 (p0.gKeys.map eS)] 0), (3, .ref 101251), (5, .int .u8 j_15.2), (6, .int .i64 x_126)], [], [(101251, ⟨true, 5, 1, (l_178.map (eI .u8))⟩)], none⟩) (fun _ => rfl) ?_
                      exact ih_r02_Form_k1 _ _
                · exact S.z rfl
              · refine S.appE (f := (eI .u8)) (E := (fun l => l.map (eI .u8))) (xs := j_98) (ys := [j_15.2]) (fun _ => rfl) rfl rfl fun l_179 => ?_
                exact S.z ⟨rfl, trivial, trivial, rfl⟩
set_option maxRecDepth 1000000 in
set_option maxHeartbeats 4000000 in
theorem C.r02_Form_all (fuel : Nat) : (∀ (p0 : T_api_Json), S (M.r02_Form fuel p0) fun r => Con Tryz.prog GG 31 (I.r02_Form p0) (O.r02_Form r)) := by
  induction fuel with
  | zero => exact (by intros; intro r hm; cases hm)
  | succ fuel ih =>
    · intro p0; intro r hm; exact Con.of TBG (fun _ _ => rfl) Tryz.func31 rfl rfl (res := [.tmp 2]) rfl (by kernel_rfl) rfl rfl rfl (L.r02_Form fuel ih p0 r hm)
theorem C.r02_Form (fuel : Nat) (p0 : T_api_Json) : S (M.r02_Form fuel p0) fun r => Con Tryz.prog GG 31 (I.r02_Form p0) (O.r02_Form r) := (C.r02_Form_all fuel) p0
def A.r02_Print : Ann := { reg := [(2, [(2, 0, { L := [1, 4, 9], B := [], A := [] })]), (5, [(3, 0, { L := [5, 16], B := [], A := [] })])], ro := [1] }
@[reducible] def I.r02_Print (p0 : T_api_Json) : CIn := ⟨[.agg [.int .i64 p0.gKind, .str p0.gText, .sl 25 4 (T_api_Json.encs p0.gList), .sl 9 1 (p0.gKeys.map eS)]], [], []⟩
@[reducible] def O.r02_Print : (List UInt8) × Int → COut
  | r => .ok [.str r.1, .int .i64 r.2] [] []
set_option maxRecDepth 1000000 in
set_option maxHeartbeats 4000000 in
theorem L.r02_Print (fuel : Nat) (p0 : T_api_Json) : S (M.r02_Print fuel p0) fun r => ex TB CT A.r02_Print (Con Tryz.prog GG) (bodyOf Tryz.f14) (entry (I.r02_Print p0)) (fin TB A.r02_Print [.tmp 2, .tmp 3] (O.r02_Print r)) := by
  unfold M.r02_Print
  refine S.k [] [] [] (C.r02_Check fuel p0) rfl trivial trivial rfl fun a_1 => ?_
  refine S.an rfl ?_
  refine S.jp (⟨[(1, .cptr [.int .i64 p0.gKind, .str p0.gText, .sl 25 4 (T_api_Json.encs p0.gList), .sl 9 1 (p0.gKeys.map eS)] 0), (4, .int .i64 a_1), (9, .bool (!decide (a_1 = 0)))], [], [], none⟩) (fun _ => rfl) ?_
  refine S.cb ?_ ?_
  · exact S.z ⟨rfl, trivial, trivial, rfl⟩
  · refine S.k [] [] [] (C.r02_Form fuel p0) rfl trivial trivial rfl fun a_3 => ?_
    refine S.an rfl ?_
    refine S.dby rfl ?_
    refine S.jp (⟨[(5, .str (byt a_3)), (16, .bool (decide (16384 < ((byt a_3).length : Int))))], [], [], none⟩) (fun _ => rfl) ?_
    refine S.cb ?_ ?_
    · exact S.z ⟨rfl, trivial, trivial, rfl⟩
    · exact S.z ⟨rfl, trivial, trivial, rfl⟩
set_option maxRecDepth 1000000 in
set_option maxHeartbeats 4000000 in
theorem C.r02_Print (fuel : Nat) (p0 : T_api_Json) : S (M.r02_Print fuel p0) fun r => Con Tryz.prog GG 14 (I.r02_Print p0) (O.r02_Print r) := by
  intro r hm; exact Con.of TBG (fun _ _ => rfl) Tryz.func14 rfl rfl (res := [.tmp 2, .tmp 3]) rfl (by kernel_rfl) rfl rfl rfl (L.r02_Print fuel p0 r hm)
def A.l02_JsonPrints : Ann := { reg := [(1, [(7, 0, { L := [1, 3, 4], B := [], A := [] })]), (3, [(2, 4, { L := [4, 6, 22], B := [], A := [] }), (1, 4, { L := [27], B := [], A := [] })])], ro := [1] }
@[reducible] def I.l02_JsonPrints (p0 : T_api_Json) : CIn := ⟨[.agg [.int .i64 p0.gKind, .str p0.gText, .sl 25 4 (T_api_Json.encs p0.gList), .sl 9 1 (p0.gKeys.map eS)]], [], []⟩
@[reducible] def O.l02_JsonPrints : Bool → COut
  | r => .ok [.bool r] [] []
set_option maxRecDepth 1000000 in
set_option maxHeartbeats 4000000 in
theorem L.l02_JsonPrints (fuel : Nat) (p0 : T_api_Json) : S (M.l02_JsonPrints fuel p0) fun r => ex TB CT A.l02_JsonPrints (Con Tryz.prog GG) (bodyOf Tryz.f4) (entry (I.l02_JsonPrints p0)) (fin TB A.l02_JsonPrints [.tmp 2] (O.l02_JsonPrints r)) := by
  unfold M.l02_JsonPrints
  refine S.k [] [] [] (C.json_Print fuel p0) rfl trivial trivial rfl fun a_1 => ?_
  refine S.an rfl ?_
  refine S.jp (⟨[(1, .cptr [.int .i64 p0.gKind, .str p0.gText, .sl 25 4 (T_api_Json.encs p0.gList), .sl 9 1 (p0.gKeys.map eS)] 0), (3, .str a_1.1), (4, .int .i64 a_1.2)], [], [], none⟩) (fun _ => rfl) ?_
  refine S.k [] [] [] (C.r02_Print fuel p0) rfl trivial trivial rfl fun a_3 => ?_
  refine S.an rfl ?_
  refine S.k [] [] [] (C.l02_awake fuel) rfl trivial trivial rfl fun a_5 => ?_
  refine S.an rfl ?_
  refine S.jb (v := (a_5 && (decide (a_1.1 = a_3.1)))) (fun x_7 => ⟨[(4, .int .i64 a_1.2), (6, .int .i64 a_3.2), (22, .bool x_7)], [], [], none⟩) (fun r => ?_) ?_
  · refine cnd (fun h_8 => ?_) (fun h_8 => ?_)
    · exact jbI rfl (and_t h_8 rfl)
    · exact jbI rfl (and_f h_8)
  · refine S.jb (v := ((a_5 && (decide (a_1.1 = a_3.1))) && (decide (a_1.2 = a_3.2)))) (fun x_9 => ⟨[(27, .bool x_9)], [], [], none⟩) (fun r => ?_) ?_
    · refine cnd (fun h_10 => ?_) (fun h_10 => ?_)
      · exact jbI rfl (and_t h_10 rfl)
      · exact jbI rfl (and_f h_10)
    · exact S.z ⟨rfl, trivial, trivial, rfl⟩
set_option maxRecDepth 1000000 in
set_option maxHeartbeats 4000000 in
theorem C.l02_JsonPrints (fuel : Nat) (p0 : T_api_Json) : S (M.l02_JsonPrints fuel p0) fun r => Con Tryz.prog GG 4 (I.l02_JsonPrints p0) (O.l02_JsonPrints r) := by
  intro r hm; exact Con.of TBG (fun _ _ => rfl) Tryz.func4 rfl rfl (res := [.tmp 2]) rfl (by kernel_rfl) rfl rfl rfl (L.l02_JsonPrints fuel p0 r hm)
def A.r02_Member : Ann := { seq := [(8, { L := [4], B := [1004], A := [] })], loop := [(4, { L := [1, 2, 4, 6], B := [1004], A := [] })], reg := [(4, [(6, 6, { L := [1, 2, 4, 6, 22], B := [1004], A := [] })])], ro := [2] }
@[reducible] def I.r02_Member (p0 : T_api_Json) (p1 : List UInt8) : CIn := ⟨[.agg [.int .i64 p0.gKind, .str p0.gText, .sl 25 4 (T_api_Json.encs p0.gList), .sl 9 1 (p0.gKeys.map eS)], .str p1], [], []⟩
@[reducible] def O.r02_Member : T_api_Json × Bool → COut
  | r => .ok [.agg [.int .i64 r.1.gKind, .str r.1.gText, .sl 25 4 (T_api_Json.encs r.1.gList), .sl 9 1 (r.1.gKeys.map eS)], .bool r.2] [] []
set_option maxRecDepth 1000000 in
set_option maxHeartbeats 4000000 in
theorem L.r02_Member (p0 : T_api_Json) (p1 : List UInt8) : S (M.r02_Member p0 p1) fun r => ex TB CT A.r02_Member (Con Tryz.prog GG) (bodyOf Tryz.f16) (entry (I.r02_Member p0 p1)) (fin TB A.r02_Member [.cell 4 25, .tmp 5] (O.r02_Member r)) := by
  unfold M.r02_Member
  refine S.cb ?_ ?_
  · exact S.z ⟨rfl, trivial, trivial, rfl⟩
  · refine S.jn (fun _ => ⟨[(4, .ptr 1004 0)], [(1004, ⟨25, [.int .i64 0, .str ([] : List UInt8), .nil, .nil]⟩)], [], none⟩) ?_ (fun _ => rfl) fun j_20 => ?_
    · refine S.lw (L := M.r02_Member_k1 p0 p1) (fun x_27 => ⟨[(1, .str p1), (2, .cptr [.int .i64 p0.gKind, .str p0.gText, .sl 25 4 (T_api_Json.encs p0.gList), .sl 9 1 (p0.gKeys.map eS)] 0), (4, .ptr 1004 0), (6, .int .i64 x_27)], [(1004, ⟨25, [.int .i64 0, .str ([] : List UInt8), .nil, .nil]⟩)], [], none⟩) (M.r02_Member_k1.partial_correctness p0 p1) rfl fun f_r02_Member_k1 I_r02_Member_k1 ih_r02_Member_k1 x_27 => ?_
      refine S.eq lenD_map ?_
      refine S.jb (v := ((decide (x_27 < (p0.gKeys.length : Int))) && (decide (x_27 < (p0.gList.length : Int))))) (fun x_36 => ⟨[(1, .str p1), (2, .cptr [.int .i64 p0.gKind, .str p0.gText, .sl 25 4 (T_api_Json.encs p0.gList), .sl 9 1 (p0.gKeys.map eS)] 0), (4, .ptr 1004 0), (6, .int .i64 x_27), (22, .bool x_36)], [(1004, ⟨25, [.int .i64 0, .str ([] : List UInt8), .nil, .nil]⟩)], [], none⟩) (fun r => ?_) ?_
      · refine cnd (fun h_37 => ?_) (fun h_37 => ?_)
        · refine Ex.i (lenD_E T_api_Json.encs_eq) ?_
          exact jbI rfl (and_t h_37 rfl)
        · exact jbI rfl (and_f h_37)
      · refine S.cb ?_ ?_
        · refine S.ixE (f := eS) (c := fun x => [D.str x]) (fun _ => rfl) rfl (fun _ => rfl) fun x_38 => ?_
          refine S.cb ?_ ?_
          · refine S.ixE T_api_Json.encs_eq rfl T_api_Json.enc_c fun x_39 => ?_
            exact S.z ⟨rfl, trivial, trivial, rfl⟩
          · exact ih_r02_Member_k1 _
        · exact S.z rfl
    · exact S.z ⟨rfl, trivial, trivial, rfl⟩
set_option maxRecDepth 1000000 in
set_option maxHeartbeats 4000000 in
theorem C.r02_Member (p0 : T_api_Json) (p1 : List UInt8) : S (M.r02_Member p0 p1) fun r => Con Tryz.prog GG 16 (I.r02_Member p0 p1) (O.r02_Member r) := by
  intro r hm; exact Con.of TBG (fun _ _ => rfl) Tryz.func16 rfl rfl (res := [.cell 4 25, .tmp 5]) rfl (by kernel_rfl) rfl rfl rfl (L.r02_Member p0 p1 r hm)
end Go.Proofs.YtcfkkgpnggdlnaaGreatDoor
