/- JsP2: what a program of ours printed of the program's functions. -/
import Derived.Test.YtcfkkgpnggdlnaaGreatDoorJsP1
set_option linter.all false
namespace Go.Proofs.YtcfkkgpnggdlnaaGreatDoor
open Go.Lk Go.Pe Go.Sen Go.RowKit
def A.json_reader_text : Ann := { loop := [(5, { L := [0, 3], B := [0, 1003], A := [3003], H := [(.cell 1003 1, 3003, 5, 1)] })], reg := [(2, [(10, 0, { L := [0, 3, 4, 5], B := [0, 1003], A := [100101], H := [(.cell 1003 1, 100101, 5, 1)] })]), (4, [(5, 0, { L := [0, 3], B := [0, 1003], A := [100201], H := [(.cell 1003 1, 100201, 5, 1)] })]), (5, [(6, 7, { L := [0, 3, 33], B := [0, 1003], A := [3005], H := [(.cell 1003 1, 3005, 5, 1)] })]), (9, [(9, 0, { L := [0, 3], B := [0, 1003], A := [100451], H := [(.cell 1003 1, 100451, 5, 1)] })]), (11, [(3, 0, { L := [0, 3], B := [0, 1003], A := [100551], H := [(.cell 1003 1, 100551, 5, 1)] })]), (13, [(2, 0, { L := [2], B := [0], A := [] })]), (14, [(2, 0, { L := [0, 3, 6, 59], B := [0, 1003], A := [100701], H := [(.cell 1003 1, 100701, 5, 1)] })]), (15, [(3, 0, { L := [0, 3], B := [0, 1003], A := [100751], H := [(.cell 1003 1, 100751, 5, 1)] })])], nb := 1 }
@[reducible] def I.json_reader_text (p0 : T_json_reader) : CIn := ⟨[.ptr 0 0], [⟨67, [.str p0.gs]⟩], []⟩
@[reducible] def O.json_reader_text : Rs ((List UInt8) × T_json_reader) → COut
  | .ok r => .ok [.str r.1] [⟨67, [.str r.2.gs]⟩] []
  | .pan e => .pan (.iface 75 (.agg [.int .i64 e]))
set_option maxRecDepth 1000000 in
set_option maxHeartbeats 4000000 in
theorem L.json_reader_text (p0 : T_json_reader) : S (M.json_reader_text p0) fun r => ex TB CT A.json_reader_text (Con Tryz.prog GG) (bodyOf Tryz.f58) (entry (I.json_reader_text p0)) (fin TB A.json_reader_text [.tmp 2] (O.json_reader_text r)) := by
  unfold M.json_reader_text
  refine S.k [] [] [] (C.strings_CutPrefix p0.gs ([34] : List UInt8)) rfl trivial trivial rfl fun a_1 => ?_
  refine S.an rfl ?_
  refine S.jp (⟨[(0, .ptr 0 0), (3, .ptr 1003 0), (4, .str a_1.1), (5, .bool a_1.2)], [(0, ⟨67, [.str p0.gs]⟩), (1003, ⟨52, [.selfp 1003, .ref 100101]⟩)], [(100101, ⟨true, 5, 1, (([] : List Int).map (eI .u8))⟩)], none⟩) (fun _ => rfl) ?_
  refine S.k [] [] [] (C.json_must a_1.2 20) rfl trivial trivial rfl fun a_3 => ?_
  cases a_3 with
  | pan e_6 =>
    refine S.an rfl ?_
    exact S.z rfl
  | ok a_5 =>
    refine S.an rfl ?_
    refine S.jp (⟨[(0, .ptr 0 0), (3, .ptr 1003 0)], [(0, ⟨67, [.str a_1.1]⟩), (1003, ⟨52, [.selfp 1003, .ref 100201]⟩)], [(100201, ⟨true, 5, 1, (([] : List Int).map (eI .u8))⟩)], none⟩) (fun _ => rfl) ?_
    refine S.lw2 (L := M.json_reader_text_k1) (fun x_37 x_38 => ⟨[(0, .ptr 0 0), (3, .ptr 1003 0)], [(0, ⟨67, [.str x_37]⟩), (1003, ⟨52, [.selfp 1003, .ref 3003]⟩)], [(3003, ⟨true, 5, 1, (x_38.map (eI .u8))⟩)], none⟩) (M.json_reader_text_k1.partial_correctness) rfl fun f_json_reader_text_k1 I_json_reader_text_k1 ih_json_reader_text_k1 x_37 x_38 => ?_
    refine S.j (fun j_71 => ⟨[(0, .ptr 0 0), (3, .ptr 1003 0), (33, .bool j_71)], [(0, ⟨67, [.str x_37]⟩), (1003, ⟨52, [.selfp 1003, .ref 3005]⟩)], [(3005, ⟨true, 5, 1, (x_38.map (eI .u8))⟩)], none⟩) (fun r => ?_) fun j_71 => ?_
    · refine S.cb ?_ ?_
      · refine S.e fun c_72 => ?_
        exact S.z rfl
      · exact S.z rfl
    · refine S.k [] [] [] (C.json_must j_71 20) rfl trivial trivial rfl fun a_73 => ?_
      cases a_73 with
      | pan e_76 =>
        refine S.an rfl ?_
        exact S.z rfl
      | ok a_75 =>
        refine S.an rfl ?_
        refine S.e fun c_77 => ?_
        refine S.cb ?_ ?_
        · refine S.k [1003] [3005] [5790] (C.builderString x_38) rfl ⟨⟨rfl, rfl⟩, trivial⟩ ⟨⟨rfl, rfl, rfl⟩, trivial⟩ rfl fun a_78 => ?_
          refine S.an rfl ?_
          refine S.k [] [] [] (C.validString a_78) rfl trivial trivial rfl fun a_80 => ?_
          refine S.an rfl ?_
          refine S.k [] [] [] (C.json_must a_80 20) rfl trivial trivial rfl fun a_82 => ?_
          cases a_82 with
          | pan e_85 =>
            refine S.an rfl ?_
            exact S.z rfl
          | ok a_84 =>
            refine S.an rfl ?_
            refine S.jp (⟨[(0, .ptr 0 0), (3, .ptr 1003 0)], [(0, ⟨67, [.str x_37]⟩), (1003, ⟨52, [.selfp 1003, .ref 100551]⟩)], [(100551, ⟨true, 1000005, 1, (x_38.map (eI .u8))⟩)], none⟩) (fun _ => rfl) ?_
            refine S.k [0] [] [] (C.json_reader_take (T_json_reader.mk x_37) ([34] : List UInt8)) rfl ⟨⟨rfl, rfl⟩, trivial⟩ trivial rfl fun a_86 => ?_
            refine S.an rfl ?_
            refine S.k [1003] [100551] [5890] (C.builderString_z x_38) rfl ⟨⟨rfl, rfl⟩, trivial⟩ ⟨⟨rfl, rfl, rfl⟩, trivial⟩ rfl fun a_88 => ?_
            refine S.an rfl ?_
            refine S.jp (⟨[(2, .str a_88)], [(0, ⟨67, [.str a_86.2.gs]⟩)], [], none⟩) (fun _ => rfl) ?_
            exact S.z ⟨rfl, ⟨⟨rfl, rfl⟩, trivial⟩, trivial, rfl⟩
        · refine S.jp (⟨[(0, .ptr 0 0), (3, .ptr 1003 0), (6, .int .u8 (c_77.toNat : Int)), (59, .bool (decide ((c_77.toNat : Int) = 92)))], [(0, ⟨67, [.str x_37]⟩), (1003, ⟨52, [.selfp 1003, .ref 100701]⟩)], [(100701, ⟨true, 5, 1, (x_38.map (eI .u8))⟩)], none⟩) (fun _ => rfl) ?_
          refine S.cb ?_ ?_
          · refine S.k [0] [] [] (C.json_reader_escaped (T_json_reader.mk x_37)) rfl ⟨⟨rfl, rfl⟩, trivial⟩ trivial rfl fun a_90 => ?_
            cases a_90 with
            | pan e_93 =>
              refine S.an rfl ?_
              exact S.z rfl
            | ok a_92 =>
              refine S.an rfl ?_
              refine S.k [1003] [100701] [5950] (C.strings_Builder_WriteString x_38 a_92.1) rfl ⟨⟨rfl, rfl⟩, trivial⟩ ⟨⟨rfl, rfl, rfl⟩, trivial⟩ rfl fun a_94 => ?_
              refine S.an rfl ?_
              refine S.jp (⟨[(0, .ptr 0 0), (3, .ptr 1003 0)], [(0, ⟨67, [.str a_92.2.gs]⟩), (1003, ⟨52, [.selfp 1003, .ref 100751]⟩)], [(100751, ⟨true, 5, 1, (a_94.2.map (eI .u8))⟩)], none⟩) (fun _ => rfl) ?_
              exact ih_json_reader_text_k1 _ _
          · refine S.k [1003] [100701] [5970] (C.strings_Builder_WriteByte x_38 (c_77.toNat : Int)) rfl ⟨⟨rfl, rfl⟩, trivial⟩ ⟨⟨rfl, rfl, rfl⟩, trivial⟩ rfl fun a_96 => ?_
            refine S.an rfl ?_
            refine S.e fun s_98 => ?_
            refine S.jp (⟨[(0, .ptr 0 0), (3, .ptr 1003 0)], [(0, ⟨67, [.str s_98]⟩), (1003, ⟨52, [.selfp 1003, .ref 100451]⟩)], [(100451, ⟨true, 5, 1, (a_96.map (eI .u8))⟩)], none⟩) (fun _ => rfl) ?_
            exact ih_json_reader_text_k1 _ _
set_option maxRecDepth 1000000 in
set_option maxHeartbeats 4000000 in
theorem C.json_reader_text (p0 : T_json_reader) : S (M.json_reader_text p0) fun r => Con Tryz.prog GG 58 (I.json_reader_text p0) (O.json_reader_text r) := by
  intro r hm; exact Con.of TBG (fun _ _ => rfl) Tryz.func58 rfl rfl (res := [.tmp 2]) rfl (by kernel_rfl) rfl rfl rfl (L.json_reader_text p0 r hm)
def A.json_digits : Ann := { reg := [(1, [(7, 0, { L := [2], B := [], A := [] })])] }
@[reducible] def I.json_digits (p0 : List UInt8) : CIn := ⟨[.str p0], [], []⟩
@[reducible] def O.json_digits : Int → COut
  | r => .ok [.int .i64 r] [] []
set_option maxRecDepth 1000000 in
set_option maxHeartbeats 4000000 in
theorem L.json_digits (p0 : List UInt8) : S (M.json_digits p0) fun r => ex TB CT A.json_digits (Con Tryz.prog GG) (bodyOf Tryz.f71) (entry (I.json_digits p0)) (fin TB A.json_digits [.tmp 2] (O.json_digits r)) := by
  unfold M.json_digits
  refine S.k [] [] [] (C.trimLeft p0 ([48, 49, 50, 51, 52, 53, 54, 55, 56, 57] : List UInt8)) rfl trivial trivial rfl fun a_1 => ?_
  refine S.an rfl ?_
  refine S.jp (⟨[(2, .int .i64 (IntKind.wrap .i64 ((p0.length : Int) - (a_1.length : Int))))], [], [], none⟩) (fun _ => rfl) ?_
  exact S.z ⟨rfl, trivial, trivial, rfl⟩
set_option maxRecDepth 1000000 in
set_option maxHeartbeats 4000000 in
theorem C.json_digits (p0 : List UInt8) : S (M.json_digits p0) fun r => Con Tryz.prog GG 71 (I.json_digits p0) (O.json_digits r) := by
  intro r hm; exact Con.of TBG (fun _ _ => rfl) Tryz.func71 rfl rfl (res := [.tmp 2]) rfl (by kernel_rfl) rfl rfl rfl (L.json_digits p0 r hm)
def A.json_number : Ann := { seq := [(4, { L := [0, 3], B := [], A := [] }), (9, { L := [0, 3, 4], B := [], A := [] }), (14, { L := [0, 3], B := [], A := [] }), (18, { L := [0, 3, 6], B := [], A := [] })], reg := [(7, [(4, 0, { L := [0, 3, 4, 19], B := [], A := [] })]), (11, [(6, 0, { L := [0, 3, 5], B := [], A := [] })]), (14, [(5, 11, { L := [0, 3, 53], B := [], A := [] })]), (16, [(5, 11, { L := [0, 3, 6, 71], B := [], A := [] })]), (20, [(4, 0, { L := [3], B := [], A := [] })])] }
@[reducible] def I.json_number (p0 : List UInt8) : CIn := ⟨[.str p0], [], []⟩
@[reducible] def O.json_number : Int → COut
  | r => .ok [.int .i64 r] [] []
set_option maxRecDepth 1000000 in
set_option maxHeartbeats 4000000 in
theorem L.json_number (p0 : List UInt8) : S (M.json_number p0) fun r => ex TB CT A.json_number (Con Tryz.prog GG) (bodyOf Tryz.f46) (entry (I.json_number p0)) (fin TB A.json_number [.tmp 2] (O.json_number r)) := by
  unfold M.json_number
  refine S.j (fun j_6 => ⟨[(0, .str p0), (3, .int .i64 j_6)], [], [], none⟩) (fun r => ?_) fun j_6 => ?_
  · refine S.k [] [] [] (C.strings_HasPrefix p0 ([45] : List UInt8)) rfl trivial trivial rfl fun a_7 => ?_
    refine S.an rfl ?_
    refine S.cb ?_ ?_
    · exact S.z rfl
    · exact S.z rfl
  · refine S.e fun s_9 => ?_
    refine S.k [] [] [] (C.json_digits s_9) rfl trivial trivial rfl fun a_10 => ?_
    refine S.an rfl ?_
    refine S.cb ?_ ?_
    · exact S.z ⟨rfl, trivial, trivial, rfl⟩
    · refine S.j (fun j_15 => ⟨[(0, .str p0), (3, .int .i64 j_6), (4, .int .i64 j_15)], [], [], none⟩) (fun r => ?_) fun j_15 => ?_
      · refine S.e fun c_16 => ?_
        refine S.jp (⟨[(0, .str p0), (3, .int .i64 j_6), (4, .int .i64 a_10), (19, .bool (decide ((c_16.toNat : Int) = 48)))], [], [], none⟩) (fun _ => rfl) ?_
        refine S.cb ?_ ?_
        · exact S.z rfl
        · exact S.z rfl
      · refine S.j (fun j_30 => ⟨[(0, .str p0), (3, .int .i64 j_30)], [], [], none⟩) (fun r => ?_) fun j_30 => ?_
        · refine S.e fun s_31 => ?_
          refine S.k [] [] [] (C.strings_HasPrefix s_31 ([46] : List UInt8)) rfl trivial trivial rfl fun a_32 => ?_
          refine S.an rfl ?_
          refine S.cb ?_ ?_
          · refine S.e fun s_34 => ?_
            refine S.k [] [] [] (C.json_digits s_34) rfl trivial trivial rfl fun a_35 => ?_
            refine S.an rfl ?_
            refine S.jp (⟨[(0, .str p0), (3, .int .i64 (IntKind.wrap .i64 (j_6 + j_15))), (5, .int .i64 a_35)], [], [], none⟩) (fun _ => rfl) ?_
            refine S.cb ?_ ?_
            · exact S.z rfl
            · exact S.z rfl
          · exact S.z rfl
        · refine S.j (fun j_40 => ⟨[(0, .str p0), (3, .int .i64 j_30), (53, .bool j_40)], [], [], none⟩) (fun r => ?_) fun j_40 => ?_
          · refine S.cb ?_ ?_
            · refine S.e fun c_41 => ?_
              refine S.cb ?_ ?_
              · exact S.z rfl
              · refine S.e fun c_42 => ?_
                exact S.z rfl
            · exact S.z rfl
          · refine S.cb ?_ ?_
            · refine S.j (fun j_56 => ⟨[(0, .str p0), (3, .int .i64 j_30), (6, .int .i64 j_56)], [], [], none⟩) (fun r => ?_) fun j_56 => ?_
              · refine S.j (fun j_60 => ⟨[(0, .str p0), (3, .int .i64 j_30), (6, .int .i64 (IntKind.wrap .i64 (j_30 + 1))), (71, .bool j_60)], [], [], none⟩) (fun r => ?_) fun j_60 => ?_
                · refine S.cb ?_ ?_
                  · refine S.e fun c_61 => ?_
                    refine S.cb ?_ ?_
                    · exact S.z rfl
                    · refine S.e fun c_62 => ?_
                      exact S.z rfl
                  · exact S.z rfl
                · refine S.cb ?_ ?_
                  · exact S.z rfl
                  · exact S.z rfl
              · refine S.e fun s_63 => ?_
                refine S.k [] [] [] (C.json_digits s_63) rfl trivial trivial rfl fun a_64 => ?_
                refine S.an rfl ?_
                refine S.cb ?_ ?_
                · refine S.jp (⟨[(3, .int .i64 (IntKind.wrap .i64 (j_56 + a_64)))], [], [], none⟩) (fun _ => rfl) ?_
                  exact S.z ⟨rfl, trivial, trivial, rfl⟩
                · exact S.z ⟨rfl, trivial, trivial, rfl⟩
            · exact S.z ⟨rfl, trivial, trivial, rfl⟩
set_option maxRecDepth 1000000 in
set_option maxHeartbeats 4000000 in
theorem C.json_number (p0 : List UInt8) : S (M.json_number p0) fun r => Con Tryz.prog GG 46 (I.json_number p0) (O.json_number r) := by
  intro r hm; exact Con.of TBG (fun _ _ => rfl) Tryz.func46 rfl rfl (res := [.tmp 2]) rfl (by kernel_rfl) rfl rfl rfl (L.json_number p0 r hm)
def A.json_reader_value : Ann := { seq := [(13, { L := [0, 4], B := [0, 1004], A := [] })], loop := [(8, { L := [0, 4, 30, 31, 32], B := [0, 1004], A := [] })], reg := [(1, [(6, 0, { L := [0, 1, 4, 9], B := [0, 1004], A := [] })]), (4, [(4, 0, { L := [4], B := [0, 1004], A := [100201, 100202], H := [(.cell 1004 2, 100201, 25, 4), (.cell 1004 3, 100202, 9, 1)] })]), (5, [(3, 0, { L := [0, 1, 4, 24], B := [0, 1004], A := [] })]), (11, [(3, 0, { L := [4], B := [0, 1004], A := [] })]), (12, [(2, 0, { L := [0, 4, 30, 31, 32], B := [0, 1004], A := [] })]), (14, [(3, 0, { L := [0, 4, 7], B := [0, 1004], A := [] })]), (16, [(4, 0, { L := [4, 8], B := [0, 1004, 1008], A := [] })])], fin := [(.cell 1004 2, 0, 25, 4), (.cell 1004 3, 1, 9, 1)], nb := 1 }
@[reducible] def I.json_reader_value (p0 : T_json_reader) (p1 : Int) : CIn := ⟨[.ptr 0 0, .int .i64 p1], [⟨67, [.str p0.gs]⟩], []⟩
@[reducible] def O.json_reader_value : Rs (T_api_Json × T_json_reader) → COut
  | .ok r => .ok [.agg [.int .i64 r.1.gKind, .str r.1.gText, .ref 0, .ref 1]] [⟨67, [.str r.2.gs]⟩] [some (25, 4, (T_api_Json.encs r.1.gList)), some (9, 1, (r.1.gKeys.map eS))]
  | .pan e => .pan (.iface 75 (.agg [.int .i64 e]))
def A.json_reader_nested : Ann := { seq := [(9, { L := [0, 1, 2, 3, 8, 9], B := [0, 1008, 1009], A := [3016, 3017], H := [(.cell 1009 2, 3016, 25, 4), (.cell 1009 3, 3017, 9, 1)] })], loop := [(5, { L := [0, 1, 2, 3, 8, 9], B := [0, 1008, 1009], A := [3002, 3003], H := [(.cell 1009 2, 3002, 25, 4), (.cell 1009 3, 3003, 9, 1)] })], reg := [(2, [(4, 0, { L := [0, 1, 2, 3, 8, 9], B := [0, 1008, 1009], A := [] })]), (7, [(6, 3, { L := [0, 1, 2, 3, 8, 9, 10, 32], B := [0, 1008, 1009], A := [3018, 3019], H := [(.cell 1009 2, 3018, 25, 4), (.cell 1009 3, 3019, 9, 1)] })]), (10, [(3, 0, { L := [0, 1, 2, 3, 8, 9, 51], B := [0, 1008, 1009], A := [100501, 100502], H := [(.cell 1009 2, 100501, 25, 4), (.cell 1009 3, 100502, 9, 1)] })]), (12, [(3, 0, { L := [0, 1, 2, 3, 8, 9], B := [0, 1008, 1009], A := [100601, 100602], H := [(.cell 1009 2, 100601, 25, 4), (.cell 1009 3, 100602, 9, 1)] })])], drw := [(9, { anc := [0, 1, 0, 0, 8, 28, 60, 127, 255, 511], E := [5, 6, 7, 9], qs := [0, 1, 2, 3, 4], g := .one 5 [0, 1] [] (.one 6 [0, 1] [] (.one 7 [] [8] (.one 9 [] [] (.fin)))) })], fin := [(.cell 1008 2, 0, 25, 4), (.cell 1008 3, 1, 9, 1)], nb := 1 }
@[reducible] def I.json_reader_nested (p0 : T_json_reader) (p1 : Int) (p2 : Int) (p3 : List UInt8) : CIn := ⟨[.ptr 0 0, .int .i64 p1, .int .i64 p2, .str p3], [⟨67, [.str p0.gs]⟩], []⟩
@[reducible] def O.json_reader_nested : Rs (T_api_Json × T_json_reader) → COut
  | .ok r => .ok [.agg [.int .i64 r.1.gKind, .str r.1.gText, .ref 0, .ref 1]] [⟨67, [.str r.2.gs]⟩] [some (25, 4, (T_api_Json.encs r.1.gList)), some (9, 1, (r.1.gKeys.map eS))]
  | .pan e => .pan (.iface 75 (.agg [.int .i64 e]))
set_option maxRecDepth 1000000 in
set_option maxHeartbeats 4000000 in
theorem L.json_reader_value (fuel : Nat) (ih_json_reader_value : ∀ (p0 : T_json_reader) (p1 : Int), S (M.json_reader_value fuel p0 p1) fun r => Con Tryz.prog GG 38 (I.json_reader_value p0 p1) (O.json_reader_value r)) (ih_json_reader_nested : ∀ (p0 : T_json_reader) (p1 : Int) (p2 : Int) (p3 : List UInt8), S (M.json_reader_nested fuel p0 p1 p2 p3) fun r => Con Tryz.prog GG 60 (I.json_reader_nested p0 p1 p2 p3) (O.json_reader_nested r)) (p0 : T_json_reader) (p1 : Int) : S (M.json_reader_value (fuel + 1) p0 p1) fun r => ex TB CT A.json_reader_value (Con Tryz.prog GG) (bodyOf Tryz.f38) (entry (I.json_reader_value p0 p1)) (fin TB A.json_reader_value [.cell 4 25] (O.json_reader_value r)) := by
  unfold M.json_reader_value
  refine S.k [] [] [] (C.strings_HasPrefix p0.gs ([34] : List UInt8)) rfl trivial trivial rfl fun a_19 => ?_
  refine S.an rfl ?_
  refine S.jp (⟨[(0, .ptr 0 0), (1, .int .i64 p1), (4, .ptr 1004 0), (9, .bool a_19)], [(0, ⟨67, [.str p0.gs]⟩), (1004, ⟨25, [.int .i64 0, .str ([] : List UInt8), .nil, .nil]⟩)], [], none⟩) (fun _ => rfl) ?_
  refine S.cb ?_ ?_
  · refine S.k [0] [] [] (C.json_reader_text p0) rfl ⟨⟨rfl, rfl⟩, trivial⟩ trivial rfl fun a_21 => ?_
    cases a_21 with
    | pan e_24 =>
      refine S.an rfl ?_
      exact S.z rfl
    | ok a_23 =>
      refine S.an rfl ?_
      exact S.z ⟨rfl, ⟨⟨rfl, rfl⟩, trivial⟩, ⟨⟨rfl, rfl, rfl⟩, ⟨⟨rfl, rfl, rfl⟩, trivial⟩⟩, rfl⟩
  · refine S.k [0] [] [] (C.json_reader_take p0 ([91] : List UInt8)) rfl ⟨⟨rfl, rfl⟩, trivial⟩ trivial rfl fun a_25 => ?_
    refine S.an rfl ?_
    refine S.cb ?_ ?_
    · refine S.k [0] [] [5280, 5281] (ih_json_reader_nested a_25.2 5 p1 ([93] : List UInt8)) rfl ⟨⟨rfl, rfl⟩, trivial⟩ trivial rfl fun a_27 => ?_
      cases a_27 with
      | pan e_30 =>
        refine S.an rfl ?_
        exact S.z rfl
      | ok a_29 =>
        refine S.an rfl ?_
        refine S.jp (⟨[(4, .ptr 1004 0)], [(0, ⟨67, [.str a_29.2.gs]⟩), (1004, ⟨25, [.int .i64 a_29.1.gKind, .str a_29.1.gText, .ref 100201, .ref 100202]⟩)], [(100201, ⟨true, 25, 4, (T_api_Json.encs a_29.1.gList)⟩), (100202, ⟨true, 9, 1, (a_29.1.gKeys.map eS)⟩)], none⟩) (fun _ => rfl) ?_
        exact S.z ⟨rfl, ⟨⟨rfl, rfl⟩, trivial⟩, ⟨⟨rfl, rfl, rfl⟩, ⟨⟨rfl, rfl, rfl⟩, trivial⟩⟩, rfl⟩
    · refine S.k [0] [] [] (C.json_reader_take a_25.2 ([123] : List UInt8)) rfl ⟨⟨rfl, rfl⟩, trivial⟩ trivial rfl fun a_31 => ?_
      refine S.an rfl ?_
      refine S.jp (⟨[(0, .ptr 0 0), (1, .int .i64 p1), (4, .ptr 1004 0), (24, .bool a_31.1)], [(0, ⟨67, [.str a_31.2.gs]⟩), (1004, ⟨25, [.int .i64 0, .str ([] : List UInt8), .nil, .nil]⟩)], [], none⟩) (fun _ => rfl) ?_
      refine S.cb ?_ ?_
      · refine S.k [0] [] [5340, 5341] (ih_json_reader_nested a_31.2 6 p1 ([125] : List UInt8)) rfl ⟨⟨rfl, rfl⟩, trivial⟩ trivial rfl fun a_33 => ?_
        cases a_33 with
        | pan e_36 =>
          refine S.an rfl ?_
          exact S.z rfl
        | ok a_35 =>
          refine S.an rfl ?_
          exact S.z ⟨rfl, ⟨⟨rfl, rfl⟩, trivial⟩, ⟨⟨rfl, rfl, rfl⟩, ⟨⟨rfl, rfl, rfl⟩, trivial⟩⟩, rfl⟩
      · refine S.jn (fun j_49 => ⟨[(0, .ptr 0 0), (4, .ptr 1004 0)], [(0, ⟨67, [.str j_49]⟩), (1004, ⟨25, [.int .i64 0, .str ([] : List UInt8), .nil, .nil]⟩)], [], none⟩) ?_ (fun _ => rfl) fun j_49 => ?_
        · refine S.eq (a := ([([110, 117, 108, 108] : List UInt8), ([102, 97, 108, 115, 101] : List UInt8), ([116, 114, 117, 101] : List UInt8)].length : Int)) rfl ?_
          refine S.lw2 (L := M.json_reader_value_k1) (fun x_53 x_54 => ⟨[(0, .ptr 0 0), (4, .ptr 1004 0), (30, .sl 9 1 ([([110, 117, 108, 108] : List UInt8), ([102, 97, 108, 115, 101] : List UInt8), ([116, 114, 117, 101] : List UInt8)].map eS)), (31, .int .i64 ([([110, 117, 108, 108] : List UInt8), ([102, 97, 108, 115, 101] : List UInt8), ([116, 114, 117, 101] : List UInt8)].length : Int)), (32, .int .i64 x_53)], [(0, ⟨67, [.str x_54]⟩), (1004, ⟨25, [.int .i64 0, .str ([] : List UInt8), .nil, .nil]⟩)], [], none⟩) (M.json_reader_value_k1.partial_correctness) rfl fun f_json_reader_value_k1 I_json_reader_value_k1 ih_json_reader_value_k1 x_53 x_54 => ?_
          refine S.cb ?_ ?_
          · refine S.ixE (f := eS) (c := fun x => [D.str x]) (fun _ => rfl) rfl (fun _ => rfl) fun x_58 => ?_
            refine S.k [0] [] [] (C.json_reader_take (T_json_reader.mk x_54) x_58) rfl ⟨⟨rfl, rfl⟩, trivial⟩ trivial rfl fun a_59 => ?_
            refine S.an rfl ?_
            refine S.cb ?_ ?_
            · refine S.jp (⟨[(4, .ptr 1004 0)], [(0, ⟨67, [.str a_59.2.gs]⟩), (1004, ⟨25, [.int .i64 x_53, .str ([] : List UInt8), .nil, .nil]⟩)], [], none⟩) (fun _ => rfl) ?_
              exact S.z ⟨rfl, ⟨⟨rfl, rfl⟩, trivial⟩, ⟨⟨rfl, rfl, rfl⟩, ⟨⟨rfl, rfl, rfl⟩, trivial⟩⟩, rfl⟩
            · refine S.jp (⟨[(0, .ptr 0 0), (4, .ptr 1004 0), (30, .sl 9 1 ([([110, 117, 108, 108] : List UInt8), ([102, 97, 108, 115, 101] : List UInt8), ([116, 114, 117, 101] : List UInt8)].map eS)), (31, .int .i64 ([([110, 117, 108, 108] : List UInt8), ([102, 97, 108, 115, 101] : List UInt8), ([116, 114, 117, 101] : List UInt8)].length : Int)), (32, .int .i64 (IntKind.wrap .i64 (x_53 + 1)))], [(0, ⟨67, [.str a_59.2.gs]⟩), (1004, ⟨25, [.int .i64 0, .str ([] : List UInt8), .nil, .nil]⟩)], [], none⟩) (fun _ => rfl) ?_
              exact ih_json_reader_value_k1 _ _
          · exact S.z rfl
        · refine S.k [] [] [] (C.json_number j_49) rfl trivial trivial rfl fun a_61 => ?_
          refine S.an rfl ?_
          refine S.k [] [] [] (C.json_must (decide (0 < a_61)) 20) rfl trivial trivial rfl fun a_63 => ?_
          cases a_63 with
          | pan e_66 =>
            refine S.an rfl ?_
            exact S.z rfl
          | ok a_65 =>
            refine S.an rfl ?_
            refine S.jp (⟨[(0, .ptr 0 0), (4, .ptr 1004 0), (7, .int .i64 a_61)], [(0, ⟨67, [.str j_49]⟩), (1004, ⟨25, [.int .i64 0, .str ([] : List UInt8), .nil, .nil]⟩)], [], none⟩) (fun _ => rfl) ?_
            refine S.e fun s_67 => ?_
            refine S.k [0] [] [] (C.json_reader_take (T_json_reader.mk j_49) s_67) rfl ⟨⟨rfl, rfl⟩, trivial⟩ trivial rfl fun a_68 => ?_
            refine S.an rfl ?_
            refine S.jp (⟨[(4, .ptr 1004 0), (8, .ptr 1008 0)], [(0, ⟨67, [.str a_68.2.gs]⟩), (1004, ⟨25, [.int .i64 0, .str ([] : List UInt8), .nil, .nil]⟩), (1008, ⟨25, [.int .i64 3, .str s_67, .nil, .nil]⟩)], [], none⟩) (fun _ => rfl) ?_
            exact S.z ⟨rfl, ⟨⟨rfl, rfl⟩, trivial⟩, ⟨⟨rfl, rfl, rfl⟩, ⟨⟨rfl, rfl, rfl⟩, trivial⟩⟩, rfl⟩
set_option maxRecDepth 1000000 in
set_option maxHeartbeats 4000000 in
theorem L.json_reader_nested (fuel : Nat) (ih_json_reader_value : ∀ (p0 : T_json_reader) (p1 : Int), S (M.json_reader_value fuel p0 p1) fun r => Con Tryz.prog GG 38 (I.json_reader_value p0 p1) (O.json_reader_value r)) (ih_json_reader_nested : ∀ (p0 : T_json_reader) (p1 : Int) (p2 : Int) (p3 : List UInt8), S (M.json_reader_nested fuel p0 p1 p2 p3) fun r => Con Tryz.prog GG 60 (I.json_reader_nested p0 p1 p2 p3) (O.json_reader_nested r)) (p0 : T_json_reader) (p1 : Int) (p2 : Int) (p3 : List UInt8) : S (M.json_reader_nested (fuel + 1) p0 p1 p2 p3) fun r => ex TB CT A.json_reader_nested (Con Tryz.prog GG) (bodyOf Tryz.f60) (entry (I.json_reader_nested p0 p1 p2 p3)) (fin TB A.json_reader_nested [.cell 8 25] (O.json_reader_nested r)) := by
  unfold M.json_reader_nested
  refine S.k [] [] [] (C.json_must (decide (p2 < 16)) 21) rfl trivial trivial rfl fun a_1 => ?_
  cases a_1 with
  | pan e_4 =>
    refine S.an rfl ?_
    exact S.z rfl
  | ok a_3 =>
    refine S.an rfl ?_
    refine S.jp (⟨[(0, .ptr 0 0), (1, .int .i64 p1), (2, .int .i64 p2), (3, .str p3), (8, .ptr 1008 0), (9, .ptr 1009 0)], [(0, ⟨67, [.str p0.gs]⟩), (1008, ⟨25, [.int .i64 0, .str ([] : List UInt8), .nil, .nil]⟩), (1009, ⟨25, [.int .i64 p1, .str ([] : List UInt8), .nil, .nil]⟩)], [], none⟩) (fun _ => rfl) ?_
    refine S.k [0] [] [] (C.json_reader_take p0 p3) rfl ⟨⟨rfl, rfl⟩, trivial⟩ trivial rfl fun a_7 => ?_
    refine S.an rfl ?_
    refine S.cb ?_ ?_
    · exact S.z ⟨rfl, ⟨⟨rfl, rfl⟩, trivial⟩, ⟨⟨rfl, rfl, rfl⟩, ⟨⟨rfl, rfl, rfl⟩, trivial⟩⟩, rfl⟩
    · refine S.lw3 (L := M.json_reader_nested_k1 p1 (M.json_reader_value fuel) p2 p3) (fun x_79 x_80 x_81 => ⟨[(0, .ptr 0 0), (1, .int .i64 p1), (2, .int .i64 p2), (3, .str p3), (8, .ptr 1008 0), (9, .ptr 1009 0)], [(0, ⟨67, [.str x_79]⟩), (1008, ⟨25, [.int .i64 0, .str ([] : List UInt8), .nil, .nil]⟩), (1009, ⟨25, [.int .i64 p1, .str ([] : List UInt8), .ref 3002, .ref 3003]⟩)], [(3002, ⟨true, 25, 4, (T_api_Json.encs x_80)⟩), (3003, ⟨true, 9, 1, (x_81.map eS)⟩)], none⟩) (M.json_reader_nested_k1.partial_correctness p1 (M.json_reader_value fuel) p2 p3) rfl fun f_json_reader_nested_k1 I_json_reader_nested_k1 ih_json_reader_nested_k1 x_79 x_80 x_81 => ?_
      refine S.jn (fun j_190 => ⟨[(0, .ptr 0 0), (1, .int .i64 p1), (2, .int .i64 p2), (3, .str p3), (8, .ptr 1008 0), (9, .ptr 1009 0)], [(0, ⟨67, [.str j_190.1]⟩), (1008, ⟨25, [.int .i64 0, .str ([] : List UInt8), .nil, .nil]⟩), (1009, ⟨25, [.int .i64 p1, .str ([] : List UInt8), .ref 3016, .ref 3017]⟩)], [(3016, ⟨true, 25, 4, (T_api_Json.encs x_80)⟩), (3017, ⟨true, 9, 1, (j_190.2.map eS)⟩)], none⟩) ?_ (fun _ => rfl) fun j_190 => ?_
      · refine S.cb ?_ ?_
        · refine S.k [0] [] [] (C.json_reader_text (T_json_reader.mk x_79)) rfl ⟨⟨rfl, rfl⟩, trivial⟩ trivial rfl fun a_191 => ?_
          cases a_191 with
          | pan e_194 =>
            refine S.an rfl ?_
            exact S.z rfl
          | ok a_193 =>
            refine S.an rfl ?_
            refine S.k [] [] [] (C.slices_Contains_string_string x_81 a_193.1) rfl trivial trivial rfl fun a_195 => ?_
            refine S.an rfl ?_
            refine S.j (fun j_201 => ⟨[(0, .ptr 0 0), (1, .int .i64 p1), (2, .int .i64 p2), (3, .str p3), (8, .ptr 1008 0), (9, .ptr 1009 0), (10, .str a_193.1), (32, .bool j_201.1)], [(0, ⟨67, [.str j_201.2]⟩), (1008, ⟨25, [.int .i64 0, .str ([] : List UInt8), .nil, .nil]⟩), (1009, ⟨25, [.int .i64 p1, .str ([] : List UInt8), .ref 3018, .ref 3019]⟩)], [(3018, ⟨true, 25, 4, (T_api_Json.encs x_80)⟩), (3019, ⟨true, 9, 1, (x_81.map eS)⟩)], none⟩) (fun r => ?_) fun j_201 => ?_
            · refine S.cb ?_ ?_
              · refine S.k [0] [] [] (C.json_reader_take a_193.2 ([58] : List UInt8)) rfl ⟨⟨rfl, rfl⟩, trivial⟩ trivial rfl fun a_202 => ?_
                refine S.an rfl ?_
                exact S.z rfl
              · exact S.z rfl
            · refine S.k [] [] [] (C.json_must j_201.1 20) rfl trivial trivial rfl fun a_204 => ?_
              cases a_204 with
              | pan e_207 =>
                refine S.an rfl ?_
                exact S.z rfl
              | ok a_206 =>
                refine S.an rfl ?_
                refine S.appE (f := eS) (E := (fun l => l.map eS)) (xs := x_81) (ys := [a_193.1]) (fun _ => rfl) rfl rfl fun l_208 => ?_
                exact S.z rfl
        · exact S.z rfl
      · refine S.an trivial ?_
        refine S.k [0] [] [7100, 7101] (ih_json_reader_value (T_json_reader.mk j_190.1) (IntKind.wrap .i64 (p2 + 1))) rfl ⟨⟨rfl, rfl⟩, trivial⟩ trivial rfl fun a_209 => ?_
        cases a_209 with
        | pan e_212 =>
          refine S.an rfl ?_
          exact S.z rfl
        | ok a_211 =>
          refine S.an rfl ?_
          refine S.an ⟨⟨rfl, rfl⟩, trivial⟩ ?_
          refine S.an ⟨⟨rfl, rfl⟩, trivial⟩ ?_
          refine S.appE (f := T_api_Json.enc) (E := T_api_Json.encs) (xs := x_80) (ys := [a_211.1]) T_api_Json.encs_eq rfl (by first | rfl | simp only [T_api_Json.encs_eq, List.map_cons, List.map_nil, T_api_Json.enc_c]) fun l_213 => ?_
          refine S.an trivial ?_
          refine S.an trivial ?_
          refine S.k [0] [] [] (C.json_reader_take a_211.2 p3) rfl ⟨⟨rfl, rfl⟩, trivial⟩ trivial rfl fun a_214 => ?_
          refine S.an rfl ?_
          refine S.jp (⟨[(0, .ptr 0 0), (1, .int .i64 p1), (2, .int .i64 p2), (3, .str p3), (8, .ptr 1008 0), (9, .ptr 1009 0), (51, .bool a_214.1)], [(0, ⟨67, [.str a_214.2.gs]⟩), (1008, ⟨25, [.int .i64 0, .str ([] : List UInt8), .nil, .nil]⟩), (1009, ⟨25, [.int .i64 p1, .str ([] : List UInt8), .ref 100501, .ref 100502]⟩)], [(100501, ⟨true, 25, 4, (T_api_Json.encs l_213)⟩), (100502, ⟨true, 9, 1, (j_190.2.map eS)⟩)], none⟩) (fun _ => rfl) ?_
          refine S.cb ?_ ?_
          · exact S.z ⟨rfl, ⟨⟨rfl, rfl⟩, trivial⟩, ⟨⟨rfl, rfl, rfl⟩, ⟨⟨rfl, rfl, rfl⟩, trivial⟩⟩, rfl⟩
          · refine S.k [0] [] [] (C.json_reader_take a_214.2 ([44] : List UInt8)) rfl ⟨⟨rfl, rfl⟩, trivial⟩ trivial rfl fun a_216 => ?_
            refine S.an rfl ?_
            refine S.k [] [] [] (C.json_must a_216.1 20) rfl trivial trivial rfl fun a_218 => ?_
            cases a_218 with
            | pan e_221 =>
              refine S.an rfl ?_
              exact S.z rfl
            | ok a_220 =>
              refine S.an rfl ?_
              refine S.jp (⟨[(0, .ptr 0 0), (1, .int .i64 p1), (2, .int .i64 p2), (3, .str p3), (8, .ptr 1008 0), (9, .ptr 1009 0)], [(0, ⟨67, [.str a_216.2.gs]⟩), (1008, ⟨25, [.int .i64 0, .str ([] : List UInt8), .nil, .nil]⟩), (1009, ⟨25, [.int .i64 p1, .str ([] : List UInt8), .ref 100601, .ref 100602]⟩)], [(100601, ⟨true, 25, 4, (T_api_Json.encs l_213)⟩), (100602, ⟨true, 9, 1, (j_190.2.map eS)⟩)], none⟩) (fun _ => rfl) ?_
              exact ih_json_reader_nested_k1 _ _ _
set_option maxRecDepth 1000000 in
set_option maxHeartbeats 4000000 in
theorem C.json_reader_value_all (fuel : Nat) : (∀ (p0 : T_json_reader) (p1 : Int), S (M.json_reader_value fuel p0 p1) fun r => Con Tryz.prog GG 38 (I.json_reader_value p0 p1) (O.json_reader_value r)) ∧ (∀ (p0 : T_json_reader) (p1 : Int) (p2 : Int) (p3 : List UInt8), S (M.json_reader_nested fuel p0 p1 p2 p3) fun r => Con Tryz.prog GG 60 (I.json_reader_nested p0 p1 p2 p3) (O.json_reader_nested r)) := by
  induction fuel with
  | zero => exact ⟨(by intros; intro r hm; cases hm), (by intros; intro r hm; cases hm)⟩
  | succ fuel ih =>
    refine ⟨?_, ?_⟩
    · intro p0 p1; intro r hm; exact Con.of TBG (fun _ _ => rfl) Tryz.func38 rfl rfl (res := [.cell 4 25]) rfl (by kernel_rfl) rfl rfl rfl (L.json_reader_value fuel ih.1 ih.2 p0 p1 r hm)
    · intro p0 p1 p2 p3; intro r hm; exact Con.of TBG (fun _ _ => rfl) Tryz.func60 rfl rfl (res := [.cell 8 25]) rfl (by kernel_rfl) rfl rfl rfl (L.json_reader_nested fuel ih.1 ih.2 p0 p1 p2 p3 r hm)
theorem C.json_reader_value (fuel : Nat) (p0 : T_json_reader) (p1 : Int) : S (M.json_reader_value fuel p0 p1) fun r => Con Tryz.prog GG 38 (I.json_reader_value p0 p1) (O.json_reader_value r) := (C.json_reader_value_all fuel).1 p0 p1
theorem C.json_reader_nested (fuel : Nat) (p0 : T_json_reader) (p1 : Int) (p2 : Int) (p3 : List UInt8) : S (M.json_reader_nested fuel p0 p1 p2 p3) fun r => Con Tryz.prog GG 60 (I.json_reader_nested p0 p1 p2 p3) (O.json_reader_nested r) := (C.json_reader_value_all fuel).2 p0 p1 p2 p3
def A.json_Parse : Ann := { reg := [(2, [(3, 0, { L := [2, 3], B := [1002, 1003], A := [] })]), (4, [(4, 0, { L := [2, 3, 4], B := [1002, 999, 1012], A := [] })]), (6, [(4, 0, { L := [2, 3, 4, 5], B := [1002, 999, 1012, 1005], A := [100301, 100302], H := [(.cell 1005 2, 100301, 25, 4), (.cell 1005 3, 100302, 9, 1)] })]), (8, [(3, 0, { L := [2, 3], B := [1002, 999], A := [100401, 100402], H := [(.cell 1002 2, 100401, 25, 4), (.cell 1002 3, 100402, 9, 1)] })])], fin := [(.cell 1002 2, 0, 25, 4), (.cell 1002 3, 1, 9, 1)] }
@[reducible] def I.json_Parse (p0 : List UInt8) : CIn := ⟨[.str p0], [], []⟩
@[reducible] def O.json_Parse : T_api_Json × Int → COut
  | r => .ok [.agg [.int .i64 r.1.gKind, .str r.1.gText, .ref 0, .ref 1], .int .i64 r.2] [] [some (25, 4, (T_api_Json.encs r.1.gList)), some (9, 1, (r.1.gKeys.map eS))]
set_option maxRecDepth 1000000 in
set_option maxHeartbeats 4000000 in
theorem L.json_Parse (fuel : Nat) (p0 : List UInt8) : S (M.json_Parse fuel p0) fun r => exD TB CT A.json_Parse (Con Tryz.prog GG) (fin TB A.json_Parse [.cell 2 25, .cell 3 27] (O.json_Parse r)) (finD TB A.json_Parse [.cell 2 25, .cell 3 27] (O.json_Parse r) 25 75 .i64 27) (bodyOf Tryz.f23) (entry (I.json_Parse p0)) := by
  unfold M.json_Parse
  refine S.cb ?_ ?_
  · refine S.jp (⟨[(2, .ptr 1002 0), (3, .ptr 1003 0)], [(1002, ⟨25, [.int .i64 0, .str ([] : List UInt8), .nil, .nil]⟩), (1003, ⟨27, [.int .i64 22]⟩)], [], none⟩) (fun _ => rfl) ?_
    exact S.z ⟨rfl, trivial, ⟨⟨rfl, rfl, rfl⟩, ⟨⟨rfl, rfl, rfl⟩, trivial⟩⟩, rfl⟩
  · refine S.jp (⟨[(2, .ptr 1002 0), (3, .ptr 999 0), (4, .ptr 1012 0)], [(1002, ⟨25, [.int .i64 0, .str ([] : List UInt8), .nil, .nil]⟩), (999, ⟨27, [.int .i64 0]⟩), (1012, ⟨67, [.str p0]⟩)], [], none⟩) (fun _ => rfl) ?_
    refine S.k [1012] [] [] (C.json_reader_blanks (T_json_reader.mk p0)) rfl ⟨⟨rfl, rfl⟩, trivial⟩ trivial rfl fun a_1 => ?_
    refine S.an rfl ?_
    refine S.k [1012] [] [5040, 5041] (C.json_reader_value fuel a_1 0) rfl ⟨⟨rfl, rfl⟩, trivial⟩ trivial rfl fun a_3 => ?_
    cases a_3 with
    | pan e_6 =>
      refine S.an rfl ?_
      exact S.z ⟨rfl, trivial, ⟨⟨rfl, rfl, rfl⟩, ⟨⟨rfl, rfl, rfl⟩, trivial⟩⟩, rfl⟩
    | ok a_5 =>
      refine S.an rfl ?_
      refine S.jp (⟨[(2, .ptr 1002 0), (3, .ptr 999 0), (4, .ptr 1012 0), (5, .ptr 1005 0)], [(1002, ⟨25, [.int .i64 0, .str ([] : List UInt8), .nil, .nil]⟩), (999, ⟨27, [.int .i64 0]⟩), (1012, ⟨67, [.str a_5.2.gs]⟩), (1005, ⟨25, [.int .i64 a_5.1.gKind, .str a_5.1.gText, .ref 100301, .ref 100302]⟩)], [(100301, ⟨true, 25, 4, (T_api_Json.encs a_5.1.gList)⟩), (100302, ⟨true, 9, 1, (a_5.1.gKeys.map eS)⟩)], none⟩) (fun _ => rfl) ?_
      refine S.k [] [] [] (C.json_must (decide (a_5.2.gs = ([] : List UInt8))) 20) rfl trivial trivial rfl fun a_7 => ?_
      cases a_7 with
      | pan e_10 =>
        refine S.an rfl ?_
        exact S.z ⟨rfl, trivial, ⟨⟨rfl, rfl, rfl⟩, ⟨⟨rfl, rfl, rfl⟩, trivial⟩⟩, rfl⟩
      | ok a_9 =>
        refine S.an rfl ?_
        refine S.jp (⟨[(2, .ptr 1002 0), (3, .ptr 999 0)], [(1002, ⟨25, [.int .i64 a_5.1.gKind, .str a_5.1.gText, .ref 100401, .ref 100402]⟩), (999, ⟨27, [.int .i64 0]⟩)], [(100401, ⟨true, 25, 4, (T_api_Json.encs a_5.1.gList)⟩), (100402, ⟨true, 9, 1, (a_5.1.gKeys.map eS)⟩)], none⟩) (fun _ => rfl) ?_
        exact S.z ⟨rfl, trivial, ⟨⟨rfl, rfl, rfl⟩, ⟨⟨rfl, rfl, rfl⟩, trivial⟩⟩, rfl⟩
set_option maxRecDepth 1000000 in
set_option maxHeartbeats 4000000 in
theorem C.json_Parse (fuel : Nat) (p0 : List UInt8) : S (M.json_Parse fuel p0) fun r => Con Tryz.prog GG 23 (I.json_Parse p0) (O.json_Parse r) := by
  intro r hm; exact Con.ofD C.caught TBG (fun _ _ => rfl) Tryz.func23 rfl rfl (res := [.cell 2 25, .cell 3 27]) rfl (by kernel_rfl) rfl rfl rfl rfl (L.json_Parse fuel p0 r hm)
def A.json_checked : Ann := { seq := [(13, { L := [1, 2], B := [], A := [] })], loop := [(14, { L := [1, 101, 102, 103], B := [], A := [] })], reg := [(1, [(4, 4, { L := [1, 2, 14], B := [], A := [] })]), (2, [(3, 3, { L := [1, 2, 4, 20], B := [], A := [] })]), (3, [(4, 4, { L := [1, 2, 4, 29], B := [], A := [] })]), (4, [(2, 5, { L := [1, 2, 37], B := [], A := [] })]), (5, [(4, 8, { L := [1, 2, 50], B := [], A := [] }), (1, 10, { L := [1, 2, 61], B := [], A := [] })]), (6, [(5, 4, { L := [1, 2, 71], B := [], A := [] })]), (8, [(4, 0, { L := [1, 2], B := [], A := [] })]), (12, [(4, 0, { L := [1, 2], B := [], A := [] })]), (16, [(4, 0, { L := [1, 101, 102, 103], B := [], A := [] })])], drw := [(10, { anc := [0, 1, 3, 7, 15, 31, 63, 15, 143, 399, 1023, 2047, 4095], E := [6, 12], qs := [0, 1, 2, 3, 4, 5, 7, 8, 9], g := .one 6 [7, 8, 9] [10, 11] (.one 12 [] [] (.fin)) })], ro := [2] }
@[reducible] def I.json_checked (p0 : T_api_Json) (p1 : Int) : CIn := ⟨[.agg [.int .i64 p0.gKind, .str p0.gText, .sl 25 4 (T_api_Json.encs p0.gList), .sl 9 1 (p0.gKeys.map eS)], .int .i64 p1], [], []⟩
@[reducible] def O.json_checked : Rs Unit → COut
  | .ok r => .ok [] [] []
  | .pan e => .pan (.iface 75 (.agg [.int .i64 e]))
set_option maxRecDepth 1000000 in
set_option maxHeartbeats 4000000 in
theorem L.json_checked (fuel : Nat) (ih_json_checked : ∀ (p0 : T_api_Json) (p1 : Int), S (M.json_checked fuel p0 p1) fun r => Con Tryz.prog GG 26 (I.json_checked p0 p1) (O.json_checked r)) (p0 : T_api_Json) (p1 : Int) : S (M.json_checked (fuel + 1) p0 p1) fun r => ex TB CT A.json_checked (Con Tryz.prog GG) (bodyOf Tryz.f26) (entry (I.json_checked p0 p1)) (fin TB A.json_checked [] (O.json_checked r)) := by
  unfold M.json_checked
  refine S.jb (v := ((decide (p0.gKind = 5)) || (decide (p0.gKind = 6)))) (fun x_1 => ⟨[(1, .int .i64 p1), (2, .cptr [.int .i64 p0.gKind, .str p0.gText, .sl 25 4 (T_api_Json.encs p0.gList), .sl 9 1 (p0.gKeys.map eS)] 0), (14, .bool x_1)], [], [], none⟩) (fun r => ?_) ?_
  · refine cnd (fun h_2 => ?_) (fun h_2 => ?_)
    · exact jbI rfl (or_t h_2)
    · exact jbI rfl (or_f h_2 rfl)
  · refine S.jb (v := ((!((decide (p0.gKind = 5)) || (decide (p0.gKind = 6)))) || (decide (p1 < 16)))) (fun x_3 => ⟨[(1, .int .i64 p1), (2, .cptr [.int .i64 p0.gKind, .str p0.gText, .sl 25 4 (T_api_Json.encs p0.gList), .sl 9 1 (p0.gKeys.map eS)] 0), (4, .bool ((decide (p0.gKind = 5)) || (decide (p0.gKind = 6)))), (20, .bool x_3)], [], [], none⟩) (fun r => ?_) ?_
    · refine cnd (fun h_4 => ?_) (fun h_4 => ?_)
      · exact jbI rfl (or_t h_4)
      · exact jbI rfl (or_f h_4 rfl)
    · refine S.k [] [] [] (C.json_must ((!((decide (p0.gKind = 5)) || (decide (p0.gKind = 6)))) || (decide (p1 < 16))) 21) rfl trivial trivial rfl fun a_5 => ?_
      cases a_5 with
      | pan e_8 =>
        refine S.an rfl ?_
        exact S.z rfl
      | ok a_7 =>
        refine S.an rfl ?_
        refine S.jb (v := ((decide (0 ≤ p0.gKind)) && (decide (p0.gKind < 7)))) (fun x_9 => ⟨[(1, .int .i64 p1), (2, .cptr [.int .i64 p0.gKind, .str p0.gText, .sl 25 4 (T_api_Json.encs p0.gList), .sl 9 1 (p0.gKeys.map eS)] 0), (4, .bool ((decide (p0.gKind = 5)) || (decide (p0.gKind = 6)))), (29, .bool x_9)], [], [], none⟩) (fun r => ?_) ?_
        · refine cnd (fun h_10 => ?_) (fun h_10 => ?_)
          · exact jbI rfl (and_t h_10 rfl)
          · exact jbI rfl (and_f h_10)
        · refine S.k [] [] [] (C.json_must ((decide (0 ≤ p0.gKind)) && (decide (p0.gKind < 7))) 23) rfl trivial trivial rfl fun a_11 => ?_
          cases a_11 with
          | pan e_14 =>
            refine S.an rfl ?_
            exact S.z rfl
          | ok a_13 =>
            refine S.an rfl ?_
            refine S.jb (v := (((decide (p0.gKind = 5)) || (decide (p0.gKind = 6))) || (decide ((p0.gList.length : Int) = 0)))) (fun x_15 => ⟨[(1, .int .i64 p1), (2, .cptr [.int .i64 p0.gKind, .str p0.gText, .sl 25 4 (T_api_Json.encs p0.gList), .sl 9 1 (p0.gKeys.map eS)] 0), (37, .bool x_15)], [], [], none⟩) (fun r => ?_) ?_
            · refine cnd (fun h_16 => ?_) (fun h_16 => ?_)
              · exact jbI rfl (or_t h_16)
              · refine Ex.i (lenD_E T_api_Json.encs_eq) ?_
                exact jbI rfl (or_f h_16 rfl)
            · refine S.k [] [] [] (C.json_must (((decide (p0.gKind = 5)) || (decide (p0.gKind = 6))) || (decide ((p0.gList.length : Int) = 0))) 23) rfl trivial trivial rfl fun a_17 => ?_
              cases a_17 with
              | pan e_20 =>
                refine S.an rfl ?_
                exact S.z rfl
              | ok a_19 =>
                refine S.an rfl ?_
                refine S.jb (v := ((decide (p0.gKind = 6)) && (decide ((p0.gKeys.length : Int) = (p0.gList.length : Int))))) (fun x_21 => ⟨[(1, .int .i64 p1), (2, .cptr [.int .i64 p0.gKind, .str p0.gText, .sl 25 4 (T_api_Json.encs p0.gList), .sl 9 1 (p0.gKeys.map eS)] 0), (50, .bool x_21)], [], [], none⟩) (fun r => ?_) ?_
                · refine cnd (fun h_22 => ?_) (fun h_22 => ?_)
                  · refine Ex.i lenD_map ?_
                    refine Ex.i (lenD_E T_api_Json.encs_eq) ?_
                    exact jbI rfl (and_t h_22 rfl)
                  · exact jbI rfl (and_f h_22)
                · refine S.jb (v := (((decide (p0.gKind = 6)) && (decide ((p0.gKeys.length : Int) = (p0.gList.length : Int)))) || ((decide ((p0.gKeys.length : Int) = 0)) && (!decide (p0.gKind = 6))))) (fun x_23 => ⟨[(1, .int .i64 p1), (2, .cptr [.int .i64 p0.gKind, .str p0.gText, .sl 25 4 (T_api_Json.encs p0.gList), .sl 9 1 (p0.gKeys.map eS)] 0), (61, .bool x_23)], [], [], none⟩) (fun r => ?_) ?_
                  · refine cnd (fun h_24 => ?_) (fun h_24 => ?_)
                    · exact jbI rfl (or_t h_24)
                    · refine Ex.i lenD_map ?_
                      refine cnd (fun h_25 => ?_) (fun h_25 => ?_)
                      · exact jbI rfl (or_f h_24 (and_t h_25 rfl))
                      · exact jbI rfl (or_f h_24 (and_f h_25))
                  · refine S.k [] [] [] (C.json_must (((decide (p0.gKind = 6)) && (decide ((p0.gKeys.length : Int) = (p0.gList.length : Int)))) || ((decide ((p0.gKeys.length : Int) = 0)) && (!decide (p0.gKind = 6)))) 23) rfl trivial trivial rfl fun a_26 => ?_
                    cases a_26 with
                    | pan e_29 =>
                      refine S.an rfl ?_
                      exact S.z rfl
                    | ok a_28 =>
                      refine S.an rfl ?_
                      refine S.k [] [] [] (C.slices_ContainsFunc_string_string p0.gKeys) rfl trivial trivial rfl fun a_30 => ?_
                      refine S.an rfl ?_
                      refine S.j (fun j_35 => ⟨[(1, .int .i64 p1), (2, .cptr [.int .i64 p0.gKind, .str p0.gText, .sl 25 4 (T_api_Json.encs p0.gList), .sl 9 1 (p0.gKeys.map eS)] 0), (71, .bool j_35)], [], [], none⟩) (fun r => ?_) fun j_35 => ?_
                      · refine S.cb ?_ ?_
                        · refine S.k [] [] [] (C.single p0.gKeys) rfl trivial trivial rfl fun a_36 => ?_
                          refine S.an rfl ?_
                          exact S.z rfl
                        · exact S.z rfl
                      · refine S.k [] [] [] (C.json_must j_35 23) rfl trivial trivial rfl fun a_38 => ?_
                        cases a_38 with
                        | pan e_41 =>
                          refine S.an rfl ?_
                          exact S.z rfl
                        | ok a_40 =>
                          refine S.an rfl ?_
                          refine S.jn (fun _ => ⟨[(1, .int .i64 p1), (2, .cptr [.int .i64 p0.gKind, .str p0.gText, .sl 25 4 (T_api_Json.encs p0.gList), .sl 9 1 (p0.gKeys.map eS)] 0)], [], [], none⟩) ?_ (fun _ => rfl) fun j_82 => ?_
                          · refine S.cb ?_ ?_
                            · refine S.cb ?_ ?_
                              · refine S.an trivial ?_
                                refine S.k [] [] [] (C.json_number p0.gText) rfl trivial trivial rfl fun a_83 => ?_
                                refine S.an rfl ?_
                                refine S.an trivial ?_
                                refine S.k [] [] [] (C.json_must (decide (a_83 = (p0.gText.length : Int))) 23) rfl trivial trivial rfl fun a_85 => ?_
                                cases a_85 with
                                | pan e_88 =>
                                  refine S.an rfl ?_
                                  exact S.z rfl
                                | ok a_87 =>
                                  refine S.an rfl ?_
                                  refine S.an trivial ?_
                                  exact S.z rfl
                              · refine S.an trivial ?_
                                refine S.an trivial ?_
                                refine S.k [] [] [] (C.json_must false 23) rfl trivial trivial rfl fun a_89 => ?_
                                cases a_89 with
                                | pan e_92 =>
                                  refine S.an rfl ?_
                                  exact S.z rfl
                                | ok a_91 =>
                                  refine S.an rfl ?_
                                  refine S.an trivial ?_
                                  exact S.z rfl
                            · refine S.cb ?_ ?_
                              · refine S.k [] [] [] (C.validString p0.gText) rfl trivial trivial rfl fun a_93 => ?_
                                refine S.an rfl ?_
                                refine S.k [] [] [] (C.json_must a_93 23) rfl trivial trivial rfl fun a_95 => ?_
                                cases a_95 with
                                | pan e_98 =>
                                  refine S.an rfl ?_
                                  exact S.z rfl
                                | ok a_97 =>
                                  refine S.an rfl ?_
                                  refine S.jp (⟨[(1, .int .i64 p1), (2, .cptr [.int .i64 p0.gKind, .str p0.gText, .sl 25 4 (T_api_Json.encs p0.gList), .sl 9 1 (p0.gKeys.map eS)] 0)], [], [], none⟩) (fun _ => rfl) ?_
                                  exact S.z rfl
                              · refine S.k [] [] [] (C.json_must (decide (p0.gText = ([] : List UInt8))) 23) rfl trivial trivial rfl fun a_99 => ?_
                                cases a_99 with
                                | pan e_102 =>
                                  refine S.an rfl ?_
                                  exact S.z rfl
                                | ok a_101 =>
                                  refine S.an rfl ?_
                                  refine S.jp (⟨[(1, .int .i64 p1), (2, .cptr [.int .i64 p0.gKind, .str p0.gText, .sl 25 4 (T_api_Json.encs p0.gList), .sl 9 1 (p0.gKeys.map eS)] 0)], [], [], none⟩) (fun _ => rfl) ?_
                                  exact S.z rfl
                          · refine S.eq (lenD_E T_api_Json.encs_eq) ?_
                            refine S.lw (L := M.json_checked_k1 p0 (M.json_checked fuel) p1) (fun x_108 => ⟨[(1, .int .i64 p1), (101, .sl 25 4 (T_api_Json.encs p0.gList)), (102, .int .i64 (p0.gList.length : Int)), (103, .int .i64 x_108)], [], [], none⟩) (M.json_checked_k1.partial_correctness p0 (M.json_checked fuel) p1) rfl fun f_json_checked_k1 I_json_checked_k1 ih_json_checked_k1 x_108 => ?_
                            refine S.cb ?_ ?_
                            · refine S.ixE T_api_Json.encs_eq rfl T_api_Json.enc_c fun x_114 => ?_
                              refine S.k [] [] [] (ih_json_checked x_114 (IntKind.wrap .i64 (p1 + 1))) rfl trivial trivial rfl fun a_115 => ?_
                              cases a_115 with
                              | pan e_118 =>
                                refine S.an rfl ?_
                                exact S.z rfl
                              | ok a_117 =>
                                refine S.an rfl ?_
                                refine S.jp (⟨[(1, .int .i64 p1), (101, .sl 25 4 (T_api_Json.encs p0.gList)), (102, .int .i64 (p0.gList.length : Int)), (103, .int .i64 x_108)], [], [], none⟩) (fun _ => rfl) ?_
                                exact ih_json_checked_k1 _
                            · exact S.z ⟨rfl, trivial, trivial, rfl⟩
set_option maxRecDepth 1000000 in
set_option maxHeartbeats 4000000 in
theorem C.json_checked_all (fuel : Nat) : (∀ (p0 : T_api_Json) (p1 : Int), S (M.json_checked fuel p0 p1) fun r => Con Tryz.prog GG 26 (I.json_checked p0 p1) (O.json_checked r)) := by
  induction fuel with
  | zero => exact (by intros; intro r hm; cases hm)
  | succ fuel ih =>
    · intro p0 p1; intro r hm; exact Con.of TBG (fun _ _ => rfl) Tryz.func26 rfl rfl (res := []) rfl (by kernel_rfl) rfl rfl rfl (L.json_checked fuel ih p0 p1 r hm)
theorem C.json_checked (fuel : Nat) (p0 : T_api_Json) (p1 : Int) : S (M.json_checked fuel p0 p1) fun r => Con Tryz.prog GG 26 (I.json_checked p0 p1) (O.json_checked r) := (C.json_checked_all fuel) p0 p1
def A.json_Check : Ann := { reg := [(2, [(2, 0, { L := [2], B := [999], A := [] })])], ro := [1] }
@[reducible] def I.json_Check (p0 : T_api_Json) : CIn := ⟨[.agg [.int .i64 p0.gKind, .str p0.gText, .sl 25 4 (T_api_Json.encs p0.gList), .sl 9 1 (p0.gKeys.map eS)]], [], []⟩
@[reducible] def O.json_Check : Int → COut
  | r => .ok [.int .i64 r] [] []
set_option maxRecDepth 1000000 in
set_option maxHeartbeats 4000000 in
theorem L.json_Check (fuel : Nat) (p0 : T_api_Json) : S (M.json_Check fuel p0) fun r => exD TB CT A.json_Check (Con Tryz.prog GG) (fin TB A.json_Check [.cell 2 27] (O.json_Check r)) (finD TB A.json_Check [.cell 2 27] (O.json_Check r) 25 75 .i64 27) (bodyOf Tryz.f11) (entry (I.json_Check p0)) := by
  unfold M.json_Check
  refine S.k [] [] [] (C.json_checked fuel p0 0) rfl trivial trivial rfl fun a_1 => ?_
  cases a_1 with
  | pan e_4 =>
    refine S.an rfl ?_
    exact S.z ⟨rfl, trivial, trivial, rfl⟩
  | ok a_3 =>
    refine S.an rfl ?_
    refine S.jp (⟨[(2, .ptr 999 0)], [(999, ⟨27, [.int .i64 0]⟩)], [], none⟩) (fun _ => rfl) ?_
    exact S.z ⟨rfl, trivial, trivial, rfl⟩
set_option maxRecDepth 1000000 in
set_option maxHeartbeats 4000000 in
theorem C.json_Check (fuel : Nat) (p0 : T_api_Json) : S (M.json_Check fuel p0) fun r => Con Tryz.prog GG 11 (I.json_Check p0) (O.json_Check r) := by
  intro r hm; exact Con.ofD C.caught TBG (fun _ _ => rfl) Tryz.func11 rfl rfl (res := [.cell 2 27]) rfl (by kernel_rfl) rfl rfl rfl rfl (L.json_Check fuel p0 r hm)
def A.json_quoted : Ann := { seq := [(11, { L := [0], B := [0], A := [3003], H := [(.cell 0 1, 3003, 5, 1)] })], loop := [(2, { L := [0, 10, 11, 12], B := [0], A := [3005], H := [(.cell 0 1, 3005, 5, 1)] })], reg := [(6, [(7, 0, { L := [0, 10, 11, 12], B := [0], A := [100301], H := [(.cell 0 1, 100301, 5, 1)] })]), (7, [(2, 0, { L := [0, 5, 10, 11, 12, 28], B := [0], A := [100351], H := [(.cell 0 1, 100351, 5, 1)] })])], drw := [(8, { anc := [0, 0, 2, 0, 8, 24, 62, 126, 0, 256, 0, 1024, 3072, 7936, 16382, 32767], E := [15], qs := [0, 1, 2, 3, 4, 5, 6, 7, 8, 9, 10, 11, 12, 13, 14], g := .one 15 [] [] (.fin) })], fin := [(.cell 0 1, 0, 5, 1)], nb := 1 }
@[reducible] def I.json_quoted (p0 : List Int) (p1 : List UInt8) : CIn := ⟨[.ptr 0 0, .str p1], [⟨52, [.selfp 0, .ref 0]⟩], [(5, 1, (p0.map (eI .u8)))]⟩
@[reducible] def O.json_quoted : (List Int) → COut
  | r => .ok [] [⟨52, [.selfp 0, .ref 0]⟩] [some (5, 1, (r.map (eI .u8)))]
set_option maxRecDepth 1000000 in
set_option maxHeartbeats 4000000 in
theorem L.json_quoted (p0 : List Int) (p1 : List UInt8) : S (M.json_quoted p0 p1) fun r => ex TB CT A.json_quoted (Con Tryz.prog GG) (bodyOf Tryz.f49) (entry (I.json_quoted p0 p1)) (fin TB A.json_quoted [] (O.json_quoted r)) := by
  unfold M.json_quoted
  refine S.k [0] [0] [5020] (C.strings_Builder_WriteByte p0 34) rfl ⟨⟨rfl, rfl⟩, trivial⟩ ⟨⟨rfl, rfl, rfl⟩, trivial⟩ rfl fun a_1 => ?_
  refine S.an rfl ?_
  refine S.j (fun j_51 => ⟨[(0, .ptr 0 0)], [(0, ⟨52, [.selfp 0, .ref 3003]⟩)], [(3003, ⟨false, 5, 1, (j_51.map (eI .u8))⟩)], none⟩) (fun r => ?_) fun j_51 => ?_
  · refine S.e fun _ => ?_
    refine S.eq lenD_map ?_
    refine S.lw2 (L := M.json_quoted_k1 p1) (fun x_67 x_68 => ⟨[(0, .ptr 0 0), (10, .sl 5 1 ((unb p1).map (eI .u8))), (11, .int .i64 ((unb p1).length : Int)), (12, .int .i64 x_67)], [(0, ⟨52, [.selfp 0, .ref 3005]⟩)], [(3005, ⟨false, 5, 1, (x_68.map (eI .u8))⟩)], none⟩) (M.json_quoted_k1.partial_correctness p1) rfl fun f_json_quoted_k1 I_json_quoted_k1 ih_json_quoted_k1 x_67 x_68 => ?_
    refine S.cb ?_ ?_
    · refine S.ixE (f := (eI .u8)) (c := fun x => [D.int .u8 x]) (fun _ => rfl) rfl (fun _ => rfl) fun x_84 => ?_
      refine S.k [] [] [] (C.indexByte ([34, 92, 8, 9, 10, 12, 13] : List UInt8) x_84) rfl trivial trivial rfl fun a_85 => ?_
      refine S.an rfl ?_
      refine S.cb ?_ ?_
      · refine S.e fun s_87 => ?_
        refine S.e fun s_88 => ?_
        refine S.k [0] [3005] [5900] (C.strings_Builder_WriteString x_68 s_88) rfl ⟨⟨rfl, rfl⟩, trivial⟩ ⟨⟨rfl, rfl, rfl⟩, trivial⟩ rfl fun a_89 => ?_
        refine S.an rfl ?_
        refine S.jp (⟨[(0, .ptr 0 0), (10, .sl 5 1 ((unb p1).map (eI .u8))), (11, .int .i64 ((unb p1).length : Int)), (12, .int .i64 x_67)], [(0, ⟨52, [.selfp 0, .ref 100301]⟩)], [(100301, ⟨false, 5, 1, (a_89.2.map (eI .u8))⟩)], none⟩) (fun _ => rfl) ?_
        exact ih_json_quoted_k1 _ _
      · refine S.jp (⟨[(0, .ptr 0 0), (5, .int .u8 x_84), (10, .sl 5 1 ((unb p1).map (eI .u8))), (11, .int .i64 ((unb p1).length : Int)), (12, .int .i64 x_67), (28, .bool (decide (x_84 < 32)))], [(0, ⟨52, [.selfp 0, .ref 100351]⟩)], [(100351, ⟨false, 5, 1, (x_68.map (eI .u8))⟩)], none⟩) (fun _ => rfl) ?_
        refine S.cb ?_ ?_
        · refine S.eq (by decide : chk _ = some ()) ?_
          refine S.eq (by decide : chk _ = some ()) ?_
          refine S.e fun s_91 => ?_
          refine S.e fun s_92 => ?_
          refine S.e fun s_93 => ?_
          refine S.e fun s_94 => ?_
          refine S.an trivial ?_
          refine S.k [0] [100351] [5960] (C.strings_Builder_WriteString x_68 s_94) rfl ⟨⟨rfl, rfl⟩, trivial⟩ ⟨⟨rfl, rfl, rfl⟩, trivial⟩ rfl fun a_95 => ?_
          refine S.an rfl ?_
          refine S.an trivial ?_
          exact ih_json_quoted_k1 _ _
        · refine S.k [0] [100351] [5980] (C.strings_Builder_WriteByte x_68 x_84) rfl ⟨⟨rfl, rfl⟩, trivial⟩ ⟨⟨rfl, rfl, rfl⟩, trivial⟩ rfl fun a_97 => ?_
          refine S.an rfl ?_
          exact ih_json_quoted_k1 _ _
    · exact S.z rfl
  · refine S.k [0] [3003] [6000] (C.strings_Builder_WriteByte j_51 34) rfl ⟨⟨rfl, rfl⟩, trivial⟩ ⟨⟨rfl, rfl, rfl⟩, trivial⟩ rfl fun a_99 => ?_
    refine S.an rfl ?_
    exact S.z ⟨rfl, ⟨⟨rfl, rfl⟩, trivial⟩, ⟨⟨rfl, rfl, rfl⟩, trivial⟩, rfl⟩
set_option maxRecDepth 1000000 in
set_option maxHeartbeats 4000000 in
theorem C.json_quoted (p0 : List Int) (p1 : List UInt8) : S (M.json_quoted p0 p1) fun r => Con Tryz.prog GG 49 (I.json_quoted p0 p1) (O.json_quoted r) := by
  intro r hm; exact Con.of TBG (fun _ _ => rfl) Tryz.func49 rfl rfl (res := []) rfl (by kernel_rfl) rfl rfl rfl (L.json_quoted p0 p1 r hm)
def A.json_laid : Ann := { seq := [(5, { L := [0, 3, 4], B := [0], A := [0], H := [(.cell 0 1, 0, 5, 1)] }), (11, { L := [0, 3, 4, 5, 6, 17, 18, 19], B := [0, 1006], A := [3011], H := [(.cell 0 1, 3011, 5, 1)] }), (16, { L := [0, 4], B := [0], A := [3006], H := [(.cell 0 1, 3006, 5, 1)] })], loop := [(7, { L := [0, 3, 4, 17, 18, 19], B := [0], A := [3009], H := [(.cell 0 1, 3009, 5, 1)] })], reg := [(6, [(4, 0, { L := [0, 3, 4, 17, 18, 19], B := [0], A := [100301], H := [(.cell 0 1, 100301, 5, 1)] })]), (10, [(2, 0, { L := [0, 3, 4, 5, 6, 17, 18, 19], B := [0, 1006], A := [100501], H := [(.cell 0 1, 100501, 5, 1)] })]), (13, [(2, 0, { L := [0, 3, 4, 6, 17, 18, 19], B := [0, 1006], A := [100651], H := [(.cell 0 1, 100651, 5, 1)] })]), (18, [(2, 0, { L := [], B := [0], A := [100901], H := [(.cell 0 1, 100901, 5, 1)] })]), (20, [(2, 0, { L := [], B := [0], A := [101001], H := [(.cell 0 1, 101001, 5, 1)] })]), (22, [(2, 0, { L := [], B := [0], A := [101101], H := [(.cell 0 1, 101101, 5, 1)] })]), (24, [(4, 0, { L := [], B := [0], A := [101201], H := [(.cell 0 1, 101201, 5, 1)] })]), (26, [(4, 0, { L := [], B := [0], A := [101301], H := [(.cell 0 1, 101301, 5, 1)] })])], ro := [3], fin := [(.cell 0 1, 0, 5, 1)], nb := 1 }
@[reducible] def I.json_laid (p0 : List Int) (p1 : T_api_Json) : CIn := ⟨[.ptr 0 0, .agg [.int .i64 p1.gKind, .str p1.gText, .sl 25 4 (T_api_Json.encs p1.gList), .sl 9 1 (p1.gKeys.map eS)]], [⟨52, [.selfp 0, .ref 0]⟩], [(5, 1, (p0.map (eI .u8)))]⟩
@[reducible] def O.json_laid : (List Int) → COut
  | r => .ok [] [⟨52, [.selfp 0, .ref 0]⟩] [some (5, 1, (r.map (eI .u8)))]
set_option maxRecDepth 1000000 in
set_option maxHeartbeats 4000000 in
theorem L.json_laid (fuel : Nat) (ih_json_laid : ∀ (p0 : List Int) (p1 : T_api_Json), S (M.json_laid fuel p0 p1) fun r => Con Tryz.prog GG 28 (I.json_laid p0 p1) (O.json_laid r)) (p0 : List Int) (p1 : T_api_Json) : S (M.json_laid (fuel + 1) p0 p1) fun r => ex TB CT A.json_laid (Con Tryz.prog GG) (bodyOf Tryz.f28) (entry (I.json_laid p0 p1)) (fin TB A.json_laid [] (O.json_laid r)) := by
  unfold M.json_laid
  refine S.cb ?_ ?_
  · refine S.k [0] [0] [5020] (C.strings_Builder_WriteString p0 ([110, 117, 108, 108] : List UInt8)) rfl ⟨⟨rfl, rfl⟩, trivial⟩ ⟨⟨rfl, rfl, rfl⟩, trivial⟩ rfl fun a_1 => ?_
    refine S.an rfl ?_
    refine S.jp (⟨[], [(0, ⟨52, [.selfp 0, .ref 100901]⟩)], [(100901, ⟨false, 5, 1, (a_1.2.map (eI .u8))⟩)], none⟩) (fun _ => rfl) ?_
    exact S.z ⟨rfl, ⟨⟨rfl, rfl⟩, trivial⟩, ⟨⟨rfl, rfl, rfl⟩, trivial⟩, rfl⟩
  · refine S.cb ?_ ?_
    · refine S.k [0] [0] [5040] (C.strings_Builder_WriteString p0 ([102, 97, 108, 115, 101] : List UInt8)) rfl ⟨⟨rfl, rfl⟩, trivial⟩ ⟨⟨rfl, rfl, rfl⟩, trivial⟩ rfl fun a_3 => ?_
      refine S.an rfl ?_
      refine S.jp (⟨[], [(0, ⟨52, [.selfp 0, .ref 101001]⟩)], [(101001, ⟨false, 5, 1, (a_3.2.map (eI .u8))⟩)], none⟩) (fun _ => rfl) ?_
      exact S.z ⟨rfl, ⟨⟨rfl, rfl⟩, trivial⟩, ⟨⟨rfl, rfl, rfl⟩, trivial⟩, rfl⟩
    · refine S.cb ?_ ?_
      · refine S.k [0] [0] [5060] (C.strings_Builder_WriteString p0 ([116, 114, 117, 101] : List UInt8)) rfl ⟨⟨rfl, rfl⟩, trivial⟩ ⟨⟨rfl, rfl, rfl⟩, trivial⟩ rfl fun a_5 => ?_
        refine S.an rfl ?_
        refine S.jp (⟨[], [(0, ⟨52, [.selfp 0, .ref 101101]⟩)], [(101101, ⟨false, 5, 1, (a_5.2.map (eI .u8))⟩)], none⟩) (fun _ => rfl) ?_
        exact S.z ⟨rfl, ⟨⟨rfl, rfl⟩, trivial⟩, ⟨⟨rfl, rfl, rfl⟩, trivial⟩, rfl⟩
      · refine S.cb ?_ ?_
        · refine S.k [0] [0] [5080] (C.strings_Builder_WriteString p0 p1.gText) rfl ⟨⟨rfl, rfl⟩, trivial⟩ ⟨⟨rfl, rfl, rfl⟩, trivial⟩ rfl fun a_7 => ?_
          refine S.an rfl ?_
          refine S.jp (⟨[], [(0, ⟨52, [.selfp 0, .ref 101201]⟩)], [(101201, ⟨false, 5, 1, (a_7.2.map (eI .u8))⟩)], none⟩) (fun _ => rfl) ?_
          exact S.z ⟨rfl, ⟨⟨rfl, rfl⟩, trivial⟩, ⟨⟨rfl, rfl, rfl⟩, trivial⟩, rfl⟩
        · refine S.cb ?_ ?_
          · refine S.k [0] [0] [5100] (C.json_quoted p0 p1.gText) rfl ⟨⟨rfl, rfl⟩, trivial⟩ ⟨⟨rfl, rfl, rfl⟩, trivial⟩ rfl fun a_9 => ?_
            refine S.an rfl ?_
            refine S.jp (⟨[], [(0, ⟨52, [.selfp 0, .ref 101301]⟩)], [(101301, ⟨false, 5, 1, (a_9.map (eI .u8))⟩)], none⟩) (fun _ => rfl) ?_
            exact S.z ⟨rfl, ⟨⟨rfl, rfl⟩, trivial⟩, ⟨⟨rfl, rfl, rfl⟩, trivial⟩, rfl⟩
          · refine S.j (fun j_12 => ⟨[(0, .ptr 0 0), (3, .cptr [.int .i64 p1.gKind, .str p1.gText, .sl 25 4 (T_api_Json.encs p1.gList), .sl 9 1 (p1.gKeys.map eS)] 0), (4, .str j_12)], [(0, ⟨52, [.selfp 0, .ref 0]⟩)], [(0, ⟨false, 5, 1, (p0.map (eI .u8))⟩)], none⟩) (fun r => ?_) fun j_12 => ?_
            · refine S.cb ?_ ?_
              · exact S.z rfl
              · exact S.z rfl
            · refine S.e fun c_13 => ?_
              refine S.k [0] [0] [5150] (C.strings_Builder_WriteByte p0 (c_13.toNat : Int)) rfl ⟨⟨rfl, rfl⟩, trivial⟩ ⟨⟨rfl, rfl, rfl⟩, trivial⟩ rfl fun a_14 => ?_
              refine S.an rfl ?_
              refine S.j (fun j_73 => ⟨[(0, .ptr 0 0), (4, .str j_12)], [(0, ⟨52, [.selfp 0, .ref 3006]⟩)], [(3006, ⟨false, 5, 1, (j_73.map (eI .u8))⟩)], none⟩) (fun r => ?_) fun j_73 => ?_
              · refine S.eq (lenD_E T_api_Json.encs_eq) ?_
                refine S.jp (⟨[(0, .ptr 0 0), (3, .cptr [.int .i64 p1.gKind, .str p1.gText, .sl 25 4 (T_api_Json.encs p1.gList), .sl 9 1 (p1.gKeys.map eS)] 0), (4, .str j_12), (17, .sl 25 4 (T_api_Json.encs p1.gList)), (18, .int .i64 (p1.gList.length : Int)), (19, .int .i64 0)], [(0, ⟨52, [.selfp 0, .ref 100301]⟩)], [(100301, ⟨false, 5, 1, (a_14.map (eI .u8))⟩)], none⟩) (fun _ => rfl) ?_
                refine S.lw2 (L := M.json_laid_k1 p1 (M.json_laid fuel)) (fun x_92 x_93 => ⟨[(0, .ptr 0 0), (3, .cptr [.int .i64 p1.gKind, .str p1.gText, .sl 25 4 (T_api_Json.encs p1.gList), .sl 9 1 (p1.gKeys.map eS)] 0), (4, .str j_12), (17, .sl 25 4 (T_api_Json.encs p1.gList)), (18, .int .i64 (p1.gList.length : Int)), (19, .int .i64 x_92)], [(0, ⟨52, [.selfp 0, .ref 3009]⟩)], [(3009, ⟨false, 5, 1, (x_93.map (eI .u8))⟩)], none⟩) (M.json_laid_k1.partial_correctness p1 (M.json_laid fuel)) rfl fun f_json_laid_k1 I_json_laid_k1 ih_json_laid_k1 x_92 x_93 => ?_
                refine S.cb ?_ ?_
                · refine S.ixE T_api_Json.encs_eq rfl T_api_Json.enc_c fun x_112 => ?_
                  refine S.j (fun j_118 => ⟨[(0, .ptr 0 0), (3, .cptr [.int .i64 p1.gKind, .str p1.gText, .sl 25 4 (T_api_Json.encs p1.gList), .sl 9 1 (p1.gKeys.map eS)] 0), (4, .str j_12), (5, .int .i64 x_92), (6, .ptr 1006 0), (17, .sl 25 4 (T_api_Json.encs p1.gList)), (18, .int .i64 (p1.gList.length : Int)), (19, .int .i64 x_92)], [(0, ⟨52, [.selfp 0, .ref 3011]⟩), (1006, ⟨25, [.int .i64 x_112.gKind, .str x_112.gText, .sl 25 4 (T_api_Json.encs x_112.gList), .sl 9 1 (x_112.gKeys.map eS)]⟩)], [(3011, ⟨false, 5, 1, (j_118.map (eI .u8))⟩)], none⟩) (fun r => ?_) fun j_118 => ?_
                  · refine S.cb ?_ ?_
                    · refine S.k [0] [3009] [6200] (C.strings_Builder_WriteByte x_93 44) rfl ⟨⟨rfl, rfl⟩, trivial⟩ ⟨⟨rfl, rfl, rfl⟩, trivial⟩ rfl fun a_119 => ?_
                      refine S.an rfl ?_
                      refine S.jp (⟨[(0, .ptr 0 0), (3, .cptr [.int .i64 p1.gKind, .str p1.gText, .sl 25 4 (T_api_Json.encs p1.gList), .sl 9 1 (p1.gKeys.map eS)] 0), (4, .str j_12), (5, .int .i64 x_92), (6, .ptr 1006 0), (17, .sl 25 4 (T_api_Json.encs p1.gList)), (18, .int .i64 (p1.gList.length : Int)), (19, .int .i64 x_92)], [(0, ⟨52, [.selfp 0, .ref 100501]⟩), (1006, ⟨25, [.int .i64 x_112.gKind, .str x_112.gText, .sl 25 4 (T_api_Json.encs x_112.gList), .sl 9 1 (x_112.gKeys.map eS)]⟩)], [(100501, ⟨false, 5, 1, (a_119.map (eI .u8))⟩)], none⟩) (fun _ => rfl) ?_
                      exact S.z rfl
                    · exact S.z rfl
                  · refine S.cb ?_ ?_
                    · refine S.ixE (f := eS) (c := fun x => [D.str x]) (fun _ => rfl) rfl (fun _ => rfl) fun x_121 => ?_
                      refine S.k [0] [3011] [6230] (C.json_quoted j_118 x_121) rfl ⟨⟨rfl, rfl⟩, trivial⟩ ⟨⟨rfl, rfl, rfl⟩, trivial⟩ rfl fun a_122 => ?_
                      refine S.an rfl ?_
                      refine S.k [0] [6230] [6250] (C.strings_Builder_WriteByte a_122 58) rfl ⟨⟨rfl, rfl⟩, trivial⟩ ⟨⟨rfl, rfl, rfl⟩, trivial⟩ rfl fun a_124 => ?_
                      refine S.an rfl ?_
                      refine S.jp (⟨[(0, .ptr 0 0), (3, .cptr [.int .i64 p1.gKind, .str p1.gText, .sl 25 4 (T_api_Json.encs p1.gList), .sl 9 1 (p1.gKeys.map eS)] 0), (4, .str j_12), (6, .ptr 1006 0), (17, .sl 25 4 (T_api_Json.encs p1.gList)), (18, .int .i64 (p1.gList.length : Int)), (19, .int .i64 x_92)], [(0, ⟨52, [.selfp 0, .ref 100651]⟩), (1006, ⟨25, [.int .i64 x_112.gKind, .str x_112.gText, .sl 25 4 (T_api_Json.encs x_112.gList), .sl 9 1 (x_112.gKeys.map eS)]⟩)], [(100651, ⟨false, 5, 1, (a_124.map (eI .u8))⟩)], none⟩) (fun _ => rfl) ?_
                      refine S.k [0] [100651] [6270] (ih_json_laid a_124 x_112) rfl ⟨⟨rfl, rfl⟩, trivial⟩ ⟨⟨rfl, rfl, rfl⟩, trivial⟩ rfl fun a_126 => ?_
                      refine S.an rfl ?_
                      exact ih_json_laid_k1 _ _
                    · refine S.k [0] [3011] [6290] (ih_json_laid j_118 x_112) rfl ⟨⟨rfl, rfl⟩, trivial⟩ ⟨⟨rfl, rfl, rfl⟩, trivial⟩ rfl fun a_128 => ?_
                      refine S.an rfl ?_
                      exact ih_json_laid_k1 _ _
                · exact S.z rfl
              · refine S.e fun c_130 => ?_
                refine S.k [0] [3006] [6320] (C.strings_Builder_WriteByte j_73 (c_130.toNat : Int)) rfl ⟨⟨rfl, rfl⟩, trivial⟩ ⟨⟨rfl, rfl, rfl⟩, trivial⟩ rfl fun a_131 => ?_
                refine S.an rfl ?_
                exact S.z ⟨rfl, ⟨⟨rfl, rfl⟩, trivial⟩, ⟨⟨rfl, rfl, rfl⟩, trivial⟩, rfl⟩
set_option maxRecDepth 1000000 in
set_option maxHeartbeats 4000000 in
theorem C.json_laid_all (fuel : Nat) : (∀ (p0 : List Int) (p1 : T_api_Json), S (M.json_laid fuel p0 p1) fun r => Con Tryz.prog GG 28 (I.json_laid p0 p1) (O.json_laid r)) := by
  induction fuel with
  | zero => exact (by intros; intro r hm; cases hm)
  | succ fuel ih =>
    · intro p0 p1; intro r hm; exact Con.of TBG (fun _ _ => rfl) Tryz.func28 rfl rfl (res := []) rfl (by kernel_rfl) rfl rfl rfl (L.json_laid fuel ih p0 p1 r hm)
theorem C.json_laid (fuel : Nat) (p0 : List Int) (p1 : T_api_Json) : S (M.json_laid fuel p0 p1) fun r => Con Tryz.prog GG 28 (I.json_laid p0 p1) (O.json_laid r) := (C.json_laid_all fuel) p0 p1
def A.json_Print : Ann := { reg := [(2, [(2, 0, { L := [1, 4, 9], B := [], A := [] })]), (6, [(2, 0, { L := [5, 14], B := [1005], A := [100301], H := [(.cell 1005 1, 100301, 5, 1)] })])], ro := [1] }
@[reducible] def I.json_Print (p0 : T_api_Json) : CIn := ⟨[.agg [.int .i64 p0.gKind, .str p0.gText, .sl 25 4 (T_api_Json.encs p0.gList), .sl 9 1 (p0.gKeys.map eS)]], [], []⟩
@[reducible] def O.json_Print : (List UInt8) × Int → COut
  | r => .ok [.str r.1, .int .i64 r.2] [] []
set_option maxRecDepth 1000000 in
set_option maxHeartbeats 4000000 in
theorem L.json_Print (fuel : Nat) (p0 : T_api_Json) : S (M.json_Print fuel p0) fun r => ex TB CT A.json_Print (Con Tryz.prog GG) (bodyOf Tryz.f13) (entry (I.json_Print p0)) (fin TB A.json_Print [.tmp 2, .tmp 3] (O.json_Print r)) := by
  unfold M.json_Print
  refine S.k [] [] [] (C.json_Check fuel p0) rfl trivial trivial rfl fun a_3 => ?_
  refine S.an rfl ?_
  refine S.jp (⟨[(1, .cptr [.int .i64 p0.gKind, .str p0.gText, .sl 25 4 (T_api_Json.encs p0.gList), .sl 9 1 (p0.gKeys.map eS)] 0), (4, .int .i64 a_3), (9, .bool (!decide (a_3 = 0)))], [], [], none⟩) (fun _ => rfl) ?_
  refine S.cb ?_ ?_
  · exact S.z ⟨rfl, trivial, trivial, rfl⟩
  · refine S.k [1005] [1005] [5060] (C.json_laid fuel ([] : List Int) p0) rfl ⟨⟨rfl, rfl⟩, trivial⟩ ⟨⟨rfl, rfl, rfl⟩, trivial⟩ rfl fun a_5 => ?_
    refine S.an rfl ?_
    refine S.k [1005] [5060] [5080] (C.strings_Builder_Len a_5) rfl ⟨⟨rfl, rfl⟩, trivial⟩ ⟨⟨rfl, rfl, rfl⟩, trivial⟩ rfl fun a_7 => ?_
    refine S.an rfl ?_
    refine S.jp (⟨[(5, .ptr 1005 0), (14, .bool (decide (16384 < a_7)))], [(1005, ⟨52, [.selfp 1005, .ref 100301]⟩)], [(100301, ⟨true, 5, 1, (a_5.map (eI .u8))⟩)], none⟩) (fun _ => rfl) ?_
    refine S.cb ?_ ?_
    · exact S.z ⟨rfl, trivial, trivial, rfl⟩
    · refine S.k [1005] [100301] [5100] (C.builderString a_5) rfl ⟨⟨rfl, rfl⟩, trivial⟩ ⟨⟨rfl, rfl, rfl⟩, trivial⟩ rfl fun a_9 => ?_
      refine S.an rfl ?_
      exact S.z ⟨rfl, trivial, trivial, rfl⟩
set_option maxRecDepth 1000000 in
set_option maxHeartbeats 4000000 in
theorem C.json_Print (fuel : Nat) (p0 : T_api_Json) : S (M.json_Print fuel p0) fun r => Con Tryz.prog GG 13 (I.json_Print p0) (O.json_Print r) := by
  intro r hm; exact Con.of TBG (fun _ _ => rfl) Tryz.func13 rfl rfl (res := [.tmp 2, .tmp 3]) rfl (by kernel_rfl) rfl rfl rfl (L.json_Print fuel p0 r hm)
def A.json_Member : Ann := { reg := [(1, [(5, 0, { L := [2, 4, 6], B := [1004], A := [] })]), (2, [(4, 3, { L := [2, 4, 6, 17], B := [1004], A := [] }), (1, 6, { L := [2, 4, 6, 24], B := [1004], A := [] })])], ro := [2] }
@[reducible] def I.json_Member (p0 : T_api_Json) (p1 : List UInt8) : CIn := ⟨[.agg [.int .i64 p0.gKind, .str p0.gText, .sl 25 4 (T_api_Json.encs p0.gList), .sl 9 1 (p0.gKeys.map eS)], .str p1], [], []⟩
@[reducible] def O.json_Member : T_api_Json × Bool → COut
  | r => .ok [.agg [.int .i64 r.1.gKind, .str r.1.gText, .sl 25 4 (T_api_Json.encs r.1.gList), .sl 9 1 (r.1.gKeys.map eS)], .bool r.2] [] []
set_option maxRecDepth 1000000 in
set_option maxHeartbeats 4000000 in
theorem L.json_Member (p0 : T_api_Json) (p1 : List UInt8) : S (M.json_Member p0 p1) fun r => ex TB CT A.json_Member (Con Tryz.prog GG) (bodyOf Tryz.f15) (entry (I.json_Member p0 p1)) (fin TB A.json_Member [.cell 4 25, .tmp 5] (O.json_Member r)) := by
  unfold M.json_Member
  refine S.k [] [] [] (C.slices_Index_string_string p0.gKeys p1) rfl trivial trivial rfl fun a_1 => ?_
  refine S.an rfl ?_
  refine S.jp (⟨[(2, .cptr [.int .i64 p0.gKind, .str p0.gText, .sl 25 4 (T_api_Json.encs p0.gList), .sl 9 1 (p0.gKeys.map eS)] 0), (4, .ptr 1004 0), (6, .int .i64 a_1)], [(1004, ⟨25, [.int .i64 0, .str ([] : List UInt8), .nil, .nil]⟩)], [], none⟩) (fun _ => rfl) ?_
  refine S.jb (v := ((decide (p0.gKind = 6)) && (decide (0 ≤ a_1)))) (fun x_3 => ⟨[(2, .cptr [.int .i64 p0.gKind, .str p0.gText, .sl 25 4 (T_api_Json.encs p0.gList), .sl 9 1 (p0.gKeys.map eS)] 0), (4, .ptr 1004 0), (6, .int .i64 a_1), (17, .bool x_3)], [(1004, ⟨25, [.int .i64 0, .str ([] : List UInt8), .nil, .nil]⟩)], [], none⟩) (fun r => ?_) ?_
  · refine cnd (fun h_4 => ?_) (fun h_4 => ?_)
    · exact jbI rfl (and_t h_4 rfl)
    · exact jbI rfl (and_f h_4)
  · refine S.jb (v := (((decide (p0.gKind = 6)) && (decide (0 ≤ a_1))) && (decide (a_1 < (p0.gList.length : Int))))) (fun x_5 => ⟨[(2, .cptr [.int .i64 p0.gKind, .str p0.gText, .sl 25 4 (T_api_Json.encs p0.gList), .sl 9 1 (p0.gKeys.map eS)] 0), (4, .ptr 1004 0), (6, .int .i64 a_1), (24, .bool x_5)], [(1004, ⟨25, [.int .i64 0, .str ([] : List UInt8), .nil, .nil]⟩)], [], none⟩) (fun r => ?_) ?_
    · refine cnd (fun h_6 => ?_) (fun h_6 => ?_)
      · refine Ex.i (lenD_E T_api_Json.encs_eq) ?_
        exact jbI rfl (and_t h_6 rfl)
      · exact jbI rfl (and_f h_6)
    · refine S.cb ?_ ?_
      · refine S.ixE T_api_Json.encs_eq rfl T_api_Json.enc_c fun x_7 => ?_
        exact S.z ⟨rfl, trivial, trivial, rfl⟩
      · exact S.z ⟨rfl, trivial, trivial, rfl⟩
set_option maxRecDepth 1000000 in
set_option maxHeartbeats 4000000 in
theorem C.json_Member (p0 : T_api_Json) (p1 : List UInt8) : S (M.json_Member p0 p1) fun r => Con Tryz.prog GG 15 (I.json_Member p0 p1) (O.json_Member r) := by
  intro r hm; exact Con.of TBG (fun _ _ => rfl) Tryz.func15 rfl rfl (res := [.cell 4 25, .tmp 5]) rfl (by kernel_rfl) rfl rfl rfl (L.json_Member p0 p1 r hm)
end Go.Proofs.YtcfkkgpnggdlnaaGreatDoor
