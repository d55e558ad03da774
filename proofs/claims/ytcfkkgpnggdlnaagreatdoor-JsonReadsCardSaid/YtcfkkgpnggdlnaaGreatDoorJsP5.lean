/- JsP5: what a program of ours printed of the program's functions. -/
import Derived.Test.YtcfkkgpnggdlnaaGreatDoorJsP4
set_option linter.all false
namespace Go.Proofs.YtcfkkgpnggdlnaaGreatDoor
open Go.Lk Go.Pe Go.Sen Go.RowKit
def A.r02_reader_value : Ann := { seq := [(10, { L := [0, 1, 4, 5, 6, 22], B := [0, 1004, 1006], A := [] }), (19, { L := [0, 1, 4, 5, 6, 7], B := [0, 1004, 1006], A := [] }), (27, { L := [0, 1, 4, 5, 6, 7], B := [0, 1004, 1006], A := [3383, 3384], H := [(.cell 1006 2, 3383, 25, 4), (.cell 1006 3, 3384, 9, 1)] }), (30, { L := [0, 1, 4, 5, 6, 7], B := [0, 1004, 1006], A := [3387, 3388], H := [(.cell 1006 2, 3387, 25, 4), (.cell 1006 3, 3388, 9, 1)] }), (31, { L := [0, 1, 4, 5, 6, 7], B := [0, 1004, 1006], A := [3377, 3378], H := [(.cell 1006 2, 3377, 25, 4), (.cell 1006 3, 3378, 9, 1)] }), (33, { L := [0, 1, 4, 5, 6, 7], B := [0, 1004, 1006], A := [3389, 3390], H := [(.cell 1006 2, 3389, 25, 4), (.cell 1006 3, 3390, 9, 1)] }), (36, { L := [0, 4, 6, 7], B := [0, 1004, 1006], A := [3293, 3294], H := [(.cell 1006 2, 3293, 25, 4), (.cell 1006 3, 3294, 9, 1)] }), (38, { L := [0, 4, 6], B := [0, 1004, 1006], A := [3391, 3392], H := [(.cell 1006 2, 3391, 25, 4), (.cell 1006 3, 3392, 9, 1)] }), (39, { L := [0, 4, 6], B := [0, 1004, 1006], A := [], N := [(.cell 1006 2, 25, 4), (.cell 1006 3, 9, 1)] })], loop := [(21, { L := [0, 1, 4, 5, 6, 7, 8], B := [0, 1004, 1006], A := [3313, 3314], H := [(.cell 1006 2, 3313, 25, 4), (.cell 1006 3, 3314, 9, 1)] })], reg := [(2, [(3, 0, { L := [0, 1, 4, 5], B := [0, 1004], A := [] })]), (7, [(4, 0, { L := [0, 4, 6], B := [0, 1004, 1006], A := [] })]), (17, [(2, 0, { L := [0, 1, 4, 5, 6], B := [0, 1004, 1006], A := [] })]), (20, [(5, 0, { L := [0, 1, 4, 5, 6, 7, 8], B := [0, 1004, 1006], A := [] })]), (21, [(2, 6, { L := [0, 1, 4, 5, 6, 7, 54], B := [0, 1004, 1006], A := [3355, 3356], H := [(.cell 1006 2, 3355, 25, 4), (.cell 1006 3, 3356, 9, 1)] })]), (25, [(6, 4, { L := [0, 1, 4, 5, 6, 7, 75], B := [0, 1004, 1006], A := [3385, 3386], H := [(.cell 1006 2, 3385, 25, 4), (.cell 1006 3, 3386, 9, 1)] })]), (35, [(8, 0, { L := [0, 1, 4, 5, 6, 7, 8], B := [0, 1004, 1006], A := [101751, 101752], H := [(.cell 1006 2, 101751, 25, 4), (.cell 1006 3, 101752, 9, 1)] })]), (37, [(2, 0, { L := [0, 4, 6], B := [0, 1004, 1006], A := [101851, 101852], H := [(.cell 1006 2, 101851, 25, 4), (.cell 1006 3, 101852, 9, 1)] })]), (41, [(2, 0, { L := [4], B := [0, 1004], A := [] })])], drw := [(24, { anc := [0, 1, 0, 4, 12, 31, 63, 127], E := [3, 4, 5, 7], qs := [0, 1, 2], g := .one 3 [0, 1] [] (.one 4 [0, 1] [] (.one 5 [] [6] (.one 7 [] [] (.fin)))) }), (32, { anc := [0, 1, 0, 0, 8, 28, 60, 127, 255, 511], E := [5, 6, 7, 9], qs := [0, 1, 2, 3, 4], g := .one 5 [0, 1] [] (.one 6 [0, 1] [] (.one 7 [] [8] (.one 9 [] [] (.fin)))) })], nb := 1 }
@[reducible] def I.r02_reader_value (p0 : T_seneschalref02_reader) (p1 : Int) : CIn := ⟨[.ptr 0 0, .int .i64 p1], [⟨72, [.str p0.gs, .int .i64 p0.gi, .int .i64 p0.ge]⟩], []⟩
@[reducible] def O.r02_reader_value : T_api_Json × T_seneschalref02_reader → COut
  | r => .ok [.agg [.int .i64 r.1.gKind, .str r.1.gText, .sl 25 4 (T_api_Json.encs r.1.gList), .sl 9 1 (r.1.gKeys.map eS)]] [⟨72, [.str r.2.gs, .int .i64 r.2.gi, .int .i64 r.2.ge]⟩] []
set_option maxRecDepth 1000000 in
set_option maxHeartbeats 4000000 in
theorem L.r02_reader_value (fuel : Nat) (ih_r02_reader_value : ∀ (p0 : T_seneschalref02_reader) (p1 : Int), S (M.r02_reader_value fuel p0 p1) fun r => Con Tryz.prog GG 40 (I.r02_reader_value p0 p1) (O.r02_reader_value r)) (p0 : T_seneschalref02_reader) (p1 : Int) : S (M.r02_reader_value (fuel + 1) p0 p1) fun r => ex TB CT A.r02_reader_value (Con Tryz.prog GG) (bodyOf Tryz.f40) (entry (I.r02_reader_value p0 p1)) (fin TB A.r02_reader_value [.cell 4 25] (O.r02_reader_value r)) := by
  unfold M.r02_reader_value
  refine S.k [0] [] [] (C.r02_reader_blanks p0) rfl ⟨⟨rfl, rfl⟩, trivial⟩ trivial rfl fun a_1 => ?_
  refine S.an rfl ?_
  refine S.k [0] [] [] (C.r02_reader_at a_1) rfl ⟨⟨rfl, rfl⟩, trivial⟩ trivial rfl fun a_3 => ?_
  refine S.an rfl ?_
  refine S.jp (⟨[(0, .ptr 0 0), (1, .int .i64 p1), (4, .ptr 1004 0), (5, .int .u8 a_3)], [(0, ⟨72, [.str a_1.gs, .int .i64 a_1.gi, .int .i64 a_1.ge]⟩), (1004, ⟨25, [.int .i64 0, .str ([] : List UInt8), .nil, .nil]⟩)], [], none⟩) (fun _ => rfl) ?_
  refine S.jn (fun j_1133 => ⟨[(0, .ptr 0 0), (4, .ptr 1004 0), (6, .ptr 1006 0)], [(0, ⟨72, [.str j_1133.1, .int .i64 j_1133.2.1, .int .i64 j_1133.2.2.1]⟩), (1004, ⟨25, [.int .i64 0, .str ([] : List UInt8), .nil, .nil]⟩), (1006, ⟨25, [.int .i64 j_1133.2.2.2.1, .str j_1133.2.2.2.2.1, .sl 25 4 (T_api_Json.encs j_1133.2.2.2.2.2.1), .sl 9 1 (j_1133.2.2.2.2.2.2.map eS)]⟩)], [], none⟩) ?_ (fun _ => rfl) fun j_1133 => ?_
  · refine S.cb ?_ ?_
    · refine S.k [0] [] [] (C.r02_reader_text a_1) rfl ⟨⟨rfl, rfl⟩, trivial⟩ trivial rfl fun a_1134 => ?_
      refine S.an rfl ?_
      refine S.jp (⟨[(0, .ptr 0 0), (4, .ptr 1004 0), (6, .ptr 1006 0)], [(0, ⟨72, [.str a_1134.2.gs, .int .i64 a_1134.2.gi, .int .i64 a_1134.2.ge]⟩), (1004, ⟨25, [.int .i64 0, .str ([] : List UInt8), .nil, .nil]⟩), (1006, ⟨25, [.int .i64 4, .str a_1134.1, .nil, .nil]⟩)], [], none⟩) (fun _ => rfl) ?_
      exact S.z rfl
    · refine S.j (fun j_1137 => ⟨[(0, .ptr 0 0), (1, .int .i64 p1), (4, .ptr 1004 0), (5, .int .u8 a_3), (6, .ptr 1006 0), (22, .bool j_1137)], [(0, ⟨72, [.str a_1.gs, .int .i64 a_1.gi, .int .i64 a_1.ge]⟩), (1004, ⟨25, [.int .i64 0, .str ([] : List UInt8), .nil, .nil]⟩), (1006, ⟨25, [.int .i64 0, .str ([] : List UInt8), .nil, .nil]⟩)], [], none⟩) (fun r => ?_) fun j_1137 => ?_
      · refine S.cb ?_ ?_
        · exact S.z rfl
        · exact S.z rfl
      · refine S.cb ?_ ?_
        · refine S.cb ?_ ?_
          · refine S.k [0] [] [] (C.r02_reader_wrong a_1 21) rfl ⟨⟨rfl, rfl⟩, trivial⟩ trivial rfl fun a_1140 => ?_
            refine S.an rfl ?_
            exact S.z ⟨rfl, ⟨⟨rfl, rfl⟩, trivial⟩, trivial, rfl⟩
          · refine S.j (fun j_1144 => ⟨[(0, .ptr 0 0), (1, .int .i64 p1), (4, .ptr 1004 0), (5, .int .u8 a_3), (6, .ptr 1006 0), (7, .int .u8 j_1144.1)], [(0, ⟨72, [.str a_1.gs, .int .i64 (IntKind.wrap .i64 (a_1.gi + 1)), .int .i64 a_1.ge]⟩), (1004, ⟨25, [.int .i64 0, .str ([] : List UInt8), .nil, .nil]⟩), (1006, ⟨25, [.int .i64 j_1144.2, .str ([] : List UInt8), .nil, .nil]⟩)], [], none⟩) (fun r => ?_) fun j_1144 => ?_
            · refine S.cb ?_ ?_
              · refine S.jp (⟨[(0, .ptr 0 0), (1, .int .i64 p1), (4, .ptr 1004 0), (5, .int .u8 a_3), (6, .ptr 1006 0)], [(0, ⟨72, [.str a_1.gs, .int .i64 (IntKind.wrap .i64 (a_1.gi + 1)), .int .i64 a_1.ge]⟩), (1004, ⟨25, [.int .i64 0, .str ([] : List UInt8), .nil, .nil]⟩), (1006, ⟨25, [.int .i64 6, .str ([] : List UInt8), .nil, .nil]⟩)], [], none⟩) (fun _ => rfl) ?_
                exact S.z rfl
              · exact S.z rfl
            · refine S.k [0] [] [] (C.r02_reader_blanks (T_seneschalref02_reader.mk a_1.gs (IntKind.wrap .i64 (a_1.gi + 1)) a_1.ge)) rfl ⟨⟨rfl, rfl⟩, trivial⟩ trivial rfl fun a_1145 => ?_
              refine S.an rfl ?_
              refine S.j (fun j_1694 => ⟨[(0, .ptr 0 0), (4, .ptr 1004 0), (6, .ptr 1006 0), (7, .int .u8 j_1144.1)], [(0, ⟨72, [.str j_1694.1, .int .i64 j_1694.2.1, .int .i64 j_1694.2.2.1]⟩), (1004, ⟨25, [.int .i64 0, .str ([] : List UInt8), .nil, .nil]⟩), (1006, ⟨25, [.int .i64 j_1144.2, .str ([] : List UInt8), .ref 3293, .ref 3294]⟩)], [(3293, ⟨true, 25, 4, (T_api_Json.encs j_1694.2.2.2.1)⟩), (3294, ⟨true, 9, 1, (j_1694.2.2.2.2.map eS)⟩)], none⟩) (fun r => ?_) fun j_1694 => ?_
              · refine S.k [0] [] [] (C.r02_reader_at a_1145) rfl ⟨⟨rfl, rfl⟩, trivial⟩ trivial rfl fun a_1695 => ?_
                refine S.an rfl ?_
                refine S.jp (⟨[(0, .ptr 0 0), (1, .int .i64 p1), (4, .ptr 1004 0), (5, .int .u8 a_3), (6, .ptr 1006 0), (7, .int .u8 j_1144.1), (8, .bool (!decide (a_1695 = j_1144.1)))], [(0, ⟨72, [.str a_1145.gs, .int .i64 a_1145.gi, .int .i64 a_1145.ge]⟩), (1004, ⟨25, [.int .i64 0, .str ([] : List UInt8), .nil, .nil]⟩), (1006, ⟨25, [.int .i64 j_1144.2, .str ([] : List UInt8), .nil, .nil]⟩)], [], none⟩) (fun _ => rfl) ?_
                refine S.lw6 (L := M.r02_reader_value_k1 a_3 (M.r02_reader_value fuel) p1) (fun x_1875 x_1876 x_1877 x_1878 x_1879 x_1880 => ⟨[(0, .ptr 0 0), (1, .int .i64 p1), (4, .ptr 1004 0), (5, .int .u8 a_3), (6, .ptr 1006 0), (7, .int .u8 j_1144.1), (8, .bool x_1875)], [(0, ⟨72, [.str x_1876, .int .i64 x_1877, .int .i64 x_1878]⟩), (1004, ⟨25, [.int .i64 0, .str ([] : List UInt8), .nil, .nil]⟩), (1006, ⟨25, [.int .i64 j_1144.2, .str ([] : List UInt8), .ref 3313, .ref 3314]⟩)], [(3313, ⟨true, 25, 4, (T_api_Json.encs x_1879)⟩), (3314, ⟨true, 9, 1, (x_1880.map eS)⟩)], none⟩) (M.r02_reader_value_k1.partial_correctness a_3 (M.r02_reader_value fuel) p1) rfl fun f_r02_reader_value_k1 I_r02_reader_value_k1 ih_r02_reader_value_k1 x_1875 x_1876 x_1877 x_1878 x_1879 x_1880 => ?_
                refine S.j (fun j_2062 => ⟨[(0, .ptr 0 0), (1, .int .i64 p1), (4, .ptr 1004 0), (5, .int .u8 a_3), (6, .ptr 1006 0), (7, .int .u8 j_1144.1), (54, .bool j_2062)], [(0, ⟨72, [.str x_1876, .int .i64 x_1877, .int .i64 x_1878]⟩), (1004, ⟨25, [.int .i64 0, .str ([] : List UInt8), .nil, .nil]⟩), (1006, ⟨25, [.int .i64 j_1144.2, .str ([] : List UInt8), .ref 3355, .ref 3356]⟩)], [(3355, ⟨true, 25, 4, (T_api_Json.encs x_1879)⟩), (3356, ⟨true, 9, 1, (x_1880.map eS)⟩)], none⟩) (fun r => ?_) fun j_2062 => ?_
                · refine S.cb ?_ ?_
                  · exact S.z rfl
                  · exact S.z rfl
                · refine S.cb ?_ ?_
                  · refine S.j (fun j_2169 => ⟨[(0, .ptr 0 0), (1, .int .i64 p1), (4, .ptr 1004 0), (5, .int .u8 a_3), (6, .ptr 1006 0), (7, .int .u8 j_1144.1)], [(0, ⟨72, [.str j_2169.1, .int .i64 j_2169.2.1, .int .i64 j_2169.2.2.1]⟩), (1004, ⟨25, [.int .i64 0, .str ([] : List UInt8), .nil, .nil]⟩), (1006, ⟨25, [.int .i64 j_1144.2, .str ([] : List UInt8), .ref 3377, .ref 3378]⟩)], [(3377, ⟨true, 25, 4, (T_api_Json.encs x_1879)⟩), (3378, ⟨true, 9, 1, (j_2169.2.2.2.map eS)⟩)], none⟩) (fun r => ?_) fun j_2169 => ?_
                    · refine S.cb ?_ ?_
                      · refine S.k [0] [] [] (C.r02_reader_blanks (T_seneschalref02_reader.mk x_1876 x_1877 x_1878)) rfl ⟨⟨rfl, rfl⟩, trivial⟩ trivial rfl fun a_2170 => ?_
                        refine S.an rfl ?_
                        refine S.an trivial ?_
                        refine S.k [0] [] [] (C.r02_reader_text a_2170) rfl ⟨⟨rfl, rfl⟩, trivial⟩ trivial rfl fun a_2172 => ?_
                        refine S.an rfl ?_
                        refine S.an ⟨⟨rfl, rfl⟩, trivial⟩ ?_
                        refine S.an ⟨⟨rfl, rfl⟩, trivial⟩ ?_
                        refine S.appE (f := eS) (E := (fun l => l.map eS)) (xs := x_1880) (ys := [a_2172.1]) (fun _ => rfl) rfl rfl fun l_2174 => ?_
                        refine S.an trivial ?_
                        refine S.an trivial ?_
                        refine S.j (fun j_2194 => ⟨[(0, .ptr 0 0), (1, .int .i64 p1), (4, .ptr 1004 0), (5, .int .u8 a_3), (6, .ptr 1006 0), (7, .int .u8 j_1144.1)], [(0, ⟨72, [.str j_2194.1, .int .i64 j_2194.2.1, .int .i64 j_2194.2.2]⟩), (1004, ⟨25, [.int .i64 0, .str ([] : List UInt8), .nil, .nil]⟩), (1006, ⟨25, [.int .i64 j_1144.2, .str ([] : List UInt8), .ref 3383, .ref 3384]⟩)], [(3383, ⟨true, 25, 4, (T_api_Json.encs x_1879)⟩), (3384, ⟨true, 9, 1, (l_2174.map eS)⟩)], none⟩) (fun r => ?_) fun j_2194 => ?_
                        · refine S.j (fun j_2198 => ⟨[(0, .ptr 0 0), (1, .int .i64 p1), (4, .ptr 1004 0), (5, .int .u8 a_3), (6, .ptr 1006 0), (7, .int .u8 j_1144.1), (75, .bool j_2198)], [(0, ⟨72, [.str a_2172.2.gs, .int .i64 a_2172.2.gi, .int .i64 a_2172.2.ge]⟩), (1004, ⟨25, [.int .i64 0, .str ([] : List UInt8), .nil, .nil]⟩), (1006, ⟨25, [.int .i64 j_1144.2, .str ([] : List UInt8), .ref 3385, .ref 3386]⟩)], [(3385, ⟨true, 25, 4, (T_api_Json.encs x_1879)⟩), (3386, ⟨true, 9, 1, (l_2174.map eS)⟩)], none⟩) (fun r => ?_) fun j_2198 => ?_
                          · refine S.cb ?_ ?_
                            · refine S.k [] [] [] (C.r02_twice l_2174) rfl trivial trivial rfl fun a_2199 => ?_
                              refine S.an rfl ?_
                              exact S.z rfl
                            · exact S.z rfl
                          · refine S.cb ?_ ?_
                            · refine S.k [0] [] [] (C.r02_reader_wrong a_2172.2 20) rfl ⟨⟨rfl, rfl⟩, trivial⟩ trivial rfl fun a_2201 => ?_
                              refine S.an rfl ?_
                              exact S.z rfl
                            · exact S.z rfl
                        · refine S.k [0] [] [] (C.r02_reader_blanks (T_seneschalref02_reader.mk j_2194.1 j_2194.2.1 j_2194.2.2)) rfl ⟨⟨rfl, rfl⟩, trivial⟩ trivial rfl fun a_2203 => ?_
                          refine S.an rfl ?_
                          refine S.j (fun j_2216 => ⟨[(0, .ptr 0 0), (1, .int .i64 p1), (4, .ptr 1004 0), (5, .int .u8 a_3), (6, .ptr 1006 0), (7, .int .u8 j_1144.1)], [(0, ⟨72, [.str j_2216.1, .int .i64 j_2216.2.1, .int .i64 j_2216.2.2]⟩), (1004, ⟨25, [.int .i64 0, .str ([] : List UInt8), .nil, .nil]⟩), (1006, ⟨25, [.int .i64 j_1144.2, .str ([] : List UInt8), .ref 3387, .ref 3388]⟩)], [(3387, ⟨true, 25, 4, (T_api_Json.encs x_1879)⟩), (3388, ⟨true, 9, 1, (l_2174.map eS)⟩)], none⟩) (fun r => ?_) fun j_2216 => ?_
                          · refine S.k [0] [] [] (C.r02_reader_at a_2203) rfl ⟨⟨rfl, rfl⟩, trivial⟩ trivial rfl fun a_2217 => ?_
                            refine S.an rfl ?_
                            refine S.cb ?_ ?_
                            · refine S.k [0] [] [] (C.r02_reader_wrong a_2203 20) rfl ⟨⟨rfl, rfl⟩, trivial⟩ trivial rfl fun a_2219 => ?_
                              refine S.an rfl ?_
                              exact S.z rfl
                            · exact S.z rfl
                          · exact S.z rfl
                      · exact S.z rfl
                    · refine S.j (fun j_2231 => ⟨[(0, .ptr 0 0), (1, .int .i64 p1), (4, .ptr 1004 0), (5, .int .u8 a_3), (6, .ptr 1006 0), (7, .int .u8 j_1144.1)], [(0, ⟨72, [.str j_2231.1, .int .i64 j_2231.2.1, .int .i64 j_2231.2.2.1]⟩), (1004, ⟨25, [.int .i64 0, .str ([] : List UInt8), .nil, .nil]⟩), (1006, ⟨25, [.int .i64 j_1144.2, .str ([] : List UInt8), .ref 3389, .ref 3390]⟩)], [(3389, ⟨true, 25, 4, (T_api_Json.encs j_2231.2.2.2)⟩), (3390, ⟨true, 9, 1, (j_2169.2.2.2.map eS)⟩)], none⟩) (fun r => ?_) fun j_2231 => ?_
                      · refine S.cb ?_ ?_
                        · refine S.an trivial ?_
                          refine S.k [0] [] [] (ih_r02_reader_value (T_seneschalref02_reader.mk j_2169.1 j_2169.2.1 j_2169.2.2.1) (IntKind.wrap .i64 (p1 + 1))) rfl ⟨⟨rfl, rfl⟩, trivial⟩ trivial rfl fun a_2232 => ?_
                          refine S.an rfl ?_
                          refine S.an ⟨⟨rfl, rfl⟩, trivial⟩ ?_
                          refine S.an ⟨⟨rfl, rfl⟩, trivial⟩ ?_
                          refine S.appE (f := T_api_Json.enc) (E := T_api_Json.encs) (xs := x_1879) (ys := [a_2232.1]) T_api_Json.encs_eq rfl (by first | rfl | simp only [T_api_Json.encs_eq, List.map_cons, List.map_nil, T_api_Json.enc_c]) fun l_2234 => ?_
                          refine S.an trivial ?_
                          refine S.an trivial ?_
                          exact S.z rfl
                        · exact S.z rfl
                      · refine S.k [0] [] [] (C.r02_reader_at (T_seneschalref02_reader.mk j_2231.1 j_2231.2.1 j_2231.2.2.1)) rfl ⟨⟨rfl, rfl⟩, trivial⟩ trivial rfl fun a_2235 => ?_
                        refine S.an rfl ?_
                        refine S.cb ?_ ?_
                        · refine S.jp (⟨[(0, .ptr 0 0), (1, .int .i64 p1), (4, .ptr 1004 0), (5, .int .u8 a_3), (6, .ptr 1006 0), (7, .int .u8 j_1144.1), (8, .bool (decide (a_2235 = 44)))], [(0, ⟨72, [.str j_2231.1, .int .i64 (IntKind.wrap .i64 (j_2231.2.1 + 1)), .int .i64 j_2231.2.2.1]⟩), (1004, ⟨25, [.int .i64 0, .str ([] : List UInt8), .nil, .nil]⟩), (1006, ⟨25, [.int .i64 j_1144.2, .str ([] : List UInt8), .ref 101751, .ref 101752]⟩)], [(101751, ⟨true, 25, 4, (T_api_Json.encs j_2231.2.2.2)⟩), (101752, ⟨true, 9, 1, (j_2169.2.2.2.map eS)⟩)], none⟩) (fun _ => rfl) ?_
                          exact ih_r02_reader_value_k1 _ _ _ _ _ _
                        · exact ih_r02_reader_value_k1 _ _ _ _ _ _
                  · exact S.z rfl
              · refine S.j (fun j_2248 => ⟨[(0, .ptr 0 0), (4, .ptr 1004 0), (6, .ptr 1006 0)], [(0, ⟨72, [.str j_2248.1, .int .i64 j_2248.2.1, .int .i64 j_2248.2.2]⟩), (1004, ⟨25, [.int .i64 0, .str ([] : List UInt8), .nil, .nil]⟩), (1006, ⟨25, [.int .i64 j_1144.2, .str ([] : List UInt8), .ref 3391, .ref 3392]⟩)], [(3391, ⟨true, 25, 4, (T_api_Json.encs j_1694.2.2.2.1)⟩), (3392, ⟨true, 9, 1, (j_1694.2.2.2.2.map eS)⟩)], none⟩) (fun r => ?_) fun j_2248 => ?_
                · refine S.k [0] [] [] (C.r02_reader_at (T_seneschalref02_reader.mk j_1694.1 j_1694.2.1 j_1694.2.2.1)) rfl ⟨⟨rfl, rfl⟩, trivial⟩ trivial rfl fun a_2249 => ?_
                  refine S.an rfl ?_
                  refine S.cb ?_ ?_
                  · refine S.k [0] [] [] (C.r02_reader_wrong (T_seneschalref02_reader.mk j_1694.1 j_1694.2.1 j_1694.2.2.1) 20) rfl ⟨⟨rfl, rfl⟩, trivial⟩ trivial rfl fun a_2251 => ?_
                    refine S.an rfl ?_
                    refine S.jp (⟨[(0, .ptr 0 0), (4, .ptr 1004 0), (6, .ptr 1006 0)], [(0, ⟨72, [.str a_2251.gs, .int .i64 a_2251.gi, .int .i64 a_2251.ge]⟩), (1004, ⟨25, [.int .i64 0, .str ([] : List UInt8), .nil, .nil]⟩), (1006, ⟨25, [.int .i64 j_1144.2, .str ([] : List UInt8), .ref 101851, .ref 101852]⟩)], [(101851, ⟨true, 25, 4, (T_api_Json.encs j_1694.2.2.2.1)⟩), (101852, ⟨true, 9, 1, (j_1694.2.2.2.2.map eS)⟩)], none⟩) (fun _ => rfl) ?_
                    exact S.z rfl
                  · exact S.z rfl
                · exact S.z rfl
        · refine S.k [0] [] [] (C.r02_reader_word a_1) rfl ⟨⟨rfl, rfl⟩, trivial⟩ trivial rfl fun a_2253 => ?_
          refine S.an rfl ?_
          exact S.z rfl
  · refine S.cb ?_ ?_
    · refine S.k [0] [] [] (C.r02_reader_blanks (T_seneschalref02_reader.mk j_1133.1 j_1133.2.1 j_1133.2.2.1)) rfl ⟨⟨rfl, rfl⟩, trivial⟩ trivial rfl fun a_2255 => ?_
      refine S.an rfl ?_
      refine S.jp (⟨[(4, .ptr 1004 0)], [(0, ⟨72, [.str a_2255.gs, .int .i64 a_2255.gi, .int .i64 a_2255.ge]⟩), (1004, ⟨25, [.int .i64 j_1133.2.2.2.1, .str j_1133.2.2.2.2.1, .sl 25 4 (T_api_Json.encs j_1133.2.2.2.2.2.1), .sl 9 1 (j_1133.2.2.2.2.2.2.map eS)]⟩)], [], none⟩) (fun _ => rfl) ?_
      exact S.z ⟨rfl, ⟨⟨rfl, rfl⟩, trivial⟩, trivial, rfl⟩
    · refine S.jp (⟨[(4, .ptr 1004 0)], [(0, ⟨72, [.str j_1133.1, .int .i64 j_1133.2.1, .int .i64 j_1133.2.2.1]⟩), (1004, ⟨25, [.int .i64 j_1133.2.2.2.1, .str j_1133.2.2.2.2.1, .sl 25 4 (T_api_Json.encs j_1133.2.2.2.2.2.1), .sl 9 1 (j_1133.2.2.2.2.2.2.map eS)]⟩)], [], none⟩) (fun _ => rfl) ?_
      exact S.z ⟨rfl, ⟨⟨rfl, rfl⟩, trivial⟩, trivial, rfl⟩
set_option maxRecDepth 1000000 in
set_option maxHeartbeats 4000000 in
theorem C.r02_reader_value_all (fuel : Nat) : (∀ (p0 : T_seneschalref02_reader) (p1 : Int), S (M.r02_reader_value fuel p0 p1) fun r => Con Tryz.prog GG 40 (I.r02_reader_value p0 p1) (O.r02_reader_value r)) := by
  induction fuel with
  | zero => exact (by intros; intro r hm; cases hm)
  | succ fuel ih =>
    · intro p0 p1; intro r hm; exact Con.of TBG (fun _ _ => rfl) Tryz.func40 rfl rfl (res := [.cell 4 25]) rfl (by kernel_rfl) rfl rfl rfl (L.r02_reader_value fuel ih p0 p1 r hm)
theorem C.r02_reader_value (fuel : Nat) (p0 : T_seneschalref02_reader) (p1 : Int) : S (M.r02_reader_value fuel p0 p1) fun r => Con Tryz.prog GG 40 (I.r02_reader_value p0 p1) (O.r02_reader_value r) := (C.r02_reader_value_all fuel) p0 p1
def A.r02_Parse : Ann := { seq := [(7, { L := [2, 4, 5], B := [1002, 1012, 1005], A := [] })], reg := [(4, [(4, 0, { L := [0, 2, 4, 5], B := [1002, 1012, 1005], A := [] })]), (6, [(2, 0, { L := [2, 4, 5], B := [1002, 1012, 1005], A := [] })])], drw := [(8, { anc := [0, 0, 2, 6, 14, 1, 63], E := [5], qs := [0, 1, 2, 3, 4], g := .one 5 [1, 2, 3, 4] [6] (.fin) })] }
@[reducible] def I.r02_Parse (p0 : List UInt8) : CIn := ⟨[.str p0], [], []⟩
@[reducible] def O.r02_Parse : T_api_Json × Int → COut
  | r => .ok [.agg [.int .i64 r.1.gKind, .str r.1.gText, .sl 25 4 (T_api_Json.encs r.1.gList), .sl 9 1 (r.1.gKeys.map eS)], .int .i64 r.2] [] []
set_option maxRecDepth 1000000 in
set_option maxHeartbeats 4000000 in
theorem L.r02_Parse (fuel : Nat) (p0 : List UInt8) : S (M.r02_Parse fuel p0) fun r => ex TB CT A.r02_Parse (Con Tryz.prog GG) (bodyOf Tryz.f24) (entry (I.r02_Parse p0)) (fin TB A.r02_Parse [.cell 2 25, .tmp 3] (O.r02_Parse r)) := by
  unfold M.r02_Parse
  refine S.cb ?_ ?_
  · exact S.z ⟨rfl, trivial, trivial, rfl⟩
  · refine S.k [1012] [] [] (C.r02_reader_value fuel (T_seneschalref02_reader.mk p0 0 0) 0) rfl ⟨⟨rfl, rfl⟩, trivial⟩ trivial rfl fun a_1 => ?_
    refine S.an rfl ?_
    refine S.jp (⟨[(0, .str p0), (2, .ptr 1002 0), (4, .ptr 1012 0), (5, .ptr 1005 0)], [(1002, ⟨25, [.int .i64 0, .str ([] : List UInt8), .nil, .nil]⟩), (1012, ⟨72, [.str a_1.2.gs, .int .i64 a_1.2.gi, .int .i64 a_1.2.ge]⟩), (1005, ⟨25, [.int .i64 a_1.1.gKind, .str a_1.1.gText, .sl 25 4 (T_api_Json.encs a_1.1.gList), .sl 9 1 (a_1.1.gKeys.map eS)]⟩)], [], none⟩) (fun _ => rfl) ?_
    refine S.j (fun j_10 => ⟨[(2, .ptr 1002 0), (4, .ptr 1012 0), (5, .ptr 1005 0)], [(1002, ⟨25, [.int .i64 0, .str ([] : List UInt8), .nil, .nil]⟩), (1012, ⟨72, [.str j_10.1, .int .i64 j_10.2.1, .int .i64 j_10.2.2]⟩), (1005, ⟨25, [.int .i64 a_1.1.gKind, .str a_1.1.gText, .sl 25 4 (T_api_Json.encs a_1.1.gList), .sl 9 1 (a_1.1.gKeys.map eS)]⟩)], [], none⟩) (fun r => ?_) fun j_10 => ?_
    · refine S.cb ?_ ?_
      · refine S.k [1012] [] [] (C.r02_reader_wrong a_1.2 20) rfl ⟨⟨rfl, rfl⟩, trivial⟩ trivial rfl fun a_11 => ?_
        refine S.an rfl ?_
        refine S.jp (⟨[(2, .ptr 1002 0), (4, .ptr 1012 0), (5, .ptr 1005 0)], [(1002, ⟨25, [.int .i64 0, .str ([] : List UInt8), .nil, .nil]⟩), (1012, ⟨72, [.str a_11.gs, .int .i64 a_11.gi, .int .i64 a_11.ge]⟩), (1005, ⟨25, [.int .i64 a_1.1.gKind, .str a_1.1.gText, .sl 25 4 (T_api_Json.encs a_1.1.gList), .sl 9 1 (a_1.1.gKeys.map eS)]⟩)], [], none⟩) (fun _ => rfl) ?_
        exact S.z rfl
      · exact S.z rfl
    · refine S.cb ?_ ?_
      · refine S.an trivial ?_
        refine S.an ⟨⟨rfl, rfl⟩, trivial⟩ ?_
        exact S.z ⟨rfl, trivial, trivial, rfl⟩
      · exact S.z ⟨rfl, trivial, trivial, rfl⟩
set_option maxRecDepth 1000000 in
set_option maxHeartbeats 4000000 in
theorem C.r02_Parse (fuel : Nat) (p0 : List UInt8) : S (M.r02_Parse fuel p0) fun r => Con Tryz.prog GG 24 (I.r02_Parse p0) (O.r02_Parse r) := by
  intro r hm; exact Con.of TBG (fun _ _ => rfl) Tryz.func24 rfl rfl (res := [.cell 2 25, .tmp 3]) rfl (by kernel_rfl) rfl rfl rfl (L.r02_Parse fuel p0 r hm)
def A.l02_JsonReads : Ann := { seq := [(3, { L := [0, 3], B := [], A := [] }), (12, { L := [0, 3, 4], B := [1004], A := [3207, 3208], H := [(.cell 1004 2, 3207, 25, 4), (.cell 1004 3, 3208, 9, 1)] }), (16, { L := [], B := [], A := [] })], loop := [(2, { L := [0, 3], B := [], A := [] }), (9, { L := [0, 3, 4, 8], B := [1004], A := [3211, 3212], H := [(.cell 1004 2, 3211, 25, 4), (.cell 1004 3, 3212, 9, 1)] }), (13, { L := [0, 3, 4, 9], B := [1004], A := [3215, 3216], H := [(.cell 1004 2, 3215, 25, 4), (.cell 1004 3, 3216, 9, 1)] })], reg := [(4, [(8, 0, { L := [0, 3, 4, 5], B := [1004], A := [100201, 100202], H := [(.cell 1004 2, 100201, 25, 4), (.cell 1004 3, 100202, 9, 1)] })]), (5, [(8, 0, { L := [0, 3, 4, 5, 6, 7], B := [1004, 1006], A := [100251, 100252], H := [(.cell 1004 2, 100251, 25, 4), (.cell 1004 3, 100252, 9, 1)] })]), (6, [(4, 5, { L := [0, 3, 4, 32], B := [1004], A := [3201, 3202], H := [(.cell 1004 2, 3201, 25, 4), (.cell 1004 3, 3202, 9, 1)] })])] }
@[reducible] def I.l02_JsonReads (p0 : List UInt8) : CIn := ⟨[.str p0], [], []⟩
@[reducible] def O.l02_JsonReads : Bool → COut
  | r => .ok [.bool r] [] []
set_option maxRecDepth 1000000 in
set_option maxHeartbeats 4000000 in
theorem L.l02_JsonReads (fuel : Nat) (p0 : List UInt8) : S (M.l02_JsonReads fuel p0) fun r => ex TB CT A.l02_JsonReads (Con Tryz.prog GG) (bodyOf Tryz.f9) (entry (I.l02_JsonReads p0)) (fin TB A.l02_JsonReads [.tmp 2] (O.l02_JsonReads r)) := by
  unfold M.l02_JsonReads
  refine S.jn (fun _ => ⟨[], [], [], none⟩) ?_ (fun _ => rfl) fun j_257 => ?_
  · refine S.lw (L := M.l02_JsonReads_k1 fuel p0) (fun x_343 => ⟨[(0, .str p0), (3, .int .i64 x_343)], [], [], none⟩) (M.l02_JsonReads_k1.partial_correctness fuel p0) rfl fun f_l02_JsonReads_k1 I_l02_JsonReads_k1 ih_l02_JsonReads_k1 x_343 => ?_
    refine S.cb ?_ ?_
    · refine S.jn (fun _ => ⟨[(0, .str p0), (3, .int .i64 x_343)], [], [], none⟩) ?_ (fun _ => rfl) fun j_471 => ?_
      · refine S.k [] [] [9730, 9731] (C.json_Parse fuel p0) rfl trivial trivial rfl fun a_472 => ?_
        refine S.an rfl ?_
        refine S.jp (⟨[(0, .str p0), (3, .int .i64 x_343), (4, .ptr 1004 0), (5, .int .i64 a_472.2)], [(1004, ⟨25, [.int .i64 a_472.1.gKind, .str a_472.1.gText, .ref 100201, .ref 100202]⟩)], [(100201, ⟨true, 25, 4, (T_api_Json.encs a_472.1.gList)⟩), (100202, ⟨true, 9, 1, (a_472.1.gKeys.map eS)⟩)], none⟩) (fun _ => rfl) ?_
        refine S.k [] [] [] (C.r02_Parse fuel p0) rfl trivial trivial rfl fun a_474 => ?_
        refine S.an rfl ?_
        refine S.jp (⟨[(0, .str p0), (3, .int .i64 x_343), (4, .ptr 1004 0), (5, .int .i64 a_472.2), (6, .ptr 1006 0), (7, .int .i64 a_474.2)], [(1004, ⟨25, [.int .i64 a_472.1.gKind, .str a_472.1.gText, .ref 100251, .ref 100252]⟩), (1006, ⟨25, [.int .i64 a_474.1.gKind, .str a_474.1.gText, .sl 25 4 (T_api_Json.encs a_474.1.gList), .sl 9 1 (a_474.1.gKeys.map eS)]⟩)], [(100251, ⟨true, 25, 4, (T_api_Json.encs a_472.1.gList)⟩), (100252, ⟨true, 9, 1, (a_472.1.gKeys.map eS)⟩)], none⟩) (fun _ => rfl) ?_
        refine S.j (fun j_485 => ⟨[(0, .str p0), (3, .int .i64 x_343), (4, .ptr 1004 0), (32, .bool j_485)], [(1004, ⟨25, [.int .i64 a_472.1.gKind, .str a_472.1.gText, .ref 3201, .ref 3202]⟩)], [(3201, ⟨true, 25, 4, (T_api_Json.encs a_472.1.gList)⟩), (3202, ⟨true, 9, 1, (a_472.1.gKeys.map eS)⟩)], none⟩) (fun r => ?_) fun j_485 => ?_
        · refine S.cb ?_ ?_
          · exact S.z rfl
          · refine S.k [] [] [] (C.r02_Same fuel a_472.1 a_474.1) rfl trivial trivial rfl fun a_486 => ?_
            refine S.an rfl ?_
            exact S.z rfl
        · refine S.cb ?_ ?_
          · exact S.z ⟨rfl, trivial, trivial, rfl⟩
          · refine S.j (fun j_497 => ⟨[(0, .str p0), (3, .int .i64 x_343), (4, .ptr 1004 0)], [(1004, ⟨25, [.int .i64 a_472.1.gKind, .str a_472.1.gText, .ref 3207, .ref 3208]⟩)], [(3207, ⟨true, 25, 4, (T_api_Json.encs j_497)⟩), (3208, ⟨true, 9, 1, (a_472.1.gKeys.map eS)⟩)], none⟩) (fun r => ?_) fun j_497 => ?_
            · refine S.lw2 (L := M.l02_JsonReads_k2) (fun x_500 x_501 => ⟨[(0, .str p0), (3, .int .i64 x_343), (4, .ptr 1004 0), (8, .int .i64 x_500)], [(1004, ⟨25, [.int .i64 a_472.1.gKind, .str a_472.1.gText, .ref 3211, .ref 3212]⟩)], [(3211, ⟨true, 25, 4, (T_api_Json.encs x_501)⟩), (3212, ⟨true, 9, 1, (a_472.1.gKeys.map eS)⟩)], none⟩) (M.l02_JsonReads_k2.partial_correctness) rfl fun f_l02_JsonReads_k2 I_l02_JsonReads_k2 ih_l02_JsonReads_k2 x_500 x_501 => ?_
              refine S.eq (lenD_E T_api_Json.encs_eq) ?_
              refine S.cb ?_ ?_
              · refine S.ixE T_api_Json.encs_eq rfl T_api_Json.enc_c fun x_504 => ?_
                refine S.setxE (f := T_api_Json.enc) (E := T_api_Json.encs) (x := (T_api_Json.mk 2 ([] : List UInt8) [] [])) T_api_Json.encs_eq rfl rfl fun l_505 => ?_
                exact ih_l02_JsonReads_k2 _ _
              · exact S.z rfl
            · refine S.lw2 (L := M.l02_JsonReads_k3) (fun x_508 x_509 => ⟨[(0, .str p0), (3, .int .i64 x_343), (4, .ptr 1004 0), (9, .int .i64 x_508)], [(1004, ⟨25, [.int .i64 a_472.1.gKind, .str a_472.1.gText, .ref 3215, .ref 3216]⟩)], [(3215, ⟨true, 25, 4, (T_api_Json.encs j_497)⟩), (3216, ⟨true, 9, 1, (x_509.map eS)⟩)], none⟩) (M.l02_JsonReads_k3.partial_correctness) rfl fun f_l02_JsonReads_k3 I_l02_JsonReads_k3 ih_l02_JsonReads_k3 x_508 x_509 => ?_
              refine S.eq lenD_map ?_
              refine S.cb ?_ ?_
              · refine S.ixE (f := eS) (c := fun x => [D.str x]) (fun _ => rfl) rfl (fun _ => rfl) fun x_512 => ?_
                refine S.setxE (f := eS) (E := (fun l => l.map eS)) (x := ([115, 112, 111, 105, 108, 116] : List UInt8)) (fun _ => rfl) rfl rfl fun l_513 => ?_
                exact ih_l02_JsonReads_k3 _ _
              · exact S.z rfl
      · exact ih_l02_JsonReads_k1 _
    · exact S.z rfl
  · refine S.k [] [] [] (C.l02_awake fuel) rfl trivial trivial rfl fun a_514 => ?_
    refine S.an rfl ?_
    exact S.z ⟨rfl, trivial, trivial, rfl⟩
set_option maxRecDepth 1000000 in
set_option maxHeartbeats 4000000 in
theorem C.l02_JsonReads (fuel : Nat) (p0 : List UInt8) : S (M.l02_JsonReads fuel p0) fun r => Con Tryz.prog GG 9 (I.l02_JsonReads p0) (O.l02_JsonReads r) := by
  intro r hm; exact Con.of TBG (fun _ _ => rfl) Tryz.func9 rfl rfl (res := [.tmp 2]) rfl (by kernel_rfl) rfl rfl rfl (L.l02_JsonReads fuel p0 r hm)
end Go.Proofs.YtcfkkgpnggdlnaaGreatDoor
