/- JsP4: what a program of ours printed of the program's functions. -/
import Derived.Test.YtcfkkgpnggdlnaaGreatDoorJsP3
set_option linter.all false
namespace Go.Proofs.YtcfkkgpnggdlnaaGreatDoor
open Go.Lk Go.Pe Go.Sen Go.RowKit
def A.r02_Same : Ann := { seq := [(8, { L := [2, 3], B := [], A := [] }), (13, { L := [], B := [], A := [] })], loop := [(4, { L := [2, 3, 5], B := [], A := [] }), (9, { L := [2, 3, 6], B := [], A := [] })], reg := [(1, [(6, 6, { L := [2, 3, 18], B := [], A := [] }), (1, 8, { L := [2, 3, 27], B := [], A := [] }), (1, 8, { L := [2, 3, 36], B := [], A := [] })]), (10, [(3, 0, { L := [2, 3, 6], B := [], A := [] })]), (12, [(1, 0, { L := [4], B := [], A := [] })])], drw := [(6, { anc := [0, 1, 0, 7, 15, 0, 32, 0, 224, 480, 1023], E := [], qs := [0, 1, 2, 3, 4, 5, 6, 7, 8, 9, 10], g := .fin }), (11, { anc := [0, 1, 0, 7, 15, 0, 32, 0, 224, 480, 1023, 2047], E := [10], qs := [0, 1, 2, 3, 4, 5, 6, 7, 8, 9], g := .one 10 [] [11] (.fin) })], ro := [2, 3] }
@[reducible] def I.r02_Same (p0 : T_api_Json) (p1 : T_api_Json) : CIn := ⟨[.agg [.int .i64 p0.gKind, .str p0.gText, .sl 25 4 (T_api_Json.encs p0.gList), .sl 9 1 (p0.gKeys.map eS)], .agg [.int .i64 p1.gKind, .str p1.gText, .sl 25 4 (T_api_Json.encs p1.gList), .sl 9 1 (p1.gKeys.map eS)]], [], []⟩
@[reducible] def O.r02_Same : Bool → COut
  | r => .ok [.bool r] [] []
set_option maxRecDepth 1000000 in
set_option maxHeartbeats 4000000 in
theorem L.r02_Same (fuel : Nat) (ih_r02_Same : ∀ (p0 : T_api_Json) (p1 : T_api_Json), S (M.r02_Same fuel p0 p1) fun r => Con Tryz.prog GG 21 (I.r02_Same p0 p1) (O.r02_Same r)) (p0 : T_api_Json) (p1 : T_api_Json) : S (M.r02_Same (fuel + 1) p0 p1) fun r => ex TB CT A.r02_Same (Con Tryz.prog GG) (bodyOf Tryz.f21) (entry (I.r02_Same p0 p1)) (fin TB A.r02_Same [.tmp 4] (O.r02_Same r)) := by
  unfold M.r02_Same
  refine S.jb (v := ((!decide (p0.gKind = p1.gKind)) || (!decide (p0.gText = p1.gText)))) (fun x_7 => ⟨[(2, .cptr [.int .i64 p0.gKind, .str p0.gText, .sl 25 4 (T_api_Json.encs p0.gList), .sl 9 1 (p0.gKeys.map eS)] 0), (3, .cptr [.int .i64 p1.gKind, .str p1.gText, .sl 25 4 (T_api_Json.encs p1.gList), .sl 9 1 (p1.gKeys.map eS)] 0), (18, .bool x_7)], [], [], none⟩) (fun r => ?_) ?_
  · refine cnd (fun h_8 => ?_) (fun h_8 => ?_)
    · exact jbI rfl (or_t h_8)
    · exact jbI rfl (or_f h_8 rfl)
  · refine S.jb (v := (((!decide (p0.gKind = p1.gKind)) || (!decide (p0.gText = p1.gText))) || (!decide ((p0.gList.length : Int) = (p1.gList.length : Int))))) (fun x_9 => ⟨[(2, .cptr [.int .i64 p0.gKind, .str p0.gText, .sl 25 4 (T_api_Json.encs p0.gList), .sl 9 1 (p0.gKeys.map eS)] 0), (3, .cptr [.int .i64 p1.gKind, .str p1.gText, .sl 25 4 (T_api_Json.encs p1.gList), .sl 9 1 (p1.gKeys.map eS)] 0), (27, .bool x_9)], [], [], none⟩) (fun r => ?_) ?_
    · refine cnd (fun h_10 => ?_) (fun h_10 => ?_)
      · exact jbI rfl (or_t h_10)
      · refine Ex.i (lenD_E T_api_Json.encs_eq) ?_
        refine Ex.i (lenD_E T_api_Json.encs_eq) ?_
        exact jbI rfl (or_f h_10 rfl)
    · refine S.jb (v := ((((!decide (p0.gKind = p1.gKind)) || (!decide (p0.gText = p1.gText))) || (!decide ((p0.gList.length : Int) = (p1.gList.length : Int)))) || (!decide ((p0.gKeys.length : Int) = (p1.gKeys.length : Int))))) (fun x_11 => ⟨[(2, .cptr [.int .i64 p0.gKind, .str p0.gText, .sl 25 4 (T_api_Json.encs p0.gList), .sl 9 1 (p0.gKeys.map eS)] 0), (3, .cptr [.int .i64 p1.gKind, .str p1.gText, .sl 25 4 (T_api_Json.encs p1.gList), .sl 9 1 (p1.gKeys.map eS)] 0), (36, .bool x_11)], [], [], none⟩) (fun r => ?_) ?_
      · refine cnd (fun h_12 => ?_) (fun h_12 => ?_)
        · exact jbI rfl (or_t h_12)
        · refine Ex.i lenD_map ?_
          refine Ex.i lenD_map ?_
          exact jbI rfl (or_f h_12 rfl)
      · refine S.cb ?_ ?_
        · exact S.z ⟨rfl, trivial, trivial, rfl⟩
        · refine S.jn (fun _ => ⟨[(2, .cptr [.int .i64 p0.gKind, .str p0.gText, .sl 25 4 (T_api_Json.encs p0.gList), .sl 9 1 (p0.gKeys.map eS)] 0), (3, .cptr [.int .i64 p1.gKind, .str p1.gText, .sl 25 4 (T_api_Json.encs p1.gList), .sl 9 1 (p1.gKeys.map eS)] 0)], [], [], none⟩) ?_ (fun _ => rfl) fun j_20 => ?_
          · refine S.lw (L := M.r02_Same_k1 p0 p1) (fun x_23 => ⟨[(2, .cptr [.int .i64 p0.gKind, .str p0.gText, .sl 25 4 (T_api_Json.encs p0.gList), .sl 9 1 (p0.gKeys.map eS)] 0), (3, .cptr [.int .i64 p1.gKind, .str p1.gText, .sl 25 4 (T_api_Json.encs p1.gList), .sl 9 1 (p1.gKeys.map eS)] 0), (5, .int .i64 x_23)], [], [], none⟩) (M.r02_Same_k1.partial_correctness p0 p1) rfl fun f_r02_Same_k1 I_r02_Same_k1 ih_r02_Same_k1 x_23 => ?_
            refine S.eq lenD_map ?_
            refine S.cb ?_ ?_
            · refine S.ixE (f := eS) (c := fun x => [D.str x]) (fun _ => rfl) rfl (fun _ => rfl) fun x_26 => ?_
              refine S.ixE (f := eS) (c := fun x => [D.str x]) (fun _ => rfl) rfl (fun _ => rfl) fun x_27 => ?_
              refine S.an trivial ?_
              refine S.cb ?_ ?_
              · exact S.z ⟨rfl, trivial, trivial, rfl⟩
              · exact ih_r02_Same_k1 _
            · exact S.z rfl
          · refine S.jn (fun _ => ⟨[], [], [], none⟩) ?_ (fun _ => rfl) fun j_41 => ?_
            · refine S.lw (L := M.r02_Same_k2 p0 p1 (M.r02_Same fuel)) (fun x_46 => ⟨[(2, .cptr [.int .i64 p0.gKind, .str p0.gText, .sl 25 4 (T_api_Json.encs p0.gList), .sl 9 1 (p0.gKeys.map eS)] 0), (3, .cptr [.int .i64 p1.gKind, .str p1.gText, .sl 25 4 (T_api_Json.encs p1.gList), .sl 9 1 (p1.gKeys.map eS)] 0), (6, .int .i64 x_46)], [], [], none⟩) (M.r02_Same_k2.partial_correctness p0 p1 (M.r02_Same fuel)) rfl fun f_r02_Same_k2 I_r02_Same_k2 ih_r02_Same_k2 x_46 => ?_
              refine S.eq (lenD_E T_api_Json.encs_eq) ?_
              refine S.cb ?_ ?_
              · refine S.ixE T_api_Json.encs_eq rfl T_api_Json.enc_c fun x_51 => ?_
                refine S.ixE T_api_Json.encs_eq rfl T_api_Json.enc_c fun x_52 => ?_
                refine S.an trivial ?_
                refine S.k [] [] [] (ih_r02_Same x_51 x_52) rfl trivial trivial rfl fun a_53 => ?_
                refine S.an rfl ?_
                refine S.an trivial ?_
                refine S.cb ?_ ?_
                · refine S.jp (⟨[(4, .bool false)], [], [], none⟩) (fun _ => rfl) ?_
                  exact S.z ⟨rfl, trivial, trivial, rfl⟩
                · refine S.jp (⟨[(2, .cptr [.int .i64 p0.gKind, .str p0.gText, .sl 25 4 (T_api_Json.encs p0.gList), .sl 9 1 (p0.gKeys.map eS)] 0), (3, .cptr [.int .i64 p1.gKind, .str p1.gText, .sl 25 4 (T_api_Json.encs p1.gList), .sl 9 1 (p1.gKeys.map eS)] 0), (6, .int .i64 (IntKind.wrap .i64 (x_46 + 1)))], [], [], none⟩) (fun _ => rfl) ?_
                  exact ih_r02_Same_k2 _
              · exact S.z rfl
            · exact S.z ⟨rfl, trivial, trivial, rfl⟩
set_option maxRecDepth 1000000 in
set_option maxHeartbeats 4000000 in
theorem C.r02_Same_all (fuel : Nat) : (∀ (p0 : T_api_Json) (p1 : T_api_Json), S (M.r02_Same fuel p0 p1) fun r => Con Tryz.prog GG 21 (I.r02_Same p0 p1) (O.r02_Same r)) := by
  induction fuel with
  | zero => exact (by intros; intro r hm; cases hm)
  | succ fuel ih =>
    · intro p0 p1; intro r hm; exact Con.of TBok (fun _ _ => rfl) Tryz.func21 rfl rfl (res := [.tmp 4]) rfl (by kernel_rfl) rfl rfl rfl (L.r02_Same fuel ih p0 p1 r hm)
theorem C.r02_Same (fuel : Nat) (p0 : T_api_Json) (p1 : T_api_Json) : S (M.r02_Same fuel p0 p1) fun r => Con Tryz.prog GG 21 (I.r02_Same p0 p1) (O.r02_Same r) := (C.r02_Same_all fuel) p0 p1
def A.r02_SameTexts : Ann := { seq := [(8, { L := [], B := [], A := [] })], loop := [(4, { L := [0, 1, 5], B := [], A := [] })], drw := [(6, { anc := [0, 0, 3, 7, 0, 0, 48, 112, 255], E := [], qs := [0, 1, 2, 3, 4, 5, 6, 7, 8], g := .fin })] }
@[reducible] def I.r02_SameTexts (p0 : List (List UInt8)) (p1 : List (List UInt8)) : CIn := ⟨[.sl 9 1 (p0.map eS), .sl 9 1 (p1.map eS)], [], []⟩
@[reducible] def O.r02_SameTexts : Bool → COut
  | r => .ok [.bool r] [] []
set_option maxRecDepth 1000000 in
set_option maxHeartbeats 4000000 in
theorem L.r02_SameTexts (p0 : List (List UInt8)) (p1 : List (List UInt8)) : S (M.r02_SameTexts p0 p1) fun r => ex TB CT A.r02_SameTexts (Con Tryz.prog GG) (bodyOf Tryz.f22) (entry (I.r02_SameTexts p0 p1)) (fin TB A.r02_SameTexts [.tmp 4] (O.r02_SameTexts r)) := by
  unfold M.r02_SameTexts
  refine S.eq lenD_map ?_
  refine S.eq lenD_map ?_
  refine S.cb ?_ ?_
  · exact S.z ⟨rfl, trivial, trivial, rfl⟩
  · refine S.jn (fun _ => ⟨[], [], [], none⟩) ?_ (fun _ => rfl) fun j_8 => ?_
    · refine S.lw (L := M.r02_SameTexts_k1 p0 p1) (fun x_11 => ⟨[(0, .sl 9 1 (p0.map eS)), (1, .sl 9 1 (p1.map eS)), (5, .int .i64 x_11)], [], [], none⟩) (M.r02_SameTexts_k1.partial_correctness p0 p1) rfl fun f_r02_SameTexts_k1 I_r02_SameTexts_k1 ih_r02_SameTexts_k1 x_11 => ?_
      refine S.eq lenD_map ?_
      refine S.cb ?_ ?_
      · refine S.ixE (f := eS) (c := fun x => [D.str x]) (fun _ => rfl) rfl (fun _ => rfl) fun x_14 => ?_
        refine S.ixE (f := eS) (c := fun x => [D.str x]) (fun _ => rfl) rfl (fun _ => rfl) fun x_15 => ?_
        refine S.an trivial ?_
        refine S.cb ?_ ?_
        · exact S.z ⟨rfl, trivial, trivial, rfl⟩
        · exact ih_r02_SameTexts_k1 _
      · exact S.z rfl
    · exact S.z ⟨rfl, trivial, trivial, rfl⟩
set_option maxRecDepth 1000000 in
set_option maxHeartbeats 4000000 in
theorem C.r02_SameTexts (p0 : List (List UInt8)) (p1 : List (List UInt8)) : S (M.r02_SameTexts p0 p1) fun r => Con Tryz.prog GG 22 (I.r02_SameTexts p0 p1) (O.r02_SameTexts r) := by
  intro r hm; exact Con.of TBok (fun _ _ => rfl) Tryz.func22 rfl rfl (res := [.tmp 4]) rfl (by kernel_rfl) rfl rfl rfl (L.r02_SameTexts p0 p1 r hm)
def A.l02_JsonFinds : Ann := { reg := [(1, [(9, 0, { L := [1, 2, 5, 6], B := [1005], A := [] })]), (2, [(9, 0, { L := [2, 5, 6, 7, 8], B := [1005, 1007], A := [] })]), (4, [(7, 0, { L := [2, 5, 6, 7, 8, 9, 10, 11, 12], B := [1005, 1007], A := [] })]), (6, [(7, 0, { L := [5, 6, 7, 8, 9, 10, 11, 12, 13, 14, 15, 16], B := [1005, 1007], A := [] })]), (7, [(2, 4, { L := [5, 7, 9, 10, 11, 12, 13, 14, 15, 16, 54], B := [1005, 1007], A := [] }), (1, 4, { L := [9, 10, 11, 12, 13, 14, 15, 16, 59], B := [], A := [] }), (1, 4, { L := [10, 12, 13, 14, 15, 16, 64], B := [], A := [] }), (1, 4, { L := [13, 14, 15, 16, 69], B := [], A := [] }), (1, 4, { L := [13, 15, 74], B := [], A := [] }), (1, 4, { L := [79], B := [], A := [] })])], ro := [2] }
@[reducible] def I.l02_JsonFinds (p0 : T_api_Json) (p1 : List UInt8) : CIn := ⟨[.agg [.int .i64 p0.gKind, .str p0.gText, .sl 25 4 (T_api_Json.encs p0.gList), .sl 9 1 (p0.gKeys.map eS)], .str p1], [], []⟩
@[reducible] def O.l02_JsonFinds : Bool → COut
  | r => .ok [.bool r] [] []
set_option maxRecDepth 1000000 in
set_option maxHeartbeats 4000000 in
theorem L.l02_JsonFinds (fuel : Nat) (p0 : T_api_Json) (p1 : List UInt8) : S (M.l02_JsonFinds fuel p0 p1) fun r => ex TB CT A.l02_JsonFinds (Con Tryz.prog GG) (bodyOf Tryz.f5) (entry (I.l02_JsonFinds p0 p1)) (fin TB A.l02_JsonFinds [.tmp 4] (O.l02_JsonFinds r)) := by
  unfold M.l02_JsonFinds
  refine S.k [] [] [] (C.json_Member p0 p1) rfl trivial trivial rfl fun a_1 => ?_
  refine S.an rfl ?_
  refine S.jp (⟨[(1, .str p1), (2, .cptr [.int .i64 p0.gKind, .str p0.gText, .sl 25 4 (T_api_Json.encs p0.gList), .sl 9 1 (p0.gKeys.map eS)] 0), (5, .ptr 1005 0), (6, .bool a_1.2)], [(1005, ⟨25, [.int .i64 a_1.1.gKind, .str a_1.1.gText, .sl 25 4 (T_api_Json.encs a_1.1.gList), .sl 9 1 (a_1.1.gKeys.map eS)]⟩)], [], none⟩) (fun _ => rfl) ?_
  refine S.k [] [] [] (C.r02_Member p0 p1) rfl trivial trivial rfl fun a_3 => ?_
  refine S.an rfl ?_
  refine S.jp (⟨[(2, .cptr [.int .i64 p0.gKind, .str p0.gText, .sl 25 4 (T_api_Json.encs p0.gList), .sl 9 1 (p0.gKeys.map eS)] 0), (5, .ptr 1005 0), (6, .bool a_1.2), (7, .ptr 1007 0), (8, .bool a_3.2)], [(1005, ⟨25, [.int .i64 a_1.1.gKind, .str a_1.1.gText, .sl 25 4 (T_api_Json.encs a_1.1.gList), .sl 9 1 (a_1.1.gKeys.map eS)]⟩), (1007, ⟨25, [.int .i64 a_3.1.gKind, .str a_3.1.gText, .sl 25 4 (T_api_Json.encs a_3.1.gList), .sl 9 1 (a_3.1.gKeys.map eS)]⟩)], [], none⟩) (fun _ => rfl) ?_
  refine S.k [] [] [] (C.json_Int p0) rfl trivial trivial rfl fun a_5 => ?_
  refine S.an rfl ?_
  refine S.k [] [] [] (C.r02_Int p0) rfl trivial trivial rfl fun a_7 => ?_
  refine S.an rfl ?_
  refine S.jp (⟨[(2, .cptr [.int .i64 p0.gKind, .str p0.gText, .sl 25 4 (T_api_Json.encs p0.gList), .sl 9 1 (p0.gKeys.map eS)] 0), (5, .ptr 1005 0), (6, .bool a_1.2), (7, .ptr 1007 0), (8, .bool a_3.2), (9, .int .i64 a_5.1), (10, .bool a_5.2), (11, .int .i64 a_7.1), (12, .bool a_7.2)], [(1005, ⟨25, [.int .i64 a_1.1.gKind, .str a_1.1.gText, .sl 25 4 (T_api_Json.encs a_1.1.gList), .sl 9 1 (a_1.1.gKeys.map eS)]⟩), (1007, ⟨25, [.int .i64 a_3.1.gKind, .str a_3.1.gText, .sl 25 4 (T_api_Json.encs a_3.1.gList), .sl 9 1 (a_3.1.gKeys.map eS)]⟩)], [], none⟩) (fun _ => rfl) ?_
  refine S.k [] [] [] (C.json_Texts p0) rfl trivial trivial rfl fun a_9 => ?_
  refine S.an rfl ?_
  refine S.k [] [] [] (C.r02_Texts p0) rfl trivial trivial rfl fun a_11 => ?_
  refine S.an rfl ?_
  refine S.jp (⟨[(5, .ptr 1005 0), (6, .bool a_1.2), (7, .ptr 1007 0), (8, .bool a_3.2), (9, .int .i64 a_5.1), (10, .bool a_5.2), (11, .int .i64 a_7.1), (12, .bool a_7.2), (13, .sl 9 1 (a_9.1.map eS)), (14, .bool a_9.2), (15, .sl 9 1 (a_11.1.map eS)), (16, .bool a_11.2)], [(1005, ⟨25, [.int .i64 a_1.1.gKind, .str a_1.1.gText, .sl 25 4 (T_api_Json.encs a_1.1.gList), .sl 9 1 (a_1.1.gKeys.map eS)]⟩), (1007, ⟨25, [.int .i64 a_3.1.gKind, .str a_3.1.gText, .sl 25 4 (T_api_Json.encs a_3.1.gList), .sl 9 1 (a_3.1.gKeys.map eS)]⟩)], [], none⟩) (fun _ => rfl) ?_
  refine S.k [] [] [] (C.l02_awake fuel) rfl trivial trivial rfl fun a_13 => ?_
  refine S.an rfl ?_
  refine S.jb (v := (a_13 && (a_1.2 == a_3.2))) (fun x_15 => ⟨[(5, .ptr 1005 0), (7, .ptr 1007 0), (9, .int .i64 a_5.1), (10, .bool a_5.2), (11, .int .i64 a_7.1), (12, .bool a_7.2), (13, .sl 9 1 (a_9.1.map eS)), (14, .bool a_9.2), (15, .sl 9 1 (a_11.1.map eS)), (16, .bool a_11.2), (54, .bool x_15)], [(1005, ⟨25, [.int .i64 a_1.1.gKind, .str a_1.1.gText, .sl 25 4 (T_api_Json.encs a_1.1.gList), .sl 9 1 (a_1.1.gKeys.map eS)]⟩), (1007, ⟨25, [.int .i64 a_3.1.gKind, .str a_3.1.gText, .sl 25 4 (T_api_Json.encs a_3.1.gList), .sl 9 1 (a_3.1.gKeys.map eS)]⟩)], [], none⟩) (fun r => ?_) ?_
  · refine cnd (fun h_16 => ?_) (fun h_16 => ?_)
    · exact jbI rfl (and_t h_16 rfl)
    · exact jbI rfl (and_f h_16)
  · refine S.j (fun j_20 => ⟨[(9, .int .i64 a_5.1), (10, .bool a_5.2), (11, .int .i64 a_7.1), (12, .bool a_7.2), (13, .sl 9 1 (a_9.1.map eS)), (14, .bool a_9.2), (15, .sl 9 1 (a_11.1.map eS)), (16, .bool a_11.2), (59, .bool j_20)], [], [], none⟩) (fun r => ?_) fun j_20 => ?_
    · refine S.cb ?_ ?_
      · refine S.k [] [] [] (C.r02_Same fuel a_1.1 a_3.1) rfl trivial trivial rfl fun a_21 => ?_
        refine S.an rfl ?_
        exact S.z rfl
      · exact S.z rfl
    · refine S.jb (v := (j_20 && (decide (a_5.1 = a_7.1)))) (fun x_23 => ⟨[(10, .bool a_5.2), (12, .bool a_7.2), (13, .sl 9 1 (a_9.1.map eS)), (14, .bool a_9.2), (15, .sl 9 1 (a_11.1.map eS)), (16, .bool a_11.2), (64, .bool x_23)], [], [], none⟩) (fun r => ?_) ?_
      · refine cnd (fun h_24 => ?_) (fun h_24 => ?_)
        · exact jbI rfl (and_t h_24 rfl)
        · exact jbI rfl (and_f h_24)
      · refine S.jb (v := ((j_20 && (decide (a_5.1 = a_7.1))) && (a_5.2 == a_7.2))) (fun x_25 => ⟨[(13, .sl 9 1 (a_9.1.map eS)), (14, .bool a_9.2), (15, .sl 9 1 (a_11.1.map eS)), (16, .bool a_11.2), (69, .bool x_25)], [], [], none⟩) (fun r => ?_) ?_
        · refine cnd (fun h_26 => ?_) (fun h_26 => ?_)
          · exact jbI rfl (and_t h_26 rfl)
          · exact jbI rfl (and_f h_26)
        · refine S.jb (v := (((j_20 && (decide (a_5.1 = a_7.1))) && (a_5.2 == a_7.2)) && (a_9.2 == a_11.2))) (fun x_27 => ⟨[(13, .sl 9 1 (a_9.1.map eS)), (15, .sl 9 1 (a_11.1.map eS)), (74, .bool x_27)], [], [], none⟩) (fun r => ?_) ?_
          · refine cnd (fun h_28 => ?_) (fun h_28 => ?_)
            · exact jbI rfl (and_t h_28 rfl)
            · exact jbI rfl (and_f h_28)
          · refine S.j (fun j_32 => ⟨[(79, .bool j_32)], [], [], none⟩) (fun r => ?_) fun j_32 => ?_
            · refine S.cb ?_ ?_
              · refine S.k [] [] [] (C.r02_SameTexts a_9.1 a_11.1) rfl trivial trivial rfl fun a_33 => ?_
                refine S.an rfl ?_
                exact S.z rfl
              · exact S.z rfl
            · exact S.z ⟨rfl, trivial, trivial, rfl⟩
set_option maxRecDepth 1000000 in
set_option maxHeartbeats 4000000 in
theorem C.l02_JsonFinds (fuel : Nat) (p0 : T_api_Json) (p1 : List UInt8) : S (M.l02_JsonFinds fuel p0 p1) fun r => Con Tryz.prog GG 5 (I.l02_JsonFinds p0 p1) (O.l02_JsonFinds r) := by
  intro r hm; exact Con.of TBok (fun _ _ => rfl) Tryz.func5 rfl rfl (res := [.tmp 4]) rfl (by kernel_rfl) rfl rfl rfl (L.l02_JsonFinds fuel p0 p1 r hm)
def A.l02_JsonBack : Ann := { seq := [(8, { L := [1], B := [], A := [] })], reg := [(1, [(7, 0, { L := [1, 2, 5, 6], B := [], A := [] })]), (2, [(3, 11, { L := [1, 2, 5, 6, 33], B := [], A := [] })]), (5, [(8, 0, { L := [1, 2, 7, 8], B := [1007], A := [] })]), (6, [(3, 5, { L := [1, 48], B := [], A := [] })]), (8, [(8, 0, { L := [9, 10], B := [1009], A := [] })]), (12, [(2, 0, { L := [9, 11, 12, 65], B := [1009], A := [] })]), (14, [(8, 0, { L := [9, 12, 13, 14], B := [1009, 1013], A := [] })]), (15, [(3, 3, { L := [9, 13, 79], B := [1009, 1013], A := [] }), (1, 4, { L := [84], B := [], A := [] })])], ro := [2] }
@[reducible] def I.l02_JsonBack (p0 : T_api_Json) (p1 : List UInt8) : CIn := ⟨[.agg [.int .i64 p0.gKind, .str p0.gText, .sl 25 4 (T_api_Json.encs p0.gList), .sl 9 1 (p0.gKeys.map eS)], .str p1], [], []⟩
@[reducible] def O.l02_JsonBack : Bool → COut
  | r => .ok [.bool r] [] []
set_option maxRecDepth 1000000 in
set_option maxHeartbeats 4000000 in
theorem L.l02_JsonBack (fuel : Nat) (p0 : T_api_Json) (p1 : List UInt8) : S (M.l02_JsonBack fuel p0 p1) fun r => ex TB CT A.l02_JsonBack (Con Tryz.prog GG) (bodyOf Tryz.f6) (entry (I.l02_JsonBack p0 p1)) (fin TB A.l02_JsonBack [.tmp 4] (O.l02_JsonBack r)) := by
  unfold M.l02_JsonBack
  refine S.k [] [] [] (C.json_Print fuel p0) rfl trivial trivial rfl fun a_1 => ?_
  refine S.an rfl ?_
  refine S.jp (⟨[(1, .str p1), (2, .cptr [.int .i64 p0.gKind, .str p0.gText, .sl 25 4 (T_api_Json.encs p0.gList), .sl 9 1 (p0.gKeys.map eS)] 0), (5, .str a_1.1), (6, .int .i64 a_1.2)], [], [], none⟩) (fun _ => rfl) ?_
  refine S.k [] [] [] (C.l02_awake fuel) rfl trivial trivial rfl fun a_15 => ?_
  refine S.an rfl ?_
  refine S.j (fun j_22 => ⟨[(1, .str p1), (2, .cptr [.int .i64 p0.gKind, .str p0.gText, .sl 25 4 (T_api_Json.encs p0.gList), .sl 9 1 (p0.gKeys.map eS)] 0), (5, .str a_1.1), (6, .int .i64 a_1.2), (33, .bool j_22)], [], [], none⟩) (fun r => ?_) fun j_22 => ?_
  · refine S.cb ?_ ?_
    · exact S.z rfl
    · refine S.cb ?_ ?_
      · refine S.k [] [] [] (C.json_Check fuel p0) rfl trivial trivial rfl fun a_23 => ?_
        refine S.an rfl ?_
        exact S.z rfl
      · refine S.k [] [] [] (C.json_Check fuel p0) rfl trivial trivial rfl fun a_25 => ?_
        refine S.an rfl ?_
        exact S.z rfl
  · refine S.cb ?_ ?_
    · exact S.z ⟨rfl, trivial, trivial, rfl⟩
    · refine S.jn (fun _ => ⟨[(1, .str p1)], [], [], none⟩) ?_ (fun _ => rfl) fun j_43 => ?_
      · refine S.cb ?_ ?_
        · refine S.k [] [] [] (C.json_Parse fuel a_1.1) rfl trivial trivial rfl fun a_44 => ?_
          refine S.an rfl ?_
          refine S.jp (⟨[(1, .str p1), (2, .cptr [.int .i64 p0.gKind, .str p0.gText, .sl 25 4 (T_api_Json.encs p0.gList), .sl 9 1 (p0.gKeys.map eS)] 0), (7, .ptr 1007 0), (8, .int .i64 a_44.2)], [(1007, ⟨25, [.int .i64 a_44.1.gKind, .str a_44.1.gText, .sl 25 4 (T_api_Json.encs a_44.1.gList), .sl 9 1 (a_44.1.gKeys.map eS)]⟩)], [], none⟩) (fun _ => rfl) ?_
          refine S.j (fun j_49 => ⟨[(1, .str p1), (48, .bool j_49)], [], [], none⟩) (fun r => ?_) fun j_49 => ?_
          · refine S.cb ?_ ?_
            · exact S.z rfl
            · refine S.k [] [] [] (C.r02_Same fuel p0 a_44.1) rfl trivial trivial rfl fun a_50 => ?_
              refine S.an rfl ?_
              exact S.z rfl
          · refine S.cb ?_ ?_
            · exact S.z ⟨rfl, trivial, trivial, rfl⟩
            · exact S.z rfl
        · exact S.z rfl
      · refine S.k [] [] [] (C.json_Parse fuel p1) rfl trivial trivial rfl fun a_52 => ?_
        refine S.an rfl ?_
        refine S.jp (⟨[(9, .ptr 1009 0), (10, .int .i64 a_52.2)], [(1009, ⟨25, [.int .i64 a_52.1.gKind, .str a_52.1.gText, .sl 25 4 (T_api_Json.encs a_52.1.gList), .sl 9 1 (a_52.1.gKeys.map eS)]⟩)], [], none⟩) (fun _ => rfl) ?_
        refine S.cb ?_ ?_
        · refine S.k [] [] [] (C.r02_Same fuel a_52.1 (T_api_Json.mk 0 ([] : List UInt8) [] [])) rfl trivial trivial rfl fun a_56 => ?_
          refine S.an rfl ?_
          exact S.z ⟨rfl, trivial, trivial, rfl⟩
        · refine S.k [] [] [] (C.json_Print fuel a_52.1) rfl trivial trivial rfl fun a_58 => ?_
          refine S.an rfl ?_
          refine S.jp (⟨[(9, .ptr 1009 0), (11, .str a_58.1), (12, .int .i64 a_58.2), (65, .bool (decide (a_58.2 = 22)))], [(1009, ⟨25, [.int .i64 a_52.1.gKind, .str a_52.1.gText, .sl 25 4 (T_api_Json.encs a_52.1.gList), .sl 9 1 (a_52.1.gKeys.map eS)]⟩)], [], none⟩) (fun _ => rfl) ?_
          refine S.cb ?_ ?_
          · refine S.k [] [] [] (C.json_Check fuel a_52.1) rfl trivial trivial rfl fun a_62 => ?_
            refine S.an rfl ?_
            exact S.z ⟨rfl, trivial, trivial, rfl⟩
          · refine S.k [] [] [] (C.json_Parse fuel a_58.1) rfl trivial trivial rfl fun a_64 => ?_
            refine S.an rfl ?_
            refine S.jp (⟨[(9, .ptr 1009 0), (12, .int .i64 a_58.2), (13, .ptr 1013 0), (14, .int .i64 a_64.2)], [(1009, ⟨25, [.int .i64 a_52.1.gKind, .str a_52.1.gText, .sl 25 4 (T_api_Json.encs a_52.1.gList), .sl 9 1 (a_52.1.gKeys.map eS)]⟩), (1013, ⟨25, [.int .i64 a_64.1.gKind, .str a_64.1.gText, .sl 25 4 (T_api_Json.encs a_64.1.gList), .sl 9 1 (a_64.1.gKeys.map eS)]⟩)], [], none⟩) (fun _ => rfl) ?_
            refine S.jb (v := ((decide (a_58.2 = 0)) && (decide (a_64.2 = 0)))) (fun x_66 => ⟨[(9, .ptr 1009 0), (13, .ptr 1013 0), (79, .bool x_66)], [(1009, ⟨25, [.int .i64 a_52.1.gKind, .str a_52.1.gText, .sl 25 4 (T_api_Json.encs a_52.1.gList), .sl 9 1 (a_52.1.gKeys.map eS)]⟩), (1013, ⟨25, [.int .i64 a_64.1.gKind, .str a_64.1.gText, .sl 25 4 (T_api_Json.encs a_64.1.gList), .sl 9 1 (a_64.1.gKeys.map eS)]⟩)], [], none⟩) (fun r => ?_) ?_
            · refine cnd (fun h_67 => ?_) (fun h_67 => ?_)
              · exact jbI rfl (and_t h_67 rfl)
              · exact jbI rfl (and_f h_67)
            · refine S.j (fun j_71 => ⟨[(84, .bool j_71)], [], [], none⟩) (fun r => ?_) fun j_71 => ?_
              · refine S.cb ?_ ?_
                · refine S.k [] [] [] (C.r02_Same fuel a_52.1 a_64.1) rfl trivial trivial rfl fun a_72 => ?_
                  refine S.an rfl ?_
                  exact S.z rfl
                · exact S.z rfl
              · exact S.z ⟨rfl, trivial, trivial, rfl⟩
set_option maxRecDepth 1000000 in
set_option maxHeartbeats 4000000 in
theorem C.l02_JsonBack (fuel : Nat) (p0 : T_api_Json) (p1 : List UInt8) : S (M.l02_JsonBack fuel p0 p1) fun r => Con Tryz.prog GG 6 (I.l02_JsonBack p0 p1) (O.l02_JsonBack r) := by
  intro r hm; exact Con.of TBok (fun _ _ => rfl) Tryz.func6 rfl rfl (res := [.tmp 4]) rfl (by kernel_rfl) rfl rfl rfl (L.l02_JsonBack fuel p0 p1 r hm)
def A.l02_JsonSafe : Ann := { seq := [(11, { L := [1, 3], B := [], A := [] })], loop := [(7, { L := [1, 3, 5], B := [], A := [] })], reg := [(1, [(7, 0, { L := [1, 3, 4], B := [], A := [] })]), (11, [(13, 0, { L := [1, 6, 7], B := [1006], A := [] })])], drw := [(12, { anc := [0, 1, 3, 7, 15, 31, 63, 127, 255, 511, 1023, 2047, 255, 8191, 16383, 32767, 65535, 131071, 262143, 524287, 65535, 2097151, 4194303, 8388607, 16777215], E := [13, 21], qs := [0, 1, 2, 3, 4, 5, 6, 7, 8, 9, 10, 11, 12], g := .one 13 [] [14, 15, 16, 17, 18, 19, 20] (.one 21 [] [22, 23, 24] (.fin)) })], ro := [1] }
@[reducible] def I.l02_JsonSafe (p0 : T_api_Json) : CIn := ⟨[.agg [.int .i64 p0.gKind, .str p0.gText, .sl 25 4 (T_api_Json.encs p0.gList), .sl 9 1 (p0.gKeys.map eS)]], [], []⟩
@[reducible] def O.l02_JsonSafe : Bool → COut
  | r => .ok [.bool r] [] []
set_option maxRecDepth 1000000 in
set_option maxHeartbeats 4000000 in
theorem L.l02_JsonSafe (fuel : Nat) (p0 : T_api_Json) : S (M.l02_JsonSafe fuel p0) fun r => ex TB CT A.l02_JsonSafe (Con Tryz.prog GG) (bodyOf Tryz.f7) (entry (I.l02_JsonSafe p0)) (fin TB A.l02_JsonSafe [.tmp 2] (O.l02_JsonSafe r)) := by
  unfold M.l02_JsonSafe
  refine S.k [] [] [] (C.json_Print fuel p0) rfl trivial trivial rfl fun a_1 => ?_
  refine S.an rfl ?_
  refine S.jp (⟨[(1, .cptr [.int .i64 p0.gKind, .str p0.gText, .sl 25 4 (T_api_Json.encs p0.gList), .sl 9 1 (p0.gKeys.map eS)] 0), (3, .str a_1.1), (4, .int .i64 a_1.2)], [], [], none⟩) (fun _ => rfl) ?_
  refine S.k [] [] [] (C.l02_awake fuel) rfl trivial trivial rfl fun a_5 => ?_
  refine S.an rfl ?_
  refine S.cb ?_ ?_
  · exact S.z ⟨rfl, trivial, trivial, rfl⟩
  · refine S.cb ?_ ?_
    · exact S.z ⟨rfl, trivial, trivial, rfl⟩
    · refine S.jn (fun _ => ⟨[(1, .cptr [.int .i64 p0.gKind, .str p0.gText, .sl 25 4 (T_api_Json.encs p0.gList), .sl 9 1 (p0.gKeys.map eS)] 0), (3, .str a_1.1)], [], [], none⟩) ?_ (fun _ => rfl) fun j_11 => ?_
      · refine S.lw (L := M.l02_JsonSafe_k1 a_1) (fun x_13 => ⟨[(1, .cptr [.int .i64 p0.gKind, .str p0.gText, .sl 25 4 (T_api_Json.encs p0.gList), .sl 9 1 (p0.gKeys.map eS)] 0), (3, .str a_1.1), (5, .int .i64 x_13)], [], [], none⟩) (M.l02_JsonSafe_k1.partial_correctness a_1) rfl fun f_l02_JsonSafe_k1 I_l02_JsonSafe_k1 ih_l02_JsonSafe_k1 x_13 => ?_
        refine S.cb ?_ ?_
        · refine S.e fun c_15 => ?_
          refine S.cb ?_ ?_
          · exact S.z ⟨rfl, trivial, trivial, rfl⟩
          · exact ih_l02_JsonSafe_k1 _
        · exact S.z rfl
      · refine S.e fun s_16 => ?_
        refine S.e fun s_17 => ?_
        refine S.e fun s_18 => ?_
        refine S.e fun s_19 => ?_
        refine S.k [] [] [] (C.json_Parse fuel s_19) rfl trivial trivial rfl fun a_20 => ?_
        refine S.an rfl ?_
        refine S.jp (⟨[(1, .cptr [.int .i64 p0.gKind, .str p0.gText, .sl 25 4 (T_api_Json.encs p0.gList), .sl 9 1 (p0.gKeys.map eS)] 0), (6, .ptr 1006 0), (7, .int .i64 a_20.2)], [(1006, ⟨25, [.int .i64 a_20.1.gKind, .str a_20.1.gText, .sl 25 4 (T_api_Json.encs a_20.1.gList), .sl 9 1 (a_20.1.gKeys.map eS)]⟩)], [], none⟩) (fun _ => rfl) ?_
        refine S.cb ?_ ?_
        · refine S.an trivial ?_
          refine S.an trivial ?_
          refine S.an trivial ?_
          exact S.z ⟨rfl, trivial, trivial, rfl⟩
        · refine S.eq (lenD_E T_api_Json.encs_eq) ?_
          refine S.cb ?_ ?_
          · refine S.ixE T_api_Json.encs_eq rfl T_api_Json.enc_c fun x_22 => ?_
            refine S.an trivial ?_
            refine S.k [] [] [] (C.r02_Same fuel x_22 p0) rfl trivial trivial rfl fun a_23 => ?_
            refine S.an rfl ?_
            refine S.cb ?_ ?_
            · refine S.ixE T_api_Json.encs_eq rfl T_api_Json.enc_c fun x_25 => ?_
              refine S.an trivial ?_
              refine S.k [] [] [] (C.r02_Same fuel x_25 p0) rfl trivial trivial rfl fun a_26 => ?_
              refine S.an rfl ?_
              refine S.an trivial ?_
              exact S.z ⟨rfl, trivial, trivial, rfl⟩
            · refine S.an trivial ?_
              refine S.an trivial ?_
              exact S.z ⟨rfl, trivial, trivial, rfl⟩
          · refine S.an trivial ?_
            refine S.an trivial ?_
            refine S.an trivial ?_
            exact S.z ⟨rfl, trivial, trivial, rfl⟩
set_option maxRecDepth 1000000 in
set_option maxHeartbeats 4000000 in
theorem C.l02_JsonSafe (fuel : Nat) (p0 : T_api_Json) : S (M.l02_JsonSafe fuel p0) fun r => Con Tryz.prog GG 7 (I.l02_JsonSafe p0) (O.l02_JsonSafe r) := by
  intro r hm; exact Con.of TBok (fun _ _ => rfl) Tryz.func7 rfl rfl (res := [.tmp 2]) rfl (by kernel_rfl) rfl rfl rfl (L.l02_JsonSafe fuel p0 r hm)
def A.l02_JsonBlanks : Ann := { seq := [(10, { L := [0, 2, 7], B := [], A := [] }), (14, { L := [0, 7], B := [], A := [] })], loop := [(7, { L := [0, 1, 2, 7, 8], B := [], A := [] }), (11, { L := [0, 2, 7, 9], B := [], A := [] })], reg := [(3, [(3, 3, { L := [0, 1, 2, 21], B := [], A := [] }), (1, 3, { L := [0, 1, 2, 25], B := [], A := [] }), (1, 3, { L := [0, 1, 2, 29], B := [], A := [] }), (1, 4, { L := [0, 1, 2, 34], B := [], A := [] })]), (14, [(8, 0, { L := [7, 10, 11], B := [1010], A := [] })]), (15, [(8, 0, { L := [10, 11, 12, 13], B := [1010, 1012], A := [] })]), (16, [(4, 4, { L := [79], B := [], A := [] })])] }
@[reducible] def I.l02_JsonBlanks (p0 : List UInt8) (p1 : Int) (p2 : Int) : CIn := ⟨[.str p0, .int .i64 p1, .int .i64 p2], [], []⟩
@[reducible] def O.l02_JsonBlanks : Bool → COut
  | r => .ok [.bool r] [] []
set_option maxRecDepth 1000000 in
set_option maxHeartbeats 4000000 in
theorem L.l02_JsonBlanks (fuel : Nat) (p0 : List UInt8) (p1 : Int) (p2 : Int) : S (M.l02_JsonBlanks fuel p0 p1 p2) fun r => ex TB CT A.l02_JsonBlanks (Con Tryz.prog GG) (bodyOf Tryz.f8) (entry (I.l02_JsonBlanks p0 p1 p2)) (fin TB A.l02_JsonBlanks [.tmp 6] (O.l02_JsonBlanks r)) := by
  unfold M.l02_JsonBlanks
  refine S.k [] [] [] (C.l02_awake fuel) rfl trivial trivial rfl fun a_3 => ?_
  refine S.an rfl ?_
  refine S.cb ?_ ?_
  · exact S.z ⟨rfl, trivial, trivial, rfl⟩
  · refine S.jb (v := ((decide (p1 < 0)) || (decide (p2 < 0)))) (fun x_13 => ⟨[(0, .str p0), (1, .int .i64 p1), (2, .int .i64 p2), (21, .bool x_13)], [], [], none⟩) (fun r => ?_) ?_
    · refine cnd (fun h_14 => ?_) (fun h_14 => ?_)
      · exact jbI rfl (or_t h_14)
      · exact jbI rfl (or_f h_14 rfl)
    · refine S.jb (v := (((decide (p1 < 0)) || (decide (p2 < 0))) || (decide (100 < p1)))) (fun x_15 => ⟨[(0, .str p0), (1, .int .i64 p1), (2, .int .i64 p2), (25, .bool x_15)], [], [], none⟩) (fun r => ?_) ?_
      · refine cnd (fun h_16 => ?_) (fun h_16 => ?_)
        · exact jbI rfl (or_t h_16)
        · exact jbI rfl (or_f h_16 rfl)
      · refine S.jb (v := ((((decide (p1 < 0)) || (decide (p2 < 0))) || (decide (100 < p1))) || (decide (100 < p2)))) (fun x_17 => ⟨[(0, .str p0), (1, .int .i64 p1), (2, .int .i64 p2), (29, .bool x_17)], [], [], none⟩) (fun r => ?_) ?_
        · refine cnd (fun h_18 => ?_) (fun h_18 => ?_)
          · exact jbI rfl (or_t h_18)
          · exact jbI rfl (or_f h_18 rfl)
        · refine S.jb (v := (((((decide (p1 < 0)) || (decide (p2 < 0))) || (decide (100 < p1))) || (decide (100 < p2))) || (decide (16000 < (p0.length : Int))))) (fun x_19 => ⟨[(0, .str p0), (1, .int .i64 p1), (2, .int .i64 p2), (34, .bool x_19)], [], [], none⟩) (fun r => ?_) ?_
          · refine cnd (fun h_20 => ?_) (fun h_20 => ?_)
            · exact jbI rfl (or_t h_20)
            · exact jbI rfl (or_f h_20 rfl)
          · refine S.cb ?_ ?_
            · exact S.z ⟨rfl, trivial, trivial, rfl⟩
            · refine S.j (fun j_30 => ⟨[(0, .str p0), (2, .int .i64 p2), (7, .str j_30)], [], [], none⟩) (fun r => ?_) fun j_30 => ?_
              · refine S.lw2 (L := M.l02_JsonBlanks_k1 p1) (fun x_33 x_34 => ⟨[(0, .str p0), (1, .int .i64 p1), (2, .int .i64 p2), (7, .str x_33), (8, .int .i64 x_34)], [], [], none⟩) (M.l02_JsonBlanks_k1.partial_correctness p1) rfl fun f_l02_JsonBlanks_k1 I_l02_JsonBlanks_k1 ih_l02_JsonBlanks_k1 x_33 x_34 => ?_
                refine S.cb ?_ ?_
                · refine S.eq (by decide : chk _ = some ()) ?_
                  refine S.eq (by decide : chk _ = some ()) ?_
                  refine S.e fun s_37 => ?_
                  refine S.e fun s_38 => ?_
                  exact ih_l02_JsonBlanks_k1 _ _
                · exact S.z rfl
              · refine S.j (fun j_48 => ⟨[(0, .str p0), (7, .str j_48)], [], [], none⟩) (fun r => ?_) fun j_48 => ?_
                · refine S.lw2 (L := M.l02_JsonBlanks_k2 p2) (fun x_51 x_52 => ⟨[(0, .str p0), (2, .int .i64 p2), (7, .str x_51), (9, .int .i64 x_52)], [], [], none⟩) (M.l02_JsonBlanks_k2.partial_correctness p2) rfl fun f_l02_JsonBlanks_k2 I_l02_JsonBlanks_k2 ih_l02_JsonBlanks_k2 x_51 x_52 => ?_
                  refine S.cb ?_ ?_
                  · refine S.eq (by decide : chk _ = some ()) ?_
                    refine S.eq (by decide : chk _ = some ()) ?_
                    refine S.e fun s_55 => ?_
                    refine S.e fun s_56 => ?_
                    exact ih_l02_JsonBlanks_k2 _ _
                  · exact S.z rfl
                · refine S.k [] [] [] (C.json_Parse fuel p0) rfl trivial trivial rfl fun a_57 => ?_
                  refine S.an rfl ?_
                  refine S.jp (⟨[(7, .str j_48), (10, .ptr 1010 0), (11, .int .i64 a_57.2)], [(1010, ⟨25, [.int .i64 a_57.1.gKind, .str a_57.1.gText, .sl 25 4 (T_api_Json.encs a_57.1.gList), .sl 9 1 (a_57.1.gKeys.map eS)]⟩)], [], none⟩) (fun _ => rfl) ?_
                  refine S.k [] [] [] (C.json_Parse fuel j_48) rfl trivial trivial rfl fun a_59 => ?_
                  refine S.an rfl ?_
                  refine S.jp (⟨[(10, .ptr 1010 0), (11, .int .i64 a_57.2), (12, .ptr 1012 0), (13, .int .i64 a_59.2)], [(1010, ⟨25, [.int .i64 a_57.1.gKind, .str a_57.1.gText, .sl 25 4 (T_api_Json.encs a_57.1.gList), .sl 9 1 (a_57.1.gKeys.map eS)]⟩), (1012, ⟨25, [.int .i64 a_59.1.gKind, .str a_59.1.gText, .sl 25 4 (T_api_Json.encs a_59.1.gList), .sl 9 1 (a_59.1.gKeys.map eS)]⟩)], [], none⟩) (fun _ => rfl) ?_
                  refine S.j (fun j_64 => ⟨[(79, .bool j_64)], [], [], none⟩) (fun r => ?_) fun j_64 => ?_
                  · refine S.cb ?_ ?_
                    · refine S.k [] [] [] (C.r02_Same fuel a_57.1 a_59.1) rfl trivial trivial rfl fun a_65 => ?_
                      refine S.an rfl ?_
                      exact S.z rfl
                    · exact S.z rfl
                  · exact S.z ⟨rfl, trivial, trivial, rfl⟩
set_option maxRecDepth 1000000 in
set_option maxHeartbeats 4000000 in
theorem C.l02_JsonBlanks (fuel : Nat) (p0 : List UInt8) (p1 : Int) (p2 : Int) : S (M.l02_JsonBlanks fuel p0 p1 p2) fun r => Con Tryz.prog GG 8 (I.l02_JsonBlanks p0 p1 p2) (O.l02_JsonBlanks r) := by
  intro r hm; exact Con.of TBok (fun _ _ => rfl) Tryz.func8 rfl rfl (res := [.tmp 6]) rfl (by kernel_rfl) rfl rfl rfl (L.l02_JsonBlanks fuel p0 p1 p2 r hm)
end Go.Proofs.YtcfkkgpnggdlnaaGreatDoor
