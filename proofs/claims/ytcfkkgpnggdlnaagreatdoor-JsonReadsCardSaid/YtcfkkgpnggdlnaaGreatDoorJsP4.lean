/- JsP4: what a program of ours printed of the program's functions. -/
import Derived.Test.YtcfkkgpnggdlnaaGreatDoorJsP3
set_option linter.all false
namespace Go.Proofs.YtcfkkgpnggdlnaaGreatDoor
open Go.Lk Go.Pe Go.Sen Go.RowKit
def A.r02_Int : Ann := { seq := [(6, { L := [4, 5], B := [], A := [] }), (13, { L := [4, 5, 6], B := [], A := [] })], loop := [(8, { L := [4, 5, 6, 7], B := [], A := [] })], reg := [(4, [(3, 4, { L := [4, 5, 19], B := [], A := [] })]), (10, [(6, 3, { L := [4, 5, 6, 7, 36], B := [], A := [] })]), (13, [(3, 13, { L := [6, 62], B := [], A := [] })])], ro := [1] }
@[reducible] def I.r02_Int (p0 : T_api_Json) : CIn := ⟨[.agg [.int .i64 p0.gKind, .str p0.gText, .sl 25 4 (T_api_Json.encs p0.gList), .sl 9 1 (p0.gKeys.map eS)]], [], []⟩
@[reducible] def O.r02_Int : Int × Bool → COut
  | r => .ok [.int .i64 r.1, .bool r.2] [] []
set_option maxRecDepth 1000000 in
set_option maxHeartbeats 4000000 in
theorem L.r02_Int (p0 : T_api_Json) : S (M.r02_Int p0) fun r => ex TB CT A.r02_Int (Con Tryz.prog GG) (bodyOf Tryz.f18) (entry (I.r02_Int p0)) (fin TB A.r02_Int [.tmp 2, .tmp 3] (O.r02_Int r)) := by
  unfold M.r02_Int
  refine S.cb ?_ ?_
  · exact S.z ⟨rfl, trivial, trivial, rfl⟩
  · refine S.j (fun j_13 => ⟨[(4, .str j_13.1), (5, .int .i64 j_13.2)], [], [], none⟩) (fun r => ?_) fun j_13 => ?_
    · refine S.j (fun j_16 => ⟨[(4, .str p0.gText), (5, .int .i64 1), (19, .bool j_16)], [], [], none⟩) (fun r => ?_) fun j_16 => ?_
      · refine S.cb ?_ ?_
        · refine S.e fun c_17 => ?_
          exact S.z rfl
        · exact S.z rfl
      · refine S.cb ?_ ?_
        · refine S.e fun s_18 => ?_
          exact S.z rfl
        · exact S.z rfl
    · refine S.jn (fun j_55 => ⟨[(4, .str j_13.1), (5, .int .i64 j_13.2), (6, .int .i64 j_55)], [], [], none⟩) ?_ (fun _ => rfl) fun j_55 => ?_
      · refine S.lw2 (L := M.r02_Int_k1 j_13) (fun x_67 x_68 => ⟨[(4, .str j_13.1), (5, .int .i64 j_13.2), (6, .int .i64 x_67), (7, .int .i64 x_68)], [], [], none⟩) (M.r02_Int_k1.partial_correctness j_13) rfl fun f_r02_Int_k1 I_r02_Int_k1 ih_r02_Int_k1 x_67 x_68 => ?_
        refine S.cb ?_ ?_
        · refine S.e fun c_85 => ?_
          refine S.k [] [] [] (C.r02_digit (c_85.toNat : Int)) rfl trivial trivial rfl fun a_86 => ?_
          refine S.an rfl ?_
          refine S.jb (v := ((!a_86) || (decide (15 ≤ x_68)))) (fun x_88 => ⟨[(4, .str j_13.1), (5, .int .i64 j_13.2), (6, .int .i64 x_67), (7, .int .i64 x_68), (36, .bool x_88)], [], [], none⟩) (fun r => ?_) ?_
          · refine cnd (fun h_89 => ?_) (fun h_89 => ?_)
            · exact jbI rfl (or_t h_89)
            · exact jbI rfl (or_f h_89 rfl)
          · refine S.cb ?_ ?_
            · exact S.z ⟨rfl, trivial, trivial, rfl⟩
            · refine S.e fun c_90 => ?_
              exact ih_r02_Int_k1 _ _
        · exact S.z rfl
      · refine S.j (fun j_93 => ⟨[(6, .int .i64 j_55), (62, .bool j_93)], [], [], none⟩) (fun r => ?_) fun j_93 => ?_
        · refine S.cb ?_ ?_
          · exact S.z rfl
          · refine S.e fun c_94 => ?_
            refine S.cb ?_ ?_
            · refine S.cb ?_ ?_
              · exact S.z rfl
              · exact S.z rfl
            · exact S.z rfl
        · refine S.cb ?_ ?_
          · exact S.z ⟨rfl, trivial, trivial, rfl⟩
          · exact S.z ⟨rfl, trivial, trivial, rfl⟩
set_option maxRecDepth 1000000 in
set_option maxHeartbeats 4000000 in
theorem C.r02_Int (p0 : T_api_Json) : S (M.r02_Int p0) fun r => Con Tryz.prog GG 18 (I.r02_Int p0) (O.r02_Int r) := by
  intro r hm; exact Con.of TBG (fun _ _ => rfl) Tryz.func18 rfl rfl (res := [.tmp 2, .tmp 3]) rfl (by kernel_rfl) rfl rfl rfl (L.r02_Int p0 r hm)
def A.r02_Texts : Ann := { seq := [(10, { L := [4], B := [], A := [3003], H := [(.slot 4 none, 3003, 9, 1)] })], loop := [(5, { L := [1, 4, 5], B := [], A := [3005], H := [(.slot 4 none, 3005, 9, 1)] })], reg := [(9, [(10, 0, { L := [1, 4, 5], B := [], A := [100451], H := [(.slot 4 none, 100451, 9, 1)] })])], own := [9], ro := [1] }
@[reducible] def I.r02_Texts (p0 : T_api_Json) : CIn := ⟨[.agg [.int .i64 p0.gKind, .str p0.gText, .sl 25 4 (T_api_Json.encs p0.gList), .sl 9 1 (p0.gKeys.map eS)]], [], []⟩
@[reducible] def O.r02_Texts : (List (List UInt8)) × Bool → COut
  | r => .ok [.sl 9 1 (r.1.map eS), .bool r.2] [] []
set_option maxRecDepth 1000000 in
set_option maxHeartbeats 4000000 in
theorem L.r02_Texts (p0 : T_api_Json) : S (M.r02_Texts p0) fun r => ex TB CT A.r02_Texts (Con Tryz.prog GG) (bodyOf Tryz.f20) (entry (I.r02_Texts p0)) (fin TB A.r02_Texts [.tmp 2, .tmp 3] (O.r02_Texts r)) := by
  unfold M.r02_Texts
  refine S.cb ?_ ?_
  · exact S.z ⟨rfl, trivial, trivial, rfl⟩
  · refine S.jn (fun j_16 => ⟨[(4, .ref 3003)], [], [(3003, ⟨true, 9, 1, (j_16.map eS)⟩)], none⟩) ?_ (fun _ => rfl) fun j_16 => ?_
    · refine S.lw2 (L := M.r02_Texts_k1 p0) (fun x_21 x_22 => ⟨[(1, .cptr [.int .i64 p0.gKind, .str p0.gText, .sl 25 4 (T_api_Json.encs p0.gList), .sl 9 1 (p0.gKeys.map eS)] 0), (4, .ref 3005), (5, .int .i64 x_22)], [], [(3005, ⟨true, 9, 1, (x_21.map eS)⟩)], none⟩) (M.r02_Texts_k1.partial_correctness p0) rfl fun f_r02_Texts_k1 I_r02_Texts_k1 ih_r02_Texts_k1 x_21 x_22 => ?_
      refine S.eq (lenD_E T_api_Json.encs_eq) ?_
      refine S.cb ?_ ?_
      · refine S.ixE T_api_Json.encs_eq rfl T_api_Json.enc_c fun x_28 => ?_
        refine S.cb ?_ ?_
        · exact S.z ⟨rfl, trivial, trivial, rfl⟩
        · refine S.ixE T_api_Json.encs_eq rfl T_api_Json.enc_c fun x_29 => ?_
          refine S.appE (f := eS) (E := (fun l => l.map eS)) (xs := x_21) (ys := [x_29.gText]) (fun _ => rfl) rfl rfl fun l_30 => ?_
          refine S.jp (⟨[(1, .cptr [.int .i64 p0.gKind, .str p0.gText, .sl 25 4 (T_api_Json.encs p0.gList), .sl 9 1 (p0.gKeys.map eS)] 0), (4, .ref 100451), (5, .int .i64 x_22)], [], [(100451, ⟨true, 9, 1, (l_30.map eS)⟩)], none⟩) (fun _ => rfl) ?_
          exact ih_r02_Texts_k1 _ _
      · exact S.z rfl
    · exact S.z ⟨rfl, trivial, trivial, rfl⟩
set_option maxRecDepth 1000000 in
set_option maxHeartbeats 4000000 in
theorem C.r02_Texts (p0 : T_api_Json) : S (M.r02_Texts p0) fun r => Con Tryz.prog GG 20 (I.r02_Texts p0) (O.r02_Texts r) := by
  intro r hm; exact Con.of TBG (fun _ _ => rfl) Tryz.func20 rfl rfl (res := [.tmp 2, .tmp 3]) rfl (by kernel_rfl) rfl rfl rfl (L.r02_Texts p0 r hm)
def A.r02_Same : Ann := { seq := [(8, { L := [2, 3], B := [], A := [] }), (13, { L := [], B := [], A := [] })], loop := [(4, { L := [2, 3, 5], B := [], A := [] }), (9, { L := [2, 3, 6], B := [], A := [] })], reg := [(1, [(6, 6, { L := [2, 3, 18], B := [], A := [] }), (1, 8, { L := [2, 3, 27], B := [], A := [] }), (1, 8, { L := [2, 3, 36], B := [], A := [] })]), (10, [(3, 0, { L := [2, 3, 6], B := [], A := [] })]), (12, [(1, 0, { L := [4], B := [], A := [] })])], drw := [(6, { anc := [0, 1, 0, 7, 15, 0, 32, 0, 224, 480, 1023], E := [], qs := [0, 1, 2, 3, 4, 5, 6, 7, 8, 9, 10], g := .fin }), (11, { anc := [0, 1, 0, 7, 15, 0, 32, 0, 224, 480, 1023, 2047], E := [10], qs := [0, 1, 2, 3, 4, 5, 6, 7, 8, 9], g := .one 10 [] [11] (.fin) })], ro := [2, 3] }
@[reducible] def I.r02_Same (p0 : T_api_Json) (p1 : T_api_Json) : CIn := ⟨[.agg [.int .i64 p0.gKind, .str p0.gText, .sl 25 4 (T_api_Json.encs p0.gList), .sl 9 1 (p0.gKeys.map eS)], .agg [.int .i64 p1.gKind, .str p1.gText, .sl 25 4 (T_api_Json.encs p1.gList), .sl 9 1 (p1.gKeys.map eS)]], [], []⟩
@[reducible] def O.r02_Same : Bool → COut
  | r => .ok [.bool r] [] []
set_option maxRecDepth 1000000 in
set_option maxHeartbeats 4000000 in
theorem L.r02_Same (fuel : Nat) (ih_r02_Same : ∀ (p0 : T_api_Json) (p1 : T_api_Json), S (M.r02_Same fuel p0 p1) fun r => Con Tryz.prog GG 21 (I.r02_Same p0 p1) (O.r02_Same r)) (p0 : T_api_Json) (p1 : T_api_Json) : S (M.r02_Same (fuel + 1) p0 p1) fun r => ex TB CT A.r02_Same (Con Tryz.prog GG) (bodyOf Tryz.f21) (entry (I.r02_Same p0 p1)) (fin TB A.r02_Same [.tmp 4] (O.r02_Same r)) := by
  unfold M.r02_Same
  refine S.jb (v := ((!decide (p0.gKind = p1.gKind)) || (!decide (p0.gText = p1.gText)))) (fun x_7 => ⟨[(2, .cptr [.int .i64 p0.gKind, .str p0.gText, .sl 25 4 (T_api_Json.encs p0.gList), .sl 9 1 (p0.gKeys.map eS)] 0), (3, .cptr [.int .i64 p1.gKind, .str p1.gText, .sl 25 4 (T_api_Json.encs p1.gList), .sl 9 1 (p1.gKeys.map eS)] 0), (18, .bool x_7)], [], [], none⟩) (fun r => ?_) ?_
  · refine cnd (fun h_8 => ?_) (fun h_8 => ?_)
    · exact jbI rfl (or_t h_8)
    · exact jbI rfl (or_f h_8 rfl)
  · refine S.jb (v := (((!decide (p0.gKind = p1.gKind)) || (!decide (p0.gText = p1.gText))) || (!decide ((p0.gList.length : Int) = (p1.gList.length : Int))))) (fun x_9 => ⟨[(2, .cptr [.int .i64 p0.gKind, .str p0.gText, .sl 25 4 (T_api_Json.encs p0.gList), .sl 9 1 (p0.gKeys.map eS)] 0), (3, .cptr [.int .i64 p1.gKind, .str p1.gText, .sl 25 4 (T_api_Json.encs p1.gList), .sl 9 1 (p1.gKeys.map eS)] 0), (27, .bool x_9)], [], [], none⟩) (fun r => ?_) ?_
    · refine cnd (fun h_10 => ?_) (fun h_10 => ?_)
      · exact jbI rfl (or_t h_10)
      · refine Ex.i (lenD_E T_api_Json.encs_eq) ?_
        refine Ex.i (lenD_E T_api_Json.encs_eq) ?_
        exact jbI rfl (or_f h_10 rfl)
    · refine S.jb (v := ((((!decide (p0.gKind = p1.gKind)) || (!decide (p0.gText = p1.gText))) || (!decide ((p0.gList.length : Int) = (p1.gList.length : Int)))) || (!decide ((p0.gKeys.length : Int) = (p1.gKeys.length : Int))))) (fun x_11 => ⟨[(2, .cptr [.int .i64 p0.gKind, .str p0.gText, .sl 25 4 (T_api_Json.encs p0.gList), .sl 9 1 (p0.gKeys.map eS)] 0), (3, .cptr [.int .i64 p1.gKind, .str p1.gText, .sl 25 4 (T_api_Json.encs p1.gList), .sl 9 1 (p1.gKeys.map eS)] 0), (36, .bool x_11)], [], [], none⟩) (fun r => ?_) ?_
      · refine cnd (fun h_12 => ?_) (fun h_12 => ?_)
        · exact jbI rfl (or_t h_12)
        · refine Ex.i lenD_map ?_
          refine Ex.i lenD_map ?_
          exact jbI rfl (or_f h_12 rfl)
      · refine S.cb ?_ ?_
        · exact S.z ⟨rfl, trivial, trivial, rfl⟩
        · refine S.jn (fun _ => ⟨[(2, .cptr [.int .i64 p0.gKind, .str p0.gText, .sl 25 4 (T_api_Json.encs p0.gList), .sl 9 1 (p0.gKeys.map eS)] 0), (3, .cptr [.int .i64 p1.gKind, .str p1.gText, .sl 25 4 (T_api_Json.encs p1.gList), .sl 9 1 (p1.gKeys.map eS)] 0)], [], [], none⟩) ?_ (fun _ => rfl) fun j_20 => ?_
          · refine S.lw (L := M.r02_Same_k1 p0 p1) (fun x_23 => ⟨[(2, .cptr [.int .i64 p0.gKind, .str p0.gText, .sl 25 4 (T_api_Json.encs p0.gList), .sl 9 1 (p0.gKeys.map eS)] 0), (3, .cptr [.int .i64 p1.gKind, .str p1.gText, .sl 25 4 (T_api_Json.encs p1.gList), .sl 9 1 (p1.gKeys.map eS)] 0), (5, .int .i64 x_23)], [], [], none⟩) (M.r02_Same_k1.partial_correctness p0 p1) rfl fun f_r02_Same_k1 I_r02_Same_k1 ih_r02_Same_k1 x_23 => ?_
            refine S.eq lenD_map ?_
            refine S.cb ?_ ?_
            · refine S.ixE (f := eS) (c := fun x => [D.str x]) (fun _ => rfl) rfl (fun _ => rfl) fun x_26 => ?_
              refine S.ixE (f := eS) (c := fun x => [D.str x]) (fun _ => rfl) rfl (fun _ => rfl) fun x_27 => ?_
              refine S.an trivial ?_
              refine S.cb ?_ ?_
              · exact S.z ⟨rfl, trivial, trivial, rfl⟩
              · exact ih_r02_Same_k1 _
            · exact S.z rfl
          · refine S.jn (fun _ => ⟨[], [], [], none⟩) ?_ (fun _ => rfl) fun j_41 => ?_
            · refine S.lw (L := M.r02_Same_k2 p0 p1 (M.r02_Same fuel)) (fun x_46 => ⟨[(2, .cptr [.int .i64 p0.gKind, .str p0.gText, .sl 25 4 (T_api_Json.encs p0.gList), .sl 9 1 (p0.gKeys.map eS)] 0), (3, .cptr [.int .i64 p1.gKind, .str p1.gText, .sl 25 4 (T_api_Json.encs p1.gList), .sl 9 1 (p1.gKeys.map eS)] 0), (6, .int .i64 x_46)], [], [], none⟩) (M.r02_Same_k2.partial_correctness p0 p1 (M.r02_Same fuel)) rfl fun f_r02_Same_k2 I_r02_Same_k2 ih_r02_Same_k2 x_46 => ?_
              refine S.eq (lenD_E T_api_Json.encs_eq) ?_
              refine S.cb ?_ ?_
              · refine S.ixE T_api_Json.encs_eq rfl T_api_Json.enc_c fun x_51 => ?_
                refine S.ixE T_api_Json.encs_eq rfl T_api_Json.enc_c fun x_52 => ?_
                refine S.an trivial ?_
                refine S.k [] [] [] (ih_r02_Same x_51 x_52) rfl trivial trivial rfl fun a_53 => ?_
                refine S.an rfl ?_
                refine S.an trivial ?_
                refine S.cb ?_ ?_
                · refine S.jp (⟨[(4, .bool false)], [], [], none⟩) (fun _ => rfl) ?_
                  exact S.z ⟨rfl, trivial, trivial, rfl⟩
                · refine S.jp (⟨[(2, .cptr [.int .i64 p0.gKind, .str p0.gText, .sl 25 4 (T_api_Json.encs p0.gList), .sl 9 1 (p0.gKeys.map eS)] 0), (3, .cptr [.int .i64 p1.gKind, .str p1.gText, .sl 25 4 (T_api_Json.encs p1.gList), .sl 9 1 (p1.gKeys.map eS)] 0), (6, .int .i64 (IntKind.wrap .i64 (x_46 + 1)))], [], [], none⟩) (fun _ => rfl) ?_
                  exact ih_r02_Same_k2 _
              · exact S.z rfl
            · exact S.z ⟨rfl, trivial, trivial, rfl⟩
set_option maxRecDepth 1000000 in
set_option maxHeartbeats 4000000 in
theorem C.r02_Same_all (fuel : Nat) : (∀ (p0 : T_api_Json) (p1 : T_api_Json), S (M.r02_Same fuel p0 p1) fun r => Con Tryz.prog GG 21 (I.r02_Same p0 p1) (O.r02_Same r)) := by
  induction fuel with
  | zero => exact (by intros; intro r hm; cases hm)
  | succ fuel ih =>
    · intro p0 p1; intro r hm; exact Con.of TBG (fun _ _ => rfl) Tryz.func21 rfl rfl (res := [.tmp 4]) rfl (by kernel_rfl) rfl rfl rfl (L.r02_Same fuel ih p0 p1 r hm)
theorem C.r02_Same (fuel : Nat) (p0 : T_api_Json) (p1 : T_api_Json) : S (M.r02_Same fuel p0 p1) fun r => Con Tryz.prog GG 21 (I.r02_Same p0 p1) (O.r02_Same r) := (C.r02_Same_all fuel) p0 p1
def A.r02_SameTexts : Ann := { seq := [(8, { L := [], B := [], A := [] })], loop := [(4, { L := [0, 1, 5], B := [], A := [] })], drw := [(6, { anc := [0, 0, 3, 7, 0, 0, 48, 112, 255], E := [], qs := [0, 1, 2, 3, 4, 5, 6, 7, 8], g := .fin })] }
@[reducible] def I.r02_SameTexts (p0 : List (List UInt8)) (p1 : List (List UInt8)) : CIn := ⟨[.sl 9 1 (p0.map eS), .sl 9 1 (p1.map eS)], [], []⟩
@[reducible] def O.r02_SameTexts : Bool → COut
  | r => .ok [.bool r] [] []
set_option maxRecDepth 1000000 in
set_option maxHeartbeats 4000000 in
theorem L.r02_SameTexts (p0 : List (List UInt8)) (p1 : List (List UInt8)) : S (M.r02_SameTexts p0 p1) fun r => ex TB CT A.r02_SameTexts (Con Tryz.prog GG) (bodyOf Tryz.f22) (entry (I.r02_SameTexts p0 p1)) (fin TB A.r02_SameTexts [.tmp 4] (O.r02_SameTexts r)) := by
  unfold M.r02_SameTexts
  refine S.eq lenD_map ?_
  refine S.eq lenD_map ?_
  refine S.cb ?_ ?_
  · exact S.z ⟨rfl, trivial, trivial, rfl⟩
  · refine S.jn (fun _ => ⟨[], [], [], none⟩) ?_ (fun _ => rfl) fun j_8 => ?_
    · refine S.lw (L := M.r02_SameTexts_k1 p0 p1) (fun x_11 => ⟨[(0, .sl 9 1 (p0.map eS)), (1, .sl 9 1 (p1.map eS)), (5, .int .i64 x_11)], [], [], none⟩) (M.r02_SameTexts_k1.partial_correctness p0 p1) rfl fun f_r02_SameTexts_k1 I_r02_SameTexts_k1 ih_r02_SameTexts_k1 x_11 => ?_
      refine S.eq lenD_map ?_
      refine S.cb ?_ ?_
      · refine S.ixE (f := eS) (c := fun x => [D.str x]) (fun _ => rfl) rfl (fun _ => rfl) fun x_14 => ?_
        refine S.ixE (f := eS) (c := fun x => [D.str x]) (fun _ => rfl) rfl (fun _ => rfl) fun x_15 => ?_
        refine S.an trivial ?_
        refine S.cb ?_ ?_
        · exact S.z ⟨rfl, trivial, trivial, rfl⟩
        · exact ih_r02_SameTexts_k1 _
      · exact S.z rfl
    · exact S.z ⟨rfl, trivial, trivial, rfl⟩
set_option maxRecDepth 1000000 in
set_option maxHeartbeats 4000000 in
theorem C.r02_SameTexts (p0 : List (List UInt8)) (p1 : List (List UInt8)) : S (M.r02_SameTexts p0 p1) fun r => Con Tryz.prog GG 22 (I.r02_SameTexts p0 p1) (O.r02_SameTexts r) := by
  intro r hm; exact Con.of TBG (fun _ _ => rfl) Tryz.func22 rfl rfl (res := [.tmp 4]) rfl (by kernel_rfl) rfl rfl rfl (L.r02_SameTexts p0 p1 r hm)
def A.l02_JsonFinds : Ann := { reg := [(1, [(9, 0, { L := [1, 2, 5, 6], B := [1005], A := [] })]), (2, [(9, 0, { L := [2, 5, 6, 7, 8], B := [1005, 1007], A := [] })]), (4, [(7, 0, { L := [2, 5, 6, 7, 8, 9, 10, 11, 12], B := [1005, 1007], A := [] })]), (6, [(7, 0, { L := [5, 6, 7, 8, 9, 10, 11, 12, 13, 14, 15, 16], B := [1005, 1007], A := [] })]), (7, [(2, 4, { L := [5, 7, 9, 10, 11, 12, 13, 14, 15, 16, 54], B := [1005, 1007], A := [] }), (1, 4, { L := [9, 10, 11, 12, 13, 14, 15, 16, 59], B := [], A := [] }), (1, 4, { L := [10, 12, 13, 14, 15, 16, 64], B := [], A := [] }), (1, 4, { L := [13, 14, 15, 16, 69], B := [], A := [] }), (1, 4, { L := [13, 15, 74], B := [], A := [] }), (1, 4, { L := [79], B := [], A := [] })])], ro := [2] }
@[reducible] def I.l02_JsonFinds (p0 : T_api_Json) (p1 : List UInt8) : CIn := ⟨[.agg [.int .i64 p0.gKind, .str p0.gText, .sl 25 4 (T_api_Json.encs p0.gList), .sl 9 1 (p0.gKeys.map eS)], .str p1], [], []⟩
@[reducible] def O.l02_JsonFinds : Bool → COut
  | r => .ok [.bool r] [] []
set_option maxRecDepth 1000000 in
set_option maxHeartbeats 4000000 in
theorem L.l02_JsonFinds (fuel : Nat) (p0 : T_api_Json) (p1 : List UInt8) : S (M.l02_JsonFinds fuel p0 p1) fun r => ex TB CT A.l02_JsonFinds (Con Tryz.prog GG) (bodyOf Tryz.f5) (entry (I.l02_JsonFinds p0 p1)) (fin TB A.l02_JsonFinds [.tmp 4] (O.l02_JsonFinds r)) := by
  unfold M.l02_JsonFinds
  refine S.k [] [] [] (C.json_Member p0 p1) rfl trivial trivial rfl fun a_1 => ?_
  refine S.an rfl ?_
  refine S.jp (⟨[(1, .str p1), (2, .cptr [.int .i64 p0.gKind, .str p0.gText, .sl 25 4 (T_api_Json.encs p0.gList), .sl 9 1 (p0.gKeys.map eS)] 0), (5, .ptr 1005 0), (6, .bool a_1.2)], [(1005, ⟨25, [.int .i64 a_1.1.gKind, .str a_1.1.gText, .sl 25 4 (T_api_Json.encs a_1.1.gList), .sl 9 1 (a_1.1.gKeys.map eS)]⟩)], [], none⟩) (fun _ => rfl) ?_
  refine S.k [] [] [] (C.r02_Member p0 p1) rfl trivial trivial rfl fun a_3 => ?_
  refine S.an rfl ?_
  refine S.jp (⟨[(2, .cptr [.int .i64 p0.gKind, .str p0.gText, .sl 25 4 (T_api_Json.encs p0.gList), .sl 9 1 (p0.gKeys.map eS)] 0), (5, .ptr 1005 0), (6, .bool a_1.2), (7, .ptr 1007 0), (8, .bool a_3.2)], [(1005, ⟨25, [.int .i64 a_1.1.gKind, .str a_1.1.gText, .sl 25 4 (T_api_Json.encs a_1.1.gList), .sl 9 1 (a_1.1.gKeys.map eS)]⟩), (1007, ⟨25, [.int .i64 a_3.1.gKind, .str a_3.1.gText, .sl 25 4 (T_api_Json.encs a_3.1.gList), .sl 9 1 (a_3.1.gKeys.map eS)]⟩)], [], none⟩) (fun _ => rfl) ?_
  refine S.k [] [] [] (C.json_Int p0) rfl trivial trivial rfl fun a_5 => ?_
  refine S.an rfl ?_
  refine S.k [] [] [] (C.r02_Int p0) rfl trivial trivial rfl fun a_7 => ?_
  refine S.an rfl ?_
  refine S.jp (⟨[(2, .cptr [.int .i64 p0.gKind, .str p0.gText, .sl 25 4 (T_api_Json.encs p0.gList), .sl 9 1 (p0.gKeys.map eS)] 0), (5, .ptr 1005 0), (6, .bool a_1.2), (7, .ptr 1007 0), (8, .bool a_3.2), (9, .int .i64 a_5.1), (10, .bool a_5.2), (11, .int .i64 a_7.1), (12, .bool a_7.2)], [(1005, ⟨25, [.int .i64 a_1.1.gKind, .str a_1.1.gText, .sl 25 4 (T_api_Json.encs a_1.1.gList), .sl 9 1 (a_1.1.gKeys.map eS)]⟩), (1007, ⟨25, [.int .i64 a_3.1.gKind, .str a_3.1.gText, .sl 25 4 (T_api_Json.encs a_3.1.gList), .sl 9 1 (a_3.1.gKeys.map eS)]⟩)], [], none⟩) (fun _ => rfl) ?_
  refine S.k [] [] [] (C.json_Texts p0) rfl trivial trivial rfl fun a_9 => ?_
  refine S.an rfl ?_
  refine S.k [] [] [] (C.r02_Texts p0) rfl trivial trivial rfl fun a_11 => ?_
  refine S.an rfl ?_
  refine S.jp (⟨[(5, .ptr 1005 0), (6, .bool a_1.2), (7, .ptr 1007 0), (8, .bool a_3.2), (9, .int .i64 a_5.1), (10, .bool a_5.2), (11, .int .i64 a_7.1), (12, .bool a_7.2), (13, .sl 9 1 (a_9.1.map eS)), (14, .bool a_9.2), (15, .sl 9 1 (a_11.1.map eS)), (16, .bool a_11.2)], [(1005, ⟨25, [.int .i64 a_1.1.gKind, .str a_1.1.gText, .sl 25 4 (T_api_Json.encs a_1.1.gList), .sl 9 1 (a_1.1.gKeys.map eS)]⟩), (1007, ⟨25, [.int .i64 a_3.1.gKind, .str a_3.1.gText, .sl 25 4 (T_api_Json.encs a_3.1.gList), .sl 9 1 (a_3.1.gKeys.map eS)]⟩)], [], none⟩) (fun _ => rfl) ?_
  refine S.k [] [] [] (C.l02_awake fuel) rfl trivial trivial rfl fun a_13 => ?_
  refine S.an rfl ?_
  refine S.jb (v := (a_13 && (a_1.2 == a_3.2))) (fun x_15 => ⟨[(5, .ptr 1005 0), (7, .ptr 1007 0), (9, .int .i64 a_5.1), (10, .bool a_5.2), (11, .int .i64 a_7.1), (12, .bool a_7.2), (13, .sl 9 1 (a_9.1.map eS)), (14, .bool a_9.2), (15, .sl 9 1 (a_11.1.map eS)), (16, .bool a_11.2), (54, .bool x_15)], [(1005, ⟨25, [.int .i64 a_1.1.gKind, .str a_1.1.gText, .sl 25 4 (T_api_Json.encs a_1.1.gList), .sl 9 1 (a_1.1.gKeys.map eS)]⟩), (1007, ⟨25, [.int .i64 a_3.1.gKind, .str a_3.1.gText, .sl 25 4 (T_api_Json.encs a_3.1.gList), .sl 9 1 (a_3.1.gKeys.map eS)]⟩)], [], none⟩) (fun r => ?_) ?_
  · refine cnd (fun h_16 => ?_) (fun h_16 => ?_)
    · exact jbI rfl (and_t h_16 rfl)
    · exact jbI rfl (and_f h_16)
  · refine S.j (fun j_20 => ⟨[(9, .int .i64 a_5.1), (10, .bool a_5.2), (11, .int .i64 a_7.1), (12, .bool a_7.2), (13, .sl 9 1 (a_9.1.map eS)), (14, .bool a_9.2), (15, .sl 9 1 (a_11.1.map eS)), (16, .bool a_11.2), (59, .bool j_20)], [], [], none⟩) (fun r => ?_) fun j_20 => ?_
    · refine S.cb ?_ ?_
      · refine S.k [] [] [] (C.r02_Same fuel a_1.1 a_3.1) rfl trivial trivial rfl fun a_21 => ?_
        refine S.an rfl ?_
        exact S.z rfl
      · exact S.z rfl
    · refine S.jb (v := (j_20 && (decide (a_5.1 = a_7.1)))) (fun x_23 => ⟨[(10, .bool a_5.2), (12, .bool a_7.2), (13, .sl 9 1 (a_9.1.map eS)), (14, .bool a_9.2), (15, .sl 9 1 (a_11.1.map eS)), (16, .bool a_11.2), (64, .bool x_23)], [], [], none⟩) (fun r => ?_) ?_
      · refine cnd (fun h_24 => ?_) (fun h_24 => ?_)
        · exact jbI rfl (and_t h_24 rfl)
        · exact jbI rfl (and_f h_24)
      · refine S.jb (v := ((j_20 && (decide (a_5.1 = a_7.1))) && (a_5.2 == a_7.2))) (fun x_25 => ⟨[(13, .sl 9 1 (a_9.1.map eS)), (14, .bool a_9.2), (15, .sl 9 1 (a_11.1.map eS)), (16, .bool a_11.2), (69, .bool x_25)], [], [], none⟩) (fun r => ?_) ?_
        · refine cnd (fun h_26 => ?_) (fun h_26 => ?_)
          · exact jbI rfl (and_t h_26 rfl)
          · exact jbI rfl (and_f h_26)
        · refine S.jb (v := (((j_20 && (decide (a_5.1 = a_7.1))) && (a_5.2 == a_7.2)) && (a_9.2 == a_11.2))) (fun x_27 => ⟨[(13, .sl 9 1 (a_9.1.map eS)), (15, .sl 9 1 (a_11.1.map eS)), (74, .bool x_27)], [], [], none⟩) (fun r => ?_) ?_
          · refine cnd (fun h_28 => ?_) (fun h_28 => ?_)
            · exact jbI rfl (and_t h_28 rfl)
            · exact jbI rfl (and_f h_28)
          · refine S.j (fun j_32 => ⟨[(79, .bool j_32)], [], [], none⟩) (fun r => ?_) fun j_32 => ?_
            · refine S.cb ?_ ?_
              · refine S.k [] [] [] (C.r02_SameTexts a_9.1 a_11.1) rfl trivial trivial rfl fun a_33 => ?_
                refine S.an rfl ?_
                exact S.z rfl
              · exact S.z rfl
            · exact S.z ⟨rfl, trivial, trivial, rfl⟩
set_option maxRecDepth 1000000 in
set_option maxHeartbeats 4000000 in
theorem C.l02_JsonFinds (fuel : Nat) (p0 : T_api_Json) (p1 : List UInt8) : S (M.l02_JsonFinds fuel p0 p1) fun r => Con Tryz.prog GG 5 (I.l02_JsonFinds p0 p1) (O.l02_JsonFinds r) := by
  intro r hm; exact Con.of TBG (fun _ _ => rfl) Tryz.func5 rfl rfl (res := [.tmp 4]) rfl (by kernel_rfl) rfl rfl rfl (L.l02_JsonFinds fuel p0 p1 r hm)
def A.l02_JsonBack : Ann := { seq := [(8, { L := [1], B := [], A := [] })], reg := [(1, [(7, 0, { L := [1, 2, 5, 6], B := [], A := [] })]), (2, [(3, 11, { L := [1, 2, 5, 6, 33], B := [], A := [] })]), (5, [(8, 0, { L := [1, 2, 7, 8], B := [1007], A := [100251, 100252], H := [(.cell 1007 2, 100251, 25, 4), (.cell 1007 3, 100252, 9, 1)] })]), (6, [(3, 5, { L := [1, 48], B := [], A := [] })]), (8, [(8, 0, { L := [9, 10], B := [1009], A := [100401, 100402], H := [(.cell 1009 2, 100401, 25, 4), (.cell 1009 3, 100402, 9, 1)] })]), (12, [(2, 0, { L := [9, 11, 12, 65], B := [1009], A := [100601, 100602], H := [(.cell 1009 2, 100601, 25, 4), (.cell 1009 3, 100602, 9, 1)] })]), (14, [(8, 0, { L := [9, 12, 13, 14], B := [1009, 1013], A := [100701, 100702, 100703, 100704], H := [(.cell 1009 2, 100701, 25, 4), (.cell 1009 3, 100702, 9, 1), (.cell 1013 2, 100703, 25, 4), (.cell 1013 3, 100704, 9, 1)] })]), (15, [(3, 3, { L := [9, 13, 79], B := [1009, 1013], A := [3001, 3002, 3003, 3004], H := [(.cell 1009 2, 3001, 25, 4), (.cell 1009 3, 3002, 9, 1), (.cell 1013 2, 3003, 25, 4), (.cell 1013 3, 3004, 9, 1)] }), (1, 4, { L := [84], B := [], A := [] })])], ro := [2] }
@[reducible] def I.l02_JsonBack (p0 : T_api_Json) (p1 : List UInt8) : CIn := ⟨[.agg [.int .i64 p0.gKind, .str p0.gText, .sl 25 4 (T_api_Json.encs p0.gList), .sl 9 1 (p0.gKeys.map eS)], .str p1], [], []⟩
@[reducible] def O.l02_JsonBack : Bool → COut
  | r => .ok [.bool r] [] []
set_option maxRecDepth 1000000 in
set_option maxHeartbeats 4000000 in
theorem L.l02_JsonBack (fuel : Nat) (p0 : T_api_Json) (p1 : List UInt8) : S (M.l02_JsonBack fuel p0 p1) fun r => ex TB CT A.l02_JsonBack (Con Tryz.prog GG) (bodyOf Tryz.f6) (entry (I.l02_JsonBack p0 p1)) (fin TB A.l02_JsonBack [.tmp 4] (O.l02_JsonBack r)) := by
  unfold M.l02_JsonBack
  refine S.k [] [] [] (C.json_Print fuel p0) rfl trivial trivial rfl fun a_1 => ?_
  refine S.an rfl ?_
  refine S.jp (⟨[(1, .str p1), (2, .cptr [.int .i64 p0.gKind, .str p0.gText, .sl 25 4 (T_api_Json.encs p0.gList), .sl 9 1 (p0.gKeys.map eS)] 0), (5, .str a_1.1), (6, .int .i64 a_1.2)], [], [], none⟩) (fun _ => rfl) ?_
  refine S.k [] [] [] (C.l02_awake fuel) rfl trivial trivial rfl fun a_15 => ?_
  refine S.an rfl ?_
  refine S.j (fun j_22 => ⟨[(1, .str p1), (2, .cptr [.int .i64 p0.gKind, .str p0.gText, .sl 25 4 (T_api_Json.encs p0.gList), .sl 9 1 (p0.gKeys.map eS)] 0), (5, .str a_1.1), (6, .int .i64 a_1.2), (33, .bool j_22)], [], [], none⟩) (fun r => ?_) fun j_22 => ?_
  · refine S.cb ?_ ?_
    · exact S.z rfl
    · refine S.cb ?_ ?_
      · refine S.k [] [] [] (C.json_Check fuel p0) rfl trivial trivial rfl fun a_23 => ?_
        refine S.an rfl ?_
        exact S.z rfl
      · refine S.k [] [] [] (C.json_Check fuel p0) rfl trivial trivial rfl fun a_25 => ?_
        refine S.an rfl ?_
        exact S.z rfl
  · refine S.cb ?_ ?_
    · exact S.z ⟨rfl, trivial, trivial, rfl⟩
    · refine S.jn (fun _ => ⟨[(1, .str p1)], [], [], none⟩) ?_ (fun _ => rfl) fun j_43 => ?_
      · refine S.cb ?_ ?_
        · refine S.k [] [] [5450, 5451] (C.json_Parse fuel a_1.1) rfl trivial trivial rfl fun a_44 => ?_
          refine S.an rfl ?_
          refine S.jp (⟨[(1, .str p1), (2, .cptr [.int .i64 p0.gKind, .str p0.gText, .sl 25 4 (T_api_Json.encs p0.gList), .sl 9 1 (p0.gKeys.map eS)] 0), (7, .ptr 1007 0), (8, .int .i64 a_44.2)], [(1007, ⟨25, [.int .i64 a_44.1.gKind, .str a_44.1.gText, .ref 100251, .ref 100252]⟩)], [(100251, ⟨true, 25, 4, (T_api_Json.encs a_44.1.gList)⟩), (100252, ⟨true, 9, 1, (a_44.1.gKeys.map eS)⟩)], none⟩) (fun _ => rfl) ?_
          refine S.j (fun j_49 => ⟨[(1, .str p1), (48, .bool j_49)], [], [], none⟩) (fun r => ?_) fun j_49 => ?_
          · refine S.cb ?_ ?_
            · exact S.z rfl
            · refine S.k [] [] [] (C.r02_Same fuel p0 a_44.1) rfl trivial trivial rfl fun a_50 => ?_
              refine S.an rfl ?_
              exact S.z rfl
          · refine S.cb ?_ ?_
            · exact S.z ⟨rfl, trivial, trivial, rfl⟩
            · exact S.z rfl
        · exact S.z rfl
      · refine S.k [] [] [5530, 5531] (C.json_Parse fuel p1) rfl trivial trivial rfl fun a_52 => ?_
        refine S.an rfl ?_
        refine S.jp (⟨[(9, .ptr 1009 0), (10, .int .i64 a_52.2)], [(1009, ⟨25, [.int .i64 a_52.1.gKind, .str a_52.1.gText, .ref 100401, .ref 100402]⟩)], [(100401, ⟨true, 25, 4, (T_api_Json.encs a_52.1.gList)⟩), (100402, ⟨true, 9, 1, (a_52.1.gKeys.map eS)⟩)], none⟩) (fun _ => rfl) ?_
        refine S.cb ?_ ?_
        · refine S.k [] [] [] (C.r02_Same fuel a_52.1 (T_api_Json.mk 0 ([] : List UInt8) [] [])) rfl trivial trivial rfl fun a_56 => ?_
          refine S.an rfl ?_
          exact S.z ⟨rfl, trivial, trivial, rfl⟩
        · refine S.k [] [] [] (C.json_Print fuel a_52.1) rfl trivial trivial rfl fun a_58 => ?_
          refine S.an rfl ?_
          refine S.jp (⟨[(9, .ptr 1009 0), (11, .str a_58.1), (12, .int .i64 a_58.2), (65, .bool (decide (a_58.2 = 22)))], [(1009, ⟨25, [.int .i64 a_52.1.gKind, .str a_52.1.gText, .ref 100601, .ref 100602]⟩)], [(100601, ⟨true, 25, 4, (T_api_Json.encs a_52.1.gList)⟩), (100602, ⟨true, 9, 1, (a_52.1.gKeys.map eS)⟩)], none⟩) (fun _ => rfl) ?_
          refine S.cb ?_ ?_
          · refine S.k [] [] [] (C.json_Check fuel a_52.1) rfl trivial trivial rfl fun a_62 => ?_
            refine S.an rfl ?_
            exact S.z ⟨rfl, trivial, trivial, rfl⟩
          · refine S.k [] [] [5650, 5651] (C.json_Parse fuel a_58.1) rfl trivial trivial rfl fun a_64 => ?_
            refine S.an rfl ?_
            refine S.jp (⟨[(9, .ptr 1009 0), (12, .int .i64 a_58.2), (13, .ptr 1013 0), (14, .int .i64 a_64.2)], [(1009, ⟨25, [.int .i64 a_52.1.gKind, .str a_52.1.gText, .ref 100701, .ref 100702]⟩), (1013, ⟨25, [.int .i64 a_64.1.gKind, .str a_64.1.gText, .ref 100703, .ref 100704]⟩)], [(100701, ⟨true, 25, 4, (T_api_Json.encs a_52.1.gList)⟩), (100702, ⟨true, 9, 1, (a_52.1.gKeys.map eS)⟩), (100703, ⟨true, 25, 4, (T_api_Json.encs a_64.1.gList)⟩), (100704, ⟨true, 9, 1, (a_64.1.gKeys.map eS)⟩)], none⟩) (fun _ => rfl) ?_
            refine S.jb (v := ((decide (a_58.2 = 0)) && (decide (a_64.2 = 0)))) (fun x_66 => ⟨[(9, .ptr 1009 0), (13, .ptr 1013 0), (79, .bool x_66)], [(1009, ⟨25, [.int .i64 a_52.1.gKind, .str a_52.1.gText, .ref 3001, .ref 3002]⟩), (1013, ⟨25, [.int .i64 a_64.1.gKind, .str a_64.1.gText, .ref 3003, .ref 3004]⟩)], [(3001, ⟨true, 25, 4, (T_api_Json.encs a_52.1.gList)⟩), (3002, ⟨true, 9, 1, (a_52.1.gKeys.map eS)⟩), (3003, ⟨true, 25, 4, (T_api_Json.encs a_64.1.gList)⟩), (3004, ⟨true, 9, 1, (a_64.1.gKeys.map eS)⟩)], none⟩) (fun r => ?_) ?_
            · refine cnd (fun h_67 => ?_) (fun h_67 => ?_)
              · exact jbI rfl (and_t h_67 rfl)
              · exact jbI rfl (and_f h_67)
            · refine S.j (fun j_71 => ⟨[(84, .bool j_71)], [], [], none⟩) (fun r => ?_) fun j_71 => ?_
              · refine S.cb ?_ ?_
                · refine S.k [] [] [] (C.r02_Same fuel a_52.1 a_64.1) rfl trivial trivial rfl fun a_72 => ?_
                  refine S.an rfl ?_
                  exact S.z rfl
                · exact S.z rfl
              · exact S.z ⟨rfl, trivial, trivial, rfl⟩
set_option maxRecDepth 1000000 in
set_option maxHeartbeats 4000000 in
theorem C.l02_JsonBack (fuel : Nat) (p0 : T_api_Json) (p1 : List UInt8) : S (M.l02_JsonBack fuel p0 p1) fun r => Con Tryz.prog GG 6 (I.l02_JsonBack p0 p1) (O.l02_JsonBack r) := by
  intro r hm; exact Con.of TBG (fun _ _ => rfl) Tryz.func6 rfl rfl (res := [.tmp 4]) rfl (by kernel_rfl) rfl rfl rfl (L.l02_JsonBack fuel p0 p1 r hm)
def A.l02_JsonSafe : Ann := { seq := [(11, { L := [1, 3], B := [], A := [] })], loop := [(7, { L := [1, 3, 5], B := [], A := [] })], reg := [(1, [(7, 0, { L := [1, 3, 4], B := [], A := [] })]), (11, [(13, 0, { L := [1, 6, 7], B := [1006], A := [100551, 100552], H := [(.cell 1006 2, 100551, 25, 4), (.cell 1006 3, 100552, 9, 1)] })])], drw := [(12, { anc := [0, 1, 3, 7, 15, 31, 63, 127, 255, 511, 1023, 2047, 255, 8191, 16383, 32767, 65535, 131071, 262143, 524287, 65535, 2097151, 4194303, 8388607, 16777215], E := [13, 21], qs := [0, 1, 2, 3, 4, 5, 6, 7, 8, 9, 10, 11, 12], g := .one 13 [] [14, 15, 16, 17, 18, 19, 20] (.one 21 [] [22, 23, 24] (.fin)) })], ro := [1] }
@[reducible] def I.l02_JsonSafe (p0 : T_api_Json) : CIn := ⟨[.agg [.int .i64 p0.gKind, .str p0.gText, .sl 25 4 (T_api_Json.encs p0.gList), .sl 9 1 (p0.gKeys.map eS)]], [], []⟩
@[reducible] def O.l02_JsonSafe : Bool → COut
  | r => .ok [.bool r] [] []
set_option maxRecDepth 1000000 in
set_option maxHeartbeats 4000000 in
theorem L.l02_JsonSafe (fuel : Nat) (p0 : T_api_Json) : S (M.l02_JsonSafe fuel p0) fun r => ex TB CT A.l02_JsonSafe (Con Tryz.prog GG) (bodyOf Tryz.f7) (entry (I.l02_JsonSafe p0)) (fin TB A.l02_JsonSafe [.tmp 2] (O.l02_JsonSafe r)) := by
  unfold M.l02_JsonSafe
  refine S.k [] [] [] (C.json_Print fuel p0) rfl trivial trivial rfl fun a_1 => ?_
  refine S.an rfl ?_
  refine S.jp (⟨[(1, .cptr [.int .i64 p0.gKind, .str p0.gText, .sl 25 4 (T_api_Json.encs p0.gList), .sl 9 1 (p0.gKeys.map eS)] 0), (3, .str a_1.1), (4, .int .i64 a_1.2)], [], [], none⟩) (fun _ => rfl) ?_
  refine S.k [] [] [] (C.l02_awake fuel) rfl trivial trivial rfl fun a_5 => ?_
  refine S.an rfl ?_
  refine S.cb ?_ ?_
  · exact S.z ⟨rfl, trivial, trivial, rfl⟩
  · refine S.cb ?_ ?_
    · exact S.z ⟨rfl, trivial, trivial, rfl⟩
    · refine S.jn (fun _ => ⟨[(1, .cptr [.int .i64 p0.gKind, .str p0.gText, .sl 25 4 (T_api_Json.encs p0.gList), .sl 9 1 (p0.gKeys.map eS)] 0), (3, .str a_1.1)], [], [], none⟩) ?_ (fun _ => rfl) fun j_11 => ?_
      · refine S.lw (L := M.l02_JsonSafe_k1 a_1) (fun x_13 => ⟨[(1, .cptr [.int .i64 p0.gKind, .str p0.gText, .sl 25 4 (T_api_Json.encs p0.gList), .sl 9 1 (p0.gKeys.map eS)] 0), (3, .str a_1.1), (5, .int .i64 x_13)], [], [], none⟩) (M.l02_JsonSafe_k1.partial_correctness a_1) rfl fun f_l02_JsonSafe_k1 I_l02_JsonSafe_k1 ih_l02_JsonSafe_k1 x_13 => ?_
        refine S.cb ?_ ?_
        · refine S.e fun c_15 => ?_
          refine S.cb ?_ ?_
          · exact S.z ⟨rfl, trivial, trivial, rfl⟩
          · exact ih_l02_JsonSafe_k1 _
        · exact S.z rfl
      · refine S.e fun s_16 => ?_
        refine S.e fun s_17 => ?_
        refine S.e fun s_18 => ?_
        refine S.e fun s_19 => ?_
        refine S.k [] [] [5210, 5211] (C.json_Parse fuel s_19) rfl trivial trivial rfl fun a_20 => ?_
        refine S.an rfl ?_
        refine S.jp (⟨[(1, .cptr [.int .i64 p0.gKind, .str p0.gText, .sl 25 4 (T_api_Json.encs p0.gList), .sl 9 1 (p0.gKeys.map eS)] 0), (6, .ptr 1006 0), (7, .int .i64 a_20.2)], [(1006, ⟨25, [.int .i64 a_20.1.gKind, .str a_20.1.gText, .ref 100551, .ref 100552]⟩)], [(100551, ⟨true, 25, 4, (T_api_Json.encs a_20.1.gList)⟩), (100552, ⟨true, 9, 1, (a_20.1.gKeys.map eS)⟩)], none⟩) (fun _ => rfl) ?_
        refine S.cb ?_ ?_
        · refine S.an trivial ?_
          refine S.an trivial ?_
          refine S.an trivial ?_
          exact S.z ⟨rfl, trivial, trivial, rfl⟩
        · refine S.eq (lenD_E T_api_Json.encs_eq) ?_
          refine S.cb ?_ ?_
          · refine S.ixE T_api_Json.encs_eq rfl T_api_Json.enc_c fun x_22 => ?_
            refine S.ixE T_api_Json.encs_eq rfl T_api_Json.enc_c fun x_23 => ?_
            refine S.an trivial ?_
            refine S.k [] [] [] (C.r02_Same fuel x_23 p0) rfl trivial trivial rfl fun a_24 => ?_
            refine S.an rfl ?_
            refine S.cb ?_ ?_
            · refine S.ixE T_api_Json.encs_eq rfl T_api_Json.enc_c fun x_26 => ?_
              refine S.ixE T_api_Json.encs_eq rfl T_api_Json.enc_c fun x_27 => ?_
              refine S.an trivial ?_
              refine S.k [] [] [] (C.r02_Same fuel x_27 p0) rfl trivial trivial rfl fun a_28 => ?_
              refine S.an rfl ?_
              refine S.an trivial ?_
              exact S.z ⟨rfl, trivial, trivial, rfl⟩
            · refine S.an trivial ?_
              refine S.an trivial ?_
              exact S.z ⟨rfl, trivial, trivial, rfl⟩
          · refine S.an trivial ?_
            refine S.an trivial ?_
            refine S.an trivial ?_
            exact S.z ⟨rfl, trivial, trivial, rfl⟩
set_option maxRecDepth 1000000 in
set_option maxHeartbeats 4000000 in
theorem C.l02_JsonSafe (fuel : Nat) (p0 : T_api_Json) : S (M.l02_JsonSafe fuel p0) fun r => Con Tryz.prog GG 7 (I.l02_JsonSafe p0) (O.l02_JsonSafe r) := by
  intro r hm; exact Con.of TBG (fun _ _ => rfl) Tryz.func7 rfl rfl (res := [.tmp 2]) rfl (by kernel_rfl) rfl rfl rfl (L.l02_JsonSafe fuel p0 r hm)
def A.l02_JsonBlanks : Ann := { seq := [(10, { L := [0, 2, 7], B := [], A := [] }), (14, { L := [0, 7], B := [], A := [] })], loop := [(7, { L := [0, 1, 2, 7, 8], B := [], A := [] }), (11, { L := [0, 2, 7, 9], B := [], A := [] })], reg := [(3, [(3, 3, { L := [0, 1, 2, 21], B := [], A := [] }), (1, 3, { L := [0, 1, 2, 25], B := [], A := [] }), (1, 3, { L := [0, 1, 2, 29], B := [], A := [] }), (1, 4, { L := [0, 1, 2, 34], B := [], A := [] })]), (14, [(8, 0, { L := [7, 10, 11], B := [1010], A := [100701, 100702], H := [(.cell 1010 2, 100701, 25, 4), (.cell 1010 3, 100702, 9, 1)] })]), (15, [(8, 0, { L := [10, 11, 12, 13], B := [1010, 1012], A := [100751, 100752, 100753, 100754], H := [(.cell 1010 2, 100751, 25, 4), (.cell 1010 3, 100752, 9, 1), (.cell 1012 2, 100753, 25, 4), (.cell 1012 3, 100754, 9, 1)] })]), (16, [(4, 4, { L := [79], B := [], A := [] })])] }
@[reducible] def I.l02_JsonBlanks (p0 : List UInt8) (p1 : Int) (p2 : Int) : CIn := ⟨[.str p0, .int .i64 p1, .int .i64 p2], [], []⟩
@[reducible] def O.l02_JsonBlanks : Bool → COut
  | r => .ok [.bool r] [] []
set_option maxRecDepth 1000000 in
set_option maxHeartbeats 4000000 in
theorem L.l02_JsonBlanks (fuel : Nat) (p0 : List UInt8) (p1 : Int) (p2 : Int) : S (M.l02_JsonBlanks fuel p0 p1 p2) fun r => ex TB CT A.l02_JsonBlanks (Con Tryz.prog GG) (bodyOf Tryz.f8) (entry (I.l02_JsonBlanks p0 p1 p2)) (fin TB A.l02_JsonBlanks [.tmp 6] (O.l02_JsonBlanks r)) := by
  unfold M.l02_JsonBlanks
  refine S.k [] [] [] (C.l02_awake fuel) rfl trivial trivial rfl fun a_3 => ?_
  refine S.an rfl ?_
  refine S.cb ?_ ?_
  · exact S.z ⟨rfl, trivial, trivial, rfl⟩
  · refine S.jb (v := ((decide (p1 < 0)) || (decide (p2 < 0)))) (fun x_13 => ⟨[(0, .str p0), (1, .int .i64 p1), (2, .int .i64 p2), (21, .bool x_13)], [], [], none⟩) (fun r => ?_) ?_
    · refine cnd (fun h_14 => ?_) (fun h_14 => ?_)
      · exact jbI rfl (or_t h_14)
      · exact jbI rfl (or_f h_14 rfl)
    · refine S.jb (v := (((decide (p1 < 0)) || (decide (p2 < 0))) || (decide (100 < p1)))) (fun x_15 => ⟨[(0, .str p0), (1, .int .i64 p1), (2, .int .i64 p2), (25, .bool x_15)], [], [], none⟩) (fun r => ?_) ?_
      · refine cnd (fun h_16 => ?_) (fun h_16 => ?_)
        · exact jbI rfl (or_t h_16)
        · exact jbI rfl (or_f h_16 rfl)
      · refine S.jb (v := ((((decide (p1 < 0)) || (decide (p2 < 0))) || (decide (100 < p1))) || (decide (100 < p2)))) (fun x_17 => ⟨[(0, .str p0), (1, .int .i64 p1), (2, .int .i64 p2), (29, .bool x_17)], [], [], none⟩) (fun r => ?_) ?_
        · refine cnd (fun h_18 => ?_) (fun h_18 => ?_)
          · exact jbI rfl (or_t h_18)
          · exact jbI rfl (or_f h_18 rfl)
        · refine S.jb (v := (((((decide (p1 < 0)) || (decide (p2 < 0))) || (decide (100 < p1))) || (decide (100 < p2))) || (decide (16000 < (p0.length : Int))))) (fun x_19 => ⟨[(0, .str p0), (1, .int .i64 p1), (2, .int .i64 p2), (34, .bool x_19)], [], [], none⟩) (fun r => ?_) ?_
          · refine cnd (fun h_20 => ?_) (fun h_20 => ?_)
            · exact jbI rfl (or_t h_20)
            · exact jbI rfl (or_f h_20 rfl)
          · refine S.cb ?_ ?_
            · exact S.z ⟨rfl, trivial, trivial, rfl⟩
            · refine S.j (fun j_30 => ⟨[(0, .str p0), (2, .int .i64 p2), (7, .str j_30)], [], [], none⟩) (fun r => ?_) fun j_30 => ?_
              · refine S.lw2 (L := M.l02_JsonBlanks_k1 p1) (fun x_33 x_34 => ⟨[(0, .str p0), (1, .int .i64 p1), (2, .int .i64 p2), (7, .str x_33), (8, .int .i64 x_34)], [], [], none⟩) (M.l02_JsonBlanks_k1.partial_correctness p1) rfl fun f_l02_JsonBlanks_k1 I_l02_JsonBlanks_k1 ih_l02_JsonBlanks_k1 x_33 x_34 => ?_
                refine S.cb ?_ ?_
                · refine S.eq (by decide : chk _ = some ()) ?_
                  refine S.eq (by decide : chk _ = some ()) ?_
                  refine S.e fun s_37 => ?_
                  refine S.e fun s_38 => ?_
                  exact ih_l02_JsonBlanks_k1 _ _
                · exact S.z rfl
              · refine S.j (fun j_48 => ⟨[(0, .str p0), (7, .str j_48)], [], [], none⟩) (fun r => ?_) fun j_48 => ?_
                · refine S.lw2 (L := M.l02_JsonBlanks_k2 p2) (fun x_51 x_52 => ⟨[(0, .str p0), (2, .int .i64 p2), (7, .str x_51), (9, .int .i64 x_52)], [], [], none⟩) (M.l02_JsonBlanks_k2.partial_correctness p2) rfl fun f_l02_JsonBlanks_k2 I_l02_JsonBlanks_k2 ih_l02_JsonBlanks_k2 x_51 x_52 => ?_
                  refine S.cb ?_ ?_
                  · refine S.eq (by decide : chk _ = some ()) ?_
                    refine S.eq (by decide : chk _ = some ()) ?_
                    refine S.e fun s_55 => ?_
                    refine S.e fun s_56 => ?_
                    exact ih_l02_JsonBlanks_k2 _ _
                  · exact S.z rfl
                · refine S.k [] [] [5580, 5581] (C.json_Parse fuel p0) rfl trivial trivial rfl fun a_57 => ?_
                  refine S.an rfl ?_
                  refine S.jp (⟨[(7, .str j_48), (10, .ptr 1010 0), (11, .int .i64 a_57.2)], [(1010, ⟨25, [.int .i64 a_57.1.gKind, .str a_57.1.gText, .ref 100701, .ref 100702]⟩)], [(100701, ⟨true, 25, 4, (T_api_Json.encs a_57.1.gList)⟩), (100702, ⟨true, 9, 1, (a_57.1.gKeys.map eS)⟩)], none⟩) (fun _ => rfl) ?_
                  refine S.k [] [] [5600, 5601] (C.json_Parse fuel j_48) rfl trivial trivial rfl fun a_59 => ?_
                  refine S.an rfl ?_
                  refine S.jp (⟨[(10, .ptr 1010 0), (11, .int .i64 a_57.2), (12, .ptr 1012 0), (13, .int .i64 a_59.2)], [(1010, ⟨25, [.int .i64 a_57.1.gKind, .str a_57.1.gText, .ref 100751, .ref 100752]⟩), (1012, ⟨25, [.int .i64 a_59.1.gKind, .str a_59.1.gText, .ref 100753, .ref 100754]⟩)], [(100751, ⟨true, 25, 4, (T_api_Json.encs a_57.1.gList)⟩), (100752, ⟨true, 9, 1, (a_57.1.gKeys.map eS)⟩), (100753, ⟨true, 25, 4, (T_api_Json.encs a_59.1.gList)⟩), (100754, ⟨true, 9, 1, (a_59.1.gKeys.map eS)⟩)], none⟩) (fun _ => rfl) ?_
                  refine S.j (fun j_64 => ⟨[(79, .bool j_64)], [], [], none⟩) (fun r => ?_) fun j_64 => ?_
                  · refine S.cb ?_ ?_
                    · refine S.k [] [] [] (C.r02_Same fuel a_57.1 a_59.1) rfl trivial trivial rfl fun a_65 => ?_
                      refine S.an rfl ?_
                      exact S.z rfl
                    · exact S.z rfl
                  · exact S.z ⟨rfl, trivial, trivial, rfl⟩
set_option maxRecDepth 1000000 in
set_option maxHeartbeats 4000000 in
theorem C.l02_JsonBlanks (fuel : Nat) (p0 : List UInt8) (p1 : Int) (p2 : Int) : S (M.l02_JsonBlanks fuel p0 p1 p2) fun r => Con Tryz.prog GG 8 (I.l02_JsonBlanks p0 p1 p2) (O.l02_JsonBlanks r) := by
  intro r hm; exact Con.of TBG (fun _ _ => rfl) Tryz.func8 rfl rfl (res := [.tmp 6]) rfl (by kernel_rfl) rfl rfl rfl (L.l02_JsonBlanks fuel p0 p1 p2 r hm)
def A.r02_reader_blanks : Ann := { seq := [(1, { L := [0], B := [0], A := [] })], loop := [(0, { L := [0], B := [0], A := [] })], drw := [(0, { anc := [0, 1, 3, 7, 0, 16, 48, 112, 240, 511, 1023, 2047, 4095, 8191, 16383, 2047, 34815, 100351, 231423, 524287, 1048575, 2097151, 4194303, 8388607, 16777215, 33554431, 4194303, 71303167, 205520895, 473956351, 1073741823, 2147483647, 4294967295, 8589934591, 17179869183, 34359738367, 68719476735, 137438953471, 17179869183, 292057776127, 841813590015, 1941325217791, 4398046511103, 8796093022207, 17592186044415, 35184372088831, 70368744177663, 140737488355327, 281474976710655, 562949953421311, 70368744177663, 1196268651020287, 3448068464705535, 7951668092076031, 18014398509481983, 36028797018963967, 72057594037927935, 144115188075855871], E := [], qs := [0, 1, 2, 3, 4, 5, 6, 7, 8, 9, 10, 11, 12, 13, 14, 15, 16, 17, 18, 19, 20, 21, 22, 23, 24, 25, 26, 27, 28, 29, 30, 31, 32, 33, 34, 35, 36, 37, 38, 39, 40, 41, 42, 43, 44, 45, 46, 47, 48, 49, 50, 51, 52, 53, 54, 55, 56, 57], g := .fin })], nb := 1 }
@[reducible] def I.r02_reader_blanks (p0 : T_seneschalref02_reader) : CIn := ⟨[.ptr 0 0], [⟨72, [.str p0.gs, .int .i64 p0.gi, .int .i64 p0.ge]⟩], []⟩
@[reducible] def O.r02_reader_blanks : T_seneschalref02_reader → COut
  | r => .ok [] [⟨72, [.str r.gs, .int .i64 r.gi, .int .i64 r.ge]⟩] []
set_option maxRecDepth 1000000 in
set_option maxHeartbeats 4000000 in
theorem L.r02_reader_blanks (p0 : T_seneschalref02_reader) : S (M.r02_reader_blanks p0) fun r => ex TB CT A.r02_reader_blanks (Con Tryz.prog GG) (bodyOf Tryz.f61) (entry (I.r02_reader_blanks p0)) (fin TB A.r02_reader_blanks [] (O.r02_reader_blanks r)) := by
  unfold M.r02_reader_blanks
  refine S.lw (L := M.r02_reader_blanks_k1 p0) (fun x_14 => ⟨[(0, .ptr 0 0)], [(0, ⟨72, [.str p0.gs, .int .i64 x_14, .int .i64 p0.ge]⟩)], [], none⟩) (M.r02_reader_blanks_k1.partial_correctness p0) rfl fun f_r02_reader_blanks_k1 I_r02_reader_blanks_k1 ih_r02_reader_blanks_k1 x_14 => ?_
  refine S.jn (fun _ => ⟨[(0, .ptr 0 0)], [(0, ⟨72, [.str p0.gs, .int .i64 x_14, .int .i64 p0.ge]⟩)], [], none⟩) ?_ (fun _ => rfl) fun j_36 => ?_
  · refine S.cb ?_ ?_
    · refine S.e fun c_37 => ?_
      refine S.cb ?_ ?_
      · refine S.an trivial ?_
        exact S.z rfl
      · refine S.e fun c_38 => ?_
        refine S.cb ?_ ?_
        · refine S.an trivial ?_
          exact S.z rfl
        · refine S.e fun c_39 => ?_
          refine S.cb ?_ ?_
          · refine S.an trivial ?_
            exact S.z rfl
          · refine S.e fun c_40 => ?_
            refine S.an trivial ?_
            refine S.cb ?_ ?_
            · exact S.z rfl
            · exact S.z ⟨rfl, ⟨⟨rfl, rfl⟩, trivial⟩, trivial, rfl⟩
    · refine S.an trivial ?_
      exact S.z ⟨rfl, ⟨⟨rfl, rfl⟩, trivial⟩, trivial, rfl⟩
  · exact ih_r02_reader_blanks_k1 _
set_option maxRecDepth 1000000 in
set_option maxHeartbeats 4000000 in
theorem C.r02_reader_blanks (p0 : T_seneschalref02_reader) : S (M.r02_reader_blanks p0) fun r => Con Tryz.prog GG 61 (I.r02_reader_blanks p0) (O.r02_reader_blanks r) := by
  intro r hm; exact Con.of TBG (fun _ _ => rfl) Tryz.func61 rfl rfl (res := []) rfl (by kernel_rfl) rfl rfl rfl (L.r02_reader_blanks p0 r hm)
def A.r02_reader_at : Ann := { drw := [(1, { anc := [0, 1, 3, 7, 0, 16, 48, 112, 240, 511], E := [], qs := [0, 1, 2, 3, 4, 5, 6, 7, 8, 9], g := .fin }), (2, { anc := [0, 1, 3, 7, 0, 16, 48, 112, 255, 511], E := [], qs := [0, 1, 2, 3, 4, 5, 6, 7, 8, 9], g := .fin })], nb := 1 }
@[reducible] def I.r02_reader_at (p0 : T_seneschalref02_reader) : CIn := ⟨[.ptr 0 0], [⟨72, [.str p0.gs, .int .i64 p0.gi, .int .i64 p0.ge]⟩], []⟩
@[reducible] def O.r02_reader_at (p0 : T_seneschalref02_reader) : Int → COut
  | r => .ok [.int .u8 r] [⟨72, [.str p0.gs, .int .i64 p0.gi, .int .i64 p0.ge]⟩] []
set_option maxRecDepth 1000000 in
set_option maxHeartbeats 4000000 in
theorem L.r02_reader_at (p0 : T_seneschalref02_reader) : S (M.r02_reader_at p0) fun r => ex TB CT A.r02_reader_at (Con Tryz.prog GG) (bodyOf Tryz.f62) (entry (I.r02_reader_at p0)) (fin TB A.r02_reader_at [.tmp 2] (O.r02_reader_at p0 r)) := by
  unfold M.r02_reader_at
  refine S.an trivial ?_
  refine S.cb ?_ ?_
  · refine S.e fun c_1 => ?_
    refine S.an trivial ?_
    exact S.z ⟨rfl, ⟨⟨rfl, rfl⟩, trivial⟩, trivial, rfl⟩
  · exact S.z ⟨rfl, ⟨⟨rfl, rfl⟩, trivial⟩, trivial, rfl⟩
set_option maxRecDepth 1000000 in
set_option maxHeartbeats 4000000 in
theorem C.r02_reader_at (p0 : T_seneschalref02_reader) : S (M.r02_reader_at p0) fun r => Con Tryz.prog GG 62 (I.r02_reader_at p0) (O.r02_reader_at p0 r) := by
  intro r hm; exact Con.of TBG (fun _ _ => rfl) Tryz.func62 rfl rfl (res := [.tmp 2]) rfl (by kernel_rfl) rfl rfl rfl (L.r02_reader_at p0 r hm)
def A.r02_reader_wrong : Ann := { nb := 1 }
@[reducible] def I.r02_reader_wrong (p0 : T_seneschalref02_reader) (p1 : Int) : CIn := ⟨[.ptr 0 0, .int .i64 p1], [⟨72, [.str p0.gs, .int .i64 p0.gi, .int .i64 p0.ge]⟩], []⟩
@[reducible] def O.r02_reader_wrong : T_seneschalref02_reader → COut
  | r => .ok [] [⟨72, [.str r.gs, .int .i64 r.gi, .int .i64 r.ge]⟩] []
set_option maxRecDepth 1000000 in
set_option maxHeartbeats 4000000 in
theorem L.r02_reader_wrong (p0 : T_seneschalref02_reader) (p1 : Int) : S (M.r02_reader_wrong p0 p1) fun r => ex TB CT A.r02_reader_wrong (Con Tryz.prog GG) (bodyOf Tryz.f41) (entry (I.r02_reader_wrong p0 p1)) (fin TB A.r02_reader_wrong [] (O.r02_reader_wrong r)) := by
  unfold M.r02_reader_wrong
  refine S.cb ?_ ?_
  · exact S.z ⟨rfl, ⟨⟨rfl, rfl⟩, trivial⟩, trivial, rfl⟩
  · exact S.z ⟨rfl, ⟨⟨rfl, rfl⟩, trivial⟩, trivial, rfl⟩
set_option maxRecDepth 1000000 in
set_option maxHeartbeats 4000000 in
theorem C.r02_reader_wrong (p0 : T_seneschalref02_reader) (p1 : Int) : S (M.r02_reader_wrong p0 p1) fun r => Con Tryz.prog GG 41 (I.r02_reader_wrong p0 p1) (O.r02_reader_wrong r) := by
  intro r hm; exact Con.of TBG (fun _ _ => rfl) Tryz.func41 rfl rfl (res := []) rfl (by kernel_rfl) rfl rfl rfl (L.r02_reader_wrong p0 p1 r hm)
def A.r02_reader_four : Ann := { seq := [(15, { L := [5], B := [0], A := [] })], loop := [(5, { L := [0, 1, 5, 6], B := [0], A := [] })], reg := [(1, [(9, 8, { L := [0, 1, 24], B := [0], A := [] }), (1, 9, { L := [0, 1, 34], B := [0], A := [] })]), (9, [(3, 0, { L := [0, 1, 5, 6, 7, 49], B := [0], A := [] })]), (11, [(3, 3, { L := [0, 1, 5, 6, 7, 64], B := [0], A := [] })]), (13, [(3, 3, { L := [0, 1, 5, 6, 7, 78], B := [0], A := [] })])], nb := 1 }
@[reducible] def I.r02_reader_four (p0 : T_seneschalref02_reader) (p1 : Int) : CIn := ⟨[.ptr 0 0, .int .i64 p1], [⟨72, [.str p0.gs, .int .i64 p0.gi, .int .i64 p0.ge]⟩], []⟩
@[reducible] def O.r02_reader_four (p0 : T_seneschalref02_reader) : Int → COut
  | r => .ok [.int .i64 r] [⟨72, [.str p0.gs, .int .i64 p0.gi, .int .i64 p0.ge]⟩] []
set_option maxRecDepth 1000000 in
set_option maxHeartbeats 4000000 in
theorem L.r02_reader_four (p0 : T_seneschalref02_reader) (p1 : Int) : S (M.r02_reader_four p0 p1) fun r => ex TB CT A.r02_reader_four (Con Tryz.prog GG) (bodyOf Tryz.f109) (entry (I.r02_reader_four p0 p1)) (fin TB A.r02_reader_four [.tmp 4] (O.r02_reader_four p0 r)) := by
  unfold M.r02_reader_four
  refine S.j (fun j_11 => ⟨[(0, .ptr 0 0), (1, .int .i64 p1), (24, .bool j_11)], [(0, ⟨72, [.str p0.gs, .int .i64 p0.gi, .int .i64 p0.ge]⟩)], [], none⟩) (fun r => ?_) fun j_11 => ?_
  · refine S.cb ?_ ?_
    · exact S.z rfl
    · refine S.e fun c_12 => ?_
      exact S.z rfl
  · refine S.j (fun j_15 => ⟨[(0, .ptr 0 0), (1, .int .i64 p1), (34, .bool j_15)], [(0, ⟨72, [.str p0.gs, .int .i64 p0.gi, .int .i64 p0.ge]⟩)], [], none⟩) (fun r => ?_) fun j_15 => ?_
    · refine S.cb ?_ ?_
      · exact S.z rfl
      · refine S.e fun c_16 => ?_
        exact S.z rfl
    · refine S.cb ?_ ?_
      · exact S.z ⟨rfl, ⟨⟨rfl, rfl⟩, trivial⟩, trivial, rfl⟩
      · refine S.jn (fun j_41 => ⟨[(5, .int .i64 j_41)], [(0, ⟨72, [.str p0.gs, .int .i64 p0.gi, .int .i64 p0.ge]⟩)], [], none⟩) ?_ (fun _ => rfl) fun j_41 => ?_
        · refine S.lw2 (L := M.r02_reader_four_k1 p1 p0) (fun x_49 x_50 => ⟨[(0, .ptr 0 0), (1, .int .i64 p1), (5, .int .i64 x_49), (6, .int .i64 x_50)], [(0, ⟨72, [.str p0.gs, .int .i64 p0.gi, .int .i64 p0.ge]⟩)], [], none⟩) (M.r02_reader_four_k1.partial_correctness p1 p0) rfl fun f_r02_reader_four_k1 I_r02_reader_four_k1 ih_r02_reader_four_k1 x_49 x_50 => ?_
          refine S.cb ?_ ?_
          · refine S.e fun c_58 => ?_
            refine S.k [] [] [] (C.r02_digit (c_58.toNat : Int)) rfl trivial trivial rfl fun a_59 => ?_
            refine S.an rfl ?_
            refine S.jp (⟨[(0, .ptr 0 0), (1, .int .i64 p1), (5, .int .i64 x_49), (6, .int .i64 x_50), (7, .int .u8 (c_58.toNat : Int)), (49, .bool a_59)], [(0, ⟨72, [.str p0.gs, .int .i64 p0.gi, .int .i64 p0.ge]⟩)], [], none⟩) (fun _ => rfl) ?_
            refine S.cb ?_ ?_
            · exact ih_r02_reader_four_k1 _ _
            · refine S.jb (v := ((decide (97 ≤ (c_58.toNat : Int))) && (decide ((c_58.toNat : Int) ≤ 102)))) (fun x_61 => ⟨[(0, .ptr 0 0), (1, .int .i64 p1), (5, .int .i64 x_49), (6, .int .i64 x_50), (7, .int .u8 (c_58.toNat : Int)), (64, .bool x_61)], [(0, ⟨72, [.str p0.gs, .int .i64 p0.gi, .int .i64 p0.ge]⟩)], [], none⟩) (fun r => ?_) ?_
              · refine cnd (fun h_62 => ?_) (fun h_62 => ?_)
                · exact jbI rfl (and_t h_62 rfl)
                · exact jbI rfl (and_f h_62)
              · refine S.cb ?_ ?_
                · exact ih_r02_reader_four_k1 _ _
                · refine S.jb (v := ((decide (65 ≤ (c_58.toNat : Int))) && (decide ((c_58.toNat : Int) ≤ 70)))) (fun x_63 => ⟨[(0, .ptr 0 0), (1, .int .i64 p1), (5, .int .i64 x_49), (6, .int .i64 x_50), (7, .int .u8 (c_58.toNat : Int)), (78, .bool x_63)], [(0, ⟨72, [.str p0.gs, .int .i64 p0.gi, .int .i64 p0.ge]⟩)], [], none⟩) (fun r => ?_) ?_
                  · refine cnd (fun h_64 => ?_) (fun h_64 => ?_)
                    · exact jbI rfl (and_t h_64 rfl)
                    · exact jbI rfl (and_f h_64)
                  · refine S.cb ?_ ?_
                    · exact ih_r02_reader_four_k1 _ _
                    · exact S.z ⟨rfl, ⟨⟨rfl, rfl⟩, trivial⟩, trivial, rfl⟩
          · exact S.z rfl
        · exact S.z ⟨rfl, ⟨⟨rfl, rfl⟩, trivial⟩, trivial, rfl⟩
set_option maxRecDepth 1000000 in
set_option maxHeartbeats 4000000 in
theorem C.r02_reader_four (p0 : T_seneschalref02_reader) (p1 : Int) : S (M.r02_reader_four p0 p1) fun r => Con Tryz.prog GG 109 (I.r02_reader_four p0 p1) (O.r02_reader_four p0 r) := by
  intro r hm; exact Con.of TBG (fun _ _ => rfl) Tryz.func109 rfl rfl (res := [.tmp 4]) rfl (by kernel_rfl) rfl rfl rfl (L.r02_reader_four p0 p1 r hm)
def A.r02_reader_escaped : Ann := { seq := [(9, { L := [0], B := [0], A := [] })], loop := [(4, { L := [0, 3, 4, 5], B := [0], A := [] })], reg := [(5, [(3, 0, { L := [0, 3, 4, 5], B := [0], A := [] })]), (7, [(8, 0, { L := [4, 5], B := [0], A := [] })]), (10, [(3, 7, { L := [0, 6, 66], B := [0], A := [] })]), (14, [(3, 3, { L := [0, 6, 81], B := [0], A := [] })]), (17, [(3, 3, { L := [0, 6, 7, 96], B := [0], A := [] })])], drw := [(1, { anc := [0, 1, 3, 7, 15, 0, 32, 96, 224, 480, 1023], E := [], qs := [0, 1, 2, 3, 4, 5, 6, 7, 8, 9, 10], g := .fin }), (6, { anc := [0, 1, 3, 7, 0, 16, 48, 112, 240, 511, 0, 0, 3072, 8191], E := [], qs := [0, 1, 2, 3, 4, 5, 6, 7, 8, 9, 10, 11, 12, 13], g := .fin })], nb := 1 }
@[reducible] def I.r02_reader_escaped (p0 : T_seneschalref02_reader) : CIn := ⟨[.ptr 0 0], [⟨72, [.str p0.gs, .int .i64 p0.gi, .int .i64 p0.ge]⟩], []⟩
@[reducible] def O.r02_reader_escaped : (List UInt8) × T_seneschalref02_reader → COut
  | r => .ok [.str r.1] [⟨72, [.str r.2.gs, .int .i64 r.2.gi, .int .i64 r.2.ge]⟩] []
set_option maxRecDepth 1000000 in
set_option maxHeartbeats 4000000 in
theorem L.r02_reader_escaped (p0 : T_seneschalref02_reader) : S (M.r02_reader_escaped p0) fun r => ex TB CT A.r02_reader_escaped (Con Tryz.prog GG) (bodyOf Tryz.f90) (entry (I.r02_reader_escaped p0)) (fin TB A.r02_reader_escaped [.tmp 2] (O.r02_reader_escaped r)) := by
  unfold M.r02_reader_escaped
  refine S.jn (fun _ => ⟨[(0, .ptr 0 0)], [(0, ⟨72, [.str p0.gs, .int .i64 p0.gi, .int .i64 p0.ge]⟩)], [], none⟩) ?_ (fun _ => rfl) fun j_11 => ?_
  · refine S.an trivial ?_
    refine S.cb ?_ ?_
    · refine S.lw (L := M.r02_reader_escaped_k1 p0) (fun x_15 => ⟨[(0, .ptr 0 0), (3, .str ([34, 92, 47, 98, 102, 110, 114, 116] : List UInt8)), (4, .str ([34, 92, 47, 8, 12, 10, 13, 9] : List UInt8)), (5, .int .i64 x_15)], [(0, ⟨72, [.str p0.gs, .int .i64 p0.gi, .int .i64 p0.ge]⟩)], [], none⟩) (M.r02_reader_escaped_k1.partial_correctness p0) rfl fun f_r02_reader_escaped_k1 I_r02_reader_escaped_k1 ih_r02_reader_escaped_k1 x_15 => ?_
      refine S.cb ?_ ?_
      · refine S.e fun c_19 => ?_
        refine S.e fun c_20 => ?_
        refine S.an trivial ?_
        refine S.cb ?_ ?_
        · refine S.jp (⟨[(4, .str ([34, 92, 47, 8, 12, 10, 13, 9] : List UInt8)), (5, .int .i64 x_15)], [(0, ⟨72, [.str p0.gs, .int .i64 (IntKind.wrap .i64 (p0.gi + 2)), .int .i64 p0.ge]⟩)], [], none⟩) (fun _ => rfl) ?_
          refine S.e fun s_21 => ?_
          exact S.z ⟨rfl, ⟨⟨rfl, rfl⟩, trivial⟩, trivial, rfl⟩
        · refine S.jp (⟨[(0, .ptr 0 0), (3, .str ([34, 92, 47, 98, 102, 110, 114, 116] : List UInt8)), (4, .str ([34, 92, 47, 8, 12, 10, 13, 9] : List UInt8)), (5, .int .i64 (IntKind.wrap .i64 (x_15 + 1)))], [(0, ⟨72, [.str p0.gs, .int .i64 p0.gi, .int .i64 p0.ge]⟩)], [], none⟩) (fun _ => rfl) ?_
          exact ih_r02_reader_escaped_k1 _
      · exact S.z rfl
    · exact S.z rfl
  · refine S.k [0] [] [] (C.r02_reader_four p0 p0.gi) rfl ⟨⟨rfl, rfl⟩, trivial⟩ trivial rfl fun a_22 => ?_
    refine S.an rfl ?_
    refine S.jb (v := ((decide (a_22 < 0)) || ((decide (56320 ≤ a_22)) && (decide (a_22 ≤ 57343))))) (fun x_29 => ⟨[(0, .ptr 0 0), (6, .int .i64 a_22), (66, .bool x_29)], [(0, ⟨72, [.str p0.gs, .int .i64 p0.gi, .int .i64 p0.ge]⟩)], [], none⟩) (fun r => ?_) ?_
    · refine cnd (fun h_30 => ?_) (fun h_30 => ?_)
      · exact jbI rfl (or_t h_30)
      · refine cnd (fun h_31 => ?_) (fun h_31 => ?_)
        · exact jbI rfl (or_f h_30 (and_t h_31 rfl))
        · exact jbI rfl (or_f h_30 (and_f h_31))
    · refine S.cb ?_ ?_
      · refine S.k [0] [] [] (C.r02_reader_wrong p0 20) rfl ⟨⟨rfl, rfl⟩, trivial⟩ trivial rfl fun a_32 => ?_
        refine S.an rfl ?_
        exact S.z ⟨rfl, ⟨⟨rfl, rfl⟩, trivial⟩, trivial, rfl⟩
      · refine S.jb (v := ((decide (a_22 < 55296)) || (decide (56319 < a_22)))) (fun x_36 => ⟨[(0, .ptr 0 0), (6, .int .i64 a_22), (81, .bool x_36)], [(0, ⟨72, [.str p0.gs, .int .i64 (IntKind.wrap .i64 (p0.gi + 6)), .int .i64 p0.ge]⟩)], [], none⟩) (fun r => ?_) ?_
        · refine cnd (fun h_37 => ?_) (fun h_37 => ?_)
          · exact jbI rfl (or_t h_37)
          · exact jbI rfl (or_f h_37 rfl)
        · refine S.cb ?_ ?_
          · exact S.z ⟨rfl, ⟨⟨rfl, rfl⟩, trivial⟩, trivial, rfl⟩
          · refine S.k [0] [] [] (C.r02_reader_four (T_seneschalref02_reader.mk p0.gs (IntKind.wrap .i64 (p0.gi + 6)) p0.ge) (IntKind.wrap .i64 (p0.gi + 6))) rfl ⟨⟨rfl, rfl⟩, trivial⟩ trivial rfl fun a_38 => ?_
            refine S.an rfl ?_
            refine S.jb (v := ((decide (a_38 < 56320)) || (decide (57343 < a_38)))) (fun x_44 => ⟨[(0, .ptr 0 0), (6, .int .i64 a_22), (7, .int .i64 a_38), (96, .bool x_44)], [(0, ⟨72, [.str p0.gs, .int .i64 (IntKind.wrap .i64 (p0.gi + 6)), .int .i64 p0.ge]⟩)], [], none⟩) (fun r => ?_) ?_
            · refine cnd (fun h_45 => ?_) (fun h_45 => ?_)
              · exact jbI rfl (or_t h_45)
              · exact jbI rfl (or_f h_45 rfl)
            · refine S.cb ?_ ?_
              · refine S.k [0] [] [] (C.r02_reader_wrong (T_seneschalref02_reader.mk p0.gs (IntKind.wrap .i64 (p0.gi + 6)) p0.ge) 20) rfl ⟨⟨rfl, rfl⟩, trivial⟩ trivial rfl fun a_46 => ?_
                refine S.an rfl ?_
                exact S.z ⟨rfl, ⟨⟨rfl, rfl⟩, trivial⟩, trivial, rfl⟩
              · exact S.z ⟨rfl, ⟨⟨rfl, rfl⟩, trivial⟩, trivial, rfl⟩
set_option maxRecDepth 1000000 in
set_option maxHeartbeats 4000000 in
theorem C.r02_reader_escaped (p0 : T_seneschalref02_reader) : S (M.r02_reader_escaped p0) fun r => Con Tryz.prog GG 90 (I.r02_reader_escaped p0) (O.r02_reader_escaped r) := by
  intro r hm; exact Con.of TBG (fun _ _ => rfl) Tryz.func90 rfl rfl (res := [.tmp 2]) rfl (by kernel_rfl) rfl rfl rfl (L.r02_reader_escaped p0 r hm)
def A.r02_reader_text : Ann := { seq := [(19, { L := [], B := [0], A := [] })], loop := [(6, { L := [0, 3], B := [0], A := [3004], H := [(.slot 3 none, 3004, 5, 1)] })], reg := [(3, [(2, 0, { L := [], B := [0], A := [] })]), (5, [(8, 0, { L := [0, 3], B := [0], A := [100251], H := [(.slot 3 none, 100251, 5, 1)] })]), (9, [(8, 0, { L := [0, 3], B := [0], A := [100451], H := [(.slot 3 none, 100451, 5, 1)] })]), (10, [(3, 0, { L := [0, 3, 4, 36], B := [0], A := [100501], H := [(.slot 3 none, 100501, 5, 1)] })]), (12, [(3, 0, { L := [0, 3, 48], B := [0], A := [100601], H := [(.slot 3 none, 100601, 5, 1)] })]), (18, [(5, 0, { L := [0, 3], B := [0], A := [100901], H := [(.slot 3 none, 100901, 5, 1)] })])], own := [5], nb := 1 }
@[reducible] def I.r02_reader_text (p0 : T_seneschalref02_reader) : CIn := ⟨[.ptr 0 0], [⟨72, [.str p0.gs, .int .i64 p0.gi, .int .i64 p0.ge]⟩], []⟩
@[reducible] def O.r02_reader_text : (List UInt8) × T_seneschalref02_reader → COut
  | r => .ok [.str r.1] [⟨72, [.str r.2.gs, .int .i64 r.2.gi, .int .i64 r.2.ge]⟩] []
set_option maxRecDepth 1000000 in
set_option maxHeartbeats 4000000 in
theorem L.r02_reader_text (p0 : T_seneschalref02_reader) : S (M.r02_reader_text p0) fun r => ex TB CT A.r02_reader_text (Con Tryz.prog GG) (bodyOf Tryz.f63) (entry (I.r02_reader_text p0)) (fin TB A.r02_reader_text [.tmp 2] (O.r02_reader_text r)) := by
  unfold M.r02_reader_text
  refine S.k [0] [] [] (C.r02_reader_at p0) rfl ⟨⟨rfl, rfl⟩, trivial⟩ trivial rfl fun a_5 => ?_
  refine S.an rfl ?_
  refine S.cb ?_ ?_
  · refine S.k [0] [] [] (C.r02_reader_wrong p0 20) rfl ⟨⟨rfl, rfl⟩, trivial⟩ trivial rfl fun a_7 => ?_
    refine S.an rfl ?_
    refine S.jp (⟨[], [(0, ⟨72, [.str a_7.gs, .int .i64 a_7.gi, .int .i64 a_7.ge]⟩)], [], none⟩) (fun _ => rfl) ?_
    exact S.z ⟨rfl, ⟨⟨rfl, rfl⟩, trivial⟩, trivial, rfl⟩
  · refine S.jp (⟨[(0, .ptr 0 0), (3, .ref 100251)], [(0, ⟨72, [.str p0.gs, .int .i64 (IntKind.wrap .i64 (p0.gi + 1)), .int .i64 p0.ge]⟩)], [(100251, ⟨true, 5, 1, (([] : List Int).map (eI .u8))⟩)], none⟩) (fun _ => rfl) ?_
    refine S.jn (fun j_52 => ⟨[], [(0, ⟨72, [.str j_52.1, .int .i64 j_52.2.1, .int .i64 j_52.2.2]⟩)], [], none⟩) ?_ (fun _ => rfl) fun j_52 => ?_
    · refine S.lw4 (L := M.r02_reader_text_k1) (fun x_65 x_66 x_67 x_68 => ⟨[(0, .ptr 0 0), (3, .ref 3004)], [(0, ⟨72, [.str x_66, .int .i64 x_67, .int .i64 x_68]⟩)], [(3004, ⟨true, 5, 1, (x_65.map (eI .u8))⟩)], none⟩) (M.r02_reader_text_k1.partial_correctness) rfl fun f_r02_reader_text_k1 I_r02_reader_text_k1 ih_r02_reader_text_k1 x_65 x_66 x_67 x_68 => ?_
      refine S.cb ?_ ?_
      · refine S.k [0] [] [] (C.r02_reader_at (T_seneschalref02_reader.mk x_66 x_67 x_68)) rfl ⟨⟨rfl, rfl⟩, trivial⟩ trivial rfl fun a_81 => ?_
        refine S.an rfl ?_
        refine S.jp (⟨[(0, .ptr 0 0), (3, .ref 100501), (4, .int .u8 a_81), (36, .bool (decide (a_81 = 34)))], [(0, ⟨72, [.str x_66, .int .i64 x_67, .int .i64 x_68]⟩)], [(100501, ⟨true, 5, 1, (x_65.map (eI .u8))⟩)], none⟩) (fun _ => rfl) ?_
        refine S.cb ?_ ?_
        · refine S.k [] [] [] (C.valid x_65) rfl trivial trivial rfl fun a_83 => ?_
          refine S.an rfl ?_
          refine S.jp (⟨[(0, .ptr 0 0), (3, .ref 100601), (48, .bool (!a_83))], [(0, ⟨72, [.str x_66, .int .i64 (IntKind.wrap .i64 (x_67 + 1)), .int .i64 x_68]⟩)], [(100601, ⟨true, 5, 1, (x_65.map (eI .u8))⟩)], none⟩) (fun _ => rfl) ?_
          refine S.cb ?_ ?_
          · refine S.k [0] [] [] (C.r02_reader_wrong (T_seneschalref02_reader.mk x_66 (IntKind.wrap .i64 (x_67 + 1)) x_68) 20) rfl ⟨⟨rfl, rfl⟩, trivial⟩ trivial rfl fun a_85 => ?_
            refine S.an rfl ?_
            refine S.dby rfl ?_
            exact S.z ⟨rfl, ⟨⟨rfl, rfl⟩, trivial⟩, trivial, rfl⟩
          · refine S.dby rfl ?_
            exact S.z ⟨rfl, ⟨⟨rfl, rfl⟩, trivial⟩, trivial, rfl⟩
        · refine S.cb ?_ ?_
          · refine S.k [0] [] [] (C.r02_reader_wrong (T_seneschalref02_reader.mk x_66 x_67 x_68) 20) rfl ⟨⟨rfl, rfl⟩, trivial⟩ trivial rfl fun a_87 => ?_
            refine S.an rfl ?_
            exact ih_r02_reader_text_k1 _ _ _ _
          · refine S.cb ?_ ?_
            · refine S.k [0] [] [] (C.r02_reader_escaped (T_seneschalref02_reader.mk x_66 x_67 x_68)) rfl ⟨⟨rfl, rfl⟩, trivial⟩ trivial rfl fun a_89 => ?_
              refine S.an rfl ?_
              refine S.appE (f := (eI .u8)) (E := (fun l => l.map (eI .u8))) (xs := x_65) (ys := (unb a_89.1)) (fun _ => rfl) rfl rfl fun l_91 => ?_
              refine S.jp (⟨[(0, .ptr 0 0), (3, .ref 100901)], [(0, ⟨72, [.str a_89.2.gs, .int .i64 a_89.2.gi, .int .i64 a_89.2.ge]⟩)], [(100901, ⟨true, 5, 1, (l_91.map (eI .u8))⟩)], none⟩) (fun _ => rfl) ?_
              exact ih_r02_reader_text_k1 _ _ _ _
            · refine S.appE (f := (eI .u8)) (E := (fun l => l.map (eI .u8))) (xs := x_65) (ys := [a_81]) (fun _ => rfl) rfl rfl fun l_92 => ?_
              refine S.jp (⟨[(0, .ptr 0 0), (3, .ref 100451)], [(0, ⟨72, [.str x_66, .int .i64 (IntKind.wrap .i64 (x_67 + 1)), .int .i64 x_68]⟩)], [(100451, ⟨true, 5, 1, (l_92.map (eI .u8))⟩)], none⟩) (fun _ => rfl) ?_
              exact ih_r02_reader_text_k1 _ _ _ _
      · exact S.z rfl
    · exact S.z ⟨rfl, ⟨⟨rfl, rfl⟩, trivial⟩, trivial, rfl⟩
set_option maxRecDepth 1000000 in
set_option maxHeartbeats 4000000 in
theorem C.r02_reader_text (p0 : T_seneschalref02_reader) : S (M.r02_reader_text p0) fun r => Con Tryz.prog GG 63 (I.r02_reader_text p0) (O.r02_reader_text r) := by
  intro r hm; exact Con.of TBG (fun _ _ => rfl) Tryz.func63 rfl rfl (res := [.tmp 2]) rfl (by kernel_rfl) rfl rfl rfl (L.r02_reader_text p0 r hm)
def A.r02_reader_word : Ann := { seq := [(7, { L := [0, 2, 3, 4, 5, 48], B := [0, 1002], A := [] }), (9, { L := [0, 2], B := [0, 1002], A := [] })], loop := [(3, { L := [0, 2, 3, 4], B := [0, 1002], A := [] })], reg := [(8, [(3, 0, { L := [2], B := [0, 1002], A := [] })]), (10, [(2, 0, { L := [0, 2, 6, 71], B := [0, 1002], A := [] })])], drw := [(6, { anc := [0, 1, 3, 7, 15, 0, 32, 96, 224, 511, 0, 1024, 4095, 8191, 16383, 32767, 65535, 131071, 16383, 278527, 802815, 1851391, 16383, 4210687, 12599295, 29376511, 16383, 67125247, 264257535, 536870911, 16383, 2147483647, 4294967295], E := [], qs := [0, 1, 2, 3, 4, 5, 6, 7, 8, 9, 10, 11, 12, 13, 14, 15, 16, 17, 18, 19, 20, 21, 22, 23, 24, 25, 26, 27, 28, 29, 30, 31, 32], g := .fin }), (9, { anc := [0, 1, 3, 7, 0, 16, 48, 112, 255, 511, 1023], E := [9], qs := [0, 1, 2, 3, 4, 5, 6, 7, 8], g := .one 9 [] [10] (.fin) }), (14, { anc := [0, 1, 3, 7, 0, 16, 48, 112, 0, 496, 0, 1024, 3072, 7168, 16383, 32767, 65535], E := [16], qs := [0, 1, 2, 3, 4, 5, 6, 7, 8, 9, 10, 11, 12, 13, 14, 15], g := .one 16 [] [] (.fin) })], nb := 1 }
@[reducible] def I.r02_reader_word (p0 : T_seneschalref02_reader) : CIn := ⟨[.ptr 0 0], [⟨72, [.str p0.gs, .int .i64 p0.gi, .int .i64 p0.ge]⟩], []⟩
@[reducible] def O.r02_reader_word : T_api_Json × T_seneschalref02_reader → COut
  | r => .ok [.agg [.int .i64 r.1.gKind, .str r.1.gText, .sl 25 4 (T_api_Json.encs r.1.gList), .sl 9 1 (r.1.gKeys.map eS)]] [⟨72, [.str r.2.gs, .int .i64 r.2.gi, .int .i64 r.2.ge]⟩] []
set_option maxRecDepth 1000000 in
set_option maxHeartbeats 4000000 in
theorem L.r02_reader_word (p0 : T_seneschalref02_reader) : S (M.r02_reader_word p0) fun r => ex TB CT A.r02_reader_word (Con Tryz.prog GG) (bodyOf Tryz.f65) (entry (I.r02_reader_word p0)) (fin TB A.r02_reader_word [.cell 2 25] (O.r02_reader_word r)) := by
  unfold M.r02_reader_word
  refine S.jn (fun _ => ⟨[(0, .ptr 0 0), (2, .ptr 1002 0)], [(0, ⟨72, [.str p0.gs, .int .i64 p0.gi, .int .i64 p0.ge]⟩), (1002, ⟨25, [.int .i64 0, .str ([] : List UInt8), .nil, .nil]⟩)], [], none⟩) ?_ (fun _ => rfl) fun j_20 => ?_
  · refine S.lw (L := M.r02_reader_word_k1 p0) (fun x_27 => ⟨[(0, .ptr 0 0), (2, .ptr 1002 0), (3, .sl 9 1 ([([110, 117, 108, 108] : List UInt8), ([102, 97, 108, 115, 101] : List UInt8), ([116, 114, 117, 101] : List UInt8)].map eS)), (4, .int .i64 x_27)], [(0, ⟨72, [.str p0.gs, .int .i64 p0.gi, .int .i64 p0.ge]⟩), (1002, ⟨25, [.int .i64 0, .str ([] : List UInt8), .nil, .nil]⟩)], [], none⟩) (M.r02_reader_word_k1.partial_correctness p0) rfl fun f_r02_reader_word_k1 I_r02_reader_word_k1 ih_r02_reader_word_k1 x_27 => ?_
    refine S.cb ?_ ?_
    · refine S.ixE (f := eS) (c := fun x => [D.str x]) (fun _ => rfl) rfl (fun _ => rfl) fun x_34 => ?_
      refine S.j (fun j_38 => ⟨[(0, .ptr 0 0), (2, .ptr 1002 0), (3, .sl 9 1 ([([110, 117, 108, 108] : List UInt8), ([102, 97, 108, 115, 101] : List UInt8), ([116, 114, 117, 101] : List UInt8)].map eS)), (4, .int .i64 x_27), (5, .str x_34), (48, .bool j_38)], [(0, ⟨72, [.str p0.gs, .int .i64 p0.gi, .int .i64 p0.ge]⟩), (1002, ⟨25, [.int .i64 0, .str ([] : List UInt8), .nil, .nil]⟩)], [], none⟩) (fun r => ?_) fun j_38 => ?_
      · refine S.cb ?_ ?_
        · refine S.e fun s_39 => ?_
          refine S.an trivial ?_
          exact S.z rfl
        · refine S.an trivial ?_
          exact S.z rfl
      · refine S.cb ?_ ?_
        · refine S.jp (⟨[(2, .ptr 1002 0)], [(0, ⟨72, [.str p0.gs, .int .i64 (IntKind.wrap .i64 (p0.gi + (x_34.length : Int))), .int .i64 p0.ge]⟩), (1002, ⟨25, [.int .i64 x_27, .str ([] : List UInt8), .nil, .nil]⟩)], [], none⟩) (fun _ => rfl) ?_
          exact S.z ⟨rfl, ⟨⟨rfl, rfl⟩, trivial⟩, trivial, rfl⟩
        · exact ih_r02_reader_word_k1 _
    · exact S.z rfl
  · refine S.e fun s_40 => ?_
    refine S.an trivial ?_
    refine S.k [] [] [] (C.r02_number s_40) rfl trivial trivial rfl fun a_41 => ?_
    refine S.an rfl ?_
    refine S.an trivial ?_
    refine S.jp (⟨[(0, .ptr 0 0), (2, .ptr 1002 0), (6, .int .i64 a_41), (71, .bool (decide (a_41 = 0)))], [(0, ⟨72, [.str p0.gs, .int .i64 p0.gi, .int .i64 p0.ge]⟩), (1002, ⟨25, [.int .i64 0, .str ([] : List UInt8), .nil, .nil]⟩)], [], none⟩) (fun _ => rfl) ?_
    refine S.cb ?_ ?_
    · refine S.k [0] [] [] (C.r02_reader_wrong p0 20) rfl ⟨⟨rfl, rfl⟩, trivial⟩ trivial rfl fun a_45 => ?_
      refine S.an rfl ?_
      exact S.z ⟨rfl, ⟨⟨rfl, rfl⟩, trivial⟩, trivial, rfl⟩
    · refine S.e fun s_47 => ?_
      refine S.an trivial ?_
      refine S.an trivial ?_
      exact S.z ⟨rfl, ⟨⟨rfl, rfl⟩, trivial⟩, trivial, rfl⟩
set_option maxRecDepth 1000000 in
set_option maxHeartbeats 4000000 in
theorem C.r02_reader_word (p0 : T_seneschalref02_reader) : S (M.r02_reader_word p0) fun r => Con Tryz.prog GG 65 (I.r02_reader_word p0) (O.r02_reader_word r) := by
  intro r hm; exact Con.of TBG (fun _ _ => rfl) Tryz.func65 rfl rfl (res := [.cell 2 25]) rfl (by kernel_rfl) rfl rfl rfl (L.r02_reader_word p0 r hm)
end Go.Proofs.YtcfkkgpnggdlnaaGreatDoor
