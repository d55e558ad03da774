/- The library's functions that the program calls, as contracts: each out of the shelf's theorem. -/
import Derived.Test.YtcfkkgpnggdlnaaGreatDoorJsT
import Derived.Test.YtcfkkgpnggdlnaaGreatDoorJsCC
import Derived.Test.YtcfkkgpnggdlnaaGreatDoorPeK
import Derived.Test.YtcfkkgpnggdlnaaGreatDoorTryzShelf
import Derived.Test.YtcfkkgpnggdlnaaGreatDoorLkU
import Derived.Test.YtcfkkgpnggdlnaaGreatDoorJsV
set_option linter.all false
namespace Go.Proofs.YtcfkkgpnggdlnaaGreatDoor
open Go.Lk Go.Pe Go.Sen Go.RowKit Go.Shelf
theorem S.chk {A : Type} {b : Bool} {y : Unit → Option A} {F : A → Prop} (h : b = true → S (y ()) F) : S (Go.Lk.chk b >>= y) F := fun r hm => by
  obtain ⟨_, h1, h2⟩ := Option.bind_eq_some_iff.1 hm
  exact h (chk_some h1) r h2
/-- An error, or none. -/
def Er (v : Value) : Prop := v = .nilIface ∨ ∃ t p, v = .iface t p
/-- What the library's variables hold. -/
structure Vars (w : World) : Prop where
  utf : Lib.Utf8Tabs 0 1 w
  syn : ∃ v, w.cell? ⟨2, 0, none⟩ = some v ∧ Er v
  rng : ∃ v, w.cell? ⟨3, 0, none⟩ = some v ∧ Er v
  pow : ∃ e f, w.heap[4]? = some (.cells (Lib.pow10Tab.map fun z => Value.int .u64 z).toArray e f)
def GG : GI := ⟨fun w O => Vars w ∧ ∀ b, b ≤ 4 → ¬ O b, fun {O w O' w'} t h => by
  obtain ⟨h, k⟩ := h
  have h4 : 4 < w.heap.size := by
    obtain ⟨e, f, h4⟩ := h.pow
    exact (Array.getElem?_eq_some_iff.1 h4).1
  refine ⟨⟨utf8_tr t (k 0 (by decide)) (k 1 (by decide)) h.utf, ?_, ?_, ?_⟩, fun b hb => t.owned b (by omega) (k b hb)⟩
  · obtain ⟨v, h1, h2⟩ := h.syn
    exact ⟨v, cell_tr t h1 (k 2 (by decide)), h2⟩
  · obtain ⟨v, h1, h2⟩ := h.rng
    exact ⟨v, cell_tr t h1 (k 3 (by decide)), h2⟩
  · obtain ⟨e, f, h1⟩ := h.pow
    exact ⟨e, f, (t.block 4 h4 (k 4 (by decide))).trans h1⟩⟩
set_option maxRecDepth 1000000 in
theorem C.copyCheck (p0 : List Int) : S (M.copyCheck p0) fun r => Con Tryz.prog GG 73 (I.copyCheck p0) (O.copyCheck p0 r) := by
  intro r hm
  refine ⟨fun _ _ => rfl, fun w O φ α us hv hm hB hG => ?_⟩
  obtain ⟨u, us', rfl, hu, hus⟩ := hv
  have hus : us' = [] := hus
  subst hus
  simp only [VR] at hu
  subst hu
  obtain ⟨hO, us, hbx, p, us2, rfl, hp, v, us3, rfl, hv, h3⟩ := hm.box 0 _ rfl
  have h3 : us3 = [] := h3
  subst h3
  simp only [VR] at hp hv
  obtain ⟨rfl, hone⟩ := hv
  refine (copyCheck_low w (φ 0) p (α 0) hbx hp hone).mono fun e w' ⟨h1, h2, h3⟩ => ?_
  have hne := hm.ab 0 0 _ rfl (Nat.zero_lt_one)
  have tr : Tr O w O w' := Tr.of_ext h3 fun x _ hx => by cases hx; exact hO
  have hown := (hm.arr 0 _ rfl).keep h3 (fun b hb hx => hne (by rw [hb]; exact congrArg some hx)) tr (fun _ h => h)
  refine ⟨[], O, φ, α, h1, ⟨rfl, ⟨fun b e he => ?_, fun a e he => ?_, fun a b la lb' hn => ?_, fun a b e e' ha hb hn => ?_, fun a b e ha hb => ?_⟩, fun _ _ => rfl, Nat.le_refl _, fun x hx => Nat.lt_of_lt_of_le (hB x hx) h3.size, tr, fun _ hx => hx, fun _ hx => .inl hx, h3.mono fun x _ hx => .inl ⟨0, Nat.zero_lt_one, hx.symm⟩, fun b h1 h2 => ?_, fun a e x he hx => ?_⟩⟩
  · match b, he with
    | 0, he =>
      cases he
      exact ⟨hO, _, h2, _, _, rfl, .inr rfl, _, [], rfl, ⟨rfl, hone⟩, rfl⟩
  · match a, he with
    | 0, he => cases he; exact hown
  · simp at la lb'
    omega
  · match a, b, ha, hb with
    | 0, 0, _, _ => exact (hn rfl).elim
  · match a, ha with
    | 0, ha =>
      have : b = 0 := by simpa using hb
      subst this
      exact hm.ab 0 0 _ rfl (Nat.zero_lt_one)
  · simp at h1 h2
    omega
  · match a, he with
    | 0, he => exact .inl ⟨0, Nat.zero_lt_one, hx⟩
set_option maxRecDepth 1000000 in
theorem C.validString (p0 : List UInt8) : S (M.validString p0) fun r => Con Tryz.prog GG 44 (I.validString p0) (O.validString r) := by
  unfold M.validString
  refine S.chk fun h0 => ?_
  have h0 := of_decide_eq_true h0
  intro r hm
  cases hm
  refine Con.lib (fun _ _ => rfl) fun w O φ α us hv hB hG => ?_
  obtain ⟨us1, rfl, hv1⟩ := hv.str
  obtain rfl := hv1.nil
  refine (Any.utf8_ValidString Tryz.lays196 ⟨p0.toArray⟩ w (by simpa [ByteArray.size] using h0) hG.1.utf).mono ?_
  rintro e w' ⟨rfl, hb⟩
  exact ⟨[_], rfl, fun _ _ _ => .gBool _, .of_below hb⟩
set_option maxRecDepth 1000000 in
theorem C.indexByte (p0 : List UInt8) (p1 : Int) : S (M.indexByte p0 p1) fun r => Con Tryz.prog GG 74 (I.indexByte p0 p1) (O.indexByte r) := by
  intro r hm
  cases hm
  refine Con.lib (fun _ _ => rfl) fun w O φ α us hv hB hG => ?_
  obtain ⟨us1, rfl, hv1⟩ := hv.str
  obtain ⟨us2, rfl, hv2⟩ := hv1.int
  obtain rfl := hv2.nil
  refine (Any.strings_IndexByte Tryz.lays137 ⟨p0.toArray⟩ p1 w).mono ?_
  rintro e w' ⟨rfl, rfl⟩
  exact ⟨[_], rfl, fun _ _ _ => .gInt _ _, .refl _ _⟩
theorem asc {l : List UInt8} (h : (l.all fun b => decide (b.toNat < 128)) = true) : ∀ (j : Nat) b, l[j]? = some b → b.toNat < 128 := fun j b hb => by
  have := List.all_eq_true.1 h b (List.mem_of_getElem? hb)
  simpa using this
set_option maxRecDepth 1000000 in
theorem C.trimLeft (p0 p1 : List UInt8) : S (M.trimLeft p0 p1) fun r => Con Tryz.prog GG 56 (I.trimLeft p0 p1) (O.trimLeft r) := by
  unfold M.trimLeft
  intro r hm
  obtain ⟨_, hc, hm⟩ := Option.bind_eq_some_iff.1 hm
  obtain ⟨h1, h2⟩ := Bool.and_eq_true_iff.1 (chk_some hc)
  cases hm
  refine Con.lib (fun _ _ => rfl) fun w O φ α us hv hB hG => ?_
  obtain ⟨us1, rfl, hv1⟩ := hv.str
  obtain ⟨us2, rfl, hv2⟩ := hv1.str
  obtain rfl := hv2.nil
  refine (Any.strings_TrimLeft_laid Tryz.lays161 (by kernel_rfl) ⟨p0.toArray⟩ ⟨p1.toArray⟩ w (by simpa [ByteArray.size] using h1) (by simpa using asc h2)).mono ?_
  rintro e w' ⟨rfl, hb⟩
  exact ⟨[_], rfl, fun _ _ _ => .gStr _, .of_below hb⟩
set_option maxRecDepth 1000000 in
theorem C.trim (p0 p1 : List UInt8) : S (M.trim p0 p1) fun r => Con Tryz.prog GG 123 (I.trim p0 p1) (O.trim r) := by
  unfold M.trim
  intro r hm
  obtain ⟨_, hc, hm⟩ := Option.bind_eq_some_iff.1 hm
  obtain ⟨h0, h2⟩ := Bool.and_eq_true_iff.1 (chk_some hc)
  obtain ⟨h1, h2⟩ := Bool.and_eq_true_iff.1 h2
  cases hm
  refine Con.lib (fun _ _ => rfl) fun w O φ α us hv hB hG => ?_
  obtain ⟨us1, rfl, hv1⟩ := hv.str
  obtain ⟨us2, rfl, hv2⟩ := hv1.str
  obtain rfl := hv2.nil
  refine (Any.strings_Trim_laid Tryz.lays160 (by kernel_rfl) ⟨p0.toArray⟩ ⟨p1.toArray⟩ w (by simpa [ByteArray.size] using h0) (by simpa [ByteArray.size] using h1) (by simpa using asc h2)).mono ?_
  rintro e w' ⟨rfl, hb⟩
  exact ⟨[_], rfl, fun _ _ _ => .gStr _, .of_below hb⟩
set_option maxRecDepth 1000000 in
theorem C.atoi (p0 : List UInt8) : S (M.atoi p0) fun r => Con Tryz.prog GG 34 (I.atoi p0) (O.atoi r) := by
  unfold M.atoi
  refine S.chk fun h0 => ?_
  have h0 := of_decide_eq_true h0
  have hs : (⟨p0.toArray⟩ : ByteArray).size ≤ 281474976710656 := by simpa [ByteArray.size] using h0
  intro r hm
  rcases hv0 : Lib.atoiAll p0 with v | _ | _ <;> rw [hv0] at hm <;> dsimp only at hm
  · cases hm
    refine Con.lib (fun _ _ => rfl) fun w O φ α us hv hB hG => ?_
    obtain ⟨us1, rfl, hv1⟩ := hv.str
    obtain rfl := hv1.nil
    refine (Any.strconv_Atoi_ok Tryz.laysC172 ⟨p0.toArray⟩ (by omega) v (by simpa using hv0) w).mono ?_
    rintro e w' ⟨rfl, hw⟩
    refine ⟨[_, _], rfl, fun _ _ _ => ⟨_, _, rfl, rfl, _, [], rfl, .inl ⟨rfl, rfl⟩, rfl⟩, ?_⟩
    rcases hw with rfl | ⟨t, rfl⟩
    · exact .refl _ _
    · exact Go.Pe.Ext.bytes _ _ _
  · cases hm
    refine Con.lib (fun _ _ => rfl) fun w O φ α us hv hB hG => ?_
    obtain ⟨us1, rfl, hv1⟩ := hv.str
    obtain rfl := hv1.nil
    obtain ⟨ev, h1, h2⟩ := hG.1.syn
    refine (Any.strconv_Atoi_syntax Tryz.laysC172 ⟨p0.toArray⟩ hs (by simpa using hv0) ev w h1 h2).mono ?_
    rintro e w' ⟨N, rfl, _, _, hb⟩
    exact ⟨[_, _], rfl, fun _ _ _ => ⟨_, _, rfl, rfl, _, [], rfl, .inr ⟨rfl, _, _, rfl⟩, rfl⟩, .of_below hb⟩
  · cases hm
    refine Con.lib (fun _ _ => rfl) fun w O φ α us hv hB hG => ?_
    obtain ⟨us1, rfl, hv1⟩ := hv.str
    obtain rfl := hv1.nil
    obtain ⟨ev, h1, h2⟩ := hG.1.rng
    refine (Any.strconv_Atoi_range Tryz.laysC172 ⟨p0.toArray⟩ hs (by simpa using hv0) ev w h1 h2).mono ?_
    rintro e w' ⟨N, rfl, _, _, hb⟩
    exact ⟨[_, _], rfl, fun _ _ _ => ⟨_, _, rfl, by simp [VR], _, [], rfl, .inr ⟨rfl, _, _, rfl⟩, rfl⟩, .of_below hb⟩
set_option maxRecDepth 1000000 in
theorem C.itoa (p0 : Int) : S (M.itoa p0) fun r => Con Tryz.prog GG 35 (I.itoa p0) (O.itoa r) := by
  unfold M.itoa
  intro r hm
  obtain ⟨_, hc, hm⟩ := Option.bind_eq_some_iff.1 hm
  obtain ⟨h1, h2⟩ := Bool.and_eq_true_iff.1 (chk_some hc)
  cases hm
  refine Con.lib (fun _ _ => rfl) fun w O φ α us hv hB hG => ?_
  obtain ⟨us1, rfl, hv1⟩ := hv.int
  obtain rfl := hv1.nil
  obtain ⟨e, f, h4⟩ := hG.1.pow
  have htab : Lib.TabIs Tryz.prog w "internal/strconv.uint64pow10" .u64 Lib.pow10Tab := by
    unfold Lib.TabIs World.var?
    rw [show Tryz.prog.globalNamed "internal/strconv.uint64pow10" = some 4 from by kernel_rfl]
    simp [h4]
  refine (Any.strconv_Itoa Tryz.laysM171 p0 (of_decide_eq_true h1) (of_decide_eq_true h2) w htab).mono ?_
  rintro e w' ⟨rfl, k, os, rfl⟩
  exact ⟨[_], rfl, fun _ _ _ => .gStr _, .of_below (below_grown w k os)⟩
set_option maxRecDepth 1000000 in
theorem C.builderString (p0 : List Int) : S (M.builderString p0) fun r => Con Tryz.prog GG 30 (I.builderString p0) (O.builderString p0 r) := by
  unfold M.builderString
  refine S.chk fun h0 => ?_
  have h0 := of_decide_eq_true h0
  intro r hm
  cases hm
  exact Con.string Tryz.lays169 Tryz.Builder_Extra_169 (fun _ _ => rfl) (by decide) (.inl rfl) p0 h0
@[reducible] def I.builderString_z (p0 : List Int) : CIn := ⟨[.ptr 0 0], [⟨52, [.selfp 0, .ref 0]⟩], [(1000005, 1, (p0.map (eI .u8)))]⟩
set_option maxRecDepth 1000000 in
theorem C.builderString_z (p0 : List Int) : S (M.builderString p0) fun r => Con Tryz.prog GG 30 (I.builderString_z p0) (O.builderString p0 r) := by
  unfold M.builderString
  refine S.chk fun h0 => ?_
  have h0 := of_decide_eq_true h0
  intro r hm
  cases hm
  exact Con.string Tryz.lays169 Tryz.Builder_Extra_169 (fun _ _ => rfl) (by decide) (.inr rfl) p0 h0
theorem Texts.of {w : World} {O : Nat → Prop} {zs : List (List UInt8)} {v : Value} (h : RD w O (.sl 9 1 (zs.map eS)) v) : ∃ a cap, v = .slice a zs.length cap ∧ Texts w v zs := by
  rcases h with ⟨⟨p, rfl⟩, h⟩ | ⟨b, off, cap, cs, fr, rfl, _, _, _, h1, h2, h3⟩
  · obtain rfl : zs = [] := by simpa using h
    exact ⟨p, 0, rfl, .inl ⟨p, rfl, rfl⟩⟩
  · refine ⟨some ⟨b, off, none⟩, cap, by simp, .inr ⟨b, off, cap, by simp, (Array.getElem?_eq_some_iff.1 h1).1, fun j hj => ?_⟩⟩
    obtain ⟨x, hx⟩ : ∃ x, zs[j]? = some x := ⟨zs[j], by simp [hj]⟩
    have h4 := RDl.at h3 (i := j) (x := eS x) (by simp [hx])
    have h5 := one_str h4
    rw [cell_of_row w b (off + j) cs fr.1 fr.2 h1, hx]
    have h6 : ((cs.toList.drop off).drop (j * 1)).take 1 = [Value.string ⟨x.toArray⟩] := h5
    have := congrArg (fun l => l[0]?) h6
    simpa [List.getElem?_take, List.getElem?_drop] using this
set_option maxRecDepth 1000000 in
theorem C.single (p0 : List (List UInt8)) : S (M.single p0) fun r => Con Tryz.prog GG 45 (I.single p0) (O.single r) := by
  unfold M.single
  refine S.chk fun h0 => ?_
  have h0 := of_decide_eq_true h0
  intro r hm
  cases hm
  refine Con.lib (fun _ _ => rfl) fun w O φ α us hv hB hG => ?_
  obtain ⟨v, us', rfl, h1, h2⟩ := hv
  obtain rfl : us' = [] := h2
  simp only [VR] at h1
  obtain ⟨a, cap, rfl, h3⟩ := Texts.of h1
  refine (single_low w a _ cap p0 h0 rfl h3).mono ?_
  rintro e w' ⟨rfl, hb⟩
  exact ⟨[_], rfl, fun _ _ _ => .gBool _, .of_below hb⟩
theorem row_of_cell {w : World} {b q : Nat} {u : Value} (h : w.cell? ⟨b, q, none⟩ = some u) : ∃ r T fr, w.heap[b]? = some (.cells r T fr) ∧ r[q]? = some u := by
  unfold World.cell? at h
  split at h
  · rename_i c T fr e
    exact ⟨c, T, fr, e, h⟩
  · cases h
theorem TBG : TbG Tryz.prog TB GG := ⟨TBok, fun w O h g e he => by
  obtain ⟨hv, ho⟩ := h
  obtain ⟨h1, h2⟩ := hv.utf
  rcases lk_cons he with ⟨rfl, rfl⟩ | ⟨_, he⟩
  · refine ⟨by simp [utf8First], fun i x hx => ?_⟩
    have hi : i < 256 := by
      have := (List.getElem?_eq_some_iff.1 hx).1
      simpa [utf8First] using this
    have hx : x = eI .u8 ((Lib.firstT i : Nat) : Int) := by
      simp [utf8First, hi] at hx
      exact hx.symm
    subst hx
    obtain ⟨r, T, fr, k1, k2⟩ := row_of_cell (h1 i hi)
    refine ⟨[.int .u8 ((Lib.firstT i : Nat) : Int)], rfl, ⟨ho 0 (by decide), r, T, fr, k1, fun j u hj => ?_⟩, ⟨_, _, rfl, rfl, rfl⟩⟩
    match j, hj with
    | 0, hj => cases hj; simpa using k2
  · rcases lk_cons he with ⟨rfl, rfl⟩ | ⟨_, he⟩
    · refine ⟨by simp [utf8Acc], fun i x hx => ?_⟩
      have hi : i < 16 := by
        have := (List.getElem?_eq_some_iff.1 hx).1
        simpa [utf8Acc] using this
      have hx : x = [.int .u8 ((Lib.accLo i : Nat) : Int), .int .u8 ((Lib.accHi i : Nat) : Int)] := by
        simp [utf8Acc, hi] at hx
        exact hx.symm
      subst hx
      obtain ⟨q1, q2⟩ := h2 i hi
      obtain ⟨r, T, fr, k1, k2⟩ := row_of_cell q1
      obtain ⟨r', T', fr', k3, k4⟩ := row_of_cell q2
      rw [k1] at k3
      cases k3
      refine ⟨[.int .u8 ((Lib.accLo i : Nat) : Int), .int .u8 ((Lib.accHi i : Nat) : Int)], rfl, ⟨ho 1 (by decide), r, T, fr, k1, fun j u hj => ?_⟩, ⟨_, _, rfl, rfl, _, _, rfl, rfl, rfl⟩⟩
      match j, hj with
      | 0, hj => cases hj; rw [show i * 2 + 0 = 2 * i by omega]; exact k2
      | 1, hj => cases hj; rw [show i * 2 + 1 = 2 * i + 1 by omega]; exact k4
    · cases he⟩
end Go.Proofs.YtcfkkgpnggdlnaaGreatDoor
