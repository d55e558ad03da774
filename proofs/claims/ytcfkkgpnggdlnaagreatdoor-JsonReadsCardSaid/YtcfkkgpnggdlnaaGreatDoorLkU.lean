/- LkU: what a program of ours printed of the program's functions. -/
import Derived.Test.YtcfkkgpnggdlnaaGreatDoorLkI
import Derived.Shelf.Unicode.ValidAny
set_option linter.all false
namespace Go.Lk
theorem utf8_tr {g h : Nat} {w w' : World} {O O' : Nat → Prop} (t : Tr O w O' w') (hg : ¬ O g) (hh : ¬ O h) (x : Lib.Utf8Tabs g h w) : Lib.Utf8Tabs g h w' :=
  ⟨fun c hc => cell_tr t (x.1 c hc) hg, fun i hi => ⟨cell_tr t (x.2 i hi).1 hh, cell_tr t (x.2 i hi).2 hh⟩⟩
theorem cell_lt {w : World} {b q : Nat} {u : Value} (h : w.cell? ⟨b, q, none⟩ = some u) : b < w.heap.size := by
  rcases Nat.lt_or_ge b w.heap.size with h' | h'
  · exact h'
  · simp [World.cell?, Array.getElem?_eq_none h'] at h
theorem utf8_lt {g h : Nat} {w : World} (x : Lib.Utf8Tabs g h w) : g < w.heap.size ∧ h < w.heap.size :=
  ⟨cell_lt (x.1 0 (by omega)), cell_lt (x.2 0 (by omega)).1⟩
end Go.Lk
