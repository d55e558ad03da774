import Derived.Test.YtfdoofnmjehecaaGreatDoorCards
import Derived.Test.YtfdoofnmjehecaaGreatDoorTie
import Derived.Test.YtfdoofnmjehecaaGreatDoorAHtV
import Derived.Test.YtfdoofnmjehecaaGreatDoorAHnB
import Derived.ProofKit
import Derived.OpenShut
import Derived.Deep.DeepHandedRow
import Derived.Deep.DeepLaidRun
import Derived.Deep.DeepWitnessRowRef
import Derived.Lib.LaidU8T
import Derived.Lib.LaidTab
import Derived.Lib.LaidIn
import Derived.Stop.LaidErr
import Derived.PinnedBridge
import Derived.Shelf.Vars
set_option linter.all false
namespace Go.Proofs.YtfdoofnmjehecaaGreatDoor
open _root_.List renaming range → ya
open _root_.Nat renaming not_lt_zero → yb
open Go.Lk Go.Pe Go.Sen Go.ChangeShapes Go.WideShapes Go.ChangeAt Go.RowKit
open Go.ChangeMaps (open_string shut_string)
theorem own:ownKnob Tryz.prog.godebug=none:=by kernel_rfl
theorem laidOut:laidOutB Tryz.prog=true:=by kernel_rfl
theorem rowed:mapsRowed Tryz.prog=true:=by kernel_rfl
theorem zz07t:true=Tryz.prog.looks []:=by kernel_rfl
theorem goes0:Tryz.prog.funcs.any Func.goes=false:=by kernel_rfl
theorem main0:Tryz.prog.mainIs=some (true, "bc81eb19e4f554f8384fa3bca87139c0af04db129f2d8a0c7d2b740d0e0bb8e7".toList):=by kernel_rfl
theorem zz03s (f:FuncId):Tryz.prog.goes f=false:=by
 unfold Program.goes
 rw [goes0,Bool.and_false,Bool.or_false,List.any_eq_false]
 intro g _
 cases hg:Tryz.prog.funcs[g]? with
 | none=>simp
 | some fn =>
  have h:=Array.any_eq_false.1 goes0
  obtain ⟨hi,he⟩:=Array.getElem?_eq_some_iff.1 hg
  have:=h g hi
  rw [he] at this
  simpa using this
theorem zve {c:OpenClaim} (h:c.start = .entering):false=c.goesBy Tryz.prog:=by
 unfold OpenClaim.goesBy Program.goesAt Program.goesFrom
 rw [h]
 cases Tryz.prog.funcNamed c.func with
 | none=>rfl
 | some f=>simp [zz03s]
theorem z8k:Tryz.prog.cellsOf 9=1:=by kernel_rfl
theorem zuc:Tryz.prog.cellsOf 22=1:=by kernel_rfl
theorem zku:Tryz.prog.cellsOf 23=1:=by kernel_rfl
theorem zf1:Tryz.prog.cellsOf 72=2:=by kernel_rfl
theorem zud:Tryz.prog.cellsOf 25=5:=by kernel_rfl
def QS {H:Type} (s:Z) (d:DataW H):Prop:=s.length+1≤Rows.uptoBulk d
theorem ztv {H:Type}:∀ {l:List Z} {ds:List (DataW H)},Q2 QS l ds→kys l≤Rows.uptoBulkAll ds
 | [],[],_=>by simp [kys]
 | x::l,d::ds,h=>by
  obtain ⟨h3,h4⟩:=h
  have h7:=ztv h4
  simp only [QS] at h3
  rw [z6l]
  simp only [Rows.uptoBulkAll]
  omega
 | [],_::_,h=>h.elim
 | _::_,[],h=>h.elim
theorem len_2 {α:Type} {l:List α} (h:l.length=2):∃ a0 a1,l=[a0,a1]:=by
 match l,h with
 | [a0,a1],_=>exact ⟨a0,a1,rfl⟩
theorem zwo {H:Type} {enc:TypeId × Value→H} {w:World} {held:Bool} {n:Nat} {cs:List Value} {y:DataW H × List MemPlace} (h:DataW.trod enc Tryz.prog w 0 (fun _=>true) held n 22 cs=some y):∃ v,∃ l:List Z,cs=[v]∧RD w No (.sl 9 1 (l.map eS)) v∧kys l+1≤Rows.uptoBulk y.1:=by
 obtain ⟨v,l,e,h3,-,h5⟩:=rd_sl Tryz.underlying22 z8k (by decide) eS (QS (H:=H)) (fun g hg cs y hh=>by
  obtain ⟨s,e,rfl,_⟩:=zml Tryz.underlying9 hh
  exact ⟨s,⟨_,_,e,rfl,rfl⟩,by simp [QS,Rows.uptoBulk]⟩) h
 refine ⟨v,l,e,h3,?_⟩
 rcases h5 with ⟨h6,rfl⟩|⟨es,rest,h6,h7⟩
 ·rw [h6];simp [kys,Rows.uptoBulk]
 ·have h8:=ztv h7
  rw [h6]
  simp only [Rows.uptoBulk];omega
abbrev TR {H:Type} (enc:TypeId × Value→H) (w:World) (held:Bool) (n t:Nat) (cs:List Value) (x:DataW H × List MemPlace):Prop:=DataW.trod enc Tryz.prog w 0 (fun _=>true) held n t cs=some x
theorem zpl {H:Type} {enc:TypeId × Value→H} {w:World} {held:Bool} {n T k:Nat} {cs:List Value} {x:DataW H × List MemPlace} (hc:Tryz.prog.cellsOf T=k) (h:DataW.trod enc Tryz.prog w 0 (fun _=>true) held n T (cs.take (Tryz.prog.cellsOf T))=some x):TR enc w held n T (cs.take k) x:=by
 rw [hc] at h
 exact h
theorem zhu:Tryz.prog.cellsOf 303=1:=by kernel_rfl
theorem zs4:Tryz.prog.cellsOf 288=20:=by kernel_rfl
theorem zs3:Tryz.prog.cellsOf 269=1:=by kernel_rfl
theorem zz07x (W:World) (O:Nat→Prop) (φ:Nat→Nat) (α:Nat→Value):Mm W O φ α [] (([]:List (Nat × Nat × List (List D))).map some) :=
 ⟨fun b e h=>by simp at h,fun a e h=>by simp at h,fun a b h=>by simp at h,fun a b e e' h=>by simp at h,fun a b e h=>by simp at h⟩
theorem zz07c {vs:List PV} {φ:Nat→Nat} {α:Nat→Value} {W W':World} (h:Ext (FI ⟨vs,[],[]⟩ φ α) W W'):Ext z14 W W' :=
 h.mono fun x hx hf=>by
  rcases hf with ⟨b,hb,_⟩|⟨a,ha,_⟩
  ·exact absurd hb (yb _)
  ·exact absurd ha (yb _)
theorem zz05s:U8Extra Tryz.prog Tryz.zbn:=⟨by kernel_rfl,by kernel_rfl,by kernel_rfl,by kernel_rfl,by kernel_rfl,by kernel_rfl,by kernel_rfl⟩
theorem zql:Rows.laid_unicode_utf8_first=Lib.firstData:=Pinned.utf8First_eq
theorem zkj:(Rows.laid_unicode_utf8_acceptRanges:DataW Unit)=Lib.acceptData:=by kernel_rfl
theorem pow_eq:(Rows.laid_internal_strconv_uint64pow10:DataW Unit)=Lib.tabData .u64 Lib.pow10Tab:=by kernel_rfl
theorem star : "*" ++ "errors.errorString" = "*errors.errorString":=by decide
theorem zz01o (u:TypeId) (h:Tryz.prog.typeName? 3 u=some "*errors.errorString"):u=301 :=
 typeName_ptr_named (nm := "errors.errorString") (by rw [star];kernel_rfl) (by kernel_rfl) (by decide) u (by rw [star];exact h)
abbrev zo8:List (String × DataW Unit):=[("math/bits.deBruijn32tab",Rows.laid_math_bits_deBruijn32tab),("math/bits.deBruijn64tab",Rows.laid_math_bits_deBruijn64tab),("internal/strconv.uint64pow10",Rows.laid_internal_strconv_uint64pow10),("unicode/utf8.acceptRanges",Rows.laid_unicode_utf8_acceptRanges),("strconv.ErrRange",Rows.laid_strconv_ErrRange),("strconv.ErrSyntax",Rows.laid_strconv_ErrSyntax),("unicode/utf8.first",Rows.laid_unicode_utf8_first)]
theorem gES:Tryz.prog.globalNamed "strconv.ErrSyntax" = some 3:=by kernel_rfl
theorem gER:Tryz.prog.globalNamed "strconv.ErrRange" = some 4:=by kernel_rfl
theorem gPW:Tryz.prog.globalNamed "internal/strconv.uint64pow10" = some 5:=by kernel_rfl
theorem gEST:(Tryz.prog.globals[3]?).map (·.type)=some 91:=by kernel_rfl
theorem gERT:(Tryz.prog.globals[4]?).map (·.type)=some 91:=by kernel_rfl
theorem gPWT:(Tryz.prog.globals[5]?).map (·.type)=some 288:=by kernel_rfl
theorem tabs {W:World} (hL:laidMetH Tryz.prog zo8 W) (hS:W.ShapedOpen Tryz.prog):GG.p W No:=by
 have hL:laidMet Tryz.prog zo8 W:=hL
 have h1:=Lib.laidMet.reads hL (n := "unicode/utf8.first") (d:=Rows.laid_unicode_utf8_first) (by simp [zo8])
 have h2:=Lib.laidMet.reads hL (n := "unicode/utf8.acceptRanges") (d:=Rows.laid_unicode_utf8_acceptRanges) (by simp [zo8])
 have h3:=Lib.laidMet.reads hL (n := "internal/strconv.uint64pow10") (d:=Rows.laid_internal_strconv_uint64pow10) (by simp [zo8])
 rw [zql] at h1
 rw [zkj] at h2
 rw [pow_eq] at h3
 obtain ⟨a0,s0,hv0,-,-,-⟩:=laid_sentinel hL.tail.tail.tail.tail gER gERT Tryz.underlying91 zz01o Tryz.underlying301 Tryz.underlying303 rfl rfl Tryz.underlying9 zhu z8k
 obtain ⟨a1,s1,hv1,-,-,-⟩:=laid_sentinel hL.tail.tail.tail.tail.tail gES gEST Tryz.underlying91 zz01o Tryz.underlying301 Tryz.underlying303 rfl rfl Tryz.underlying9 zhu z8k
 have hm:=cell_of_shapedOpen_int (P:=Tryz.prog) (g:=0) (t:=3) (zero := #[.int .i64 0]) hS (of_decide_eq_true (by kernel_rfl)) (by kernel_rfl) rfl (by kernel_rfl) (by kernel_rfl) Tryz.underlying3
 refine ⟨⟨utf8Tabs_of_readsT (ρ:=Tryz.zbn) (U8Types.of196 Tryz.zw2) zz05s h1 h2,hm,⟨_,by have h0:=World.var?_cell gES hv1 0;simpa using h0,.inr ⟨_,_,rfl⟩⟩,⟨_,by have h0:=World.var?_cell gER hv0 0;simpa using h0,.inr ⟨_,_,rfl⟩⟩,?_⟩,fun _ _ h=>h⟩
 obtain ⟨g,t,cs,fuel,p,hg,hty,hvar,hd⟩:=h3
 obtain rfl:=Option.some.inj (gPW.symm.trans hg)
 obtain rfl:=Option.some.inj (gPWT.symm.trans hty)
 have hcs:=Lib.cells_of_tab Tryz.underlying288 Tryz.underlying269 zs3 zs4 hd
 unfold World.var? at hvar
 rw [gPW] at hvar
 simp only [Option.bind_some] at hvar
 split at hvar
 ·rename_i c e f hh
  cases hvar
  exact ⟨e,f,by rw [hh,←hcs]⟩
 ·cases hvar
def litV:DataW Unit→Value
 | .lit (.int k z) => .int k z
 | _=>Go.undef
def zw7:DataW Unit→Array Value
 | .agg ds=>(ds.map litV).toArray
 | _ => #[]
noncomputable def zcq (os:Os):World :=
 let w0:=World.holding Tryz.prog os ⟨#[],#[],[]⟩
 let n:=w0.heap.size
 let put (h:Array Obj) (g:Nat) (cs:Array Value):Array Obj:=h.modify g fun
  | .cells _ t frozen => .cells cs t frozen
  | o=>o
 let h1:=put w0.heap 1 (Lib.firstTab.map fun z=>Value.int .u8 z).toArray
 let h2:=put h1 2 ((ya 16).flatMap fun i=>[Value.int .u8 (Lib.accLo i),Value.int .u8 (Lib.accHi i)]).toArray
 let h3:=put h2 3 #[.iface 301 (.pointer (some ⟨n,0,none⟩))]
 let h4:=put h3 4 #[.iface 301 (.pointer (some ⟨n+1,0,none⟩))]
 let h5:=put h4 5 (zw7 Rows.laid_internal_strconv_uint64pow10)
 let h6:=put h5 6 (zw7 Rows.laid_math_bits_deBruijn32tab)
 let h7:=put h6 7 (zw7 Rows.laid_math_bits_deBruijn64tab)
 { w0 with heap:=(h7.push (.cells #[.string ⟨#[105,110,118,97,108,105,100,32,115,121,110,116,97,120]⟩] 303 (0,0))).push (.cells #[.string ⟨#[118,97,108,117,101,32,111,117,116,32,111,102,32,114,97,110,103,101]⟩] 303 (0,0)) }
abbrev laidM:List (String × DataW Unit):=[("math/bits.deBruijn32tab",Rows.laid_math_bits_deBruijn32tab),("math/bits.deBruijn64tab",Rows.laid_math_bits_deBruijn64tab),("internal/strconv.uint64pow10",Rows.laid_internal_strconv_uint64pow10),("unicode/utf8.acceptRanges",Lib.acceptData),("strconv.ErrRange",Rows.laid_strconv_ErrRange),("strconv.ErrSyntax",Rows.laid_strconv_ErrSyntax),("unicode/utf8.first",Lib.firstData)]
theorem piece (os:Os) (args:Array Value):LaidIn Tryz.prog ((zcq os).forCall (fun _ _=>0) ⟨#[],args,[]⟩).memory laidM (ya 64) :=
 LaidIn.of_run (ya 64) 8 (by kernel_rfl) (by kernel_rfl) (by kernel_rfl) (by kernel_rfl)
theorem zzv (os:Os) (args:Array Value):laidMet Tryz.prog zo8 ((zcq os).forCall (fun _ _=>0) ⟨#[],args,[]⟩).memory:=by
 have:=(piece os args).met
 unfold zo8
 rw [zql,zkj]
 exact this
theorem no_bd (W:World):Bd No W:=fun _ h=>h.elim
theorem zyg {P:Program} {w:World} {r:Reach} {base:Nat} {t:TypeId} {v:Value} {fs:Array Field} (ht:P.underlying t=some (.struct fs)) (h:Value.okWide P w r base t v):∃ cs:List Value,v = .agg cs.toArray:=by
 unfold Value.okWide at h
 rw [ht] at h
 obtain ⟨cs,h1,_⟩:=h
 exact ⟨cs.toList,by simp [h1]⟩
end Go.Proofs.YtfdoofnmjehecaaGreatDoor
