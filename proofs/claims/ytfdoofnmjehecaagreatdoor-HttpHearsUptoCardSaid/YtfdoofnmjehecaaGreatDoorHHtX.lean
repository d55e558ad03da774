import Derived.Test.YtfdoofnmjehecaaGreatDoorCards
import Derived.Test.YtfdoofnmjehecaaGreatDoorTie
import Derived.Test.YtfdoofnmjehecaaGreatDoorHHtV
import Derived.Test.YtfdoofnmjehecaaGreatDoorHShG
import Derived.ProofKit
import Derived.OpenShut
import Derived.Deep.DeepHandedRow
import Derived.Deep.DeepLaidRun
import Derived.Deep.DeepWitnessRowRef
import Derived.Lib.LaidU8T
import Derived.Lib.LaidTab
import Derived.Lib.LaidIn
import Derived.Stop.LaidErr
import Derived.PinnedBridge
import Derived.Shelf.Vars
set_option linter.all false
namespace Go.Proofs.YtfdoofnmjehecaaGreatDoor
open _root_.List renaming range → ya
open _root_.Nat renaming not_lt_zero → yb
open Go.Lk Go.Pe Go.Sen Go.ChangeShapes Go.WideShapes Go.ChangeAt Go.RowKit
open Go.ChangeMaps (open_string shut_string)
theorem own:ownKnob Tryz.prog.godebug=none:=by kernel_rfl
theorem laidOut:laidOutB Tryz.prog=true:=by kernel_rfl
theorem rowed:mapsRowed Tryz.prog=true:=by kernel_rfl
theorem zz0ae:true=Tryz.prog.looks []:=by kernel_rfl
theorem goes0:Tryz.prog.funcs.any Func.goes=false:=by kernel_rfl
theorem main0:Tryz.prog.mainIs=some (true, "bc81eb19e4f554f8384fa3bca87139c0af04db129f2d8a0c7d2b740d0e0bb8e7".toList):=by kernel_rfl
theorem zz06a(f:FuncId):Tryz.prog.goes f=false:=by unfold Program.goes;rw[goes0,Bool.and_false,Bool.or_false,List.any_eq_false];intro g _;cases b:Tryz.prog.funcs[g]? with|none=>simp|some fn=>have h:=Array.any_eq_false.1 goes0;obtain⟨c,a⟩:=Array.getElem?_eq_some_iff.1 b;have:=h g c;rw[a]at this;simpa using this
theorem zx9{c:OpenClaim}(h:c.start=.entering):false=c.goesBy Tryz.prog:=by unfold OpenClaim.goesBy Program.goesAt Program.goesFrom;rw[h];cases Tryz.prog.funcNamed c.func with|none=>rfl|some f=>simp[zz06a]
theorem zs4:Tryz.prog.cellsOf 9=1:=by kernel_rfl
theorem zjx:Tryz.prog.cellsOf 303=1:=by kernel_rfl
theorem zu4:Tryz.prog.cellsOf 288=20:=by kernel_rfl
theorem zu3:Tryz.prog.cellsOf 269=1:=by kernel_rfl
theorem zz0aj(W:World)(O:Nat→Prop)(φ:Nat→Nat)(α:Nat→Value):Mm W O φ α [] (([]:List (Nat×Nat×List (List D))).map some):=⟨fun b e h=>by simp at h,fun a e h=>by simp at h,fun a b h=>by simp at h,fun a b e e' h=>by simp at h,fun a b e h=>by simp at h⟩
theorem zz09x{vs:List PV}{φ:Nat→Nat}{α:Nat→Value}{W c:World}(h:Ext (FI ⟨vs,[],[]⟩ φ α) W c):Ext z0x W c:=h.mono fun x f hf=>by
  rcases hf with⟨b,e,_⟩|⟨a,d,_⟩;·exact absurd e (yb _)
  ·exact absurd d (yb _)
theorem zz08c:U8Extra Tryz.prog Tryz.zcu:=⟨by kernel_rfl,by kernel_rfl,by kernel_rfl,by kernel_rfl,by kernel_rfl,by kernel_rfl,by kernel_rfl⟩
theorem zsm:Rows.laid_unicode_utf8_first=Lib.firstData:=Pinned.utf8First_eq
theorem zmp:(Rows.laid_unicode_utf8_acceptRanges:DataW Unit)=Lib.acceptData:=by kernel_rfl
theorem pow_eq:(Rows.laid_internal_strconv_uint64pow10:DataW Unit)=Lib.tabData .u64 Lib.pow10Tab:=by kernel_rfl
theorem star: "*"++ "errors.errorString"= "*errors.errorString":=by decide
theorem zz044(u:TypeId)(h:Tryz.prog.typeName? 3 u=some "*errors.errorString"):u=301:=typeName_ptr_named (nm:= "errors.errorString") (by rw[star];kernel_rfl) (by kernel_rfl) (by decide) u (by rw[star];exact h)
abbrev zq7:List (String×DataW Unit):=[("math/bits.deBruijn32tab",Rows.laid_math_bits_deBruijn32tab),("math/bits.deBruijn64tab",Rows.laid_math_bits_deBruijn64tab),("internal/strconv.uint64pow10",Rows.laid_internal_strconv_uint64pow10),("unicode/utf8.acceptRanges",Rows.laid_unicode_utf8_acceptRanges),("strconv.ErrRange",Rows.laid_strconv_ErrRange),("strconv.ErrSyntax",Rows.laid_strconv_ErrSyntax),("unicode/utf8.first",Rows.laid_unicode_utf8_first)]
theorem gES:Tryz.prog.globalNamed "strconv.ErrSyntax"=some 3:=by kernel_rfl
theorem gER:Tryz.prog.globalNamed "strconv.ErrRange"=some 4:=by kernel_rfl
theorem gPW:Tryz.prog.globalNamed "internal/strconv.uint64pow10"=some 5:=by kernel_rfl
theorem gEST:Tryz.prog.globals[3]?.map (·.type)=some 91:=by kernel_rfl
theorem gERT:Tryz.prog.globals[4]?.map (·.type)=some 91:=by kernel_rfl
theorem gPWT:Tryz.prog.globals[5]?.map (·.type)=some 288:=by kernel_rfl
theorem tabs{W:World}(b:laidMetH Tryz.prog zq7 W)(r:W.ShapedOpen Tryz.prog):GG.p W No:=by
 have b:laidMet Tryz.prog zq7 W:=b;have o:=Lib.laidMet.reads b (n:= "unicode/utf8.first") (d:=Rows.laid_unicode_utf8_first) (by simp[zq7]);have h2:=Lib.laidMet.reads b (n:= "unicode/utf8.acceptRanges") (d:=Rows.laid_unicode_utf8_acceptRanges) (by simp[zq7]);have q:=Lib.laidMet.reads b (n:= "internal/strconv.uint64pow10") (d:=Rows.laid_internal_strconv_uint64pow10) (by simp[zq7]);rw[zsm]at o;rw[zmp]at h2;rw[pow_eq]at q;obtain⟨w,y,l,-,-,-⟩:=laid_sentinel b.tail.tail.tail.tail gER gERT Tryz.underlying91 zz044 Tryz.underlying301 Tryz.underlying303 rfl rfl Tryz.underlying9 zjx zs4;obtain⟨x,z,m,-,-,-⟩:=laid_sentinel b.tail.tail.tail.tail.tail gES gEST Tryz.underlying91 zz044 Tryz.underlying301 Tryz.underlying303 rfl rfl Tryz.underlying9 zjx zs4;have v:=cell_of_shapedOpen_int (P:=Tryz.prog) (g:=0) (t:=3) (zero:=#[.int .i64 0]) r (of_decide_eq_true (by kernel_rfl)) (by kernel_rfl) rfl (by kernel_rfl) (by kernel_rfl) Tryz.underlying3;refine⟨⟨utf8Tabs_of_readsT (ρ:=Tryz.zcu) (U8Types.of196 Tryz.zy2) zz08c o h2,v,⟨_,by have i:=World.var?_cell gES m 0;simpa using i,.inr ⟨_,_,rfl⟩⟩,⟨_,by have i:=World.var?_cell gER l 0;simpa using i,.inr ⟨_,_,rfl⟩⟩,?_⟩,fun _ _ h=>h⟩;obtain⟨g,t,cs,fuel,p,s,k,a,hd⟩:=q;obtain rfl:=Option.some.inj (gPW.symm.trans s);obtain rfl:=Option.some.inj (gPWT.symm.trans k);have j:=Lib.cells_of_tab Tryz.underlying288 Tryz.underlying269 zu3 zu4 hd;unfold World.var? at a;rw[gPW]at a;simp only[Option.bind_some]at a;split at a;·rename_i c e f u;cases a;exact⟨e,f,by rw[u,←j]⟩
 ·cases a
def litV:DataW Unit→Value|.lit (.int k z)=>.int k z|_=>Go.undef
def zy7:DataW Unit→Array Value|.agg ds=>(ds.map litV).toArray|_=>#[]
noncomputable def zdy(os:Os):World:=let a:=World.holding Tryz.prog os ⟨#[],#[],[]⟩
 let n:=a.heap.size
 let put(h:Array Obj)(g:Nat)(cs:Array Value):Array Obj:=h.modify g fun|.cells _ t frozen=>.cells cs t frozen|o=>o
 let b:=put a.heap 1 (Lib.firstTab.map fun z=>Value.int .u8 z).toArray
 let h2:=put b 2 ((ya 16).flatMap fun i=>[Value.int .u8 (Lib.accLo i),Value.int .u8 (Lib.accHi i)]).toArray
 let c:=put h2 3 #[.iface 301 (.pointer (some ⟨n,0,none⟩))]
 let d:=put c 4 #[.iface 301 (.pointer (some ⟨n+1,0,none⟩))]
 let e:=put d 5 (zy7 Rows.laid_internal_strconv_uint64pow10)
 let f:=put e 6 (zy7 Rows.laid_math_bits_deBruijn32tab)
 let j:=put f 7 (zy7 Rows.laid_math_bits_deBruijn64tab)
 {a with heap:=(j.push (.cells #[.string ⟨#[105,110,118,97,108,105,100,32,115,121,110,116,97,120]⟩] 303 (0,0))).push (.cells #[.string ⟨#[118,97,108,117,101,32,111,117,116,32,111,102,32,114,97,110,103,101]⟩] 303 (0,0))}
abbrev laidM:List (String×DataW Unit):=[("math/bits.deBruijn32tab",Rows.laid_math_bits_deBruijn32tab),("math/bits.deBruijn64tab",Rows.laid_math_bits_deBruijn64tab),("internal/strconv.uint64pow10",Rows.laid_internal_strconv_uint64pow10),("unicode/utf8.acceptRanges",Lib.acceptData),("strconv.ErrRange",Rows.laid_strconv_ErrRange),("strconv.ErrSyntax",Rows.laid_strconv_ErrSyntax),("unicode/utf8.first",Lib.firstData)]
theorem piece(os:Os)(args:Array Value):LaidIn Tryz.prog ((zdy os).forCall (fun _ _=>0) ⟨#[],args,[]⟩).memory laidM (ya 64):=LaidIn.of_run (ya 64) 8 (by kernel_rfl) (by kernel_rfl) (by kernel_rfl) (by kernel_rfl)
theorem zz02d(os:Os)(args:Array Value):laidMet Tryz.prog zq7 ((zdy os).forCall (fun _ _=>0) ⟨#[],args,[]⟩).memory:=by have:=(piece os args).met;unfold zq7;rw[zsm,zmp];exact this
theorem no_bd(W:World):Bd No W:=fun _ h=>h.elim
end Go.Proofs.YtfdoofnmjehecaaGreatDoor
