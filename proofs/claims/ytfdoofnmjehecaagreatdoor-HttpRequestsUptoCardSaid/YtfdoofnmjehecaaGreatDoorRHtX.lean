import Derived.Test.YtfdoofnmjehecaaGreatDoorCards
import Derived.Test.YtfdoofnmjehecaaGreatDoorTie
import Derived.Test.YtfdoofnmjehecaaGreatDoorRHtV
import Derived.Test.YtfdoofnmjehecaaGreatDoorRHnB
import Derived.ProofKit
import Derived.OpenShut
import Derived.Deep.DeepHandedRow
import Derived.Deep.DeepLaidRun
import Derived.Deep.DeepWitnessRowRef
import Derived.Lib.LaidU8T
import Derived.Lib.LaidTab
import Derived.Lib.LaidIn
import Derived.Stop.LaidErr
import Derived.PinnedBridge
import Derived.Shelf.Vars
set_option linter.all false
namespace Go.Proofs.YtfdoofnmjehecaaGreatDoor
open _root_.List renaming range → ya
open _root_.Nat renaming not_lt_zero → yb
open Go.Lk Go.Pe Go.Sen Go.ChangeShapes Go.WideShapes Go.ChangeAt Go.RowKit
open Go.ChangeMaps (open_string shut_string)
theorem own:ownKnob Tryz.prog.godebug=none:=by kernel_rfl
theorem laidOut:laidOutB Tryz.prog=true:=by kernel_rfl
theorem rowed:mapsRowed Tryz.prog=true:=by kernel_rfl
theorem zz0c6:true=Tryz.prog.looks []:=by kernel_rfl
theorem goes0:Tryz.prog.funcs.any Func.goes=false:=by kernel_rfl
theorem main0:Tryz.prog.mainIs=some (true, "bc81eb19e4f554f8384fa3bca87139c0af04db129f2d8a0c7d2b740d0e0bb8e7".toList):=by kernel_rfl
theorem zz07s(f:FuncId):Tryz.prog.goes f=false:=by unfold Program.goes;rw[goes0,Bool.and_false,Bool.or_false,List.any_eq_false];intro g _;cases b:Tryz.prog.funcs[g]? with|none=>simp|some fn=>have h:=Array.any_eq_false.1 goes0;obtain⟨c,a⟩:=Array.getElem?_eq_some_iff.1 b;have:=h g c;rw[a]at this;simpa using this
theorem zyn{c:OpenClaim}(h:c.start=.entering):false=c.goesBy Tryz.prog:=by unfold OpenClaim.goesBy Program.goesAt Program.goesFrom;rw[h];cases Tryz.prog.funcNamed c.func with|none=>rfl|some f=>simp[zz07s]
theorem zls:Tryz.prog.cellsOf 3=1:=by kernel_rfl
theorem z1x:Tryz.prog.cellsOf 9=1:=by kernel_rfl
theorem zxl:Tryz.prog.cellsOf 22=1:=by kernel_rfl
theorem zxm:Tryz.prog.cellsOf 44=1:=by kernel_rfl
theorem zkk:Tryz.prog.cellsOf 189=2:=by kernel_rfl
theorem zxn:Tryz.prog.cellsOf 46=26:=by kernel_rfl
def QS{H:Type}(s:Z)(d:DataW H):Prop:=s.length+1≤Rows.uptoBulk d
theorem zx3{H:Type}:∀{l:List Z}{ds:List (DataW H)},Q2 QS l ds→kys l≤Rows.uptoBulkAll ds|[],[],_=>by simp[kys]|x::l,d::ds,h=>by obtain⟨a,b⟩:=h;have c:=zx3 b;simp only[QS]at a;rw[z7g];simp only[Rows.uptoBulkAll];omega|[],_::_,h=>h.elim|_::_,[],h=>h.elim
def Q189{H:Type}(x:q02)(d:DataW H):Prop:=x.sz+1≤Rows.uptoBulk d
theorem zng{H:Type}:∀{l:List q02}{ds:List (DataW H)},Q2 Q189 l ds→zgl l≤Rows.uptoBulkAll ds|[],[],_=>by simp[zgl]|x::l,d::ds,h=>by obtain⟨a,b⟩:=h;have c:=zng b;simp only[Q189]at a;rw[zi3];simp only[Rows.uptoBulkAll];omega|[],_::_,h=>h.elim|_::_,[],h=>h.elim
theorem len_2{α:Type}{l:List α}(h:l.length=2):∃a b,l=[a,b]:=by match l,h with|[a,b],_=>exact⟨a,b,rfl⟩
theorem zz001{H:Type}{enc:TypeId×Value→H}{w:World}{a:Bool}{n:Nat}{cs:List Value}{y:DataW H×List MemPlace}(h:DataW.trod enc Tryz.prog w 0 (fun _=>true) a n 22 cs=some y):∃v,∃l:List Z,cs=[v]∧RD w No (.sl 9 1 (l.map eS)) v∧kys l+1≤Rows.uptoBulk y.1:=by
 obtain⟨v,l,e,c,-,d⟩:=rd_sl Tryz.underlying22 z1x (by decide) eS (QS (H:=H)) (fun g m cs y i=>by obtain⟨s,e,rfl,_⟩:=z5q Tryz.underlying9 i;exact⟨s,⟨_,_,e,rfl,rfl⟩,by simp[QS,Rows.uptoBulk]⟩) h;refine⟨v,l,e,c,?_⟩;rcases d with⟨b,rfl⟩|⟨j,rest,b,f⟩;·rw[b];simp[kys,Rows.uptoBulk]
 ·have k:=zx3 f;rw[b];simp only[Rows.uptoBulk];omega
abbrev TR{H:Type}(enc:TypeId×Value→H)(w:World)(a:Bool)(n t:Nat)(cs:List Value)(x:DataW H×List MemPlace):Prop:=DataW.trod enc Tryz.prog w 0 (fun _=>true) a n t cs=some x
theorem z71{H:Type}{enc:TypeId×Value→H}{w:World}{a:Bool}{n T k:Nat}{cs:List Value}{x:DataW H×List MemPlace}(b:Tryz.prog.cellsOf T=k)(h:DataW.trod enc Tryz.prog w 0 (fun _=>true) a n T (cs.take (Tryz.prog.cellsOf T))=some x):TR enc w a n T (cs.take k) x:=by rw[b]at h;exact h
theorem zys{n:Int}(h:(Lit.int .i64 n).wf=true):I64 n:=by unfold I64;simp[Lit.wf,IntKind.min,IntKind.max,IntKind.signed,IntKind.bits]at h;omega
theorem zz04a{H:Type}{enc:TypeId×Value→H}{w:World}{a:Bool}(fuel:Nat)(cs:List Value)(y:DataW H×List MemPlace)(h:DataW.trod enc Tryz.prog w 0 (fun _=>true) a fuel 189 cs=some y):∃x:q02,RDs w No x.enc cs∧x.sz+1≤Rows.uptoBulk y.1:=by
 obtain⟨xs,n,rfl,rfl,hl,k,hf⟩:=DataW.trod_struct Tryz.underlying189 h;rw[zkk]at hl;obtain⟨d,c1,rfl⟩:=len_2 hl;obtain⟨o,p,rfl⟩:=len_2 (show xs.length=2 from k);have e:TR enc w a n 9 [d] o:=by have g:=z71 z1x (hf 0 _ rfl);exact g
 have f:TR enc w a n 22 [c1] p:=by have g:=z71 zxl (hf 1 _ rfl);exact g
 obtain⟨m,b,rfl,r⟩:=z5q Tryz.underlying9 e;obtain⟨q,l,c,i,j⟩:=zz001 f;simp only[List.cons.injEq,and_true]at b c;subst b c;refine⟨⟨m,l⟩,?_,?_⟩;·exact⟨_,_,rfl,rfl,⟨_,_,rfl,i,rfl⟩⟩
 ·simp only[q02.sz,Rows.uptoBulk,Rows.uptoBulkAll,List.map_cons,List.map_nil];omega
theorem zkl:Tryz.prog.cellsOf 303=1:=by kernel_rfl
theorem zva:Tryz.prog.cellsOf 288=20:=by kernel_rfl
theorem zv9:Tryz.prog.cellsOf 269=1:=by kernel_rfl
theorem zz0ca(W:World)(O:Nat→Prop)(φ:Nat→Nat)(α:Nat→Value):Mm W O φ α [] (([]:List (Nat×Nat×List (List D))).map some):=⟨fun b e h=>by simp at h,fun a e h=>by simp at h,fun a b h=>by simp at h,fun a b e e' h=>by simp at h,fun a b e h=>by simp at h⟩
theorem zz0bn{vs:List PV}{φ:Nat→Nat}{α:Nat→Value}{W c:World}(h:Ext (FI ⟨vs,[],[]⟩ φ α) W c):Ext z1d W c:=h.mono fun x f hf=>by
  rcases hf with⟨b,e,_⟩|⟨a,d,_⟩;·exact absurd e (yb _)
  ·exact absurd d (yb _)
theorem zz0a0:U8Extra Tryz.prog Tryz.zd7:=⟨by kernel_rfl,by kernel_rfl,by kernel_rfl,by kernel_rfl,by kernel_rfl,by kernel_rfl,by kernel_rfl⟩
theorem ztq:Rows.laid_unicode_utf8_first=Lib.firstData:=Pinned.utf8First_eq
theorem znh:(Rows.laid_unicode_utf8_acceptRanges:DataW Unit)=Lib.acceptData:=by kernel_rfl
theorem pow_eq:(Rows.laid_internal_strconv_uint64pow10:DataW Unit)=Lib.tabData .u64 Lib.pow10Tab:=by kernel_rfl
theorem star: "*"++ "errors.errorString"= "*errors.errorString":=by decide
theorem zz05r(u:TypeId)(h:Tryz.prog.typeName? 3 u=some "*errors.errorString"):u=301:=typeName_ptr_named (nm:= "errors.errorString") (by rw[star];kernel_rfl) (by kernel_rfl) (by decide) u (by rw[star];exact h)
abbrev zrc:List (String×DataW Unit):=[("math/bits.deBruijn32tab",Rows.laid_math_bits_deBruijn32tab),("math/bits.deBruijn64tab",Rows.laid_math_bits_deBruijn64tab),("internal/strconv.uint64pow10",Rows.laid_internal_strconv_uint64pow10),("unicode/utf8.acceptRanges",Rows.laid_unicode_utf8_acceptRanges),("strconv.ErrRange",Rows.laid_strconv_ErrRange),("strconv.ErrSyntax",Rows.laid_strconv_ErrSyntax),("unicode/utf8.first",Rows.laid_unicode_utf8_first)]
theorem gES:Tryz.prog.globalNamed "strconv.ErrSyntax"=some 3:=by kernel_rfl
theorem gER:Tryz.prog.globalNamed "strconv.ErrRange"=some 4:=by kernel_rfl
theorem gPW:Tryz.prog.globalNamed "internal/strconv.uint64pow10"=some 5:=by kernel_rfl
theorem gEST:Tryz.prog.globals[3]?.map (·.type)=some 91:=by kernel_rfl
theorem gERT:Tryz.prog.globals[4]?.map (·.type)=some 91:=by kernel_rfl
theorem gPWT:Tryz.prog.globals[5]?.map (·.type)=some 288:=by kernel_rfl
theorem tabs{W:World}(b:laidMetH Tryz.prog zrc W)(r:W.ShapedOpen Tryz.prog):GG.p W No:=by
 have b:laidMet Tryz.prog zrc W:=b;have o:=Lib.laidMet.reads b (n:= "unicode/utf8.first") (d:=Rows.laid_unicode_utf8_first) (by simp[zrc]);have h2:=Lib.laidMet.reads b (n:= "unicode/utf8.acceptRanges") (d:=Rows.laid_unicode_utf8_acceptRanges) (by simp[zrc]);have q:=Lib.laidMet.reads b (n:= "internal/strconv.uint64pow10") (d:=Rows.laid_internal_strconv_uint64pow10) (by simp[zrc]);rw[ztq]at o;rw[znh]at h2;rw[pow_eq]at q;obtain⟨w,y,l,-,-,-⟩:=laid_sentinel b.tail.tail.tail.tail gER gERT Tryz.underlying91 zz05r Tryz.underlying301 Tryz.underlying303 rfl rfl Tryz.underlying9 zkl z1x;obtain⟨x,z,m,-,-,-⟩:=laid_sentinel b.tail.tail.tail.tail.tail gES gEST Tryz.underlying91 zz05r Tryz.underlying301 Tryz.underlying303 rfl rfl Tryz.underlying9 zkl z1x;have v:=cell_of_shapedOpen_int (P:=Tryz.prog) (g:=0) (t:=3) (zero:=#[.int .i64 0]) r (of_decide_eq_true (by kernel_rfl)) (by kernel_rfl) rfl (by kernel_rfl) (by kernel_rfl) Tryz.underlying3;refine⟨⟨utf8Tabs_of_readsT (ρ:=Tryz.zd7) (U8Types.of196 Tryz.zzf) zz0a0 o h2,v,⟨_,by have i:=World.var?_cell gES m 0;simpa using i,.inr ⟨_,_,rfl⟩⟩,⟨_,by have i:=World.var?_cell gER l 0;simpa using i,.inr ⟨_,_,rfl⟩⟩,?_⟩,fun _ _ h=>h⟩;obtain⟨g,t,cs,fuel,p,s,k,a,hd⟩:=q;obtain rfl:=Option.some.inj (gPW.symm.trans s);obtain rfl:=Option.some.inj (gPWT.symm.trans k);have j:=Lib.cells_of_tab Tryz.underlying288 Tryz.underlying269 zv9 zva hd;unfold World.var? at a;rw[gPW]at a;simp only[Option.bind_some]at a;split at a;·rename_i c e f u;cases a;exact⟨e,f,by rw[u,←j]⟩
 ·cases a
def litV:DataW Unit→Value|.lit (.int k z)=>.int k z|_=>Go.undef
def zzj:DataW Unit→Array Value|.agg ds=>(ds.map litV).toArray|_=>#[]
noncomputable def zeg(os:Os):World:=let a:=World.holding Tryz.prog os ⟨#[],#[],[]⟩
 let n:=a.heap.size
 let put(h:Array Obj)(g:Nat)(cs:Array Value):Array Obj:=h.modify g fun|.cells _ t frozen=>.cells cs t frozen|o=>o
 let b:=put a.heap 1 (Lib.firstTab.map fun z=>Value.int .u8 z).toArray
 let h2:=put b 2 ((ya 16).flatMap fun i=>[Value.int .u8 (Lib.accLo i),Value.int .u8 (Lib.accHi i)]).toArray
 let c:=put h2 3 #[.iface 301 (.pointer (some ⟨n,0,none⟩))]
 let d:=put c 4 #[.iface 301 (.pointer (some ⟨n+1,0,none⟩))]
 let e:=put d 5 (zzj Rows.laid_internal_strconv_uint64pow10)
 let f:=put e 6 (zzj Rows.laid_math_bits_deBruijn32tab)
 let j:=put f 7 (zzj Rows.laid_math_bits_deBruijn64tab)
 {a with heap:=(j.push (.cells #[.string ⟨#[105,110,118,97,108,105,100,32,115,121,110,116,97,120]⟩] 303 (0,0))).push (.cells #[.string ⟨#[118,97,108,117,101,32,111,117,116,32,111,102,32,114,97,110,103,101]⟩] 303 (0,0))}
abbrev laidM:List (String×DataW Unit):=[("math/bits.deBruijn32tab",Rows.laid_math_bits_deBruijn32tab),("math/bits.deBruijn64tab",Rows.laid_math_bits_deBruijn64tab),("internal/strconv.uint64pow10",Rows.laid_internal_strconv_uint64pow10),("unicode/utf8.acceptRanges",Lib.acceptData),("strconv.ErrRange",Rows.laid_strconv_ErrRange),("strconv.ErrSyntax",Rows.laid_strconv_ErrSyntax),("unicode/utf8.first",Lib.firstData)]
theorem piece(os:Os)(args:Array Value):LaidIn Tryz.prog ((zeg os).forCall (fun _ _=>0) ⟨#[],args,[]⟩).memory laidM (ya 64):=LaidIn.of_run (ya 64) 8 (by kernel_rfl) (by kernel_rfl) (by kernel_rfl) (by kernel_rfl)
theorem zz03w(os:Os)(args:Array Value):laidMet Tryz.prog zrc ((zeg os).forCall (fun _ _=>0) ⟨#[],args,[]⟩).memory:=by have:=(piece os args).met;unfold zrc;rw[ztq,znh];exact this
theorem no_bd(W:World):Bd No W:=fun _ h=>h.elim
theorem zz02c{P:Program}{w:World}{r:Reach}{base:Nat}{t:TypeId}{v:Value}{fs:Array Field}(b:P.underlying t=some (.struct fs))(h:Value.okWide P w r base t v):∃cs:List Value,v=.agg cs.toArray:=by unfold Value.okWide at h;rw[b]at h;obtain⟨cs,a,_⟩:=h;exact⟨cs.toList,by simp[a]⟩
end Go.Proofs.YtfdoofnmjehecaaGreatDoor
