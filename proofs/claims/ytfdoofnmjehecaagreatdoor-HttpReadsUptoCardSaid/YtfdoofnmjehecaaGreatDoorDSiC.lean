import Derived.Test.YtfdoofnmjehecaaGreatDoorDShV
import Derived.Test.YtfdoofnmjehecaaGreatDoorDShD
import Derived.Test.YtfdoofnmjehecaaGreatDoorDLmH
import Derived.Carry
import Derived.Test.YtfdoofnmjehecaaGreatDoorCards
import Derived.Test.YtfdoofnmjehecaaGreatDoorTie
import Derived.Test.YtfdoofnmjehecaaGreatDoorDHtG
import Derived.WalkKit
import Derived.ProofKit
import Derived.OpenShut
import Derived.Deep.DeepHandedRow
import Derived.Deep.DeepLaidRun
import Derived.Deep.DeepWitnessRowRef
import Derived.Lib.LaidU8T
import Derived.Lib.LaidTab
import Derived.Lib.LaidIn
import Derived.Stop.LaidErr
import Derived.PinnedBridge
import Derived.Shelf.Vars
set_option linter.all false
section
namespace Go.Sen
open _root_.Option renaming bind_eq_bind → ya, bind_some → yb
open _root_.Bool renaming false_eq_true → yc
open _root_.Nat renaming le_refl → yd
open Go.Lk Go.Pe
theorem zo6 {s:Z} (h0:¬z4q s=0):(s.take (z4q s)).drop (z4q s - 4)=[13,10,13,10]:=by
 have hcl:z62.length=4:=rfl
 unfold z4q at h0 ⊢
 rcases Lib.index_spec (s.take 8192) z62 with ⟨h1,h2⟩|⟨j,h1,h2,h3,h4⟩
 ·rw [h1] at h0
  exact absurd rfl h0
 ·have hr:j+4≤(s.take 8192).length:=by
   rcases Lib.occAt_room h3 with hr|hr
   ·omega
   ·cases hr
  have e:(if 0≤Lib.index (s.take 8192) z62 then (Lib.index (s.take 8192) z62).toNat+4 else 0)=j+4:=by
   rw [h1,if_pos (by omega)]
   simp
  rw [e]
  exact (zef hr (by omega)).2 (by rw [Nat.add_sub_cancel];exact h3)
theorem zod (s:Z):glue [] (z2g s)=z2g s:=by
 obtain ⟨h,t,e⟩:=z7l s
 rw [e]
 rfl
theorem zg7 {s:Z} (h:s.length<10000000):M.q59 s=some ((z5e s).1,(((z5e s).2.1:Nat):Int),(z5e s).2.2):=by
 unfold M.q59 z5e
 rw [zkp (by omega)]
 simp only [ya,yb]
 by_cases h0:z4q s=0
 ·rw [if_pos h0,h0]
  by_cases h1:s.length<8192
  ·have:¬(8192≤(s.length:Int)):=by omega
   simp [this,h1,zH]
  ·have:(8192≤(s.length:Int)):=by omega
   simp [this,h1,zH]
 ·rw [if_neg h0]
  have h0':¬(((z4q s:Nat):Int)=0):=by omega
  have h4:=zq8 (s:=s) (by omega)
  have hle:=zh5 s
  have hk:M.z2c ((z4q s:Nat):Int) s [] 0 0=some ([]++glue ((s.take 0).drop 0) (z2g ((s.take (z4q s - 4)).drop 0))):=zn2 hle.1 (by omega) h4 (zo6 h0) (z4q s) 0 0 [] (yd _) (by omega) (yd _) (yd _)
  have e0:(s.take 0).drop 0=[]:=by simp
  rw [e0,List.drop_zero,List.nil_append,zod] at hk
  simp only [h0',decide_false,yc,if_false,hk,yb]
  have hlt:(s.take (z4q s - 4)).length≤8192:=by rw [List.length_take];omega
  obtain ⟨hs1,hs2⟩:=za1 _ (s.take (z4q s - 4)) (yd _)
  obtain ⟨a,t,e⟩:=z7l (s.take (z4q s - 4))
  rw [e] at hs1 hs2 ⊢
  have i0:ix (a::t) 0=some a:=by simp [zoh]
  simp only [yb,i0]
  have ha:=hs2 a (by simp)
  obtain ⟨q,b,hz,hq⟩:=zkq (s:=a) (by omega)
  rw [hz]
  unfold zjj
  simp only [List.head?_cons,Option.getD_some,yb]
  cases htop:zl4 a with
  | none =>
   rw [htop] at hq
   simp only at hq
   subst hq
   simp [zH]
  | some x =>
   rw [htop] at hq
   obtain ⟨rfl,rfl⟩:=hq
   obtain ⟨q1,q2⟩:=zdf htop
   simp only [List.length_cons] at hs1
   have hseen:Seen [] [z4h]:=fun k=>by
    by_cases e:k=z4h<;>simp [zqd,e]
   have hf:=zoy (l:=a::t) (by simp;omega) (fun y hy=>by have:=hs2 y hy;omega) _ 0 0 [] [] [z4h] rfl (by simp) (yd _) (yd _) hseen
   have hf:zq2 (M.z2d (a::t) [] 0 1 []) (z7h ((a::t).drop 1) 0 0 [] [z4h]):=hf
   simp only [Bool.not_true,yc,if_false,q1]
   unfold zji
   cases hr:z7h ((a::t).drop 1) 0 0 [] [z4h] with
   | error er =>
    rw [hr] at hf
    have hf:M.z2d (a::t) [] 0 1 []=some (.done (zH,0,er)):=hf
    rw [hf]
    rfl
   | ok p =>
    obtain ⟨n,hd,sn⟩:=p
    rw [hr] at hf
    obtain ⟨ps,hp1,hp2,hp3⟩:=hf
    rw [hp1]
    simp only [yb]
    rw [zad _ (by omega)]
    have hh:=hp2 z6a
    have hne:¬z6a=z4h:=by decide
    rw [decide_eq_false hne,Bool.false_or] at hh
    have eh:([104,111,115,116]:Z)=z6a:=rfl
    rw [eh,hh]
    simp only [yb]
    cases zqd ps z6a with
    | false=>simp [zH]
    | true =>
     simp only [Bool.not_true,yc,if_false]
     by_cases c1:16384<n
     ·have:(16384:Int)<((n:Nat):Int):=by omega
      simp [c1,this,zH]
     ·have:¬(16384:Int)<((n:Nat):Int):=by omega
      have ew2:IntKind.wrap .i64 ((s.length:Int) - ((z4q s:Nat):Int))=((s.length - z4q s:Nat):Int):=by rw [w64 (by omega) (by omega)];omega
      simp only [this,decide_false,c1,yc,if_false,ew2]
      by_cases c9:s.length<z4q s+n
      ·have:(((s.length - z4q s:Nat):Int)<((n:Nat):Int)):=by omega
       simp [this,c9,zH]
      ·have:¬(((s.length - z4q s:Nat):Int)<((n:Nat):Int)):=by omega
       simp only [this,decide_false,yc,c9,if_false]
       rw [zx9 (by omega),zc1 (by omega) (by omega)]
       simp only [yb]
       have et:(s.take (z4q s+n)).drop (z4q s)=(s.drop (z4q s)).take n:=by
        rw [List.drop_take,Nat.add_sub_cancel_left]
       rw [et]
       simp
theorem zox {s:Z} {f:Nat} (hfx:M.q3x f=some true) (h:s.length<10000000):M.q3t f s=some true:=by
 unfold M.q3t
 rw [zdx (by omega),zg7 h,hfx]
 simp only [ya,yb,decide_true,Bool.and_self,if_true]
 have hsm:zig (z5e s).1:=by
  rcases zg3 (s:=s) (by omega) with ⟨e,he,_⟩|⟨q,n,he,hq,_⟩
  ·rw [he];exact (show zig zH from ⟨by decide,by decide,by decide⟩)
  ·rw [he];exact hq
 rw [zi6 hsm]
 have hst:M.q0x (z5e s).2.2=M.q5k (z5e s).2.2:=rfl
 have:∃ v,M.q5k (z5e s).2.2=some v:=by
  unfold M.q5k
  split
  ·exact ⟨_,rfl⟩
  ·split
   ·exact ⟨_,rfl⟩
   ·split
    ·exact ⟨_,rfl⟩
    ·split<;>exact ⟨_,rfl⟩
 obtain ⟨v,hv⟩:=this
 rw [hst,hv]
 simp
end Go.Sen
end
section
namespace Go.Lk
open Go.RowKit
abbrev No:Nat→Prop:=fun _=>False
section
variable {H:Type} {enc:TypeId × Value→H} {P:Program} {w:World} {held:Bool} {fuel:Nat} {cs:List Value} {x:DataW H × List MemPlace}
end
end Go.Lk
end
section
namespace Go.Proofs.YtfdoofnmjehecaaGreatDoor
open _root_.List renaming range → ya
open _root_.Nat renaming not_lt_zero → yb
open Go.Lk Go.Pe Go.Sen Go.ChangeShapes Go.WideShapes Go.ChangeAt Go.RowKit
open Go.ChangeMaps (open_string shut_string)
theorem own:ownKnob Tryz.prog.godebug=none:=by kernel_rfl
theorem laidOut:laidOutB Tryz.prog=true:=by kernel_rfl
theorem zx5:mapsRowed Tryz.prog=true:=by kernel_rfl
theorem zuo:true=Tryz.prog.looks []:=by kernel_rfl
theorem zuj:Tryz.prog.funcs.any Func.goes=false:=by kernel_rfl
theorem zwv:Tryz.prog.mainIs=some (true, "bc81eb19e4f554f8384fa3bca87139c0af04db129f2d8a0c7d2b740d0e0bb8e7".toList):=by kernel_rfl
theorem zrh (f:FuncId):Tryz.prog.goes f=false:=by
 unfold Program.goes
 rw [zuj,Bool.and_false,Bool.or_false,List.any_eq_false]
 intro g _
 cases hg:Tryz.prog.funcs[g]? with
 | none=>simp
 | some fn =>
  have h:=Array.any_eq_false.1 zuj
  obtain ⟨hi,he⟩:=Array.getElem?_eq_some_iff.1 hg
  have:=h g hi
  rw [he] at this
  simpa using this
theorem zm5 {c:OpenClaim} (h:c.start = .entering):false=c.goesBy Tryz.prog:=by
 unfold OpenClaim.goesBy Program.goesAt Program.goesFrom
 rw [h]
 cases Tryz.prog.funcNamed c.func with
 | none=>rfl
 | some f=>simp [zrh]
theorem zio:Tryz.prog.cellsOf 9=1:=by kernel_rfl
theorem zcs:Tryz.prog.cellsOf 303=1:=by kernel_rfl
theorem zk5:Tryz.prog.cellsOf 288=20:=by kernel_rfl
theorem zk4:Tryz.prog.cellsOf 269=1:=by kernel_rfl
theorem zus (W:World) (O:Nat→Prop) (φ:Nat→Nat) (α:Nat→Value):Mm W O φ α [] (([]:List (Nat × Nat × List (List D))).map some) :=
 ⟨fun b e h=>by simp at h,fun a e h=>by simp at h,fun a b h=>by simp at h,fun a b e e' h=>by simp at h,fun a b e h=>by simp at h⟩
theorem zud {vs:List PV} {φ:Nat→Nat} {α:Nat→Value} {W W':World} (h:Ext (FI ⟨vs,[],[]⟩ φ α) W W'):Ext z19 W W' :=
 h.mono fun x hx hf=>by
  rcases hf with ⟨b,hb,_⟩|⟨a,ha,_⟩
  ·exact absurd hb (yb _)
  ·exact absurd ha (yb _)
theorem ztd:U8Extra Tryz.prog Tryz.z8l:=⟨by kernel_rfl,by kernel_rfl,by kernel_rfl,by kernel_rfl,by kernel_rfl,by kernel_rfl,by kernel_rfl⟩
theorem zj4:Rows.laid_unicode_utf8_first=Lib.firstData:=Pinned.utf8First_eq
theorem zet:(Rows.laid_unicode_utf8_acceptRanges:DataW Unit)=Lib.acceptData:=by kernel_rfl
theorem pow_eq:(Rows.laid_internal_strconv_uint64pow10:DataW Unit)=Lib.tabData .u64 Lib.pow10Tab:=by kernel_rfl
theorem star : "*" ++ "errors.errorString" = "*errors.errorString":=by decide
theorem zqa (u:TypeId) (h:Tryz.prog.typeName? 3 u=some "*errors.errorString"):u=301 :=
 typeName_ptr_named (nm := "errors.errorString") (by rw [star];kernel_rfl) (by kernel_rfl) (by decide) u (by rw [star];exact h)
abbrev zhf:List (String × DataW Unit):=[("math/bits.deBruijn32tab",Rows.laid_math_bits_deBruijn32tab),("math/bits.deBruijn64tab",Rows.laid_math_bits_deBruijn64tab),("internal/strconv.uint64pow10",Rows.laid_internal_strconv_uint64pow10),("unicode/utf8.acceptRanges",Rows.laid_unicode_utf8_acceptRanges),("strconv.ErrRange",Rows.laid_strconv_ErrRange),("strconv.ErrSyntax",Rows.laid_strconv_ErrSyntax),("unicode/utf8.first",Rows.laid_unicode_utf8_first)]
theorem gES:Tryz.prog.globalNamed "strconv.ErrSyntax" = some 3:=by kernel_rfl
theorem gER:Tryz.prog.globalNamed "strconv.ErrRange" = some 4:=by kernel_rfl
theorem gPW:Tryz.prog.globalNamed "internal/strconv.uint64pow10" = some 5:=by kernel_rfl
theorem zy1:(Tryz.prog.globals[3]?).map (·.type)=some 91:=by kernel_rfl
theorem zy0:(Tryz.prog.globals[4]?).map (·.type)=some 91:=by kernel_rfl
theorem zy2:(Tryz.prog.globals[5]?).map (·.type)=some 288:=by kernel_rfl
theorem zyj {W:World} (hL:laidMetH Tryz.prog zhf W) (hS:W.ShapedOpen Tryz.prog):GG.p W No:=by
 have hL:laidMet Tryz.prog zhf W:=hL
 have h1:=Lib.laidMet.reads hL (n := "unicode/utf8.first") (d:=Rows.laid_unicode_utf8_first) (by simp [zhf])
 have h2:=Lib.laidMet.reads hL (n := "unicode/utf8.acceptRanges") (d:=Rows.laid_unicode_utf8_acceptRanges) (by simp [zhf])
 have h3:=Lib.laidMet.reads hL (n := "internal/strconv.uint64pow10") (d:=Rows.laid_internal_strconv_uint64pow10) (by simp [zhf])
 rw [zj4] at h1
 rw [zet] at h2
 rw [pow_eq] at h3
 obtain ⟨a0,s0,hv0,-,-,-⟩:=laid_sentinel hL.tail.tail.tail.tail gER zy0 Tryz.underlying91 zqa Tryz.underlying301 Tryz.underlying303 rfl rfl Tryz.underlying9 zcs zio
 obtain ⟨a1,s1,hv1,-,-,-⟩:=laid_sentinel hL.tail.tail.tail.tail.tail gES zy1 Tryz.underlying91 zqa Tryz.underlying301 Tryz.underlying303 rfl rfl Tryz.underlying9 zcs zio
 have hm:=cell_of_shapedOpen_int (P:=Tryz.prog) (g:=0) (t:=3) (zero := #[.int .i64 0]) hS (of_decide_eq_true (by kernel_rfl)) (by kernel_rfl) rfl (by kernel_rfl) (by kernel_rfl) Tryz.underlying3
 refine ⟨⟨utf8Tabs_of_readsT (ρ:=Tryz.z8l) (U8Types.of196 Tryz.zmf) ztd h1 h2,hm,⟨_,by have h0:=World.var?_cell gES hv1 0;simpa using h0,.inr ⟨_,_,rfl⟩⟩,⟨_,by have h0:=World.var?_cell gER hv0 0;simpa using h0,.inr ⟨_,_,rfl⟩⟩,?_⟩,fun _ _ h=>h⟩
 obtain ⟨g,t,cs,fuel,p,hg,hty,hvar,hd⟩:=h3
 obtain rfl:=Option.some.inj (gPW.symm.trans hg)
 obtain rfl:=Option.some.inj (zy2.symm.trans hty)
 have hcs:=Lib.cells_of_tab Tryz.underlying288 Tryz.underlying269 zk4 zk5 hd
 unfold World.var? at hvar
 rw [gPW] at hvar
 simp only [Option.bind_some] at hvar
 split at hvar
 ·rename_i c e f hh
  cases hvar
  exact ⟨e,f,by rw [hh,←hcs]⟩
 ·cases hvar
def zy7:DataW Unit→Value
 | .lit (.int k z) => .int k z
 | _=>Go.undef
def zmj:DataW Unit→Array Value
 | .agg ds=>(ds.map zy7).toArray
 | _ => #[]
noncomputable def z9b (os:Os):World :=
 let w0:=World.holding Tryz.prog os ⟨#[],#[],[]⟩
 let n:=w0.heap.size
 let put (h:Array Obj) (g:Nat) (cs:Array Value):Array Obj:=h.modify g fun
  | .cells _ t frozen => .cells cs t frozen
  | o=>o
 let h1:=put w0.heap 1 (Lib.firstTab.map fun z=>Value.int .u8 z).toArray
 let h2:=put h1 2 ((ya 16).flatMap fun i=>[Value.int .u8 (Lib.accLo i),Value.int .u8 (Lib.accHi i)]).toArray
 let h3:=put h2 3 #[.iface 301 (.pointer (some ⟨n,0,none⟩))]
 let h4:=put h3 4 #[.iface 301 (.pointer (some ⟨n+1,0,none⟩))]
 let h5:=put h4 5 (zmj Rows.laid_internal_strconv_uint64pow10)
 let h6:=put h5 6 (zmj Rows.laid_math_bits_deBruijn32tab)
 let h7:=put h6 7 (zmj Rows.laid_math_bits_deBruijn64tab)
 { w0 with heap:=(h7.push (.cells #[.string ⟨#[105,110,118,97,108,105,100,32,115,121,110,116,97,120]⟩] 303 (0,0))).push (.cells #[.string ⟨#[118,97,108,117,101,32,111,117,116,32,111,102,32,114,97,110,103,101]⟩] 303 (0,0)) }
abbrev zwt:List (String × DataW Unit):=[("math/bits.deBruijn32tab",Rows.laid_math_bits_deBruijn32tab),("math/bits.deBruijn64tab",Rows.laid_math_bits_deBruijn64tab),("internal/strconv.uint64pow10",Rows.laid_internal_strconv_uint64pow10),("unicode/utf8.acceptRanges",Lib.acceptData),("strconv.ErrRange",Rows.laid_strconv_ErrRange),("strconv.ErrSyntax",Rows.laid_strconv_ErrSyntax),("unicode/utf8.first",Lib.firstData)]
theorem piece (os:Os) (args:Array Value):LaidIn Tryz.prog ((z9b os).forCall (fun _ _=>0) ⟨#[],args,[]⟩).memory zwt (ya 64) :=
 LaidIn.of_run (ya 64) 8 (by kernel_rfl) (by kernel_rfl) (by kernel_rfl) (by kernel_rfl)
theorem zoi (os:Os) (args:Array Value):laidMet Tryz.prog zhf ((z9b os).forCall (fun _ _=>0) ⟨#[],args,[]⟩).memory:=by
 have:=(piece os args).met
 unfold zhf
 rw [zj4,zet]
 exact this
theorem zx0 (W:World):Bd No W:=fun _ h=>h.elim
end Go.Proofs.YtfdoofnmjehecaaGreatDoor
end
