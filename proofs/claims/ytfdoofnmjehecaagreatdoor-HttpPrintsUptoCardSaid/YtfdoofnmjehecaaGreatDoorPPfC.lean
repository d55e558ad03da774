import Derived.Test.YtfdoofnmjehecaaGreatDoorPPfW
import Derived.KernelRfl
set_option linter.all false
namespace Go.Pe
open _root_.Nat renaming beq → ya, ble → yb
open Go.RowKit Go.Lk
section
variable {R A:Type} {W:R→Prop} {y:Option R}
theorem S.n {p:Prop} (h:S y W) (hp:p:=by (repeat' first|exact rfl|exact trivial|apply And.intro)):S y (fun r=>p∧W r):=S.an hp h
theorem S.zr {a:R} (h:W a:=by exact rfl):S (some a) W:=S.z h
theorem S.q {a:R} (h:W a:=by exact ⟨rfl,by (repeat' first|exact trivial|exact rfl|apply And.intro),by (repeat' first|exact trivial|exact rfl|apply And.intro),rfl⟩):S (some a) W:=S.z h
theorem S.qd {a:R} (h:W a:=by exact ⟨rfl,rfl,by (repeat' first|exact trivial|exact rfl|apply And.intro),by (repeat' first|exact trivial|exact rfl|apply And.intro),rfl⟩):S (some a) W:=S.z h
theorem S.qb {a:R} (h:W a:=by exact ⟨rfl,rfl,rfl,by (repeat' first|exact trivial|exact rfl|apply And.intro),trivial,rfl⟩):S (some a) W:=S.z h
theorem S.no:S (none:Option R) W:=fun _ h=>by cases h
theorem S.m {Y:Type} {f:Y→List D} {xs:List Y} {F:R→Int→Prop} (h:S y (fun r=>F r (xs.length:Int))):S y (fun r=>Ex (zmt (xs.map f)) (F r)):=S.eq z2a h
theorem S.kk {con:Nat→CIn→z2u→Prop} {σ:St} {f:Nat} {args:List PV} {k:R→PV→St→Prop} {kp:R→PV→St→Prop} {z:Option A} {g:A→Option R} {i:CIn} {o:A→z2u} (bs as as':List Nat) (hc:∀ a,z=some a→con f i (o a))
  (h:∀ a,S (g a) (fun r=>zfo bs as as' i args σ (k r) (kp r) (o a)))
  (h1:nrm.go σ i.vs args=z7j.go bs as i.vs:=by exact rfl) (h2:z69 σ bs as bs i.B:=by (repeat' first|exact trivial|exact rfl|apply And.intro)) (h3:z9v σ as i.A:=by (repeat' first|exact trivial|exact rfl|apply And.intro)) (h4:zbn σ bs as (z6z.go i.vs args) i=true:=by exact rfl):S (z >>= g) (fun r=>zcl con σ f args (k r) (kp r)):=S.k bs as as' hc h1 h2 h3 h4 h
theorem S.k0 {con:Nat→CIn→z2u→Prop} {σ:St} {f:Nat} {args:List PV} {k:R→PV→St→Prop} {kp:R→PV→St→Prop} {z:Option A} {g:A→Option R} {i:CIn} {o:A→z2u} (hc:∀ a,z=some a→con f i (o a))
  (h:∀ a,S (g a) (fun r=>zfo [] [] [] i args σ (k r) (kp r) (o a)))
  (h1:nrm.go σ i.vs args=z7j.go [] [] i.vs:=by exact rfl) (h2:z69 σ [] [] [] i.B:=by exact trivial) (h3:z9v σ [] i.A:=by exact trivial) (h4:zbn σ [] [] (z6z.go i.vs args) i=true:=by exact rfl):S (z >>= g) (fun r=>zcl con σ f args (k r) (kp r)):=S.k [] [] [] hc h1 h2 h3 h4 h
section
variable {B:R→St→Prop} {A1 A2:R→(St→Prop)→Prop} {b:Bool} {s1 s2:St}
theorem S.ja {e:Bool} (sh:Bool→St) (h1:∀ r,A1 r fun s=>∃ x,s=sh x∧x=e) (hB:S y fun r=>B r (sh (b&&e))) (h2:s2=sh false:=by exact rfl):S y (fun r=>∃ J:St→Prop,cond b (A1 r J) (J s2)∧∀ s,J s→B r s):=by
 cases b with
 | true=>exact S.jb (v:=e) sh h1 hB
 | false=>exact S.jb (v:=false) sh (fun _=>⟨false,h2,rfl⟩) hB
theorem S.ja0 {e:Bool} (sh:Bool→St) (h1:s1=sh e) (hB:S y fun r=>B r (sh (b&&e))) (h2:s2=sh false:=by exact rfl):S y (fun r=>∃ J:St→Prop,cond b (J s1) (J s2)∧∀ s,J s→B r s) :=
 S.ja (A1:=fun _ J=>J s1) sh (fun _=>⟨e,h1,rfl⟩) hB h2
theorem S.ju {e:Bool} (sh:Bool→St) (h1:∀ r,A2 r fun s=>∃ x,s=sh x∧x=e) (hB:S y fun r=>B r (sh (b||e))) (h2:s1=sh true:=by exact rfl):S y (fun r=>∃ J:St→Prop,cond b (J s1) (A2 r J)∧∀ s,J s→B r s):=by
 cases b with
 | true=>exact S.jb (v:=true) sh (fun _=>⟨true,h2,rfl⟩) hB
 | false=>exact S.jb (v:=e) sh h1 hB
theorem S.ju0 {e:Bool} (sh:Bool→St) (h1:s2=sh e) (hB:S y fun r=>B r (sh (b||e))) (h2:s1=sh true:=by exact rfl):S y (fun r=>∃ J:St→Prop,cond b (J s1) (J s2)∧∀ s,J s→B r s) :=
 S.ju (A2:=fun _ J=>J s2) sh (fun _=>⟨e,h1,rfl⟩) hB h2
end
end
section
variable {R A X:Type} {f c:X→List D} {l l2:List (List D)} {xs ys:List X}
theorem S.ixf (f:X→List D) {i:Int} {F:R→List D→Prop} {g:X→Option R} (h:∀ x,S (g x) (fun r=>F r (f x))) (hl:l=xs.map f:=by exact rfl):S (Go.Lk.ix xs i >>= g) (fun r=>Ex (Go.Lk.ix l i) (F r)):=S.ix hl (fun _=>rfl) h
theorem S.ixm (hc:∀ x,f x=c x) {i:Int} {F:R→List D→Prop} {g:X→Option R} (h:∀ x,S (g x) (fun r=>F r (c x))) (hl:l=xs.map f:=by exact rfl):S (Go.Lk.ix xs i >>= g) (fun r=>Ex (Go.Lk.ix l i) (F r)):=S.ix hl hc h
theorem S.ixs {E:List X→List (List D)} (hE:∀ l,E l=l.map f) (hc:∀ x,f x=c x) {i:Int} {F:R→List D→Prop} {g:X→Option R} (h:∀ x,S (g x) (fun r=>F r (c x))) (hl:l=E xs:=by exact rfl):S (Go.Lk.ix xs i >>= g) (fun r=>Ex (Go.Lk.ix l i) (F r)):=S.ixE hE hl hc h
theorem S.zw9 (f:X→List D) {i j:Int} {F:R→List (List D)→Prop} {g:List X→Option R} (h:∀ x,S (g x) (fun r=>F r (x.map f))) (hl:l=xs.map f:=by exact rfl):S (Go.Lk.sub xs i j >>= g) (fun r=>Ex (Go.Lk.sub l i j) (F r)):=S.sub hl h
theorem S.z7f (f:X→List D) {n:Nat} {F:R→List (List D)→Prop} {g:List X→Option R} (h:∀ x,S (g x) (fun r=>F r (x.map f))) (hl2:l2=ys.map f:=by exact rfl) (hl:l=xs.map f:=by exact rfl):S (Go.Lk.app n xs ys >>= g) (fun r=>Ex (Go.Lk.app n l l2) (F r)):=S.app hl hl2 h
theorem S.apps {E:List X→List (List D)} (hE:∀ l,E l=l.map f) {n:Nat} {F:R→List (List D)→Prop} {g:List X→Option R} (h:∀ x,S (g x) (fun r=>F r (E x))) (hl2:l2=E ys:=by exact rfl) (hl:l=E xs:=by exact rfl):S (Go.Lk.app n xs ys >>= g) (fun r=>Ex (Go.Lk.app n l l2) (F r)):=S.zvi hE hl hl2 h
theorem S.d {W':R→List UInt8→Prop} {y:Option R} {xs:List Int} (h:S y (fun r=>W' r (byt xs))) (hl:l=xs.map (eI .u8):=by exact rfl):S y (fun r=>Ex (Go.Pe.dby l) (W' r)):=S.dby hl h
end
section
variable {tb:Tb} {cty:List (Nat × List (Option (Nat × Nat)))} {ann:Ann} {con:Nat→CIn→z2u→Prop} {R X:Type}
theorem S.gn {a:Code} {σ:St} {c:Cut} {k:R→z61→St→Prop} {B:R→St→Prop} {z:Option (Jn R X)} {m:Jn R X→Option R} (sh:X→St)
  (hA:S z fun j=>ex tb cty ann con a σ (z68 (fun s=>wt (s.cut c) (jG sh j)) (kD k (fun _ _=>False) j))) (hB:∀ x,S (m (.go x)) fun r=>B r (sh x)) (hd:∀ r,m (.done r)=some r:=by exact fun _=>rfl) :
  S (z >>= m) (fun r=>∃ J:St→Prop,ex tb cty ann con a σ (z68 (fun s=>wt (s.cut c) J) (k r))∧∀ s,J s→B r s):=S.jn sh hA hd hB
end
@[reducible] def cu (L B A:List Nat):Cut:={ L:=L,B:=B,A:=A }
@[reducible] def c1 (L:List Nat):Cut:={ L:=L }
@[reducible] def st (L:List (Nat × PV)):St:=⟨L,[],[],none⟩
@[reducible] def sb (L:List (Nat × PV)) (B:List (Nat × Bx)):St:=⟨L,B,[],none⟩
@[reducible] def PV.i (x:Int):PV:=.int .i64 x
@[reducible] def PV.b (x:Bool):PV:=.bool x
@[reducible] def PV.s (x:List UInt8):PV:=.str x
@[reducible] def PV.p (b:Nat):PV:=.ptr b 0
@[reducible] def ro {α:Type} (T:Nat) (k:IntKind) (o:α→z2u):Rs α→z2u
 | .ok r=>o r
 | .pan e => .pan (.iface T (.agg [.int k e]))
@[reducible] def rb {α β:Type} (T:Nat) (k:IntKind) (o:α→z2u) (p:β→List Bx):Rb α β→z2u
 | .ok r=>o r
 | .pan e x => .zbf (.iface T (.agg [.int k e])) (p x)
@[reducible] def pn (b c:Nat):PV:=match ya c 1000000 with
 | true => .zb7
 | false => .ptr b c
theorem Con.oE {P:Program} {G:GI} {tb:Tb} {cty:List (Nat × List (Option (Nat × Nat)))} {α:Type} {y:Option α} {f:Nat} {fn:Func} {i:CIn} {o:α→z2u} {fc:Nat} {ts:List (Nat × Nat)} {T:Nat} {ik:IntKind} {B0:Int→List Bx} (hct:z9s P G fc ts T ik B0) (ht:TbG P tb G) (hf:P.funcs[f]? = some fn) (ann:Ann) (res:List ResultVar)
  (hw:S y fun r=>exE tb cty ann (Con P G) (fin tb ann res (o r)) (ztj tb ann res (o r) fc ts T ik B0) (z22 fn) (entry i)) (hok:okC ann fn.ntmps (z22 fn)=true) (hb:fn.body=some (z22 fn)) (ent:∀ args w,(callFunc f args).run P w = .ok (.enter f args) w)
  (hnd:z2n fn (z22 fn)=true) (hres:fn.results=res.toArray) (hnn:ya f NF=false) (hl:yb i.vs.length fn.ntmps=true) (hnb:ann.nb=i.B.length) (h1000:yb i.B.length 900=true):S y fun r=>Con P G f i (o r) :=
 fun r hm=>Con.ofE hct ht ent hnn hf hb rfl hres hok hnd hl hnb h1000 (hw r hm)
theorem Con.oS {P:Program} {G:GI} {tb:Tb} {cty:List (Nat × List (Option (Nat × Nat)))} {α:Type} {y:Option α} {f:Nat} {fn:Func} {i:CIn} {o:α→z2u} (ht:TbG P tb G) (hf:P.funcs[f]? = some fn) (ann:Ann) (res:List ResultVar)
  (hw:S y fun r=>ex tb cty ann (Con P G) (z22 fn) (entry i) (fin tb ann res (o r))) (hok:okC ann fn.ntmps (z22 fn)=true) (hb:fn.body=some (z22 fn)) (ent:∀ args w,(callFunc f args).run P w = .ok (.enter f args) w)
  (hres:fn.results=res.toArray) (hnn:ya f NF=false) (hl:yb i.vs.length fn.ntmps=true) (hnb:ann.nb=i.B.length) (h1000:yb i.B.length 1000=true):S y fun r=>Con P G f i (o r) :=
 fun r hm=>Con.of ht ent hnn hf hb rfl hres hok hl hnb h1000 (hw r hm)
theorem Con.oD {P:Program} {G:GI} {tb:Tb} {cty:List (Nat × List (Option (Nat × Nat)))} {α:Type} {y:Option α} {f:Nat} {fn:Func} {i:CIn} {o:α→z2u} {fc T:Nat} {ik:IntKind} {Te:Nat} (hct:zdo P fc T ik Te) (ht:TbG P tb G) (hf:P.funcs[f]? = some fn) (ann:Ann) (res:List ResultVar)
  (hw:S y fun r=>exD tb cty ann (Con P G) (fin tb ann res (o r)) (zti tb ann res (o r) fc T ik Te) (z22 fn) (entry i)) (hok:okC ann fn.ntmps (z22 fn)=true) (hb:fn.body=some (z22 fn)) (ent:∀ args w,(callFunc f args).run P w = .ok (.enter f args) w)
  (hnd:z2n fn (z22 fn)=true) (hres:fn.results=res.toArray) (hnn:ya f NF=false) (hl:yb i.vs.length fn.ntmps=true) (hnb:ann.nb=i.B.length) (h1000:yb i.B.length 900=true):S y fun r=>Con P G f i (o r) :=
 fun r hm=>Con.ofD hct ht ent hnn hf hb rfl hres hok hnd hl hnb h1000 (hw r hm)
end Go.Pe
