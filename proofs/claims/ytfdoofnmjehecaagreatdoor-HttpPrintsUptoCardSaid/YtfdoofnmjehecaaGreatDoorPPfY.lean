import Derived.Test.YtfdoofnmjehecaaGreatDoorPPfZ
import Derived.Test.YtfdoofnmjehecaaGreatDoorPHtG
import Derived.Test.YtfdoofnmjehecaaGreatDoorPPfC
set_option linter.all false
section
namespace Go.Pe
open _root_.Bool renaming and_eq_true → ya
open Go.RowKit Go.Lk

def exY (tb:Tb) (cty:List (Nat × List (Option (Nat × Nat)))) (ann:Ann) (dd:List (Nat × Dg)) (con:Nat→CIn→z2u→Prop):Code→St→(z61→St→Prop)→Prop
 | .region id ops dr,σ,k=>match lk dd id with
  | some d=>zpa tb cty ann con ops (fun v s=>k (.pan v) s) (fun s=>k .normal s) d σ
  | none=>ex tb cty ann con (.region id ops dr) σ k
 | .seq a b,σ,k=>match zp6 ann.seq b with
  | some c=>∃ J:St→Prop,exY tb cty ann dd con a σ (z68 (fun s=>wt (s.cut c) J) k)∧∀ s,J s→exY tb cty ann dd con b s k
  | none=>exY tb cty ann dd con a σ (z68 (fun s=>exY tb cty ann dd con b s k) k)
 | .cond c a b,σ,k=>match σ.ev c with
  | some (.bool x)=>cond x (exY tb cty ann dd con a σ k) (exY tb cty ann dd con b σ k)
  | _=>False
 | .block i a,σ,k=>exY tb cty ann dd con a σ (zpj i k)
 | c,σ,k=>ex tb cty ann con c σ k
def okY (ann:Ann) (dd:List (Nat × Dg)) (n:Nat):Code→Bool
 | .region id ops dr=>match lk dd id with
  | some d=>dr&&okD ops d n&&(ops.toList.all fun o=>dOk n o.dst)
  | none=>okC ann n (.region id ops dr)
 | .seq a b=>okY ann dd n a&&okY ann dd n b
 | .cond _ a b=>okY ann dd n a&&okY ann dd n b
 | .block _ a=>okY ann dd n a
 | c=>okC ann n c
section
variable {z:W0} {C:Cx} {n:Nat} {G:GI} {con:Nat→CIn→z2u→Prop} {tb:Tb} {cty:List (Nat × List (Option (Nat × Nat)))} {ann:Ann} {ds:List Deferred} {dd:List (Nat × Dg)}
theorem zjx (ht:TbG C.P tb G) (hcon:∀ f i o,con f i o→Con C.P G f i o) (hz:∀ w O,z.G w O→G.p w O) (hlv:C.lv=false):∀ (c:Code) (σ:St) (k:z61→St→Prop) (todo:List Item),okY ann dd n c=true→exY tb cty ann dd con c σ k→(∀ fl s,k fl s→FS z C n ds todo fl s)→KS z C n ds (.code c::todo) σ:=by
 intro c
 have other:∀ (c:Code) (σ:St) (k:z61→St→Prop) (todo:List Item),okC ann n c=true→ex tb cty ann con c σ k→(∀ fl s,k fl s→FS z C n ds todo fl s)→KS z C n ds (.code c::todo) σ:=fun c σ k todo h1 h2 h3=>z2e ht hcon hz c σ k todo h1 (.inl hlv) h2 h3
 induction c with
 | region id ops dr =>
  intro σ k todo hok hw hk
  unfold exY at hw
  unfold okY at hok
  cases hl:lk dd id with
  | none =>
   rw [hl] at hw hok
   exact other _ σ k todo hok hw hk
  | some d =>
   rw [hl] at hw hok
   simp only [ya] at hok
   obtain ⟨⟨rfl,h1⟩,h2⟩:=hok
   intro V w hr
   refine zif ht hcon hz h1 h2 (.inl hlv) hw (fun s hs V w hr=>hk _ _ hs V w hr) (fun v s hs=>hk _ _ hs) V w hr
 | seq a b iha ihb =>
  intro σ k todo hok hw hk
  unfold okY at hok
  simp only [ya] at hok
  intro V w hr
  refine TW.seq ?_
  unfold exY at hw
  split at hw
  ·rename_i c _
   obtain ⟨J,h1,h2⟩:=hw
   refine iha σ _ (.code b::todo) hok.1 h1 (fun fl s hs => ?_) V w hr
   cases fl with
   | normal =>
    obtain ⟨s',e,hj⟩:=zf hs
    exact (ihb s' k todo hok.2 (h2 s' hj) hk).cut e
   | exit i=>exact (hk _ _ hs).code (by simp)
   | ret=>exact (hk _ _ hs).code (by simp)
   | pan v=>exact (hk _ _ hs).code (by simp)
  ·refine iha σ _ (.code b::todo) hok.1 hw (fun fl s hs => ?_) V w hr
   cases fl with
   | normal=>exact ihb s k todo hok.2 hs hk
   | exit i=>exact (hk _ _ hs).code (by simp)
   | ret=>exact (hk _ _ hs).code (by simp)
   | pan v=>exact (hk _ _ hs).code (by simp)
 | cond c a b iha ihb =>
  intro σ k todo hok hw hk
  unfold okY at hok
  simp only [ya] at hok
  intro V w hr
  unfold exY at hw
  split at hw
  ·rename_i x hx
   obtain ⟨O,φ,α,h,hs⟩:=hr
   obtain ⟨u,h1,h2⟩:=h.ev hx
   simp only [VR] at h2
   subst h2
   refine TW.cond h1 (fun e => ?_) (fun e => ?_)
   ·subst e
    exact iha σ k todo hok.1 hw hk V w ⟨O,φ,α,h,hs⟩
   ·subst e
    exact ihb σ k todo hok.2 hw hk V w ⟨O,φ,α,h,hs⟩
  ·exact hw.elim
 | block i a iha =>
  intro σ k todo hok hw hk
  unfold okY at hok
  intro V w hr
  refine TW.block ?_
  unfold exY at hw
  refine iha σ _ (.inBlock i::todo) hok hw (fun fl s hs => ?_) V w hr
  cases fl with
  | normal=>exact fun V w hr=>TW.inBlock (hk _ _ hs V w hr)
  | exit j =>
   simp only [zpj] at hs
   cases e:Nat.beq i j with
   | true =>
    rw [e] at hs
    have e:=Nat.eq_of_beq_eq_true e
    subst e
    exact ⟨todo,by simp [exitTo],hk _ _ hs⟩
   | false =>
    rw [e] at hs
    have e:=Nat.ne_of_beq_eq_false e
    obtain ⟨k',h1,h2⟩:=hk _ _ hs
    exact ⟨k',by simp [exitTo,e,h1],h2⟩
  | ret=>exact hk _ _ hs
  | pan v=>exact hk _ _ hs
 | _=>intro σ k todo hok hw hk;exact other _ σ k todo hok hw hk
end
theorem Con.oY {P:Program} {G:GI} {tb:Tb} {cty:List (Nat × List (Option (Nat × Nat)))} {α:Type} {y:Option α} {f:Nat} {fn:Func} {i:CIn} {o:α→z2u} (ht:TbG P tb G) (hf:P.funcs[f]? = some fn) (ann:Ann) (dd:List (Nat × Dg)) (res:List ResultVar)
  (hw:S y fun r=>exY tb cty ann dd (Con P G) (z22 fn) (entry i) (fin tb ann res (o r))) (hok:okY ann dd fn.ntmps (z22 fn)=true) (hb:fn.body=some (z22 fn)) (ent:∀ args w,(callFunc f args).run P w = .ok (.enter f args) w)
  (hres:fn.results=res.toArray) (hnn:Nat.beq f NF=false) (hl:Nat.ble i.vs.length fn.ntmps=true) (hnb:ann.nb=i.B.length) (h1000:Nat.ble i.B.length 1000=true):S y fun r=>Con P G f i (o r):=by
 intro r hm
 have hw:exY tb cty ann dd (Con P G) (z22 fn) (entry i) (fin tb ann res (o r)):=hw r hm
 revert hw
 generalize o r=o
 intro hw
 refine ⟨ent,hnn,fun w O φ α us hv hm hB hG => ?_⟩
 have h1000:=Nat.le_of_ble_eq_true h1000
 obtain ⟨hF,h0⟩:=z88 (G:=G) hv hm hB hG h1000
 have hlu:us.length=i.vs.length:=hv.len
 refine zcm hf hb fn.ntmps rfl (by rw [hlu];exact hl) ?_
 refine zjx (z:=zlo G i w O φ α hF hB) (C:={ P:=P,f:=f,fn:=fn,R:=z8s i w O φ α o,hf:=hf }) (n:=fn.ntmps) (ds:=[]) (G:=G) ht (fun _ _ _ h=>h) (fun _ _ h=>h) rfl (z22 fn) (entry i) _ [] hok hw (fun fl s hs => ?_) _ _ ⟨O,φ,α,h0,fun _ hx=>hx⟩
 cases fl with
 | normal =>
  intro V w' hr
  obtain ⟨O',φ',α',h1,h2⟩:=hr
  cases o with
  | pan v=>exact hs.elim
  | zbf _ _=>exact hs.elim
  | okI _ _ _=>exact hs.elim
  | ok vs B A =>
   obtain ⟨us',h3,h4⟩:=z43 (C:={ P:=P,f:=f,fn:=fn,R:=z8s i w O φ α (.ok vs B A),hf:=hf }) (n:=fn.ntmps) (hF:=hF) (hB:=hB) (g:=φ) ht hres (fun b hb=>h1.keep b (by omega)) h1 h2 hnb h1000 hs
   exact TW.fin h3 h4
 | ret =>
  intro k' V w' hr
  obtain ⟨O',φ',α',h1,h2⟩:=hr
  cases o with
  | pan v=>exact hs.elim
  | zbf _ _=>exact hs.elim
  | okI _ _ _=>exact hs.elim
  | ok vs B A =>
   obtain ⟨us',h3,h4⟩:=z43 (C:={ P:=P,f:=f,fn:=fn,R:=z8s i w O φ α (.ok vs B A),hf:=hf }) (n:=fn.ntmps) (hF:=hF) (hB:=hB) (g:=φ) ht hres (fun b hb=>h1.keep b (by omega)) h1 h2 hnb h1000 hs
   exact TW.ret h3 h4
 | exit _=>exact hs.elim
 | pan v =>
  intro V w' O' φ' α' u φ2 α2 h1 h2 h3 a ha hda
  cases o with
  | ok _ _ _=>cases hs
  | okI _ _ _=>cases hs
  | pan v =>
   cases hs
   exact PN.nil hda ⟨u,O',φ2,α2,rfl,h3,h1.ext,h1.tr0,h1.bd,h1.only⟩
  | zbf v' B =>
   obtain ⟨rfl,hsl,hw⟩:=hs
   obtain ⟨us',_,O3,φ3,α3,h4⟩:=z6y (ann:={ nb:=ann.nb }) (res:=[]) (C:={ P:=P,f:=f,fn:=fn,R:=z8s i w O φ α (.zbf v' B),hf:=hf }) (n:=fn.ntmps) (hF:=hF) (hB:=hB) (g:=φ) ht (fun b hb=>h1.keep b (by omega)) h1 h2 hnb h1000 hw
   exact PN.nil hda ⟨u,φ2,α2,us',O3,φ3,α3,rfl,z4z _ _ hsl h3,h4⟩
end Go.Pe
end
section
namespace Go.Proofs.YtfdoofnmjehecaaGreatDoor
open _root_.Nat renaming beq → ya, ble → yb
open Go.Lk Go.Pe Go.Sen Go.RowKit
@[reducible] def Qs {α:Type} (y:Option α) (f:Nat) (i:CIn) (o:α→z2u):Prop:=S y fun r=>Con Tryz.prog GG f i (o r)
theorem Kf {α:Type} {y:Option α} {f:Nat} {fn:Func} {i:CIn} {o:α→z2u} (hf:Tryz.prog.funcs[f]? = some fn) (ann:Ann) (res:List ResultVar) (hw:S y fun r=>ex TB CT ann (Con Tryz.prog GG) (z22 fn) (entry i) (fin TB ann res (o r))) (hok:okC ann fn.ntmps (z22 fn)=true:=by kernel_rfl)
  (hb:fn.body=some (z22 fn):=by exact rfl) (ent:∀ args w,(callFunc f args).run Tryz.prog w = .ok (.enter f args) w:=by exact fun _ _=>rfl) (hres:fn.results=res.toArray:=by exact rfl) (hnn:ya f NF=false:=by exact rfl) (hl:yb i.vs.length fn.ntmps=true:=by exact rfl) (hnb:ann.nb=i.B.length:=by exact rfl) (h1000:yb i.B.length 1000=true:=by exact rfl):Qs y f i o :=
 Con.oS TBG hf ann res hw hok hb ent hres hnn hl hnb h1000
theorem Kd {α:Type} {y:Option α} {f:Nat} {fn:Func} {i:CIn} {o:α→z2u} {fc T:Nat} {ik:IntKind} {Te:Nat} (hct:zdo Tryz.prog fc T ik Te) (hf:Tryz.prog.funcs[f]? = some fn) (ann:Ann) (res:List ResultVar) (hw:S y fun r=>exD TB CT ann (Con Tryz.prog GG) (fin TB ann res (o r)) (zti TB ann res (o r) fc T ik Te) (z22 fn) (entry i)) (hok:okC ann fn.ntmps (z22 fn)=true:=by kernel_rfl)
  (hb:fn.body=some (z22 fn):=by exact rfl) (ent:∀ args w,(callFunc f args).run Tryz.prog w = .ok (.enter f args) w:=by exact fun _ _=>rfl) (hnd:z2n fn (z22 fn)=true:=by exact rfl) (hres:fn.results=res.toArray:=by exact rfl) (hnn:ya f NF=false:=by exact rfl) (hl:yb i.vs.length fn.ntmps=true:=by exact rfl) (hnb:ann.nb=i.B.length:=by exact rfl) (h1000:yb i.B.length 900=true:=by exact rfl):Qs y f i o :=
 Con.oD hct TBG hf ann res hw hok hb ent hnd hres hnn hl hnb h1000
theorem Ke {α:Type} {y:Option α} {f:Nat} {fn:Func} {i:CIn} {o:α→z2u} {fc:Nat} {ts:List (Nat × Nat)} {T:Nat} {ik:IntKind} {B0:Int→List Bx} (hct:z9s Tryz.prog GG fc ts T ik B0) (hf:Tryz.prog.funcs[f]? = some fn) (ann:Ann) (res:List ResultVar) (hw:S y fun r=>exE TB CT ann (Con Tryz.prog GG) (fin TB ann res (o r)) (ztj TB ann res (o r) fc ts T ik B0) (z22 fn) (entry i)) (hok:okC ann fn.ntmps (z22 fn)=true:=by kernel_rfl)
  (hb:fn.body=some (z22 fn):=by exact rfl) (ent:∀ args w,(callFunc f args).run Tryz.prog w = .ok (.enter f args) w:=by exact fun _ _=>rfl) (hnd:z2n fn (z22 fn)=true:=by exact rfl) (hres:fn.results=res.toArray:=by exact rfl) (hnn:ya f NF=false:=by exact rfl) (hl:yb i.vs.length fn.ntmps=true:=by exact rfl) (hnb:ann.nb=i.B.length:=by exact rfl) (h1000:yb i.B.length 900=true:=by exact rfl):Qs y f i o :=
 Con.oE hct TBG hf ann res hw hok hb ent hnd hres hnn hl hnb h1000
theorem Kr {f:Nat} {fn:Func} {m:Option PV} {i:CIn} {o:z2u} (hf:Tryz.prog.funcs[f]? = some fn) (ann:Ann) (hw:S (some ()) fun _=>exR TB CT ann (Con Tryz.prog GG) (zsy m) (z22 fn) (entry i) (fin TB ann [] o)) (hok:okC ann fn.ntmps (z22 fn)=true:=by kernel_rfl)
  (hb:fn.body=some (z22 fn):=by exact rfl) (ent:∀ args w,(callFunc f args).run Tryz.prog w = .ok (.enter f args) w:=by exact fun _ _=>rfl) (hres:fn.results = #[]:=by exact rfl) (hl:yb i.vs.length fn.ntmps=true:=by exact rfl) (hnb:ann.nb=i.B.length:=by exact rfl) (h1000:yb i.B.length 1000=true:=by exact rfl) (hkv:z3h (fun _=>False) (fun _=>False) (zsy m):=by exact (by repeat' first|exact trivial|apply And.intro)):zr7 Tryz.prog GG f m i o :=
 zr7.of TBG ent hf hb rfl hres hok hl hnb h1000 hkv (hw () rfl)
theorem Kz {α:Type} {y:Option α} {f:Nat} {fn:Func} {i:CIn} {o:α→z2u} (hf:Tryz.prog.funcs[f]? = some fn) (ann:Ann) (dd:List (Nat × Dg)) (res:List ResultVar) (hw:S y fun r=>exY TB CT ann dd (Con Tryz.prog GG) (z22 fn) (entry i) (fin TB ann res (o r))) (hok:okY ann dd fn.ntmps (z22 fn)=true:=by kernel_rfl)
  (hb:fn.body=some (z22 fn):=by exact rfl) (ent:∀ args w,(callFunc f args).run Tryz.prog w = .ok (.enter f args) w:=by exact fun _ _=>rfl) (hres:fn.results=res.toArray:=by exact rfl) (hnn:ya f NF=false:=by exact rfl) (hl:yb i.vs.length fn.ntmps=true:=by exact rfl) (hnb:ann.nb=i.B.length:=by exact rfl) (h1000:yb i.B.length 1000=true:=by exact rfl):Qs y f i o :=
 Con.oY TBG hf ann dd res hw hok hb ent hres hnn hl hnb h1000
end Go.Proofs.YtfdoofnmjehecaaGreatDoor
end
