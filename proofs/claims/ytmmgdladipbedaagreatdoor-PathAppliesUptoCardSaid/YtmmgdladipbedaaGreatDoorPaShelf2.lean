import Derived.Shelf.SlSortCmp.WholeK
import Derived.Ground.SlsfProg
import Derived.Test.YtmmgdladipbedaaGreatDoorProg
import Derived.Test.YtmmgdladipbedaaGreatDoorPaM
import Derived.Test.YtmmgdladipbedaaGreatDoorPeV
import Derived.Shelf.SlSortCmp.NoneTotal
import Derived.WalkKit
import Derived.Test.YtmmgdladipbedaaGreatDoorPeN
set_option linter.all false
section
namespace Go.Proofs
open Go.Shelf
def Tryz.zir:Go.Shelf.Ren:=⟨fun|6=>50|15=>109|14=>108|28=>176|29=>177|20=>168|21=>169|22=>170|23=>171|24=>172|25=>173|26=>174|27=>175|46=>214|47=>215|48=>216|49=>217|50=>218|57=>237|n=>n,fun|22=>31|24=>48|25=>81|3=>3|39=>130|0=>0|53=>186|55=>188|4=>4|46=>179|45=>178|50=>183|5=>5|9=>9|66=>210|70=>214|76=>223|77=>224|n=>n,fun|n=>n⟩
theorem Tryz.zf1:Go.Proofs.SlLaysF0.n6 Tryz.prog Tryz.zir:={
 mixed:=by kernel_rfl
 f6:=⟨Tryz.f50.name,by decide,Tryz.func50.trans (congrArg some (by kernel_rfl))⟩
 f14:=⟨Tryz.f108.name,by decide,Tryz.func108.trans (congrArg some (by kernel_rfl))⟩
 f15:=Tryz.func109.trans (congrArg some (by kernel_rfl))
 f20:=⟨Tryz.f168.name,by decide,Tryz.func168.trans (congrArg some (by kernel_rfl))⟩
 f21:=⟨Tryz.f169.name,by decide,Tryz.func169.trans (congrArg some (by kernel_rfl))⟩
 f22:=⟨Tryz.f170.name,by decide,Tryz.func170.trans (congrArg some (by kernel_rfl))⟩
 f23:=⟨Tryz.f171.name,by decide,Tryz.func171.trans (congrArg some (by kernel_rfl))⟩
 f24:=⟨Tryz.f172.name,by decide,Tryz.func172.trans (congrArg some (by kernel_rfl))⟩
 f25:=⟨Tryz.f173.name,by decide,Tryz.func173.trans (congrArg some (by kernel_rfl))⟩
 f26:=⟨Tryz.f174.name,by decide,Tryz.func174.trans (congrArg some (by kernel_rfl))⟩
 f27:=⟨Tryz.f175.name,by decide,Tryz.func175.trans (congrArg some (by kernel_rfl))⟩
 f28:=Tryz.func176.trans (congrArg some (by kernel_rfl))
 f29:=Tryz.func177.trans (congrArg some (by kernel_rfl))
 f46:=⟨Tryz.f214.name,by decide,Tryz.func214.trans (congrArg some (by kernel_rfl))⟩
 f47:=Tryz.func215.trans (congrArg some (by kernel_rfl))
 f48:=Tryz.func216.trans (congrArg some (by kernel_rfl))
 f49:=⟨Tryz.f217.name,by decide,Tryz.func217.trans (congrArg some (by kernel_rfl))⟩
 f50:=⟨Tryz.f218.name,by decide,Tryz.func218.trans (congrArg some (by kernel_rfl))⟩
 f57:=⟨Tryz.f237.name,by decide,Tryz.func237.trans (congrArg some (by kernel_rfl))⟩
 t0:=Tryz.underlying0
 a0:=Tryz.isAgg0
 z0:=Tryz.sizeOf0
 v0:=Tryz.zeroValue0
 t3:=Tryz.underlying3
 a3:=Tryz.isAgg3
 z3:=Tryz.sizeOf3
 v3:=Tryz.zeroValue3
 t4:=Tryz.underlying4
 a4:=Tryz.isAgg4
 z4:=Tryz.sizeOf4
 v4:=Tryz.zeroValue4
 t5:=Tryz.underlying5
 a5:=Tryz.isAgg5
 z5:=Tryz.sizeOf5
 v5:=Tryz.zeroValue5
 t9:=Tryz.underlying9
 a9:=Tryz.isAgg9
 z9:=Tryz.sizeOf9
 v9:=Tryz.zeroValue9
 t22:=Tryz.underlying31
 a22:=Tryz.isAgg31
 z22:=Tryz.sizeOf31
 v22:=Tryz.zeroValue31
 t25:=Tryz.underlying81
 a25:=Tryz.isAgg81
 z25:=Tryz.sizeOf81
 v25:=Tryz.zeroValue81
 t39:=Tryz.underlying130
 a39:=Tryz.isAgg130
 z39:=Tryz.sizeOf130
 v39:=Tryz.zeroValue130
 t45:=Tryz.underlying178
 a45:=Tryz.isAgg178
 z45:=Tryz.sizeOf178
 v45:=Tryz.zeroValue178
 t46:=Tryz.underlying179
 a46:=Tryz.isAgg179
 z46:=Tryz.sizeOf179
 v46:=Tryz.zeroValue179
 t50:=Tryz.underlying183
 a50:=Tryz.isAgg183
 z50:=Tryz.sizeOf183
 v50:=Tryz.zeroValue183
 t53:=Tryz.underlying186
 a53:=Tryz.isAgg186
 z53:=Tryz.sizeOf186
 v53:=Tryz.zeroValue186
 t55:=Tryz.underlying188
 a55:=Tryz.isAgg188
 z55:=Tryz.sizeOf188
 v55:=Tryz.zeroValue188
 t66:=Tryz.underlying210
 a66:=Tryz.isAgg210
 z66:=Tryz.sizeOf210
 v66:=Tryz.zeroValue210
 t70:=Tryz.underlying214
 a70:=Tryz.isAgg214
 z70:=Tryz.sizeOf214
 v70:=Tryz.zeroValue214
 t76:=Tryz.underlying223
 a76:=Tryz.isAgg223
 z76:=Tryz.sizeOf223
 v76:=Tryz.zeroValue223
 t77:=Tryz.underlying224
 a77:=Tryz.isAgg224
 z77:=Tryz.sizeOf224
 v77:=Tryz.zeroValue224 }
end Go.Proofs
end
section
namespace Go.Sen
open _root_.List renaming length_cons → ya, length_nil → yb, mem_map_of_mem → yc, mem_mergeSort → yd, mergeSort_perm → ye, pairwise_mergeSort → yf
open _root_.Nat renaming zero_add → yg
open Go.Lk Go.Pe
theorem zu3 (a b c:List UInt8) (h1:a≤b) (h2:b≤c):a≤c:=List.le_trans h1 h2
theorem zax {l l':List q02} (h:l.Perm l') (hn:(l.map (·.zg)).Nodup) :
  l.mergeSort (fun x y=>decide (x.zg≤y.zg))=l'.mergeSort (fun x y=>decide (x.zg≤y.zg)):=by
 have tr:∀ a b c:q02,decide (a.zg≤b.zg)=true→decide (b.zg≤c.zg)=true→decide (a.zg≤c.zg)=true:=fun a b c h1 h2=>decide_eq_true (zu3 _ _ _ (of_decide_eq_true h1) (of_decide_eq_true h2))
 have tot:∀ a b:q02,(decide (a.zg≤b.zg)||decide (b.zg≤a.zg))=true:=fun a b=>by
  rcases List.le_total a.zg b.zg with h|h<;>simp [h]
 have p1:=yf tr tot l
 have p2:=yf tr tot l'
 have hp:(l.mergeSort fun x y=>decide (x.zg≤y.zg)).Perm (l'.mergeSort fun x y=>decide (x.zg≤y.zg)):=(ye l _).trans (h.trans (ye l' _).symm)
 refine List.Perm.eq_of_pairwise (fun a b ha hb h1 h2 => ?_) p1 p2 hp
 have e:a.zg=b.zg:=List.le_antisymm (of_decide_eq_true h1) (of_decide_eq_true h2)
 have ha:a∈l:=yd.1 ha
 have hb:b∈l:=h.mem_iff.2 (yd.1 hb)
 have key:∀ (l:List q02),(l.map (·.zg)).Nodup→a∈l→b∈l→a=b:=by
  intro l
  induction l with
  | nil=>intro _ h;cases h
  | cons x l ih =>
   intro hn ha hb
   simp only [List.map_cons,List.nodup_cons] at hn
   rcases List.mem_cons.1 ha with ha1|ha1<;>rcases List.mem_cons.1 hb with hb1|hb1
   ·rw [ha1,hb1]
   ·subst ha1
    exact (hn.1 (e▸yc hb1)).elim
   ·subst hb1
    exact (hn.1 (e▸yc ha1)).elim
   ·exact ih hn.2 ha1 hb1
 exact key l hn ha hb
theorem zmf {l l':List q02} (h:l.Perm l'):M.q44 l=M.q44 l':=by
 unfold M.q44
 have e1:l.length=l'.length:=h.length_eq
 have e2:(l.map (·.zg)).Nodup↔(l'.map (·.zg)).Nodup:=(h.map _).nodup_iff
 by_cases hn:(l.map (·.zg)).Nodup
 ·rw [zax h hn,e1]
  simp only [decide_eq_decide.2 e2]
 ·have hn':¬(l'.map (·.zg)).Nodup:=fun q=>hn (e2.2 q)
  simp [hn,hn',Go.Lk.chk]
theorem zqo (p1:q04):∀ (l:List ((List UInt8) × (List (List UInt8)))) (acc:List q02),
  M.z05 p1 l acc=if l=[]∨(acc.length+l.length)*40≤140737488355328 then (M.q44 (acc++l.map fun x=>q02.mk x.1 x.2)).bind (fun a=>some (q04.mk p1.gId p1.zc p1.z2c a,0)) else none
 | [],acc=>by
  rw [M.z05.eq_1]
  simp
 | x::l,acc=>by
  rw [M.z05.eq_2]
  unfold app
  have ih:=zqo p1 l (acc++[q02.mk x.1 x.2])
  by_cases h0:(acc.length+1)*40≤140737488355328
  ·simp only [ya,yb,yg,h0,if_true]
   show M.z05 p1 l (acc++[q02.mk x.1 x.2])=_
   rw [ih]
   simp only [List.length_append,ya,yb,List.append_assoc,List.map_cons,List.singleton_append,reduceCtorEq,false_or,yg]
   rw [show acc.length+(l.length+1)=acc.length+1+l.length by omega]
   by_cases h1:l=[]
   ·subst h1
    simp [h0]
   ·simp only [h1,false_or]
  ·simp only [ya,yb,yg,h0,if_false,reduceCtorEq,false_or]
   rw [if_neg (by omega)]
   rfl
theorem zde {X:Type}:∀ (l:List X) (i:Nat) (x:X),l[i]? = some x→l.Perm (x::l.eraseIdx i)
 | y::l,0,x,h=>by
  simp at h
  subst h
  simp
 | y::l,i+1,x,h=>by
  simp only [List.getElem?_cons_succ] at h
  simp only [List.eraseIdx_cons_succ]
  exact ((zde l i x h).cons y).trans (List.Perm.swap x y _)
 | [],i,x,h=>by simp at h
theorem Ord.z05 (p1:q04) (l:List ((List UInt8) × (List (List UInt8)))) (acc:List q02) (i:Nat) (x:(List UInt8) × (List (List UInt8))) (h:l[i]? = some x):M.z05 p1 l acc=M.z05 p1 (x::l.eraseIdx i) acc:=by
 have hp:=zde l i x h
 rw [zqo,zqo]
 have e1:l.length=(x::l.eraseIdx i).length:=hp.length_eq
 have h1:l≠[]:=fun q=>by subst q;simp at h
 simp only [h1,false_or,reduceCtorEq,←e1]
 rw [zmf ((hp.map _).append_left acc)]
end Go.Sen
end
section
namespace Go.Proofs.YtmmgdladipbedaaGreatDoor
open _root_.List renaming ext_getElem? → ya, getElem?_eq_none → yb, getElem?_map → yc, getElem?_take_of_lt → yd, mem_cons → ye, mem_map_of_mem → yf, mem_of_getElem? → yg, not_mem_nil → yh, pairwise_map → yi
open _root_.Array renaming getElem?_eq_getElem → yj, getElem?_modify → yk, getElem?_toList → yl
open Go.Proofs Go.Lk Go.Pe Go.Sen Go.RowKit Go.Shelf Go.Lib Go.Sort
variable [Lb]
abbrev SA:={ x:List UInt8 × Value // x.2.oneCell'=true }
instance:Inhabited SA:=⟨⟨([],.bool false),rfl⟩⟩
def z3q (x:SA):List Value:=[.string ⟨x.1.1.toArray⟩,x.1.2]
def cfA (x y:SA):Int:=Lib.compareBytes x.1.1 y.1.1
set_option maxRecDepth 100000 in
set_option maxHeartbeats 1000000 in
theorem zfs (a b:List UInt8) (v u:Value) (W:World):Calls Tryz.prog 51 #[.agg #[.string ⟨a.toArray⟩,v],.agg #[.string ⟨b.toArray⟩,u]] W fun e w'=>e = .returned (.int .i64 (Lib.compareBytes a b))∧∃ q os',w'=grow (W.drewN q) os':=by
 have hcon:=fun W'=>Any.strings_Compare Tryz.ztx ⟨a.toArray⟩ ⟨b.toArray⟩ W'
 change ∀ W',Calls Tryz.prog 52 _ _ _ at hcon
 simp only [List.toList_toArray] at hcon
 generalize Lib.compareBytes a b=r at hcon ⊢
 go_enter Tryz.func51,Tryz.ntmps51
 go_wp2_with (go_at_call 52;refine (hcon _).mono ?_;rintro e w' ⟨rfl,rfl⟩)
 go_ret
 exact ⟨rfl,0,_,by rw [alloc_eq_grow,alloc_eq_grow,grow_grow];rfl⟩
theorem zs6:∀ (a b:List UInt8),Lib.compareBytes a b<0↔a<b
 | [],[]=>by simp [Lib.compareBytes]
 | [],b::t=>by simp [Lib.compareBytes]
 | a::r,[]=>by simp [Lib.compareBytes]
 | a::r,b::t=>by
  rw [List.cons_lt_cons_iff]
  unfold Lib.compareBytes
  by_cases h1:a<b
  ·simp [h1]
  ·by_cases h2:b<a
   ·have:a≠b:=fun e=>by subst e;exact h1 h2
    simp [h1,h2,this]
   ·have:a=b:=UInt8.le_antisymm (UInt8.not_lt.1 h2) (UInt8.not_lt.1 h1)
    subst this
    simp [zs6 r t]
theorem ltA (x y:SA):ltOf cfA x y=decide (x.1.1<y.1.1):=by
 unfold ltOf cfA
 simp only [zs6]
theorem swoA:SWO (ltOf cfA) where
 irrefl x:=by rw [ltA];simp [List.lt_irrefl]
 trans x y z h1 h2:=by
  rw [ltA] at *
  simp only [decide_eq_true_eq] at *
  exact List.lt_trans h1 h2
 ntrans x y z h1 h2:=by
  rw [ltA] at *
  simp only [decide_eq_false_iff_not,List.not_lt] at *
  exact List.le_trans h2 h1
theorem zjk:∀ (ds:List SA) (j:Nat),j<ds.length*2→(ds.flatMap z3q)[j]? = some ((z3q ds[j / 2]!)[j % 2]!)
 | [],j,h=>by simp at h
 | d::ds,0,_=>by simp [z3q]
 | d::ds,1,_=>by simp [z3q]
 | d::ds,j+2,h=>by
  have ih:=zjk ds j (by simp at h;omega)
  have e1:(j+2) / 2=j / 2+1:=by omega
  have e2:(j+2) % 2=j % 2:=by omega
  rw [e1,e2]
  simp only [List.flatMap_cons]
  rw [List.getElem?_append_right (by simp [z3q])]
  simpa [z3q] using ih
theorem z6h (ds:List SA):(flatK z3q 2 ds.toArray).toList=ds.flatMap z3q:=by
 apply ya
 intro j
 have hl:(ds.flatMap z3q).length=ds.length*2:=by
  induction ds with
  | nil=>rfl
  | cons d ds ih=>simp [ih,z3q];omega
 by_cases hj:j<ds.length*2
 ·rw [zjk ds j hj,yl,yj (by simpa using hj)]
  have:=get_flatK z3q 2 ds.toArray j (by simpa using hj)
  rw [getElem!_pos _ j (by simpa using hj)] at this
  rw [this]
  simp
 ·rw [yb (by simp;omega),yb (by omega)]
theorem zki (F cur:Array Value) (h:F.size≤cur.size):(putCells id 0 F cur).toList.take F.size=F.toList:=by
 apply ya
 intro j
 by_cases hj:j<F.size
 ·rw [yd hj,yl]
  simp [putCells,hj,show j<cur.size by omega]
 ·rw [List.getElem?_take_eq_none (by omega),yb (by simp;omega)]
theorem zsn {w:World} {O:Nat→Prop}:∀ (l:List q02) (xs:List Value),RDl w O 2 (l.map q02.enc) xs→xs.length=l.length*2→(∀ x∈xs,x.oneCell'=true) →
  ∃ ds:List SA,xs=ds.flatMap z3q∧ds.length=l.length∧∀ (j:Nat) f a,l[j]? = some f→ds[j]? = some a→a.1.1=f.zg∧RD w O (.sl 9 1 (f.zf.map eS)) a.1.2
 | [],xs,_,h,_=>⟨[],by simpa using h,rfl,fun j f a e=>by simp at e⟩
 | f::l,xs,h,hl,ho=>by
  match xs,hl with
  | x::y::xs,hl =>
   obtain ⟨h1,h2⟩:=h
   rw [q02.z0b] at h1
   obtain ⟨v,vs,e1,h3,u,us,e2,h4,h5⟩:=h1
   simp only [List.take_succ_cons,List.take_zero,List.cons.injEq] at e1
   obtain ⟨rfl,rfl⟩:=e1
   simp only [List.cons.injEq] at e2
   obtain ⟨rfl,_⟩:=e2
   simp only [RD] at h3
   subst h3
   obtain ⟨ds,k1,k2,k3⟩:=zsn l xs (by simpa using h2) (by simp at hl;omega) fun x hx=>ho x (by simp [hx])
   refine ⟨⟨(f.zg,y),ho y (by simp)⟩::ds,by simp [z3q,←k1],by simp [k2],fun j g a eg ea => ?_⟩
   match j,eg,ea with
   | 0,eg,ea =>
    simp at eg ea
    subst eg ea
    exact ⟨rfl,h4⟩
   | j+1,eg,ea=>exact k3 j g a (by simpa using eg) (by simpa using ea)
  | [x],hl=>simp at hl;omega
  | [],hl=>simp at hl
theorem zs2 {w:World} {O:Nat→Prop}:∀ (r:List q02) (ts:List SA),r.length=ts.length→(∀ (j:Nat) f a,r[j]? = some f→ts[j]? = some a→a.1.1=f.zg∧RD w O (.sl 9 1 (f.zf.map eS)) a.1.2)→RDl w O 2 (r.map q02.enc) (ts.flatMap z3q)
 | [],_,_,_=>trivial
 | f::r,[],h,_=>by simp at h
 | f::r,a::ts,h,k=>by
  have ih:=zs2 r ts (by simpa using h) fun j g b e1 e2=>k (j+1) g b (by simpa using e1) (by simpa using e2)
  obtain ⟨k1,k2⟩:=k 0 f a rfl rfl
  refine ⟨?_,by simpa [z3q] using ih⟩
  rw [q02.z0b]
  refine ⟨_,_,by simp [z3q];rfl,?_,_,_,rfl,k2,rfl⟩
  simp only [RD,k1]
theorem z9t {p0:List q02} {ds ts:List SA} (hp:ts.Perm ds) (hn:ds.map (fun a:SA=>a.1.1)=p0.map (·.zg)) (hs:(ts.map fun a:SA=>a.1.1).Pairwise (fun a b=>a≤b)) :
  (p0.mergeSort fun x y=>decide (x.zg≤y.zg)).map (·.zg)=ts.map fun a:SA=>a.1.1:=by
 have tr:∀ a b c:q02,decide (a.zg≤b.zg)=true→decide (b.zg≤c.zg)=true→decide (a.zg≤c.zg)=true:=fun a b c h1 h2=>decide_eq_true (List.le_trans (of_decide_eq_true h1) (of_decide_eq_true h2))
 have tot:∀ a b:q02,(decide (a.zg≤b.zg)||decide (b.zg≤a.zg))=true:=fun a b=>by
  rcases List.le_total a.zg b.zg with h|h<;>simp [h]
 have p1:((p0.mergeSort fun x y=>decide (x.zg≤y.zg)).map (·.zg)).Pairwise (fun a b=>a≤b):=yi.2 ((List.pairwise_mergeSort tr tot p0).imp fun h=>of_decide_eq_true h)
 refine List.Perm.eq_of_pairwise (le:=fun a b=>a≤b) (fun a b _ _ h1 h2=>List.le_antisymm h1 h2) p1 hs ?_
 exact ((List.mergeSort_perm p0 _).map _).trans (hn▸(hp.map _).symm)
theorem zjh {p0:List q02} (hn:(p0.map (·.zg)).Nodup) {f g:q02} (hf:f∈p0) (hg:g∈p0) (e:f.zg=g.zg):f=g:=by
 induction p0 with
 | nil=>cases hf
 | cons x l ih =>
  simp only [List.map_cons,List.nodup_cons] at hn
  rcases ye.1 hf with hf1|hf1<;>rcases ye.1 hg with hg1|hg1
  ·rw [hf1,hg1]
  ·subst hf1
   exact (hn.1 (e▸yf hg1)).elim
  ·subst hg1
   exact (hn.1 (e▸yf hf1)).elim
  ·exact ih hn.2 hf1 hg1
set_option maxRecDepth 1000000 in
set_option maxHeartbeats 1000000 in
theorem C.q44 (p0:List q02):S (M.q44 p0) fun r=>Con Tryz.prog GG 50 (I.q44 p0) (O.q44 r):=by
 unfold M.q44
 refine S.chk fun h0 => ?_
 obtain ⟨h1,h2⟩:=Bool.and_eq_true_iff.1 h0
 have h1:=of_decide_eq_true h1
 have hnd:=of_decide_eq_true h2
 intro r hm
 cases hm
 refine ⟨fun _ _=>rfl,fun w O φ α us hv hm hB hG => ?_⟩
 obtain ⟨u,us',rfl,⟨rfl,hone⟩,u2,us2,rfl,⟨xa,xb,rfl,ha,hb⟩,h3⟩:=hv
 obtain rfl:us2=[]:=h3
 obtain rfl:xa=[]:=ha
 obtain rfl:xb=[]:=hb
 have hox:z7f w O 48 2 (α 0) (p0.map q02.enc):=hm.arr 0 _ rfl
 obtain ⟨xs,⟨o1,o2⟩,o3,o4,o5⟩:=hox.un (by decide)
 have fin:∀ (w':World) (l:List (List D)),Own w' O 48 2 (α 0) l→Ext (fun x=>(α 0).ownBlock=some x) w w'→zf9 (I.q44 p0) w O φ α (.okI [] [] [some (48,2,l)]) (.returned (.tuple #[])) w':=fun w' l hown hx=>by
  have tr:Tr O w O w':=Tr.z2p hx fun x _ hx=>o5 x hx
  refine ⟨[],O,φ,α,rfl,⟨rfl,⟨fun b e he=>by simp at he,fun a e he => ?_,fun a b la=>by simp at la,fun a b e e' ha hb hn => ?_,fun a b e ha lb=>by simp at lb⟩,fun _ _=>rfl,Nat.le_refl _,hB.ext hx,tr,fun _ h=>h,fun _ h => .inl h,hx.mono fun x _ hx => .inr ⟨0,by simp,hx⟩,fun b h1=>by simp at h1,fun a e x he hx => ?_⟩,fun _ _=>rfl⟩
  ·match a,he with
   | 0,he=>cases he;exact .inl ⟨(by decide:(48:Nat)<1000000),hown⟩
  ·match a,b,ha,hb with
   | 0,0,_,_=>exact (hn rfl).elim
  ·match a,he with
   | 0,he=>exact .inl ⟨0,by simp,hx⟩
 rcases o2 with ⟨e0,hz⟩|⟨g,cap,cur,e0,q1,q2,q3,q4,q5,q6⟩
 ·have hp0:p0=[]:=List.eq_nil_of_length_eq_zero (by simpa using hz)
  subst hp0
  have fin:=fin w [] (by rw [e0];exact Own.nil _ _ _ _) (Ext.refl _ _)
  rw [e0]
  refine (AnyF.slices_SortFunc_none Tryz.zf1 none 0 (.func (.func 51) #[] #[]) w).mono ?_
  rintro e w' ⟨rfl,rfl⟩
  rw [List.mergeSort_nil]
  exact fin
 ·obtain ⟨ds,d1,d2,d3⟩:=zsn p0 xs o3 (by simpa using o1) o4
  have hlen:(p0.map q02.enc).length=p0.length:=by simp
  rw [hlen] at q3 q6 e0
  have hsz:ds.toArray.size=p0.length:=by simp [d2]
  have hF:(flatK z3q 2 ds.toArray).toList=cur.toList.take (p0.length*2):=by rw [z6h,←d1,q6]
  have hFs:(flatK z3q 2 ds.toArray).size=p0.length*2:=by rw [size_flatK,hsz]
  have hgl:g<w.heap.size:=(Array.getElem?_eq_some_iff.1 q2).1
  have hH:HoldsK z3q 2 w g 0 ds.toArray:=fun j hj=>by
   have hj':j<p0.length*2:=by rw [←hFs];exact hj
   have e1:cur[j]? = some (flatK z3q 2 ds.toArray)[j]!:=by
    rw [getElem!_pos _ j hj,←yl,←yd hj',←hF,yl,yj hj]
   refine ⟨?_,?_⟩
   ·simp only [Nat.zero_add,World.cell?,q2]
    exact e1
   ·simp only [World.frozen?,q2]
    simp
  have hcmp:CmpLays Tryz.prog 51 #[] z3q 2 cfA g 0 ds.toArray.size w:=fun m os dk _ x y=>zfs x.1.1 y.1.1 x.1.2 y.1.2 _
  have hc:=AnyQ.slices_SortFunc Tryz.zf1 2 (fun w=>Tryz.isAgg48 w) (fun w=>Tryz.sizeOf48 w) z3q (fun _=>rfl) (fun x v hv=>by
   simp only [z3q,ye,yh,or_false] at hv
   rcases hv with rfl|rfl
   ·rfl
   ·exact x.2) cfA swoA 51 #[] g 0 cap ds.toArray w (fun _ _=>rfl) hcmp hH hgl (by rw [hsz];exact h1)
  rw [hsz] at hc
  rw [e0]
  refine hc.mono ?_
  rintro e w' ⟨rfl,d',n,os,hp,hso,rfl⟩
  have hdz:d'.size=p0.length:=by rw [hp.1,hsz]
  have hperm:d'.toList.Perm ds:=by
   have:=hp.2.2
   rw [←hdz] at this
   simpa [List.take_of_length_le,show ds.length≤d'.size by omega] using this
  have hsort:(d'.toList.map fun a:SA=>a.1.1).Pairwise (fun a b=>a≤b):=by
   rw [yi,List.pairwise_iff_getElem]
   intro i j hi hj hij
   have hi':i<d'.size:=by simpa using hi
   have hj':j<d'.size:=by simpa using hj
   have:=hso i j (Nat.zero_le _) hij (by omega)
   rw [ltA,getElem!_pos _ j hj',getElem!_pos _ i hi'] at this
   simpa using this
  have hdn:(ds.map fun a:SA=>a.1.1)=p0.map (·.zg):=by
   apply ya
   intro j
   rw [yc,yc]
   by_cases hj:j<p0.length
   ·have hj2:j<ds.length:=by omega
    have e1:p0[j]? = some p0[j]:=by simp [hj]
    have e2:ds[j]? = some ds[j]:=by simp [hj2]
    rw [e1,e2]
    simp [(d3 j _ _ e1 e2).1]
   ·rw [yb (by omega),yb (by omega)]
    rfl
  have hnames:=z9t hperm hdn hsort
  have hrl:(p0.mergeSort fun x y=>decide (x.zg≤y.zg)).length=d'.toList.length:=by simp [hdz]
  obtain ⟨r,hr⟩:∃ r,(p0.mergeSort fun x y=>decide (x.zg≤y.zg))=r:=⟨_,rfl⟩
  have hmem:∀ f,f∈r→f∈p0:=fun f hf=>by rw [←hr] at hf;exact List.mem_mergeSort.1 hf
  rw [hr] at hnames hrl ⊢
  have hFs':(flatK z3q 2 d').size=p0.length*2:=by rw [size_flatK,hdz]
  have hFl:(flatK z3q 2 d').toList=d'.toList.flatMap z3q:=by
   have:=z6h d'.toList
   simpa using this
  obtain ⟨w',hw'⟩:∃ w',sortWorldK z3q 2 w g 0 n d' os=w':=⟨_,rfl⟩
  have hheap:w'.heap[g]? = some (.cells (putCells id 0 (flatK z3q 2 d') cur) 48 (0,0)):=by
   rw [←hw']
   unfold sortWorldK putRowK
   rw [heap_grow_old _ _ (by simpa using hgl)]
   simp [putRow,mapBlock,Sort.ahead,yk,q2,onCells]
  have hx:Ext (fun x=>(α 0).ownBlock=some x) w w':=by
   rw [←hw']
   unfold sortWorldK putRowK
   refine ⟨rfl,rfl,rfl,by simp,fun k hk hne => ?_⟩
   rw [heap_grow_old _ _ (by simpa using hk)]
   have:g≠k:=fun e=>hne (by rw [e0,e];rfl)
   simp [putRow,mapBlock,Sort.ahead,yk,this]
  have tr:Tr O w O w':=Tr.z2p hx fun x _ hx=>o5 x hx
  rw [hw']
  have hk:∀ (j:Nat) f a,r[j]? = some f→d'.toList[j]? = some a→a.1.1=f.zg∧RD w' O (.sl 9 1 (f.zf.map eS)) a.1.2:=fun j f a ef ea=>by
   have e:=congrArg (fun l=>l[j]?) hnames
   simp only [yc,ef,ea,Option.map_some,Option.some.injEq] at e
   obtain ⟨m,hm'⟩:=List.getElem?_of_mem (hperm.mem_iff.1 (yg ea))
   have hml:m<p0.length:=by
    have:=(List.getElem?_eq_some_iff.1 hm').1
    omega
   have e1:p0[m]? = some p0[m]:=by simp [hml]
   obtain ⟨k1,k2⟩:=d3 m _ a e1 hm'
   have:=zjh hnd (hmem f (yg ef)) (yg e1) (e.trans k1)
   rw [this]
   exact ⟨k1,k2.tr tr⟩
  have hrl':r.length=p0.length:=by rw [hrl];simpa using hdz
  refine fin w' _ ⟨d'.toList.flatMap z3q,⟨by rw [←hFl];simp [hFs',hrl'],.inr ⟨g,cap,_,by rw [e0];simp [hrl'],Nat.zero_le _,hheap,by simp [hrl'];exact q3,q4,by simp [putCells,q5],?_⟩⟩,zs2 r _ hrl hk,fun x hx => ?_,o5⟩ hx
  ·have:=zki (flatK z3q 2 d') cur (by rw [hFs',q5];omega)
   rw [hFs',hFl] at this
   simpa [hrl'] using this
  ·obtain ⟨a,_,ha⟩:=List.mem_flatMap.1 hx
   simp only [z3q,ye,yh,or_false] at ha
   rcases ha with rfl|rfl
   ·rfl
   ·exact a.2
end Go.Proofs.YtmmgdladipbedaaGreatDoor
end
section
namespace Go.Proofs.YtmmgdladipbedaaGreatDoor
open _root_.List renaming getElem?_eq_none → ya, getElem?_map → yb, mem_of_getElem? → yc, not_mem_nil → yd
open _root_.Array renaming getElem?_modify → ye, getElem?_toList → yf
open Go.Proofs Go.Lk Go.Pe Go.Sen Go.RowKit Go.Shelf Go.Lib Go.Sort
variable [Lb]
def zfb (f:q02):List D:=[.str f.zg,.fsl 9 1 (f.zf.map eS)]
theorem zfz (f:q02):zfb f=[.str f.zg,.fsl 9 1 (f.zf.map eS)]:=rfl
@[reducible] def I.zm1 (p0:List q02):CIn:=⟨[.ref 0,.fn 51 [] []],[],[(48,2,(p0.map zfb))]⟩
@[reducible] def O.zm1:(List q02)→z3s
 | r => .okI [] [] [some (48,2,(r.map zfb))]
theorem zod {w:World} {O:Nat→Prop}:∀ (l:List q02) (xs:List Value),RDl w O 2 (l.map zfb) xs→xs.length=l.length*2→(∀ x∈xs,x.oneCell'=true) →
  ∃ ds:List SA,xs=ds.flatMap z3q∧ds.length=l.length∧∀ (j:Nat) f a,l[j]? = some f→ds[j]? = some a→a.1.1=f.zg∧RD w O (.fsl 9 1 (f.zf.map eS)) a.1.2
 | [],xs,_,h,_=>⟨[],by simpa using h,rfl,fun j f a e=>by simp at e⟩
 | f::l,xs,h,hl,ho=>by
  match xs,hl with
  | x::y::xs,hl =>
   obtain ⟨h1,h2⟩:=h
   rw [zfz] at h1
   obtain ⟨v,vs,e1,h3,u,us,e2,h4,h5⟩:=h1
   simp only [List.take_succ_cons,List.take_zero,List.cons.injEq] at e1
   obtain ⟨rfl,rfl⟩:=e1
   simp only [List.cons.injEq] at e2
   obtain ⟨rfl,_⟩:=e2
   simp only [RD] at h3
   subst h3
   obtain ⟨ds,k1,k2,k3⟩:=zod l xs (by simpa using h2) (by simp at hl;omega) fun x hx=>ho x (by simp [hx])
   refine ⟨⟨(f.zg,y),ho y (by simp)⟩::ds,by simp [z3q,←k1],by simp [k2],fun j g a eg ea => ?_⟩
   match j,eg,ea with
   | 0,eg,ea =>
    simp at eg ea
    subst eg ea
    exact ⟨rfl,h4⟩
   | j+1,eg,ea=>exact k3 j g a (by simpa using eg) (by simpa using ea)
  | [x],hl=>simp at hl;omega
  | [],hl=>simp at hl
theorem zs3 {w:World} {O:Nat→Prop}:∀ (r:List q02) (ts:List SA),r.length=ts.length→(∀ (j:Nat) f a,r[j]? = some f→ts[j]? = some a→a.1.1=f.zg∧RD w O (.fsl 9 1 (f.zf.map eS)) a.1.2)→RDl w O 2 (r.map zfb) (ts.flatMap z3q)
 | [],_,_,_=>trivial
 | f::r,[],h,_=>by simp at h
 | f::r,a::ts,h,k=>by
  have ih:=zs3 r ts (by simpa using h) fun j g b e1 e2=>k (j+1) g b (by simpa using e1) (by simpa using e2)
  obtain ⟨k1,k2⟩:=k 0 f a rfl rfl
  refine ⟨?_,by simpa [z3q] using ih⟩
  rw [zfz]
  refine ⟨_,_,by simp [z3q];rfl,?_,_,_,rfl,k2,rfl⟩
  simp only [RD,k1]
set_option maxRecDepth 1000000 in
set_option maxHeartbeats 1000000 in
theorem C.zm1 (p0:List q02):S (M.q44 p0) fun r=>Con Tryz.prog GG 50 (I.zm1 p0) (O.zm1 r):=by
 unfold M.q44
 refine S.chk fun h0 => ?_
 obtain ⟨h1,h2⟩:=Bool.and_eq_true_iff.1 h0
 have h1:=of_decide_eq_true h1
 have hnd:=of_decide_eq_true h2
 intro r hm
 cases hm
 refine ⟨fun _ _=>rfl,fun w O φ α us hv hm hB hG => ?_⟩
 obtain ⟨u,us',rfl,⟨rfl,hone⟩,u2,us2,rfl,⟨xa,xb,rfl,ha,hb⟩,h3⟩:=hv
 obtain rfl:us2=[]:=h3
 obtain rfl:xa=[]:=ha
 obtain rfl:xb=[]:=hb
 have hox:z7f w O 48 2 (α 0) (p0.map zfb):=hm.arr 0 _ rfl
 obtain ⟨xs,⟨o1,o2⟩,o3,o4,o5⟩:=hox.un (by decide)
 have fin:∀ (w':World) (l:List (List D)),Own w' O 48 2 (α 0) l→Ext (fun x=>(α 0).ownBlock=some x) w w'→zf9 (I.zm1 p0) w O φ α (.okI [] [] [some (48,2,l)]) (.returned (.tuple #[])) w':=fun w' l hown hx=>by
  have tr:Tr O w O w':=Tr.z2p hx fun x _ hx=>o5 x hx
  refine ⟨[],O,φ,α,rfl,⟨rfl,⟨fun b e he=>by simp at he,fun a e he => ?_,fun a b la=>by simp at la,fun a b e e' ha hb hn => ?_,fun a b e ha lb=>by simp at lb⟩,fun _ _=>rfl,Nat.le_refl _,hB.ext hx,tr,fun _ h=>h,fun _ h => .inl h,hx.mono fun x _ hx => .inr ⟨0,by simp,hx⟩,fun b h1=>by simp at h1,fun a e x he hx => ?_⟩,fun _ _=>rfl⟩
  ·match a,he with
   | 0,he=>cases he;exact .inl ⟨(by decide:(48:Nat)<1000000),hown⟩
  ·match a,b,ha,hb with
   | 0,0,_,_=>exact (hn rfl).elim
  ·match a,he with
   | 0,he=>exact .inl ⟨0,by simp,hx⟩
 rcases o2 with ⟨e0,hz⟩|⟨g,cap,cur,e0,q1,q2,q3,q4,q5,q6⟩
 ·have hp0:p0=[]:=List.eq_nil_of_length_eq_zero (by simpa using hz)
  subst hp0
  have fin:=fin w [] (by rw [e0];exact Own.nil _ _ _ _) (Ext.refl _ _)
  rw [e0]
  refine (AnyF.slices_SortFunc_none Tryz.zf1 none 0 (.func (.func 51) #[] #[]) w).mono ?_
  rintro e w' ⟨rfl,rfl⟩
  rw [List.mergeSort_nil]
  exact fin
 ·obtain ⟨ds,d1,d2,d3⟩:=zod p0 xs o3 (by simpa using o1) o4
  have hlen:(p0.map zfb).length=p0.length:=by simp
  rw [hlen] at q3 q6 e0
  have hsz:ds.toArray.size=p0.length:=by simp [d2]
  have hF:(flatK z3q 2 ds.toArray).toList=cur.toList.take (p0.length*2):=by rw [z6h,←d1,q6]
  have hFs:(flatK z3q 2 ds.toArray).size=p0.length*2:=by rw [size_flatK,hsz]
  have hgl:g<w.heap.size:=(Array.getElem?_eq_some_iff.1 q2).1
  have hH:HoldsK z3q 2 w g 0 ds.toArray:=fun j hj=>by
   have hj':j<p0.length*2:=by rw [←hFs];exact hj
   have e1:cur[j]? = some (flatK z3q 2 ds.toArray)[j]!:=by
    rw [getElem!_pos _ j hj,←yf,←List.getElem?_take_of_lt hj',←hF,yf,Array.getElem?_eq_getElem hj]
   refine ⟨?_,?_⟩
   ·simp only [Nat.zero_add,World.cell?,q2]
    exact e1
   ·simp only [World.frozen?,q2]
    simp
  have hcmp:CmpLays Tryz.prog 51 #[] z3q 2 cfA g 0 ds.toArray.size w:=fun m os dk _ x y=>zfs x.1.1 y.1.1 x.1.2 y.1.2 _
  have hc:=AnyQ.slices_SortFunc Tryz.zf1 2 (fun w=>Tryz.isAgg48 w) (fun w=>Tryz.sizeOf48 w) z3q (fun _=>rfl) (fun x v hv=>by
   simp only [z3q,List.mem_cons,yd,or_false] at hv
   rcases hv with rfl|rfl
   ·rfl
   ·exact x.2) cfA swoA 51 #[] g 0 cap ds.toArray w (fun _ _=>rfl) hcmp hH hgl (by rw [hsz];exact h1)
  rw [hsz] at hc
  rw [e0]
  refine hc.mono ?_
  rintro e w' ⟨rfl,d',n,os,hp,hso,rfl⟩
  have hdz:d'.size=p0.length:=by rw [hp.1,hsz]
  have hperm:d'.toList.Perm ds:=by
   have:=hp.2.2
   rw [←hdz] at this
   simpa [List.take_of_length_le,show ds.length≤d'.size by omega] using this
  have hsort:(d'.toList.map fun a:SA=>a.1.1).Pairwise (fun a b=>a≤b):=by
   rw [List.pairwise_map,List.pairwise_iff_getElem]
   intro i j hi hj hij
   have hi':i<d'.size:=by simpa using hi
   have hj':j<d'.size:=by simpa using hj
   have:=hso i j (Nat.zero_le _) hij (by omega)
   rw [ltA,getElem!_pos _ j hj',getElem!_pos _ i hi'] at this
   simpa using this
  have hdn:(ds.map fun a:SA=>a.1.1)=p0.map (·.zg):=by
   apply List.ext_getElem?
   intro j
   rw [yb,yb]
   by_cases hj:j<p0.length
   ·have hj2:j<ds.length:=by omega
    have e1:p0[j]? = some p0[j]:=by simp [hj]
    have e2:ds[j]? = some ds[j]:=by simp [hj2]
    rw [e1,e2]
    simp [(d3 j _ _ e1 e2).1]
   ·rw [ya (by omega),ya (by omega)]
    rfl
  have hnames:=z9t hperm hdn hsort
  have hrl:(p0.mergeSort fun x y=>decide (x.zg≤y.zg)).length=d'.toList.length:=by simp [hdz]
  obtain ⟨r,hr⟩:∃ r,(p0.mergeSort fun x y=>decide (x.zg≤y.zg))=r:=⟨_,rfl⟩
  have hmem:∀ f,f∈r→f∈p0:=fun f hf=>by rw [←hr] at hf;exact List.mem_mergeSort.1 hf
  rw [hr] at hnames hrl ⊢
  have hFs':(flatK z3q 2 d').size=p0.length*2:=by rw [size_flatK,hdz]
  have hFl:(flatK z3q 2 d').toList=d'.toList.flatMap z3q:=by
   have:=z6h d'.toList
   simpa using this
  obtain ⟨w',hw'⟩:∃ w',sortWorldK z3q 2 w g 0 n d' os=w':=⟨_,rfl⟩
  have hheap:w'.heap[g]? = some (.cells (putCells id 0 (flatK z3q 2 d') cur) 48 (0,0)):=by
   rw [←hw']
   unfold sortWorldK putRowK
   rw [heap_grow_old _ _ (by simpa using hgl)]
   simp [putRow,mapBlock,Sort.ahead,ye,q2,onCells]
  have hx:Ext (fun x=>(α 0).ownBlock=some x) w w':=by
   rw [←hw']
   unfold sortWorldK putRowK
   refine ⟨rfl,rfl,rfl,by simp,fun k hk hne => ?_⟩
   rw [heap_grow_old _ _ (by simpa using hk)]
   have:g≠k:=fun e=>hne (by rw [e0,e];rfl)
   simp [putRow,mapBlock,Sort.ahead,ye,this]
  have tr:Tr O w O w':=Tr.z2p hx fun x _ hx=>o5 x hx
  rw [hw']
  have hk:∀ (j:Nat) f a,r[j]? = some f→d'.toList[j]? = some a→a.1.1=f.zg∧RD w' O (.fsl 9 1 (f.zf.map eS)) a.1.2:=fun j f a ef ea=>by
   have e:=congrArg (fun l=>l[j]?) hnames
   simp only [yb,ef,ea,Option.map_some,Option.some.injEq] at e
   obtain ⟨m,hm'⟩:=List.getElem?_of_mem (hperm.mem_iff.1 (yc ea))
   have hml:m<p0.length:=by
    have:=(List.getElem?_eq_some_iff.1 hm').1
    omega
   have e1:p0[m]? = some p0[m]:=by simp [hml]
   obtain ⟨k1,k2⟩:=d3 m _ a e1 hm'
   have:=zjh hnd (hmem f (yc ef)) (yc e1) (e.trans k1)
   rw [this]
   exact ⟨k1,k2.tr tr⟩
  have hrl':r.length=p0.length:=by rw [hrl];simpa using hdz
  refine fin w' _ ⟨d'.toList.flatMap z3q,⟨by rw [←hFl];simp [hFs',hrl'],.inr ⟨g,cap,_,by rw [e0];simp [hrl'],Nat.zero_le _,hheap,by simp [hrl'];exact q3,q4,by simp [putCells,q5],?_⟩⟩,zs3 r _ hrl hk,fun x hx => ?_,o5⟩ hx
  ·have:=zki (flatK z3q 2 d') cur (by rw [hFs',q5];omega)
   rw [hFs',hFl] at this
   simpa [hrl'] using this
  ·obtain ⟨a,_,ha⟩:=List.mem_flatMap.1 hx
   simp only [z3q,List.mem_cons,yd,or_false] at ha
   rcases ha with rfl|rfl
   ·rfl
   ·exact a.2
end Go.Proofs.YtmmgdladipbedaaGreatDoor
end
section
namespace Go.Proofs.YtmmgdladipbedaaGreatDoor
open _root_.Nat renaming ble → ya
open Go.Lk Go.Pe Go.Sen Go.RowKit
variable [Lb]
@[reducible] def Qs {α:Type} (y:Option α) (f:Nat) (i:CIn) (o:α→z3s):Prop:=S y fun r=>Con Tryz.prog GG f i (o r)
theorem Kf {α:Type} {y:Option α} {f:Nat} {fn:Func} {i:CIn} {o:α→z3s} (hf:Tryz.prog.funcs[f]? = some fn) (ann:Ann) (res:List ResultVar) (hw:S y fun r=>ex TB CT ann (Con Tryz.prog GG) (z2x fn) (entry i) (fin TB ann res (o r))) (hok:okC ann fn.ntmps (z2x fn)=true:=by kernel_rfl)
  (hb:fn.body=some (z2x fn):=by exact rfl) (ent:∀ args w,(callFunc f args).run Tryz.prog w = .ok (.enter f args) w:=by exact fun _ _=>rfl) (hres:fn.results=res.toArray:=by exact rfl) (hl:ya i.vs.length fn.ntmps=true:=by exact rfl) (hnb:ann.nb=i.B.length:=by exact rfl) (h1000:ya i.B.length 1000=true:=by exact rfl):Qs y f i o :=
 Con.oS TBG hf ann res hw hok hb ent hres hl hnb h1000
theorem Kd {α:Type} {y:Option α} {f:Nat} {fn:Func} {i:CIn} {o:α→z3s} {fc T:Nat} {ik:IntKind} {Te:Nat} (hct:zff Tryz.prog fc T ik Te) (hf:Tryz.prog.funcs[f]? = some fn) (ann:Ann) (res:List ResultVar) (hw:S y fun r=>exD TB CT ann (Con Tryz.prog GG) (fin TB ann res (o r)) (zxp TB ann res (o r) fc T ik Te) (z2x fn) (entry i)) (hok:okC ann fn.ntmps (z2x fn)=true:=by kernel_rfl)
  (hb:fn.body=some (z2x fn):=by exact rfl) (ent:∀ args w,(callFunc f args).run Tryz.prog w = .ok (.enter f args) w:=by exact fun _ _=>rfl) (hnd:z2o (z2x fn)=true:=by exact rfl) (hres:fn.results=res.toArray:=by exact rfl) (hl:ya i.vs.length fn.ntmps=true:=by exact rfl) (hnb:ann.nb=i.B.length:=by exact rfl) (h1000:ya i.B.length 900=true:=by exact rfl):Qs y f i o :=
 Con.oD hct TBG hf ann res hw hok hb ent hnd hres hl hnb h1000
end Go.Proofs.YtmmgdladipbedaaGreatDoor
end
section
namespace Go.Proofs.YtmmgdladipbedaaGreatDoor
open _root_.List renaming length_nil → ya
open Go.Proofs Go.Lk Go.Pe Go.RowKit Go.Shelf Go.Maps Go.Sort
attribute [local go_sem] Oper.semAt_some
structure Hid (p:Prop):Prop where
 h:p
set_option maxRecDepth 100000 in
set_option maxHeartbeats 2000000 in
theorem ziq (w:World) (a:Option Addr) (len cap:Nat) (zs:List (List UInt8)) (hreach:zs.length*16≤140737488355328) (hlen:len=zs.length) (h:za1 w (.slice a len cap) zs) (r94:Bool)
  (h94:zs.length≤64→((Lib.compact (zs.mergeSort fun x y=>decide (x≤y))).length=zs.length)→∀ w',Below w.heap.size w w'→Calls Tryz.prog 94 #[.slice a len cap,.func (.func 117) #[] #[]] w' fun e w''=>e = .returned (.bool r94)∧Below w'.heap.size w' w'') :
  Calls Tryz.prog 57 #[.slice a len cap] w fun e w'=>e = .returned (.bool (if zs.length≤64 then (if (Lib.compact (zs.mergeSort fun x y=>decide (x≤y))).length=zs.length then !r94 else false) else false))∧Below w.heap.size w w':=by
 refine (callsIn_wide (n:=6)).1 ?_
 subst hlen
 obtain ⟨N,hN⟩:∃ N,(Lib.compact (zs.mergeSort fun x y=>decide (x≤y))).length=N:=⟨_,rfl⟩
 rw [hN] at h94 ⊢
 have cS:=zbx (ρ:=Tryz.z3w) Tryz.zh4 Fence.wide 5 trivial trivial trivial trivial rfl (by omega) (zx4 _) (enters_of Tryz.func184 (by kernel_rfl) rfl) 185 #[.pointer (some ⟨w.heap.size,0,none⟩)] trivial (enters_of Tryz.func185 (by kernel_rfl) rfl) zs (by unfold maxLen;omega) (by omega) _ (za0 w 2 (by omega) a zs.length cap zs hreach h)
 change CallsIn _ _ Tryz.prog 114 _ _ _ at cS
 have hf69:Fence.wide.fn 115:=trivial
 have hf68:Fence.wide.fn 114:=trivial
 have hf70:Fence.wide.fn 116:=trivial
 have hf94:Fence.wide.fn 94:=trivial
 replace h94:=Hid.mk h94
 replace hN:=Hid.mk hN
 refine callsIn_of_wp Tryz.func57 rfl trivial ?_ rfl
 simp only [Tryz.ntmps57,List.size_toArray,List.length_cons,ya,Nat.reduceAdd,Nat.reduceSub,Array.replicate_succ,Array.replicate_zero,List.push_toArray,List.append_toArray,List.nil_append,List.cons_append]
 by_cases h64:zs.length≤64
 ·have h64':((zs.length:Int)≤64):=by omega
  rw [if_pos h64]
  obtain ⟨R,hR⟩:∃ R,(if N=zs.length then !r94 else false)=R:=⟨_,rfl⟩
  rw [hR]
  replace hR:=Hid.mk hR
  gi_wp2_with (first
   | (gi_at_call 115;refine (values Fence.wide 5 trivial rfl a zs.length cap w).mono ?_;rintro e w' ⟨rfl,rfl⟩)
   | (gi_at_call 114;refine cS.mono ?_;rintro e w1 ⟨v,ss,rfl,hS,hrow,hnil,hb⟩;subst ss))
  have b1:Below w.heap.size w w1:=((Below.refl _ w).alloc (Nat.le_refl _) _).trans (hb.mono (by simp))
  rcases hrow.2 with ⟨rfl,hz⟩|⟨gb,cap2,cur,rfl,hbase,hgb,r1,r2,r3,r4⟩
  ·obtain rfl:zs=[]:=List.eq_nil_of_length_eq_zero (by simpa using hz)
   have e0:Lib.compact (([]:List (List UInt8)).mergeSort fun x y=>decide (x≤y))=[]:=by rw [List.mergeSort_nil];rfl
   obtain ⟨hN⟩:=hN
   rw [e0] at hN
   simp only [ya] at hN
   subst hN
   have c94:=Hid.mk (h94.h (by simp) rfl w1 b1)
   gi_wp2_with (first
    | (gi_at_call 116;refine (callsIn_wide.2 (Any.slices_Compact_string_empty Tryz.zee none 0 w1)).mono ?_;rintro e w' ⟨rfl,rfl⟩)
    | (gi_at_call 94;refine (callsIn_wide.2 c94.h).mono ?_;rintro e w' ⟨rfl,hb2⟩))
   go_ret
   exact ⟨by rw [←hR.h];rfl,b1.trans (hb2.mono b1.size)⟩
  ·obtain ⟨ys,hys⟩:∃ ys,zs.mergeSort (fun x y=>decide (x≤y))=ys:=⟨_,rfl⟩
   have hyl:ys.length=zs.length:=by rw [←hys];exact List.length_mergeSort _
   obtain ⟨hN⟩:=hN
   rw [hys] at hN r4
   have hH:Holds encStr w1 gb 0 ys.toArray:=holds_of_block hgb (by rw [hyl];simpa using r4)
   have cC:=Any.slices_Compact_string Tryz.zee gb 0 cap2 ys w1 hH (by omega) (by omega)
   rw [hyl,hN] at cC
   have cD:Calls Tryz.prog 116 #[.slice (some ⟨gb,0,none⟩) zs.length cap2] w1 fun e w'=>e = .returned (.slice (some ⟨gb,0,none⟩) N cap2)∧Below w.heap.size w w':=cC.mono fun e w' ⟨h1,q,h2⟩=>⟨h1,by
    have hg:w1.grownBy (putRow encStr (Sort.ahead w1 q) gb 0 (Lib.compact ys++List.replicate (ys.length - (Lib.compact ys).length) []).toArray) (some gb):=by
     refine ⟨rfl,rfl,rfl,by simp,fun k hk hne => ?_⟩
     have:gb≠k:=fun e=>hne (by rw [e])
     simp [putRow,mapBlock,Sort.ahead,Array.getElem?_modify,this]
    have:=b1.grown hg b1.size (fun j hj=>by cases hj;have:=hbase;simp at this;omega)
    rw [hyl,hN] at this
    rw [h2]
    exact this⟩
   clear cC
   replace cD:=Hid.mk cD
   replace r4:=Hid.mk r4
   replace hN:=Hid.mk hN
   replace hys:=Hid.mk hys
   replace hH:=Hid.mk hH
   by_cases hNz:N=zs.length
   ·obtain ⟨hR⟩:=hR
    rw [if_pos hNz] at hR
    subst hR
    have c94:=Hid.mk (h94.h h64 hNz)
    clear h94 hN
    subst hNz
    gi_wp2_with (first
     | (gi_at_call 116;refine (callsIn_wide.2 cD.h).mono ?_;rintro e w2 ⟨rfl,hb1⟩)
     | (gi_at_call 94;refine (callsIn_wide.2 (c94.h _ hb1)).mono ?_;rintro e w3 ⟨rfl,hb2⟩))
    go_ret
    exact ⟨rfl,hb1.trans (hb2.mono hb1.size)⟩
   ·obtain ⟨hR⟩:=hR
    rw [if_neg hNz] at hR
    subst hR
    have hNz':¬((N:Int)=(zs.length:Int)):=by omega
    gi_wp2_with (gi_at_call 116;refine (callsIn_wide.2 cD.h).mono ?_;rintro e w2 ⟨rfl,hb1⟩)
    go_ret
    exact ⟨rfl,hb1⟩
 ·have h64':¬((zs.length:Int)≤64):=by omega
  rw [if_neg h64]
  gi_wp2_with (first
   | (gi_at_call 115;refine (values Fence.wide 5 trivial rfl a zs.length cap w).mono ?_;rintro e w' ⟨rfl,rfl⟩)
   | (gi_at_call 114;refine cS.mono ?_;rintro e w1 ⟨v,ss,rfl,hS,hrow,hnil,hb⟩;subst ss))
  go_ret
  exact ⟨rfl,((Below.refl _ w).alloc (Nat.le_refl _) _).trans (hb.mono (by simp))⟩
end Go.Proofs.YtmmgdladipbedaaGreatDoor
end
