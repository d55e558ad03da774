import Derived.Test.YtmmgdladipbedaaGreatDoorSnN
import Derived.Lib.ValidLaws
set_option linter.all false
section
namespace Go.Sen
open _root_.Bool renaming and_eq_true → ya, not_eq_true' → yb
open _root_.List renaming filter_cons → yc, lt_irrefl → yd, map_append → ye, map_cons → yf, map_map → yg, mem_append → yh, mem_cons → yi, mem_cons_of_mem → yj, mem_cons_self → yk, mem_filter → yl, mem_map → ym, mem_map_of_mem → yn, mem_singleton → yo, nodup_append → yp, nodup_cons → yq, nodup_iff_pairwise_ne → yr, pairwise_cons → ys, pairwise_map → yt, singleton_append → yu
open Go.Lk Go.Pe
theorem zo1 {k:List UInt8} {v z:List (List UInt8)}:∀ {m:MP},(m.map (·.1)).Nodup→(k,v)∈m→z2s m k z=v
 | (a,b)::r,hn,h=>by
  simp only [yf,yq] at hn
  unfold z2s
  rcases yi.1 h with h|h
  ·cases h;rw [if_pos rfl]
  ·have hk:k∈r.map (·.1):=yn (f:=(·.1)) h
   rw [if_neg (fun e:k=a=>hn.1 (e▸hk))]
   exact zo1 hn.2 h
theorem zo0 {k:List UInt8} {z:List (List UInt8)}:∀ {m:MP},k∉m.map (·.1)→z2s m k z=z
 | [],_=>rfl
 | (a,b)::r,h=>by
  simp only [yf,yi,not_or] at h
  unfold z2s
  rw [if_neg h.1]
  exact zo0 h.2
theorem zbj (k:List UInt8):∀ {m:MP},(m.map (·.1)).Nodup→z5m m k=m.filter (fun x => !decide (x.1=k))
 | [],_=>rfl
 | (a,b)::r,hn=>by
  simp only [yf,yq] at hn
  unfold z5m
  by_cases h:k=a
  ·subst h
   rw [if_pos rfl,List.filter_cons_of_neg (by simp)]
   refine (List.filter_eq_self.2 fun x hx => ?_).symm
   have hk:x.1∈r.map (·.1):=yn (f:=(·.1)) hx
   simp only [yb,decide_eq_false_iff_not]
   exact fun e=>hn.1 (e▸hk)
  ·rw [if_neg h,List.filter_cons_of_pos (by simpa using fun e:a=k=>h e.symm),zbj k hn.2]
theorem zek {k:List UInt8} {v:List (List UInt8)}:∀ {m:MP},k∉m.map (·.1)→z3b m k v=m++[(k,v)]
 | [],_=>rfl
 | (a,b)::r,h=>by
  simp only [yf,yi,not_or] at h
  unfold z3b
  rw [if_neg h.1,zek h.2]
  rfl
theorem zjz {m:MP} {x:ED} {v:List (List UInt8)} (hn:(m.map (·.1)).Nodup):z5v m x v=m.filter (fun y => !decide (y.1=x.zg))++(if 0<v.length then [(x.zg,v)] else []):=by
 unfold z5v
 rw [zbj _ hn]
 by_cases h:0<v.length
 ·rw [if_pos h,if_pos h]
  refine zek fun q => ?_
  obtain ⟨y,hy,e⟩:=ym.1 q
  simpa [e] using (yl.1 hy).2
 ·rw [if_neg h,if_neg h,List.append_nil]
structure Inv (m:MP):Prop where
 nd:(m.map (·.1)).Nodup
 ok:∀ y∈m,isName y.1=true∧0<y.2.length∧sgl y.2=true
theorem zn3 {x:ED} (h:z5o x=true):isName x.zg=true:=by
 unfold z5o at h
 simp only [ya] at h
 exact h.1.1.1.1.1
theorem z9b {l:List (List UInt8)}:sgl l=true↔l.length≤64∧l.Nodup∧∀ v∈l,z1q v=true:=by
 unfold sgl
 simp only [ya,decide_eq_true_eq,List.all_eq_true,and_assoc]
theorem zq5 (x:ED) (hk:x.zc=1) (first:Nat):∀ (l:List (List UInt8)) (i:Nat),dnL x first i l=l.filter (fun v => !pick x v)
 | [],_=>rfl
 | v::r,i=>by
  have h2:¬(i=first∧x.zc=2):=fun h=>by omega
  unfold dnL
  rw [if_neg h2,zq5 x hk first r (i+1)]
  simp only [hk,decide_true,Bool.true_or,Bool.and_true]
  cases h:pick x v<;>simp [yc,h]
theorem zdy (x:ED) (hk:x.zc=2) (first:Nat):∀ (l:List (List UInt8)) (i:Nat),first<i→dnL x first i l=l.filter (fun v => !pick x v && !decide (v=x.zf.head?.getD []))
 | [],_,_=>rfl
 | v::r,i,hi=>by
  have h2:¬(i=first∧x.zc=2):=fun h=>by omega
  unfold dnL
  rw [if_neg h2,zdy x hk first r (i+1) (by omega)]
  simp only [hk,show decide ((2:Int)=1)=false from rfl,Bool.false_or,yc]
  cases (!pick x v && !decide (v=x.zf.head?.getD []))<;>simp
theorem zvw (x:ED) (hk:x.zc=2) (first:Nat):∀ (l:List (List UInt8)) (i:Nat),l.Nodup→i≤first→(dnL x first i l).Nodup
 | [],_,_,_=>by simp [dnL]
 | v::r,i,hn,hi=>by
  simp only [yq] at hn
  unfold dnL
  by_cases h:i=first
  ·rw [if_pos ⟨h,hk⟩,zdy x hk first r (i+1) (by omega)]
   simp only [yu,yq]
   refine ⟨fun q => ?_,hn.2.filter _⟩
   have:=(yl.1 q).2
   simp at this
  ·rw [if_neg (fun q=>h q.1)]
   have ih:=zvw x hk first r (i+1) hn.2 (by omega)
   by_cases hc:(!pick x v&&(decide (x.zc=1) || !decide (v=x.zf.head?.getD [])))=true
   ·rw [if_pos hc]
    simp only [yu,yq]
    refine ⟨fun q => ?_,ih⟩
    simp only [hk,show decide ((2:Int)=1)=false from rfl,Bool.false_or,ya,yb,decide_eq_false_iff_not] at hc
    rcases zdx q with q|q
    ·exact hn.1 q
    ·exact hc.2 q
   ·rw [if_neg hc]
    simpa using ih
theorem z89 {x:ED} (h:z5o x=true):(x.zc=0∧x.z0i=false∧0<x.zf.length)∨(x.zc=1∧x.zf=[])∨(x.zc=2∧0<x.zf.length):=by
 unfold z5o at h
 simp only [ya] at h
 have h:=h.2
 unfold edK at h
 split at h
 ·rename_i h0;simp only [ya,decide_eq_true_eq,yb] at h;exact .inl ⟨h0,h.2,h.1⟩
 ·split at h
  ·rename_i h1;exact .inr (.inl ⟨h1,by simpa using h⟩)
  ·split at h
   ·rename_i h2;simp only [ya,decide_eq_true_eq] at h;exact .inr (.inr ⟨h2,h.1⟩)
   ·cases h
theorem zvx {x:ED} {old:List (List UInt8)} (hx:z5o x=true) (ho:sgl old=true) (hl:(dn x old).1.length≤64):sgl (dn x old).1=true:=by
 obtain ⟨_,n1,t1⟩:=z9b.1 ho
 obtain ⟨_,n2,t2⟩:=z9b.1 (zdz hx)
 refine z9b.2 ⟨hl,?_,?_⟩
 ·unfold dn
  split
  ·rw [yp]
   refine ⟨n1,n2.filter _,fun a ha b hb => ?_⟩
   have h:=(yl.1 hb).2
   simp only [yb,List.contains_eq_mem,decide_eq_false_iff_not] at h
   exact fun e=>h (e▸ha)
  ·rename_i h0
   split
   ·exact n2
   ·simp
   ·rename_i i _ _
    rcases z89 hx with h|h|h
    ·exact (h0 h.1).elim
    ·rw [zq5 x h.1];exact n1.filter _
    ·exact zvw x h.1 i old 0 n1 (Nat.zero_le _)
 ·intro v hv
  unfold dn at hv
  split at hv
  ·rcases yh.1 hv with h|h
   ·exact t1 v h
   ·exact t2 v (yl.1 h).1
  ·rename_i h0
   split at hv
   ·exact t2 v hv
   ·cases hv
   ·rename_i i _ _
    rcases z89 hx with h|h|h
    ·exact (h0 h.1).elim
    ·rw [zq5 x h.1] at hv;exact t1 v (yl.1 hv).1
    ·rcases zdx hv with q|q
     ·exact t1 v q
     ·rw [q]
      cases hvv:x.zf with
      | nil=>rw [hvv] at h;simp at h
      | cons a b=>exact t2 a (by rw [hvv];exact yk)
theorem zum:sgl []=true:=rfl
theorem Inv.get {m:MP} (h:Inv m) (k:List UInt8):sgl (z2s m k [])=true:=by
 rcases zej (k:=k) (z:=[]) m with e|e
 ·rw [e];exact zum
 ·exact (h.ok _ e).2.2
theorem Inv.next {m:MP} (h:Inv m) {x:ED} {v:List (List UInt8)} (hx:isName x.zg=true) (hv:sgl v=true):Inv (z5v m x v):=by
 rw [zjz h.nd]
 constructor
 ·rw [ye,yp]
  refine ⟨(List.filter_sublist.map _).nodup h.nd,?_,fun a ha b hb => ?_⟩
  ·split<;>simp
  ·split at hb
   ·simp only [yf,List.map_nil,yo] at hb
    obtain ⟨y,hy,e⟩:=ym.1 ha
    have:=(yl.1 hy).2
    simp only [yb,decide_eq_false_iff_not] at this
    rw [←e,hb]
    exact this
   ·cases hb
 ·intro y hy
  rcases yh.1 hy with q|q
  ·exact h.ok y (yl.1 q).1
  ·split at q
   ·rename_i hp
    rw [yo] at q
    subst q
    exact ⟨hx,hp,hv⟩
   ·cases q
theorem zh6 {m:MP} {x:ED} (h:Inv m) (hx:z5o x=true) (h0:(z4t m x).1=0):Inv (z4t m x).2:=by
 obtain ⟨h1,h2,h3,h4⟩:=zf3 h0
 rw [h4]
 exact h.next (zn3 hx) (zvx hx (h.get _) h2)
theorem zg5:∀ {l:List ED} {m:MP},Inv m→(∀ x∈l,z5o x=true)→(z1s l m).1=0→Inv (z1s l m).2
 | [],m,h,_,_=>h
 | x::l,m,h,hl,h0=>by
  rw [z6i] at h0 ⊢
  by_cases h1:(z4t m x).1=0
  ·rw [if_pos h1] at h0 ⊢
   exact zg5 (zh6 h (hl x yk) h1) (fun y hy=>hl y (yj _ hy)) h0
  ·rw [if_neg h1] at h0
   exact (h1 h0).elim
theorem zkg (m:MP):(srt m).Perm (m.map fun x=>q02.mk x.1 x.2):=List.mergeSort_perm _ _
theorem zsy {m m':MP} (p:m.Perm m') (hn:(m.map (·.1)).Nodup):srt m=srt m' :=
 zax (p.map _) (by simpa [yg,Function.comp_def] using hn)
theorem zis (m:MP):(srt m).length=m.length:=by rw [(zkg m).length_eq,List.length_map]
theorem z4s (m:MP):((srt m).map fun f=>(f.zg,f.zf)).Perm m:=by
 have h:=(zkg m).map fun f=>(f.zg,f.zf)
 simpa [yg,Function.comp_def] using h
theorem zsl:∀ (l:List q02) (m:MP),(∀ f∈l,f.zg∉m.map (·.1))→(l.map (·.zg)).Nodup→l.foldl (fun m f=>z3b m f.zg f.zf) m=m++l.map fun f=>(f.zg,f.zf)
 | [],m,_,_=>by simp
 | f::l,m,h,hn=>by
  simp only [yf,yq] at hn
  rw [List.foldl_cons,zek (h f yk),zsl l _ (fun g hg => ?_) hn.2]
  ·simp
  ·simp only [ye,yf,List.map_nil,yh,yo,not_or]
   exact ⟨h g (yj _ hg),fun e=>hn.1 (e▸yn (f:=(·.zg)) hg)⟩
theorem zwk {l:List q02} (hn:(l.map (·.zg)).Nodup):mp0 l=l.map fun f=>(f.zg,f.zf):=by
 unfold mp0
 rw [zsl l [] (fun f _ h=>by cases h) hn,List.nil_append]
theorem zj3:∀ (x y:List UInt8),Op.bytesLess x y=decide (x<y)
 | [],[]=>by simp [Op.bytesLess]
 | _::_,[]=>by simp [Op.bytesLess]
 | [],_::_=>by simp [Op.bytesLess]
 | a::x,b::y=>by
  rw [Op.bytesLess,zj3 x y]
  simp only [List.cons_lt_cons_iff]
  by_cases h1:a<b<;>by_cases h2:a=b<;>by_cases h3:x<y<;>simp [h1,h2,h3]
theorem z6b {a b:List UInt8}:slt a b=true↔a<b:=by
 unfold slt
 rw [zj3]
 simp
theorem zdj (a:List UInt8):slt a a=false:=by
 cases h:slt a a with
 | false=>rfl
 | true=>exact (yd a (z6b.1 h)).elim
theorem zmw:∀ {l:List q02} {p:Option (List UInt8)},(∀ f∈l,isName f.zg=true∧0<f.zf.length∧sgl f.zf=true)→(∀ f∈l,z5z p f.zg=true)→l.Pairwise (fun a b=>a.zg<b.zg)→zdt p l=true
 | [],_,_,_,_=>rfl
 | f::l,p,h,hp,hs=>by
  obtain ⟨h1,h2,h3⟩:=h f yk
  rw [ys] at hs
  have h4:=zmw (p:=some f.zg) (fun g hg=>h g (yj _ hg)) (fun g hg=>z6b.2 (hs.1 g hg)) hs.2
  have h5:¬f.zf.length=0:=by omega
  simp only [zdt,h1,hp f yk,h3,h4,h5,decide_false,Bool.not_false,Bool.and_self]
theorem z4n:∀ {l:List q02} {p:Option (List UInt8)},zdt p l=true→(∀ f∈l,isName f.zg=true∧0<f.zf.length∧sgl f.zf=true)∧(∀ f∈l,z5z p f.zg=true)∧l.Pairwise (fun a b=>a.zg<b.zg)
 | [],_,_=>⟨fun f h=>(by cases h),fun f h=>(by cases h),List.Pairwise.nil⟩
 | f::l,p,h=>by
  simp only [zdt,ya,yb,decide_eq_false_iff_not] at h
  obtain ⟨⟨⟨⟨h1,h2⟩,h3⟩,h4⟩,h5⟩:=h
  obtain ⟨k1,k2,k3⟩:=z4n h5
  refine ⟨fun g hg => ?_,fun g hg => ?_,?_⟩
  ·rcases yi.1 hg with rfl|hg
   ·exact ⟨h1,by omega,h4⟩
   ·exact k1 g hg
  ·rcases yi.1 hg with rfl|hg
   ·exact h2
   ·cases p with
    | none=>rfl
    | some q=>exact z6b.2 (List.lt_trans (z6b.1 h2) (z6b.1 (k2 g hg)))
  ·exact ys.2 ⟨fun g hg=>z6b.1 (k2 g hg),k3⟩
theorem z6d {t:TH}:zca t=0↔t.za.length≤32∧zdt none t.za=true:=by
 unfold zca
 split
 ·rename_i h;simp [h]
 ·rename_i h
  constructor
  ·intro q;cases q
  ·intro q;exact (h q).elim
theorem zi7 {l:List q02} (h:l.Pairwise (fun a b=>a.zg<b.zg)):(l.map (·.zg)).Nodup:=by
 rw [yr,yt]
 exact h.imp (fun {a b} (q:a.zg<b.zg) (e:a.zg=b.zg)=>yd _ (e▸q))
theorem ze8 {t:TH} (h:zca t=0):Inv (mp0 t.za)∧mp0 t.za=t.za.map (fun f=>(f.zg,f.zf)):=by
 obtain ⟨_,h2⟩:=z6d.1 h
 obtain ⟨k1,_,k3⟩:=z4n h2
 have hn:=zi7 k3
 have e:=zwk hn
 refine ⟨⟨?_,fun y hy => ?_⟩,e⟩
 ·rw [e];simpa [yg,Function.comp_def] using hn
 ·rw [e] at hy
  obtain ⟨f,hf,rfl⟩:=ym.1 hy
  exact k1 f hf
theorem zsz {m:MP} (h:Inv m):zdt none (srt m)=true:=by
 have hm:∀ f∈srt m,(f.zg,f.zf)∈m:=fun f hf=>(z4s m).mem_iff.1 (yn (f:=fun f=>(f.zg,f.zf)) hf)
 have tr:∀ a b c:q02,decide (a.zg≤b.zg)=true→decide (b.zg≤c.zg)=true→decide (a.zg≤c.zg)=true:=fun a b c h1 h2=>decide_eq_true (zu3 _ _ _ (of_decide_eq_true h1) (of_decide_eq_true h2))
 have tot:∀ a b:q02,(decide (a.zg≤b.zg)||decide (b.zg≤a.zg))=true:=fun a b=>by
  rcases List.le_total a.zg b.zg with h|h<;>simp [h]
 have p1:(srt m).Pairwise fun a b=>decide (a.zg≤b.zg)=true:=List.pairwise_mergeSort tr tot _
 have hn:((srt m).map (·.zg)).Nodup:=by
  have:=((z4s m).map (·.1)).nodup_iff.2 h.nd
  simpa [yg,Function.comp_def] using this
 rw [yr,yt] at hn
 refine zmw (fun f hf=>h.ok _ (hm f hf)) (fun f _=>rfl) ?_
 refine (p1.and hn).imp fun {a b} q => ?_
 have h1:a.zg≤b.zg:=of_decide_eq_true q.1
 rcases List.le_iff_lt_or_eq.1 h1 with h2|h2
 ·exact h2
 ·exact (q.2 h2).elim
theorem zup {t:TH} (h:zca t=0):srt (mp0 t.za)=t.za:=by
 obtain ⟨_,h2⟩:=z6d.1 h
 obtain ⟨_,_,k3⟩:=z4n h2
 rw [(ze8 h).2]
 unfold srt
 rw [yg]
 have e:(t.za.map ((fun x:List UInt8 × List (List UInt8)=>q02.mk x.1 x.2)∘fun f=>(f.zg,f.zf)))=t.za:=by
  conv=>rhs;rw [←List.map_id t.za]
  rfl
 rw [e]
 exact List.mergeSort_of_pairwise (k3.imp fun q=>decide_eq_true (List.le_of_lt q))
end Go.Sen
end
section
namespace Go.Sen
open _root_.Option renaming bind_eq_bind → ya, bind_some → yb
open _root_.Bool renaming false_eq_true → yc, not_true → yd
open _root_.List renaming all_eq_true → ye, getElem?_eq_getElem → yf, length_cons → yg, mem_cons_of_mem → yh, mem_cons_self → yi
open Go.Lk Go.Pe
theorem zpe:∀ (a b:List (List UInt8)),a.length=b.length→(a.zip b).all (fun x=>decide (x.1=x.2))=decide (a=b)
 | [],[],_=>rfl
 | x::a,y::b,h=>by
  have ih:=zpe a b (by simpa using h)
  rw [List.zip_cons_cons,List.all_cons,ih,Bool.eq_iff_iff]
  simp
 | [],_::_,h=>by simp at h
 | _::_,[],h=>by simp at h
theorem zf0 {a b:List (List UInt8)} (ha:a.length<1000000000):M.q2i a b=some (decide (a=b)):=by
 unfold M.q2i
 by_cases hl:a.length=b.length
 ·have hl':decide ((a.length:Int)=(b.length:Int))=true:=decide_eq_true (by omega)
  have hz:(a.zip b).length=a.length:=by rw [List.length_zip,←hl,Nat.min_self]
  have hk:M.z15 a b 0=some (match (a.zip b).findIdx? (fun x => !decide (x.1=x.2)) with|some i => .done ((fun _:Nat=>false) i)|none => .go ()):=by
   refine z9a (fun _=>false) () (by omega) (fun i h => ?_) ?_
   ·have h1:i<a.length:=by omega
    have h2:i<b.length:=by omega
    rw [M.z15]
    simp only [show ((i:Int)<(a.length:Int)) by omega,decide_true,if_true,z3d,yf h1,yf h2,ya,yb,List.getElem_zip]
   ·rw [hz,M.z15];simp
  have hza:=zpe a b hl
  simp only [hl',yd,yc,if_false,hk,ya,yb]
  rcases z3i (a.zip b) (fun x=>decide (x.1=x.2)) with ⟨h1,h2⟩|⟨i,h1,h2⟩
  ·rw [h1,←hza,h2]
  ·rw [h1,←hza,h2]
 ·have hl':decide ((a.length:Int)=(b.length:Int))=false:=decide_eq_false (by omega)
  have hn:¬a=b:=fun e=>hl (by rw [e])
  simp [hl',hn]
theorem z7c {t:TH} (ht:z1o t):M.q2p t t=some true:=by
 obtain ⟨h1,_,_,h4⟩:=ht.parts
 have hk:∀ (n i:Nat),t.za.length - i=n→i≤t.za.length→M.z0f t t (i:Int)=some (.go ()):=by
  intro n
  induction n with
  | zero =>
   intro i h2 h3
   have:i=t.za.length:=by omega
   subst this
   rw [M.z0f]
   simp
  | succ n ih =>
   intro i h2 h3
   have hi:i<t.za.length:=by omega
   have hv:=h4 _ (List.getElem_mem hi)
   rw [M.z0f]
   simp only [show ((i:Int)<(t.za.length:Int)) by omega,decide_true,if_true,z3d,yf hi,ya,yb,yd,yc,if_false]
   rw [zf0 (by have:=hv.2.1;omega)]
   simp only [decide_true,yb,yd,yc,if_false]
   rw [w1 (by omega),ih (i+1) (by omega) (by omega)]
 have h0:=hk _ 0 rfl (Nat.zero_le _)
 have h0':M.z0f t t 0=some (.go ()):=h0
 unfold M.q2p
 simp [h0']
theorem zfq {l:List ED}:z6s l=0↔l.length≤16∧(∀ x∈l,z5o x=true)∧(l.any fun x=>x.z0i && !decide (zfa x.z00=0))=false:=by
 unfold z6s
 by_cases h1:16<l.length
 ·rw [if_pos h1]
  exact ⟨fun h=>(by cases h),fun h=>by omega⟩
 ·rw [if_neg h1]
  cases h2:l.all z5o with
  | false =>
   rw [if_pos rfl]
   refine ⟨fun h=>(by cases h),fun h => ?_⟩
   rw [ye.2 h.2.1] at h2
   cases h2
  | true =>
   rw [if_neg (by decide)]
   cases h3:(l.any fun x=>x.z0i && !decide (zfa x.z00=0)) with
   | true =>
    rw [if_pos rfl]
    exact ⟨fun h=>(by cases h),fun h=>(by cases h.2.2)⟩
   | false =>
    rw [if_neg (by decide)]
    exact ⟨fun _=>⟨by omega,ye.1 h2,rfl⟩,fun _=>rfl⟩
theorem zmj (l:List ED) (t:TH):(∃ c,¬c=0∧apT l t=(zT,c))∨(zca t=0∧z6s l=0∧∃ mm,z1s l (mp0 t.za)=(0,mm)∧apT l t=(⟨t.gId,t.zc,t.z2c,srt mm⟩,0)):=by
 unfold apT
 by_cases h1:zca t=0
 ·rw [if_pos h1]
  by_cases h2:z6s l=0
  ·rw [if_pos h2]
   by_cases h3:(z1s l (mp0 t.za)).1=0
   ·rw [if_pos h3]
    exact .inr ⟨h1,h2,_,Prod.ext h3 rfl,rfl⟩
   ·rw [if_neg h3]
    exact .inl ⟨_,h3,rfl⟩
  ·rw [if_neg h2]
   exact .inl ⟨_,h2,rfl⟩
 ·rw [if_neg h1]
  exact .inl ⟨_,h1,rfl⟩
theorem ztj {l:List ED} {t:TH} {mm:MP} (h1:zca t=0) (h2:z6s l=0) (h3:z1s l (mp0 t.za)=(0,mm)):Inv mm∧mm.length≤32:=by
 have hi:=(ze8 h1).1
 have e1:(z1s l (mp0 t.za)).1=0:=by rw [h3]
 have e2:(z1s l (mp0 t.za)).2=mm:=by rw [h3]
 have a:=zg5 hi (zfq.1 h2).2.1 e1
 have hlen:(mp0 t.za).length≤32:=by
  rw [(ze8 h1).2,List.length_map]
  exact (z6d.1 h1).1
 have b:=zb2 l (mp0 t.za) 32 hlen (Nat.le_refl _) e1
 rw [e2] at a b
 exact ⟨a,b⟩
theorem zq0 {mm:MP} (h:Inv mm) (hl:mm.length≤32) (a b c:List UInt8):zca ⟨a,b,c,srt mm⟩=0:=z6d.2 ⟨by simp only [zis];exact hl,zsz h⟩
theorem zld {s:List UInt8} (h:isName s=true):s.length≤24:=by
 unfold isName at h
 split at h
 ·cases h
 ·simp only [Bool.and_eq_true,decide_eq_true_eq] at h
  omega
theorem zsj:∀ {l:List (List UInt8)},(∀ v∈l,v.length≤128)→kys l≤129*l.length
 | [],_=>by simp [kys]
 | v::l,h=>by
  have h1:=h v yi
  have h2:=zsj (l:=l) fun u hu=>h u (yh _ hu)
  rw [z3j,yg]
  omega
theorem zrm {t:TH} (h:zca t=0):t.sz≤t.gId.length+t.zc.length+t.z2c.length+300000:=by
 obtain ⟨h1,h2⟩:=z6d.1 h
 obtain ⟨k1,_,_⟩:=z4n h2
 have hs:∀ l:List q02,(∀ f∈l,isName f.zg=true∧0<f.zf.length∧sgl f.zf=true)→(l.map (·.sz)).sum≤8281*l.length:=by
  intro l
  induction l with
  | nil=>intro _;simp
  | cons f l ih =>
   intro hl
   obtain ⟨a1,_,a3⟩:=hl f yi
   have a4:=zld a1
   obtain ⟨a5,a6⟩:=zby a3
   have a7:=zsj a6
   have a8:=ih fun g hg=>hl g (yh _ hg)
   have a9:f.sz=f.zg.length+kys f.zf+1:=rfl
   simp only [List.map_cons,List.sum_cons,yg]
   omega
 have:=hs _ k1
 have e:t.sz=t.gId.length+t.zc.length+t.z2c.length+(t.za.map (·.sz)).sum+1:=rfl
 omega
theorem ziu {t:TH}:t.gId.length+t.zc.length+t.z2c.length<t.sz:=by
 have e:t.sz=t.gId.length+t.zc.length+t.z2c.length+(t.za.map (·.sz)).sum+1:=rfl
 omega
theorem zmk {l:List ED} {t:TH} (ht:t.sz≤1048576):z1o (apT l t).1:=by
 have htp:=ziu (t:=t)
 rcases zmj l t with ⟨c,hc,e3⟩|⟨h5,h6,M2,h7,e3⟩
 ·rw [e3];show q04.sz zT<1000000000;decide
 ·rw [e3]
  obtain ⟨hi2,hlen2⟩:=ztj h5 h6 h7
  have hsz2:=zrm (zq0 hi2 hlen2 t.gId t.zc t.z2c)
  simp only at hsz2 ⊢
  unfold z1o
  omega
end Go.Sen
end
section
namespace Go.Sen
open Go.Lk Go.Pe
end Go.Sen
end
section
namespace Go.Sen
open _root_.Bool renaming and_eq_true → ya
open Go.Lk Go.Pe
theorem zrv {e:EX} (h:zhd e=true):e=zE:=by
 obtain ⟨k,n,v,l⟩:=e
 unfold zhd at h
 simp only [ya,decide_eq_true_eq] at h
 obtain ⟨⟨⟨rfl,rfl⟩,rfl⟩,h4⟩:=h
 rw [List.eq_nil_of_length_eq_zero h4]
 rfl
theorem zl2 {x:ED} (h:z5o x=true) (hs:x.z0i=false):x.z00=zE:=by
 unfold z5o at h
 simp only [ya,hs,Bool.false_eq_true,if_false] at h
 exact zrv h.1.2
end Go.Sen
end
section
namespace Go.Sen
open _root_.Option renaming bind_eq_bind → ya, bind_some → yb, getD_some → yc
open _root_.Bool renaming and_eq_true → yd, and_true → ye, eq_iff_iff → yf, false_eq_true → yg, or_eq_true → yh, true_eq_false → yi
open _root_.List renaming any_eq_true → yj, contains_eq_mem → yk, getElem?_eq_getElem → yl, getElem_mem → ym, getElem_of_mem → yn, getElem_take → yo, length_range → yp, length_take → yq, nodup_iff_pairwise_ne → yr, pairwise_iff_getElem → ys, range → yt
open Go.Lk Go.Pe
theorem zov (l:List (List UInt8)):((yt l.length).any fun i => !z1q (l[i]?.getD [])||(l.take i).contains (l[i]?.getD [])) = !(l.all z1q&&decide l.Nodup):=by
 rw [yf]
 simp only [yj,List.mem_range,yh,Bool.not_eq_true',yk,decide_eq_true_eq,Bool.and_eq_false_iff,decide_eq_false_iff_not,List.all_eq_false]
 constructor
 ·rintro ⟨i,hi,h⟩
  rw [yl hi,yc] at h
  rcases h with h|h
  ·exact .inl ⟨_,ym hi,by simp [h]⟩
  ·refine .inr fun hn => ?_
   obtain ⟨k,hk,e⟩:=yn h
   rw [yq] at hk
   rw [yo] at e
   rw [yr,ys] at hn
   exact hn k i (by omega) hi (by omega) e
 ·rintro (⟨x,hx,h⟩|h)
  ·obtain ⟨i,hi,rfl⟩:=yn hx
   exact ⟨i,hi,.inl (by rw [yl hi,yc];simpa using h)⟩
  ·rw [yr,ys] at h
   simp only [Classical.not_forall,Decidable.not_not] at h
   obtain ⟨i,j,hi,hj,hij,e⟩:=h
   refine ⟨j,hj,.inr ?_⟩
   rw [yl hj,yc,←e]
   have:(l.take j)[i]'(by rw [yq];omega)∈l.take j:=ym _
   rwa [yo] at this
theorem zp0 {l:List (List UInt8)} {i:Nat} (hi:i<l.length) (hl:l.length<1000000000):M.z1k (i:Int) l 0=some (if (l.take i).contains l[i]=true then .done (.done false) else .go ()):=by
 have hlen:(l.take i).length=i:=by rw [yq];omega
 have h:=z9a (l:=l.take i) (p:=fun y=>decide (y=l[i])) (F:=M.z1k (i:Int) l) (fun _=>(.done false:Jn Bool Unit)) () (by omega) (fun k hk => ?_) ?_
 ·rw [h]
  rcases z2l (l.take i) (fun y=>decide (y=l[i])) with ⟨h1,h2⟩|⟨j,h1,h2⟩
  ·rw [h1]
   have:(l.take i).contains l[i]=false:=by
    rw [List.any_eq_false] at h2
    rw [yk,decide_eq_false_iff_not]
    exact fun hm=>h2 _ hm (by simp)
   rw [this];rfl
  ·rw [h1]
   have:(l.take i).contains l[i]=true:=by
    obtain ⟨y,hy,e⟩:=yj.1 h2
    rw [yk,decide_eq_true_eq]
    exact (of_decide_eq_true e)▸hy
   rw [this];rfl
 ·rw [hlen] at hk
  have hk2:k<l.length:=by omega
  rw [M.z1k]
  simp only [show ((k:Int)<(i:Int)) by omega,decide_true,if_true,z3d,yl hi,yl hk2,ya,yb,yo]
 ·rw [hlen,M.z1k];simp
theorem z8q {l:List (List UInt8)} (hl:l.length<1000000000):M.q34 l=some (sgl l):=by
 have hk:=z9a (l:=yt l.length) (p:=fun i => !z1q (l[i]?.getD [])||(l.take i).contains (l[i]?.getD [])) (F:=M.z1z l) (fun _=>false) () (by rw [yp];omega) (fun i h => ?_) ?_
 ·unfold M.q34 sgl
  rw [hk]
  have hs:=zov l
  have hlen:decide ((l.length:Int)≤64)=decide (l.length≤64):=by rw [decide_eq_decide];omega
  rcases z2l (yt l.length) (fun i => !z1q (l[i]?.getD [])||(l.take i).contains (l[i]?.getD [])) with ⟨h1,h2⟩|⟨j,h1,h2⟩
  ·rw [h1]
   rw [h2] at hs
   have hs:(l.all z1q&&decide l.Nodup)=true:=by simpa using hs.symm
   simp only [ya,yb,hlen]
   simp only [yd] at hs
   rw [hs.1,hs.2,ye,ye]
  ·rw [h1]
   rw [h2] at hs
   have hs:(l.all z1q&&decide l.Nodup)=false:=by
    cases hb:(l.all z1q&&decide l.Nodup) with
    | false=>rfl
    | true=>rw [hb] at hs;cases hs
   simp only [ya,yb]
   rw [Bool.and_assoc,Bool.and_comm (decide l.Nodup),hs,Bool.and_false]
 ·rw [yp] at h
  rw [M.z1z]
  simp only [show ((i:Int)<(l.length:Int)) by omega,decide_true,if_true,z3d,yl h,ya,yb,zbu,zp0 h hl,List.getElem_range,yc]
  cases z1q l[i] with
  | false=>simp
  | true =>
   simp only [Bool.not_true,yg,if_false,Bool.false_or]
   by_cases hc:(l.take i).contains l[i]=true
   ·rw [if_pos hc,if_pos hc];rfl
   ·rw [if_neg hc,if_neg hc];rfl
 ·rw [yp,M.z1z];simp
theorem z9x:∀ (f:Nat) (e:EX),e.sz≤f→z16 e→fm e=true→M.q2r f e=some (aln e)
 | 0,e,hf,_,_=>by have:=e.z2a;omega
 | f+1,e,hf,hs,hm=>by
  have hz:=e.z2a
  have hlen:=z4g e.zh
  have hs':=hs
  unfold z16 at hs'
  have hk:M.z2k e (M.q2r f) 0=some (match e.zh.findIdx? (fun x => !aln x) with|some i => .done ((fun _:Nat=>false) i)|none => .go ()):=by
   refine z9a (fun _=>false) () (by omega) (fun i h => ?_) ?_
   ·have hmem:=z36 (ym h)
    rw [M.z2k]
    simp only [show ((i:Int)<(e.zh.length:Int)) by omega,decide_true,if_true,z3d,yl h,ya,yb,z9x f _ (show q01.sz e.zh[i]≤f by omega) (hs.mem (ym h)) (zd2 hm (ym h))]
   ·rw [M.z2k];simp
  have hkd:=zb1 hm
  unfold M.q2r
  rw [zrz]
  by_cases h2:2<e.zc
  ·have hl:=(ze5 hm h2).1
   simp [h2,hl]
  ·have hl:¬e.zh.length=0:=by
    by_cases h22:e.zc=2
    ·obtain ⟨x,hx,_⟩:=zg4 hm h22
     rw [hx];simp
    ·have:=(zsa hm (by omega)).1
     omega
   have hl':¬((e.zh.length:Int)=0):=by omega
   simp only [hl',decide_false,yg,if_false,h2,hk,ya,yb,zdo]
   rcases z3i e.zh aln with ⟨h3,h4⟩|⟨i,h3,h4⟩
   ·rw [h3,h4]
   ·rw [h3,h4]
theorem zij (e:EX):M.q3b e=some (zhd e):=by
 unfold M.q3b zhd
 have:decide ((e.zh.length:Int)=0)=decide (e.zh.length=0):=by rw [decide_eq_decide];omega
 rw [this]
theorem zig {x:ED} {f:Nat} (hf:4*x.sz≤f) (hx:z3t x):M.q2v f x=some (z5o x):=by
 obtain ⟨h1,h2,h3,h4⟩:=hx.parts
 have hsz:x.sz=x.zg.length+x.z00.sz+kys x.zf+1:=rfl
 have hwz:=x.z00.z2a
 unfold M.q2v z5o
 rw [z7x (by omega),z8q h3,zbt f x.z00 (by omega) h2,zij]
 have hal:(if x.z0i=true then (if (!fm x.z00)=true then some true else (M.q2r f x.z00).bind fun b=>some (!b)) else some false:Option Bool)=some (if x.z0i=true then !(fm x.z00&&aln x.z00) else false):=by
  cases x.z0i with
  | false=>rfl
  | true =>
   simp only [if_true]
   cases hm:fm x.z00 with
   | false=>rfl
   | true =>
    rw [z9x f x.z00 (by omega) h2 hm]
    simp
 have hn0:decide ((x.zf.length:Int)=0)=decide (x.zf.length=0):=by rw [decide_eq_decide];omega
 have hn1:decide ((x.zf.length:Int)=1)=decide (x.zf.length=1):=by rw [decide_eq_decide];omega
 have hnp:decide ((0:Int)<(x.zf.length:Int))=decide (0<x.zf.length):=by rw [decide_eq_decide];omega
 have hn2:decide ((1:Int)<(x.zf.length:Int))=decide (1<x.zf.length):=by rw [decide_eq_decide];omega
 simp only [ya,yb,hal,hn0,hn1,hnp,hn2]
 have hend:(if decide (x.zc=0)=true then some (!x.z0i&&decide (0<x.zf.length)) else if decide (x.zc=1)=true then some (decide (x.zf.length=0)) else if decide (x.zc=2)=true then some (decide (x.zf.length=1) || !x.z0i&&decide (1<x.zf.length)) else some false:Option Bool)=some (edK x.zc x.zf.length x.z0i):=by
  unfold edK
  by_cases k0:x.zc=0
  ·simp [k0,Bool.and_comm]
  ·by_cases k1:x.zc=1
   ·simp [k1]
   ·by_cases k2:x.zc=2
    ·simp only [k2,show ¬((2:Int)=0) by decide,show ¬((2:Int)=1) by decide,decide_false,yg,if_false,decide_true,if_true,Option.some.injEq]
     generalize x.zf.length=n
     cases x.z0i with
     | false =>
      rw [yf]
      simp only [Bool.not_false,Bool.true_and,Bool.or_true,ye,yh,decide_eq_true_eq]
      omega
     | true =>
      rw [yf]
      simp only [Bool.not_true,Bool.false_and,Bool.or_false,yd,decide_eq_true_eq]
      omega
    ·simp [k0,k1,k2]
 rw [hend]
 generalize edK x.zc x.zf.length x.z0i=b5
 generalize zhd x.z00=b6
 generalize sgl x.zf=b4
 generalize decide (x.zg=[105,100])=b2
 generalize decide (x.zg=[116,97,103])=b3
 generalize isName x.zg=b1
 generalize fm x.z00=b9
 generalize aln x.z00=b10
 cases b1<;>cases b2<;>cases b3<;>cases b4<;>try (simp;done)
 cases x.z0i<;>cases b6<;>cases b9<;>cases b10<;>simp
theorem ztg {f:Nat} (hf:1≤f):M.q2u f zE=some 0:=by
 match f,hf with
 | f+1,_ =>
  unfold M.q2u
  rw [M.z1m]
  rfl
theorem z98 {l:List ED} {f:Nat} (hf:4*z6y l+17≤f) (hl:z6y l<1000000000):M.q2k f l=some (z6s l):=by
 have hlen:l.length≤z6y l:=z9c (g:=fun x:ED=>x.sz) (fun x=>by unfold q00.sz;omega) l
 have hm:∀ x∈l,x.sz≤z6y l:=fun x hx=>z9d (g:=fun x:ED=>x.sz) hx
 have hk1:M.z0u l f 0=some (match l.findIdx? (fun x => !z5o x) with|some i => .done ((fun _:Nat=>(194:Int)) i)|none => .go ()):=by
  refine z9a (fun _=>194) () (by omega) (fun i h => ?_) ?_
  ·have:=hm _ (ym h)
   rw [M.z0u]
   simp only [show ((i:Int)<(l.length:Int)) by omega,decide_true,if_true,z3d,yl h,ya,yb,zig (x:=l[i]) (f:=f) (by omega) (by unfold z3t;omega)]
  ·rw [M.z0u];simp
 unfold M.q2k z6s
 by_cases h16:16<l.length
 ·have h16':((16:Int)<(l.length:Int)):=by omega
  simp [h16,h16']
 ·have h16':¬((16:Int)<(l.length:Int)):=by omega
  simp only [h16,h16',decide_false,yg,if_false,ya,hk1]
  rcases z3i l z5o with ⟨h1,h2⟩|⟨i,h1,h2⟩
  ·rw [h1,h2]
   simp only [yb,yi,if_false]
   have hok:=List.all_eq_true.1 h2
   have hk2:M.z0v l f 0=some (match l.findIdx? (fun x=>x.z0i && !decide (zfa x.z00=0)) with|some i => .done ((fun _:Nat=>(193:Int)) i)|none => .go ()):=by
    refine z9a (fun _=>193) () (by omega) (fun i h => ?_) ?_
    ·have h3:=hm _ (ym h)
     have hx:=hok _ (ym h)
     have hx2:q00.sz l[i]=l[i].zg.length+l[i].z00.sz+kys l[i].zf+1:=rfl
     have hsm:z16 l[i].z00:=by unfold z16;omega
     rw [M.z0v]
     simp only [show ((i:Int)<(l.length:Int)) by omega,decide_true,if_true,z3d,yl h,ya,yb]
     cases hs:l[i].z0i with
     | false =>
      rw [zl2 hx hs,ztg (by omega)]
      simp
     | true =>
      have hfm:fm l[i].z00=true:=by
       unfold z5o at hx
       simp only [yd,hs,if_true] at hx
       exact hx.1.2.1
      rw [zbs f _ (by omega) hsm hfm]
      have hc:(!decide (zfa l[i].z00=0))=decide ((16:Int)<(dp l[i].z00:Int)):=by
       unfold zfa
       rw [hfm]
       simp only [yi,if_false]
       by_cases hd:16<dp l[i].z00
       ·have:(16:Int)<(dp l[i].z00:Int):=by omega
        rw [if_pos hd,decide_eq_true this]
        rfl
       ·have:¬(16:Int)<(dp l[i].z00:Int):=by omega
        rw [if_neg hd,decide_eq_false this]
        rfl
      simp only [yb,Bool.true_and,hc]
    ·rw [M.z0v];simp
   rw [hk2]
   rcases z2l l (fun x=>x.z0i && !decide (zfa x.z00=0)) with ⟨h3,h4⟩|⟨i,h3,h4⟩
   ·rw [h3,h4];rfl
   ·rw [h3,h4];rfl
  ·rw [h1,h2];rfl
end Go.Sen
end
