import Derived.Test.YtmmgdladipbedaaGreatDoorSnR
set_option linter.all false
namespace Go.Sen
open Go.Lk Go.Pe
theorem zs0:∀ (a b:List (List UInt8)),a.length=b.length→(a.zip b).all (fun x=>decide (x.1=x.2))=decide (a=b)
 | [],[],_=>rfl
 | x::a,y::b,h=>by
  have ih:=zs0 a b (by simpa using h)
  rw [List.zip_cons_cons,List.all_cons,ih,Bool.eq_iff_iff]
  simp
 | [],_::_,h=>by simp at h
 | _::_,[],h=>by simp at h
theorem z6c {a b:List (List UInt8)} (ha:a.length<1000000000):M.q32 a b=some (decide (a=b)):=by
 unfold M.q32
 by_cases hl:a.length=b.length
 ·have hl':decide ((a.length:Int)=(b.length:Int))=true:=decide_eq_true (by omega)
  have hz:(a.zip b).length=a.length:=by rw [List.length_zip,←hl,Nat.min_self]
  have hk:M.z1c a b 0=some (match (a.zip b).findIdx? (fun x => !decide (x.1=x.2)) with|some i => .done ((fun _:Nat=>false) i)|none => .go ()):=by
   refine zef (fun _=>false) () (by omega) (fun i h => ?_) ?_
   ·have h1:i<a.length:=by omega
    have h2:i<b.length:=by omega
    rw [M.z1c]
    simp only [show ((i:Int)<(a.length:Int)) by omega,decide_true,if_true,z4a,List.getElem?_eq_getElem h1,List.getElem?_eq_getElem h2,Option.bind_eq_bind,Option.bind_some,List.getElem_zip]
   ·rw [hz,M.z1c];simp
  have hza:=zs0 a b hl
  simp only [hl',Bool.not_true,Bool.false_eq_true,if_false,hk,Option.bind_eq_bind,Option.bind_some]
  rcases z5a (a.zip b) (fun x=>decide (x.1=x.2)) with ⟨h1,h2⟩|⟨i,h1,h2⟩
  ·rw [h1,←hza,h2]
  ·rw [h1,←hza,h2]
 ·have hl':decide ((a.length:Int)=(b.length:Int))=false:=decide_eq_false (by omega)
  have hn:¬a=b:=fun e=>hl (by rw [e])
  simp [hl',hn]
theorem z48 {t:TH} (ht:z1b t):M.q3x t t=some true:=by
 obtain ⟨h1,_,_,h4⟩:=ht.parts
 have hk:∀ (n i:Nat),t.ze.length - i=n→i≤t.ze.length→M.z11 t t (i:Int)=some (.go ()):=by
  intro n
  induction n with
  | zero =>
   intro i h2 h3
   have:i=t.ze.length:=by omega
   subst this
   rw [M.z11]
   simp
  | succ n ih =>
   intro i h2 h3
   have hi:i<t.ze.length:=by omega
   have hv:=h4 _ (List.getElem_mem hi)
   rw [M.z11]
   simp only [show ((i:Int)<(t.ze.length:Int)) by omega,decide_true,if_true,z4a,List.getElem?_eq_getElem hi,Option.bind_eq_bind,Option.bind_some,Bool.not_true,Bool.false_eq_true,if_false]
   rw [z6c (by have:=hv.2.1;omega)]
   simp only [decide_true,Option.bind_some,Bool.not_true,Bool.false_eq_true,if_false]
   rw [w1 (by omega),ih (i+1) (by omega) (by omega)]
 have h0:=hk _ 0 rfl (Nat.zero_le _)
 have h0':M.z11 t t 0=some (.go ()):=h0
 unfold M.q3x
 simp [h0']
theorem z2p {l:List ED}:z4y l=0↔l.length≤16∧(∀ x∈l,z5j x=true)∧(l.any fun x=>x.z0t && !decide (z6n x.zw=0))=false:=by
 unfold z4y
 by_cases h1:16<l.length
 ·rw [if_pos h1]
  exact ⟨fun h=>(by cases h),fun h=>by omega⟩
 ·rw [if_neg h1]
  cases h2:l.all z5j with
  | false =>
   rw [if_pos rfl]
   refine ⟨fun h=>(by cases h),fun h => ?_⟩
   rw [List.all_eq_true.2 h.2.1] at h2
   cases h2
  | true =>
   rw [if_neg (by decide)]
   cases h3:(l.any fun x=>x.z0t && !decide (z6n x.zw=0)) with
   | true =>
    rw [if_pos rfl]
    exact ⟨fun h=>(by cases h),fun h=>(by cases h.2.2)⟩
   | false =>
    rw [if_neg (by decide)]
    exact ⟨fun _=>⟨by omega,List.all_eq_true.1 h2,rfl⟩,fun _=>rfl⟩
theorem zp8 {l m:List ED} (h:z4y (l++m)=0):z4y m=0:=by
 obtain ⟨h1,h2,h3⟩:=z2p.1 h
 rw [List.length_append] at h1
 rw [List.any_append,Bool.or_eq_false_iff] at h3
 exact z2p.2 ⟨by omega,fun x hx=>h2 x (List.mem_append_right _ hx),h3.2⟩
theorem z6p (l:List ED) (t:TH):(∃ c,¬c=0∧apT l t=(zT,c))∨(zjh t=0∧z4y l=0∧∃ mm,z1f l (mp0 t.ze)=(0,mm)∧apT l t=(⟨t.gId,t.za,t.z4f,srt mm⟩,0)):=by
 unfold apT
 by_cases h1:zjh t=0
 ·rw [if_pos h1]
  by_cases h2:z4y l=0
  ·rw [if_pos h2]
   by_cases h3:(z1f l (mp0 t.ze)).1=0
   ·rw [if_pos h3]
    exact .inr ⟨h1,h2,_,Prod.ext h3 rfl,rfl⟩
   ·rw [if_neg h3]
    exact .inl ⟨_,h3,rfl⟩
  ·rw [if_neg h2]
   exact .inl ⟨_,h2,rfl⟩
 ·rw [if_neg h1]
  exact .inl ⟨_,h1,rfl⟩
theorem zfv {l:List ED} {t:TH} {mm:MP} (h1:zjh t=0) (h2:z4y l=0) (h3:z1f l (mp0 t.ze)=(0,mm)):Inv mm∧mm.length≤32:=by
 have hi:=(zad h1).1
 have e1:(z1f l (mp0 t.ze)).1=0:=by rw [h3]
 have e2:(z1f l (mp0 t.ze)).2=mm:=by rw [h3]
 have a:=zcr hi (z2p.1 h2).2.1 e1
 have hlen:(mp0 t.ze).length≤32:=by
  rw [(zad h1).2,List.length_map]
  exact (z97.1 h1).1
 have b:=zcs l (mp0 t.ze) 32 hlen (Nat.le_refl _) e1
 rw [e2] at a b
 exact ⟨a,b⟩
theorem zbu {mm:MP} (h:Inv mm) (hl:mm.length≤32) (a b c:List UInt8):zjh ⟨a,b,c,srt mm⟩=0:=z97.2 ⟨by simp only [zxh];exact hl,zz004 h⟩
theorem zha {mm:MP} (h:Inv mm) (hl:mm.length≤32) (a b c:List UInt8) {m:List ED} (hm:z4y m=0):apT m ⟨a,b,c,srt mm⟩=if (z1f m mm).1=0 then (⟨a,b,c,srt (z1f m mm).2⟩,0) else (zT,(z1f m mm).1):=by
 have p:=zws h
 have hok:=(z2p.1 hm).2.1
 obtain ⟨e,q⟩:=zf0 (h.perm p.symm) p hok
 unfold apT
 rw [if_pos (zbu h hl a b c),if_pos hm]
 simp only
 rw [e]
 by_cases h0:(z1f m mm).1=0
 ·rw [if_pos h0,if_pos h0]
  have hi:=zcr (h.perm p.symm) hok (e.trans h0)
  rw [zvl q hi.nd]
 ·rw [if_neg h0,if_neg h0]
theorem z7r {s:List UInt8} (h:isName s=true):s.length≤24:=by
 unfold isName at h
 split at h
 ·cases h
 ·simp only [Bool.and_eq_true,decide_eq_true_eq] at h
  omega
theorem zm3:∀ {l:List (List UInt8)},(∀ v∈l,v.length≤128)→kys l≤129*l.length
 | [],_=>by simp [kys]
 | v::l,h=>by
  have h1:=h v List.mem_cons_self
  have h2:=zm3 (l:=l) fun u hu=>h u (List.mem_cons_of_mem _ hu)
  rw [z38,List.length_cons]
  omega
theorem zgx {t:TH} (h:zjh t=0):t.sz≤t.gId.length+t.za.length+t.z4f.length+300000:=by
 obtain ⟨h1,h2⟩:=z97.1 h
 obtain ⟨k1,_,_⟩:=z96 h2
 have hs:∀ l:List q02,(∀ f∈l,isName f.zg=true∧0<f.zh.length∧sgl f.zh=true)→(l.map (·.sz)).sum≤8281*l.length:=by
  intro l
  induction l with
  | nil=>intro _;simp
  | cons f l ih =>
   intro hl
   obtain ⟨a1,_,a3⟩:=hl f List.mem_cons_self
   have a4:=z7r a1
   obtain ⟨a5,a6⟩:=z7g a3
   have a7:=zm3 a6
   have a8:=ih fun g hg=>hl g (List.mem_cons_of_mem _ hg)
   have a9:f.sz=f.zg.length+kys f.zh+1:=rfl
   simp only [List.map_cons,List.sum_cons,List.length_cons]
   omega
 have:=hs _ k1
 have e:t.sz=t.gId.length+t.za.length+t.z4f.length+(t.ze.map (·.sz)).sum+1:=rfl
 omega
theorem ze0 {t:TH}:t.gId.length+t.za.length+t.z4f.length<t.sz:=by
 have e:t.sz=t.gId.length+t.za.length+t.z4f.length+(t.ze.map (·.sz)).sum+1:=rfl
 omega
/-! PathKeeps. -/
theorem ztg {l:List ED} {t:TH} {j:Nat} (hj:j<t.ze.length) (hl:l.length<1000000000):∀ (n i:Nat) (c:Bool),l.length - i=n→i≤l.length→M.z0w l t (j:Int) c (i:Int)=some (c||(l.drop i).any fun e=>decide (e.zg=t.ze[j].zg)):=by
 intro n
 induction n with
 | zero =>
  intro i c h1 h2
  have:i=l.length:=by omega
  subst this
  rw [M.z0w]
  simp
 | succ n ih =>
  intro i c h1 h2
  have hi:i<l.length:=by omega
  rw [M.z0w,z1y hi]
  simp only [show ((i:Int)<(l.length:Int)) by omega,decide_true,if_true,z4a,List.getElem?_eq_getElem hi,List.getElem?_eq_getElem hj,Option.bind_eq_bind,Option.bind_some,List.any_cons]
  rw [w1 (by omega)]
  cases c with
  | true=>rw [if_pos rfl];simp only [Option.bind_some];rw [ih (i+1) _ (by omega) (by omega)];rfl
  | false=>rw [if_neg (by decide)];simp only [Option.bind_some];rw [ih (i+1) _ (by omega) (by omega)];simp
theorem zth {a:TH × Int} {t:TH} {j:Nat} (hj:j<t.ze.length) (hs:z1b a.1):∀ (n i:Nat) (c:Bool),a.1.ze.length - i=n→i≤a.1.ze.length→M.z0x a t (j:Int) c (i:Int)=some (c||(a.1.ze.drop i).any fun g=>decide (g.zg=t.ze[j].zg)&&decide (g.zh=t.ze[j].zh)):=by
 obtain ⟨hl,_,_,h4⟩:=hs.parts
 intro n
 induction n with
 | zero =>
  intro i c h1 h2
  have:i=a.1.ze.length:=by omega
  subst this
  rw [M.z0x]
  simp
 | succ n ih =>
  intro i c h1 h2
  have hi:i<a.1.ze.length:=by omega
  have hv:=(h4 _ (List.getElem_mem hi)).2.1
  rw [M.z0x,z1y hi]
  simp only [show ((i:Int)<(a.1.ze.length:Int)) by omega,decide_true,if_true,z4a,List.getElem?_eq_getElem hi,List.getElem?_eq_getElem hj,Option.bind_eq_bind,Option.bind_some,List.any_cons]
  rw [w1 (by omega),z6c (by omega)]
  cases c with
  | true=>rw [if_pos rfl];simp only [Option.bind_some];rw [ih (i+1) _ (by omega) (by omega)];rfl
  | false =>
   rw [if_neg (by decide)]
   by_cases hn:a.1.ze[i].zg=t.ze[j].zg
   ·rw [if_pos (decide_eq_true hn)]
    simp only [Option.bind_some,hn,decide_true,Bool.true_and,Bool.false_or]
    rw [ih (i+1) _ (by omega) (by omega)]
   ·rw [if_neg (by simpa using hn)]
    simp only [Option.bind_some]
    rw [ih (i+1) _ (by omega) (by omega)]
    simp [hn]
theorem ztf {l:List ED} {t:TH} {a:TH × Int} (hl:l.length<1000000000) (ht:z1b t) (ha:z1b a.1) (h:∀ f∈t.ze,(l.any fun e=>decide (e.zg=f.zg))=true∨(a.1.ze.any fun g=>decide (g.zg=f.zg)&&decide (g.zh=f.zh))=true):∀ (n i:Nat),t.ze.length - i=n→i≤t.ze.length→M.z0v t l a (i:Int)=some (.go ()):=by
 have hlen:=ht.parts.1
 intro n
 induction n with
 | zero =>
  intro i h1 h2
  have:i=t.ze.length:=by omega
  subst this
  rw [M.z0v]
  simp
 | succ n ih =>
  intro i h1 h2
  have hi:i<t.ze.length:=by omega
  have k2:=ztg hi hl _ 0 false rfl (Nat.zero_le _)
  have k3:=zth (a:=a) hi ha _ 0 false rfl (Nat.zero_le _)
  simp only [List.drop_zero,Bool.false_or] at k2 k3
  have k2':M.z0w l t (i:Int) false 0=_:=k2
  have k3':M.z0x a t (i:Int) false 0=_:=k3
  rw [M.z0v]
  simp only [show ((i:Int)<(t.ze.length:Int)) by omega,decide_true,if_true,k2',k3',Option.bind_eq_bind,Option.bind_some]
  have hh:=h _ (List.getElem_mem hi)
  have hc:((!(l.any fun e=>decide (e.zg=t.ze[i].zg)))&&(!(a.1.ze.any fun g=>decide (g.zg=t.ze[i].zg)&&decide (g.zh=t.ze[i].zh))))=false:=by
   rcases hh with q|q<;>rw [q]<;>simp
  rw [hc]
  simp only [Bool.false_eq_true,if_false,Option.bind_some]
  rw [w1 (by omega),ih (i+1) (by omega) (by omega)]
theorem zez {k:List UInt8} {v:List (List UInt8)}:∀ {l:List ED} {m:MP},(m.map (·.1)).Nodup→Inv m→(∀ x∈l,z5j x=true)→(z1f l m).1=0→(∀ x∈l,¬x.zg=k)→(k,v)∈m→(k,v)∈(z1f l m).2
 | [],m,_,_,_,_,_,h=>h
 | x::l,m,hn,hi,hok,h0,hk,h=>by
  rw [z1p] at h0 ⊢
  by_cases h1:(z3e m x).1=0
  ·rw [if_pos h1] at h0 ⊢
   have hi2:=z7j hi (hok x List.mem_cons_self) h1
   refine zez hi2.nd hi2 (fun y hy=>hok y (List.mem_cons_of_mem _ hy)) h0 (fun y hy=>hk y (List.mem_cons_of_mem _ hy)) ?_
   obtain ⟨_,_,_,h4⟩:=z6d h1
   rw [h4,z43 hn]
   refine List.mem_append_left _ (List.mem_filter.2 ⟨h,?_⟩)
   have:=hk x List.mem_cons_self
   simp only [Bool.not_eq_true',decide_eq_false_iff_not]
   exact fun e=>this e.symm
  ·rw [if_neg h1] at h0
   exact (h1 h0).elim
theorem zsr (l m:List ED):z4g (l++m)=z4g l+z4g m:=by simp [z4g]
theorem zg6 {l m:List ED} {t:TH} {f:Nat} (hl:z4g l≤1048576) (hm:z4g m≤1048576) (ht:t.sz≤1048576) (hf:20000000≤f):M.q18 f l m t=some true:=by
 have hst:z1b t:=by unfold z1b;omega
 have hll:l.length≤z4g l:=z7l (g:=fun x:ED=>x.sz) (fun x=>by unfold q00.sz;omega) l
 have hml:m.length≤z4g m:=z7l (g:=fun x:ED=>x.sz) (fun x=>by unfold q00.sz;omega) m
 unfold M.q18
 rw [z7q hf,z1s (by omega) (by omega) hst]
 simp only [Option.bind_eq_bind,Option.bind_some,Bool.not_true,Bool.false_eq_true,if_false]
 rcases z6p l t with ⟨c,hc,e⟩|⟨h1,h2,mm,h3,e⟩
 ·rw [e]
  have hz:M.q3x zT zT=some true:=z48 (by unfold z1b;decide)
  have hz':M.q3x zT (q04.mk [] [] [] [])=some true:=hz
  simp [hc,hz']
 ·rw [e]
  obtain ⟨hi,hlen⟩:=zfv h1 h2 h3
  have hct:=zbu hi hlen t.gId t.za t.z4f
  have hsz:=zgx hct
  have htp:=ze0 (t:=t)
  simp only at hsz
  have hsa:z1b ⟨t.gId,t.za,t.z4f,srt mm⟩:=by unfold z1b;omega
  simp only [decide_true,Bool.not_true,Bool.false_eq_true,if_false]
  rw [z3m hsa,hct]
  simp only [Option.bind_some,decide_true,Bool.not_true,Bool.or_self,Bool.false_eq_true,if_false]
  have hkeep:∀ g∈t.ze,(l.any fun e=>decide (e.zg=g.zg))=true∨((srt mm).any fun q=>decide (q.zg=g.zg)&&decide (q.zh=g.zh))=true:=by
   intro g hg
   cases hn:(l.any fun e=>decide (e.zg=g.zg)) with
   | true=>exact .inl rfl
   | false =>
    refine .inr ?_
    have hn':∀ x∈l,¬x.zg=g.zg:=fun x hx=>by simpa using List.any_eq_false.1 hn x hx
    have him:=zad h1
    have hgm:(g.zg,g.zh)∈mp0 t.ze:=by rw [him.2];exact List.mem_map_of_mem (f:=fun f=>(f.zg,f.zh)) hg
    have:=zez him.1.nd him.1 (z2p.1 h2).2.1 (by rw [h3]) hn' hgm
    rw [h3] at this
    obtain ⟨q,hq,eq⟩:=List.mem_map.1 ((z7i mm).mem_iff.2 this)
    simp only [Prod.mk.injEq] at eq
    exact List.any_eq_true.2 ⟨q,hq,by simp [eq.1,eq.2]⟩
  have k1:=ztf (l:=l) (t:=t) (a:=(⟨t.gId,t.za,t.z4f,srt mm⟩,0)) (by omega) hst hsa hkeep _ 0 rfl (Nat.zero_le _)
  have k1':M.z0v t l (⟨t.gId,t.za,t.z4f,srt mm⟩,0) 0=some (.go ()):=k1
  rw [k1']
  simp only [Option.bind_some]
  rw [z3g (by simp only [List.length_nil];omega)]
  simp only [Option.bind_some,List.nil_append]
  rw [z3g (by omega)]
  simp only [Option.bind_some]
  have hlm:z4g (l++m)≤2097152:=by rw [zsr];omega
  rw [z2o (by omega) (by omega)]
  simp only [Option.bind_some]
  by_cases hb:z4y (l++m)=0
  ·have hbm:=zp8 hb
   simp only [hb,decide_true,Bool.not_true,Bool.false_eq_true,if_false]
   rw [z1s (by omega) (by omega) hsa,z1s (by omega) (by omega) hst]
   simp only [Option.bind_some]
   have e2:apT m ⟨t.gId,t.za,t.z4f,srt mm⟩=apT (l++m) t:=by
    rw [zha hi hlen _ _ _ hbm]
    unfold apT
    rw [if_pos h1,if_pos hb,zhu,h3]
    simp only [if_true]
   rw [e2]
   have hsr:z1b (apT (l++m) t).1:=by
    rcases z6p (l++m) t with ⟨c,hc,e3⟩|⟨h5,h6,M2,h7,e3⟩
    ·rw [e3];show q04.sz zT<1000000000;decide
    ·rw [e3]
     obtain ⟨hi2,hlen2⟩:=zfv h5 h6 h7
     have hsz2:=zgx (zbu hi2 hlen2 t.gId t.za t.z4f)
     simp only at hsz2 ⊢
     unfold z1b
     omega
   rw [z48 hsr]
   simp
  ·simp [hb]
/-! PathTwice. -/
theorem zif {m:MP} {x:ED} {v:List (List UInt8)} (hn:(m.map (·.1)).Nodup) (hn2:((z4i m x v).map (·.1)).Nodup):z14 (z4i m x v) x.zg []=v:=by
 by_cases h:0<v.length
 ·refine zda hn2 ?_
  rw [z43 hn,if_pos h]
  exact List.mem_append_right _ (List.mem_singleton.2 rfl)
 ·have hv:v=[]:=List.eq_nil_of_length_eq_zero (by omega)
  rw [hv]
  refine zd9 fun q => ?_
  rw [←hv,z43 hn,if_neg h,List.append_nil] at q
  obtain ⟨y,hy,e⟩:=List.mem_map.1 q
  simpa [e] using (List.mem_filter.1 hy).2
theorem zdc {m:MP} {x:ED} {v:List (List UInt8)} (hn:(m.map (·.1)).Nodup):(z4i m x v).filter (fun y => !decide (y.1=x.zg))=m.filter (fun y => !decide (y.1=x.zg)):=by
 rw [z43 hn,List.filter_append,List.filter_filter]
 simp only [Bool.and_self]
 split<;>simp
theorem zsn {x:ED} {old:List (List UInt8)} (hs:x.z0t=false):(dn x old).2=0∧dn x (dn x old).1=((dn x old).1,0):=by
 by_cases h0:x.za=0
 ·have e:∀ o,dn x o=(o++x.zh.filter (fun v => !o.contains v),0):=fun o=>by unfold dn;rw [if_pos h0]
  refine ⟨by rw [e],?_⟩
  rw [e (dn x old).1,e old]
  simp only [Prod.mk.injEq,and_true]
  have hnil:x.zh.filter (fun v => !(old++x.zh.filter (fun v => !old.contains v)).contains v)=[]:=by
   refine List.filter_eq_nil_iff.2 fun u hu => ?_
   simp only [Bool.not_eq_true,Bool.not_eq_false',List.contains_eq_mem,decide_eq_true_eq,List.mem_append,List.mem_filter,Bool.not_eq_true',decide_eq_false_iff_not]
   by_cases hc:u∈old
   ·exact fun q=>q (.inl hc)
   ·exact fun q=>q (.inr ⟨hu,hc⟩)
  rw [hnil,List.append_nil]
 ·have e:∀ o,dn x o=(x.zh,0):=fun o=>by unfold dn;rw [if_neg h0,hs]
  rw [e,e]
  exact ⟨rfl,rfl⟩
theorem zob {m mm:MP} {x:ED} (hi:Inv m) (hx:z5j x=true) (hs:x.z0t=false) (h:z1f [x] m=(0,mm)):z1f [x] mm=(0,mm):=by
 rw [z1p] at h
 by_cases h1:(z3e m x).1=0
 ·rw [if_pos h1] at h
  have e:(z3e m x).2=mm:=congrArg Prod.snd h
  have hi2:=z7j hi hx h1
  obtain ⟨_,h3,h4,h5⟩:=z6d h1
  rw [h5] at e hi2
  obtain ⟨_,d2⟩:=zsn (old:=z14 m x.zg []) hs
  have hg:=zif hi.nd hi2.nd
  have hf:=zdc (x:=x) (v:=(dn x (z14 m x.zg [])).1) hi.nd
  have hq:=z43 (m:=m) (x:=x) (v:=(dn x (z14 m x.zg [])).1) hi.nd
  have hq2:=z43 (x:=x) (v:=(dn x (z14 m x.zg [])).1) hi2.nd
  generalize (dn x (z14 m x.zg [])).1=v at *
  rw [e] at hg hf hq hq2 h4
  have hmm:z4i mm x v=mm:=by rw [hq2,hf,←hq]
  have hst:z3e mm x=(0,mm):=by
   rw [z9w,hg,d2]
   simp only [if_true]
   rw [hmm,if_neg (by omega)]
  rw [z1p,hst]
  rfl
 ·rw [if_neg h1] at h
  exact (h1 (congrArg Prod.fst h)).elim
theorem ziw {k:List UInt8} {v:List (List UInt8)}:∀ {m:MP},(m.map (·.1)).Nodup→(k,v)∈m→(m.filter (fun y => !decide (y.1=k))++[(k,v)]).Perm m
 | (a,b)::r,hn,h=>by
  simp only [List.map_cons,List.nodup_cons] at hn
  rcases List.mem_cons.1 h with h|h
  ·cases h
   rw [List.filter_cons_of_neg (by simp),List.filter_eq_self.2]
   ·exact List.perm_append_singleton _ _
   ·intro y hy
    have hk:y.1∈r.map (·.1):=List.mem_map_of_mem (f:=(·.1)) hy
    simp only [Bool.not_eq_true',decide_eq_false_iff_not]
    exact fun e=>hn.1 (e▸hk)
  ·have hk:k∈r.map (·.1):=List.mem_map_of_mem (f:=(·.1)) h
   have hne:¬a=k:=fun e=>hn.1 (e▸hk)
   rw [List.filter_cons_of_pos (by simpa using hne),List.cons_append]
   exact (ziw hn.2 h).cons _
def z6m (n v:List UInt8):ED:=⟨1,n,true,⟨4,[118,97,108,117,101],v,[]⟩,[]⟩
def zfl (n v:List UInt8):ED:=⟨0,n,false,zE,[v]⟩
theorem zqv (n v u:List UInt8):pick (z6m n v) u=decide (u=v):=by
 unfold pick z6m
 simp only [Bool.not_true,Bool.false_or]
 rw [zpr]
 have e:zjd (zzm u) [118,97,108,117,101]=[u]:=rfl
 simp only [e,show ¬((4:Int)=0) by decide,show ¬((4:Int)=1) by decide,show ¬((4:Int)=2) by decide,show ¬((4:Int)=3) by decide,if_false,List.any_cons,List.any_nil,Bool.or_false,show decide ((4:Int)=5)=false from rfl]
 have f:fits 4 u v=decide (u=v):=by unfold fits;simp
 rw [f]
 cases decide (u=v)<;>rfl
theorem zw0 {n v:List UInt8} {old:List (List UInt8)} (h:¬v∈old):dn (z6m n v) (old++[v])=(old,0):=by
 have hp:pick (z6m n v)=fun u=>decide (u=v):=funext fun u=>zqv n v u
 have hf:∃ i,(old++[v]).findIdx? (pick (z6m n v))=some i:=by
  rcases z3y (old++[v]) (pick (z6m n v)) with ⟨_,h2⟩|⟨i,h1,_⟩
  ·rw [List.any_append,hp] at h2
   simp at h2
  ·exact ⟨i,h1⟩
 obtain ⟨i,hi⟩:=hf
 unfold dn
 rw [hi,if_neg (show ¬(z6m n v).za=0 from (by show ¬((1:Int)=0);decide))]
 show (dnL (z6m n v) i 0 (old++[v]),(0:Int))=(old,0)
 rw [zsm _ rfl,hp,List.filter_append,List.filter_eq_self.2,List.filter_cons_of_neg (by simp),List.filter_nil,List.append_nil]
 intro u hu
 simp only [Bool.not_eq_true',decide_eq_false_iff_not]
 exact fun e=>h (e▸hu)
theorem zsa {m mm:MP} {n v:List UInt8} (hi:Inv m) (hv:¬v∈z14 m n []) (h1:z5j (zfl n v)=true) (h:z1f [zfl n v,z6m n v] m=(0,mm)):mm.Perm m:=by
 have hd:dn (zfl n v) (z14 m n [])=(z14 m n []++[v],0):=by
  unfold dn zfl
  simp [hv]
 rw [z1p] at h
 by_cases hs:(z3e m (zfl n v)).1=0
 ·rw [if_pos hs] at h
  have hi2:=z7j hi h1 hs
  obtain ⟨_,_,_,h5⟩:=z6d hs
  have h5:(z3e m (zfl n v)).2=z4i m (zfl n v) (z14 m n []++[v]):=by
   rw [h5]
   show z4i m (zfl n v) (dn (zfl n v) (z14 m n [])).1=_
   rw [hd]
  rw [h5] at h hi2
  have hg:z14 (z4i m (zfl n v) (z14 m n []++[v])) n []=z14 m n []++[v]:=zif (x:=zfl n v) hi.nd hi2.nd
  have hf:(z4i m (zfl n v) (z14 m n []++[v])).filter (fun y => !decide (y.1=n))=m.filter (fun y => !decide (y.1=n)):=zdc (x:=zfl n v) hi.nd
  generalize z4i m (zfl n v) (z14 m n []++[v])=m1 at *
  rw [z1p] at h
  by_cases hs2:(z3e m1 (z6m n v)).1=0
  ·rw [if_pos hs2] at h
   obtain ⟨_,_,_,h6⟩:=z6d hs2
   have h7:(z3e m1 (z6m n v)).2=mm:=congrArg Prod.snd h
   rw [h6] at h7
   have h8:z4i m1 (z6m n v) (dn (z6m n v) (z14 m1 n [])).1=mm:=h7
   rw [hg,zw0 hv,z43 hi2.nd] at h8
   have h9:m1.filter (fun y => !decide (y.1=n))++(if 0<(z14 m n []).length then [(n,z14 m n [])] else [])=mm:=h8
   rw [hf] at h9
   rw [←h9]
   by_cases hk:n∈m.map (·.1)
   ·obtain ⟨⟨a,w⟩,hx,e⟩:=List.mem_map.1 hk
    have e:a=n:=e
    subst e
    have hw:=zda (z:=[]) hi.nd hx
    rw [hw,if_pos (hi.ok _ hx).2.1]
    exact ziw hi.nd hx
   ·rw [zd9 hk,if_neg (by simp),List.append_nil,List.filter_eq_self.2]
    intro y hy
    simp only [Bool.not_eq_true',decide_eq_false_iff_not]
    exact fun e=>hk (e▸List.mem_map_of_mem (f:=(·.1)) hy)
  ·rw [if_neg hs2] at h
   exact (hs2 (congrArg Prod.fst h)).elim
 ·rw [if_neg hs] at h
  exact (hs (congrArg Prod.fst h)).elim
theorem tw_k2 {t:TH} {x:ED} {v:List UInt8} {j:Nat} (hj:j<t.ze.length) (hs:z1b t):∀ (n i:Nat) (c:Bool),t.ze[j].zh.length - i=n→i≤t.ze[j].zh.length→M.z0z t (j:Int) x v c (i:Int)=some (c||(t.ze[j].zh.drop i).any fun u=>decide (t.ze[j].zg=x.zg)&&decide (u=v)):=by
 have hl:=(hs.parts.2.2.2 _ (List.getElem_mem hj)).2.1
 intro n
 induction n with
 | zero =>
  intro i c h1 h2
  have:i=t.ze[j].zh.length:=by omega
  subst this
  rw [M.z0z]
  simp only [z4a,List.getElem?_eq_getElem hj,Option.bind_eq_bind,Option.bind_some]
  simp
 | succ n ih =>
  intro i c h1 h2
  have hi:i<t.ze[j].zh.length:=by omega
  rw [M.z0z,z1y hi]
  simp only [z4a,List.getElem?_eq_getElem hj,Option.bind_eq_bind,Option.bind_some,show ((i:Int)<(t.ze[j].zh.length:Int)) by omega,decide_true,if_true,List.getElem?_eq_getElem hi,List.any_cons]
  rw [w1 (by omega)]
  cases c with
  | true=>rw [if_pos rfl];simp only [Option.bind_some];rw [ih (i+1) _ (by omega) (by omega)];rfl
  | false =>
   rw [if_neg (by decide)]
   by_cases hn:t.ze[j].zg=x.zg
   ·rw [if_pos (decide_eq_true hn)]
    simp only [Option.bind_some,hn,decide_true,Bool.true_and,Bool.false_or]
    rw [ih (i+1) _ (by omega) (by omega)]
    simp only [hn,decide_true,Bool.true_and]
   ·rw [if_neg (by simpa using hn)]
    simp only [Option.bind_some]
    rw [ih (i+1) _ (by omega) (by omega)]
    simp [hn]
theorem tw_k1 {t:TH} {x:ED} {v:List UInt8} (hs:z1b t):∀ (n i:Nat) (c:Bool),t.ze.length - i=n→i≤t.ze.length→M.z0y t x v c (i:Int)=some (c||(t.ze.drop i).any fun g=>g.zh.any fun u=>decide (g.zg=x.zg)&&decide (u=v)):=by
 have hl:=hs.parts.1
 intro n
 induction n with
 | zero =>
  intro i c h1 h2
  have:i=t.ze.length:=by omega
  subst this
  rw [M.z0y]
  simp
 | succ n ih =>
  intro i c h1 h2
  have hi:i<t.ze.length:=by omega
  have k2:=tw_k2 (x:=x) (v:=v) hi hs _ 0 c rfl (Nat.zero_le _)
  have k2':M.z0z t (i:Int) x v c 0=_:=k2
  rw [M.z0y,z1y hi]
  simp only [show ((i:Int)<(t.ze.length:Int)) by omega,decide_true,if_true,k2',List.drop_zero,Option.bind_eq_bind,Option.bind_some,List.any_cons]
  rw [w1 (by omega),ih (i+1) _ (by omega) (by omega),Bool.or_assoc]
theorem zhb {l:List ED} {t:TH} (ht:t.sz≤1048576):z1b (apT l t).1:=by
 have htp:=ze0 (t:=t)
 rcases z6p l t with ⟨c,hc,e3⟩|⟨h5,h6,M2,h7,e3⟩
 ·rw [e3];show q04.sz zT<1000000000;decide
 ·rw [e3]
  obtain ⟨hi2,hlen2⟩:=zfv h5 h6 h7
  have hsz2:=zgx (zbu hi2 hlen2 t.gId t.za t.z4f)
  simp only at hsz2 ⊢
  unfold z1b
  omega
theorem zg7 {x:ED} {t:TH} {v:List UInt8} {f:Nat} (hx:x.sz≤1048576) (ht:t.sz≤1048576) (hv:v.length≤1048576) (hf:20000000≤f):M.q1c f x t v=some true:=by
 have hst:z1b t:=by unfold z1b;omega
 have hxs:z4g [x]=x.sz:=by simp [z4g]
 have heta:(q00.mk x.za x.zg x.z0t (q01.mk x.zw.za x.zw.zg x.zw.z04 x.zw.zf) x.zh)=x:=by rw [z9e]
 unfold M.q1c
 rw [z7q hf,heta]
 simp only [Option.bind_eq_bind,Option.bind_some,Bool.not_true,Bool.false_eq_true,if_false]
 rw [z1s (by omega) (by omega) hst]
 simp only [Option.bind_some]
 rw [z1s (by omega) (by omega) (zhb ht)]
 have hq:(if (decide ((apT [x] t).2=0) && !x.z0t)=true then (some (apT [x] (apT [x] t).1)).bind fun a30=>(if (!decide (a30.2=0))=true then some true else (M.q3x (apT [x] t).1 a30.1).bind fun a36=>some (!a36)).bind fun j35=>if j35=true then some (Jn.done false) else some (Jn.go ()) else some (Jn.go ()):Option (Jn Bool Unit))=some (.go ()):=by
  by_cases hc:(decide ((apT [x] t).2=0) && !x.z0t)=true
  ·rw [if_pos hc]
   simp only [Bool.and_eq_true,decide_eq_true_eq,Bool.not_eq_true'] at hc
   rcases z6p [x] t with ⟨c,h0,e⟩|⟨h1,h2,mm,h3,e⟩
   ·rw [e] at hc
    exact (h0 hc.1).elim
   ·obtain ⟨hi,hlen⟩:=zfv h1 h2 h3
    have h4:=zob (zad h1).1 ((z2p.1 h2).2.1 x (List.mem_singleton.2 rfl)) hc.2 h3
    have e2:apT [x] (apT [x] t).1=apT [x] t:=by
     rw [e]
     simp only
     rw [zha hi hlen _ _ _ h2,h4]
     rfl
    have hsm:=zhb (l:=[x]) ht
    rw [e2]
    simp only [Option.bind_some,hc.1,decide_true,Bool.not_true,Bool.false_eq_true,if_false,z48 hsm]
  ·rw [if_neg hc]
 rw [hq]
 have k1:=tw_k1 (x:=x) (v:=v) hst _ 0 false rfl (Nat.zero_le _)
 have k1':M.z0y t x v false 0=_:=k1
 simp only [Option.bind_some,k1',List.drop_zero,Bool.false_or]
 have hsz:∀ l,l=[zfl x.zg v,z6m x.zg v]→z4g l≤4194400:=by
  rintro l rfl
  have h1:(zfl x.zg v).sz=x.zg.length+zE.sz+kys [v]+1:=rfl
  have h2:(z6m x.zg v).sz=x.zg.length+q01.sz ⟨4,[118,97,108,117,101],v,[]⟩+kys []+1:=rfl
  have h3:x.sz=x.zg.length+x.zw.sz+kys x.zh+1:=rfl
  have h4:zE.sz=1:=rfl
  have h5:=q01.z1m ⟨4,[118,97,108,117,101],v,[]⟩
  have h6:kys [v]=v.length+1:=by rw [z38,z4d]
  have h7:kys []=0:=rfl
  simp only [ezs,List.length_cons,List.length_nil] at h5
  simp only [z4g,List.map_cons,List.map_nil,List.sum_cons,List.sum_nil]
  omega
 have hsz2:=hsz _ rfl
 have ha:M.q1e f [(q00.mk 0 x.zg false (q01.mk 0 ([]:List UInt8) ([]:List UInt8) []) [v]),(q00.mk 1 x.zg true (q01.mk 4 ([118,97,108,117,101]:List UInt8) v []) [])] t=some (apT [zfl x.zg v,z6m x.zg v] t):=z1s (l:=[zfl x.zg v,z6m x.zg v]) (by omega) (by omega) hst
 rw [ha]
 simp only [Option.bind_some]
 cases hth:(t.ze.any fun g=>g.zh.any fun u=>decide (g.zg=x.zg)&&decide (u=v)) with
 | true=>simp
 | false =>
  rcases z6p [zfl x.zg v,z6m x.zg v] t with ⟨c,h0,e⟩|⟨h1,h2,mm,h3,e⟩
  ·rw [e]
   simp [h0]
  ·obtain ⟨hi0,em⟩:=zad h1
   have hnv:¬v∈z14 (mp0 t.ze) x.zg []:=by
    intro hm
    rcases zbz (k:=x.zg) (z:=[]) (mp0 t.ze) with q|q
    ·rw [q] at hm;cases hm
    ·generalize z14 (mp0 t.ze) x.zg []=w at hm q
     rw [em] at q
     obtain ⟨g,hg,eg⟩:=List.mem_map.1 q
     simp only [Prod.mk.injEq] at eg
     have h4:=List.any_eq_false.1 hth g hg
     apply h4
     refine List.any_eq_true.2 ⟨v,by rw [eg.2];exact hm,by simp [eg.1]⟩
   have hp:=zsa hi0 hnv ((z2p.1 h2).2.1 _ List.mem_cons_self) h3
   have hsrt:srt mm=t.ze:=by
    rw [zvl hp ((hp.map _).nodup_iff.2 hi0.nd),zxi h1]
   rw [e,hsrt]
   have e3:(⟨t.gId,t.za,t.z4f,t.ze⟩:TH)=t:=rfl
   simp only [e3,decide_true,Bool.not_true,Bool.or_self,Bool.false_eq_true,if_false,z48 hst,Option.bind_some]
end Go.Sen
