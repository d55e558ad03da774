import Derived.Test.YtmmgdladipbedaaGreatDoorSnN
import Derived.Test.YtmmgdladipbedaaGreatDoorSpI
import Derived.Test.YtmmgdladipbedaaGreatDoorSpE
set_option linter.all false
section
namespace Go.Sen
open Go.Lk Go.Pe
/-- What is left of s at i is r. -/
def At (s r:List UInt8) (i:Nat):Prop:=s.drop i=r∧i≤s.length
section
variable {s r:List UInt8} {c:UInt8} {i:Nat}
/-! Blanks, the byte that stands there, errors. -/
/-- The byte that stands first; 0: none. -/
def hd:List UInt8→Int
 | []=>0
 | c::_=>(c.toNat:Int)
/-! Escapes. -/
/-! zbl. -/
/-! Words and numbers. -/
end
end Go.Sen
end
section
namespace Go.Sen
open Go.Lk Go.Pe
section
variable {s r:List UInt8} {c:UInt8} {i:Nat}
end
end Go.Sen
end
section
namespace Go.Sen
open Go.Lk Go.Pe
/-! The value. -/
/-! The whole. -/
end Go.Sen
end
section
namespace Go.Sen
open Go.Lk Go.Pe
theorem z9v:∀ (f:Nat) (e:EX),e.sz≤f→z0l e→M.q3w f e e=some true
 | 0,e,hf,_=>by have:=e.z1m;omega
 | f+1,e,hf,hs=>by
  have hz:=e.z1m
  have hlen:=z4v e.zf
  have hs':=hs
  unfold z0l at hs'
  have hk:∀ (n i:Nat),e.zf.length - i=n→i≤e.zf.length→M.z1a e e (M.q3w f) (i:Int)=some (.go ()):=by
   intro n
   induction n with
   | zero =>
    intro i h1 h2
    have:i=e.zf.length:=by omega
    subst this
    rw [M.z1a]
    simp
   | succ n ih =>
    intro i h1 h2
    have hi:i<e.zf.length:=by omega
    have hm:=z2k (List.getElem_mem hi)
    rw [M.z1a]
    simp only [show ((i:Int)<(e.zf.length:Int)) by omega,decide_true,if_true,z4a,List.getElem?_eq_getElem hi,Option.bind_eq_bind,Option.bind_some,z9v f _ (show q01.sz e.zf[i]≤f by omega) (hs.mem (List.getElem_mem hi)),Bool.not_true,Bool.false_eq_true,if_false]
    rw [w1 (by omega),ih (i+1) (by omega) (by omega)]
  have h0:=hk _ 0 rfl (Nat.zero_le _)
  have h0':M.z1a e e (M.q3w f) 0=some (.go ()):=h0
  unfold M.q3w
  simp [h0']
theorem ze7 {e:EX} {f:Nat} (h:e.sz≤1048576) (hf:20000000≤f):M.q15 f e=some true:=by
 have hs:z0l e:=by unfold z0l;omega
 unfold M.q15
 rw [z3n (by omega) hs,ziz (by omega) hs,z7q hf,z2v (by omega) hs,z7b (by omega) hs]
 simp
theorem zd1 {e:EX} {t:TH} {f:Nat} (h:e.sz≤1048576) (ht:t.sz≤1048576) (hf:20000000≤f):M.q1a f e t=some true:=by
 have hs:z0l e:=by unfold z0l;omega
 have hst:z1b t:=by unfold z1b;omega
 unfold M.q1a
 rw [z7q hf,z9p (by omega) hs hst,ziy (by omega) hs hst]
 simp
theorem znc (e:EX):z6n e=0∨z6n e=193∨z6n e=194:=by
 unfold z6n
 split
 ·exact .inr (.inr rfl)
 ·split
  ·exact .inr (.inl rfl)
  ·exact .inl rfl
theorem z9s (e:EX):(z6n e=0∧(tx e).length≤1024∧prE e=(tx e,0))∨(z6n e=0∧prE e=([],191))∨(¬z6n e=0∧∃ c,prE e=([],c)∧¬c=0∧¬c=191):=by
 unfold prE
 by_cases h:z6n e=0
 ·rw [if_pos h]
  by_cases hl:1024<(tx e).length
  ·rw [if_pos hl];exact .inr (.inl ⟨h,rfl⟩)
  ·rw [if_neg hl];exact .inl ⟨h,by omega,rfl⟩
 ·rw [if_neg h]
  have:=znc e
  exact .inr (.inr ⟨h,_,rfl,h,by omega⟩)
theorem zi8 {e:EX} {s:List UInt8} {f:Nat} (h:e.sz≤1048576) (hf:20000000≤f):M.q14 f e s=some true:=by
 have hs:z0l e:=by unfold z0l;omega
 have hz:=zx4 s
 have hys:z0l (pP s).1:=by unfold z0l;omega
 have hsame:=z9v f e (by omega) hs
 have hsamey:=z9v f (pP s).1 (by omega) hys
 have hsamez:M.q3w f zE zE=some true:=z9v f zE (by have:zE.sz≤100:=(by decide);omega) (by unfold z0l;decide)
 have tail:(do
   let a_52←M.q1l f s
   if (!decide (a_52.2=0)) then
    let a_56←M.q3w f a_52.1 (q01.mk 0 ([]:List UInt8) ([]:List UInt8) [])
    some a_56
   else
    let a_58←M.q1o f a_52.1
    if (decide (a_58.2=191)) then
     let a_62←M.q1f f a_52.1
     some (decide (a_62=0))
    else
     let a_64←M.q1l f a_58.1
     let j_71←(do
       if ((decide (a_58.2=0))&&(decide (a_64.2=0))) then
        let a_72←M.q3w f a_52.1 a_64.1
        some a_72
       else
        some false:Option Bool)
     some j_71)=some true:=by
  rw [z2w s (by omega)]
  simp only [Option.bind_eq_bind,Option.bind_some]
  rcases zty s with ⟨x,hx,hc⟩|⟨c,hx,hc⟩
  ·rw [hx] at hys hsamey hz ⊢
   simp only at hys hsamey hz
   simp only [decide_true,Bool.not_true,Bool.false_eq_true,if_false]
   rw [z3n (by omega) hys]
   simp only [Option.bind_some]
   rcases z9s x with ⟨_,h2,h3⟩|⟨h1,h3⟩|⟨h1,_⟩
   ·rw [h3,z2w _ (by omega),zx5 hc h2]
    simp [hsamey]
   ·rw [h3,z2v (by omega) hys,h1]
    simp
   ·exact (h1 hc).elim
  ·rw [hx]
   have hc0:¬c=0:=by omega
   have:M.q3w f zE ⟨0,[],[],[]⟩=some true:=hsamez
   simp [hc0,this]
 unfold M.q14
 rw [z3n (by omega) hs,z7q hf,z2v (by omega) hs]
 simp only [Option.bind_eq_bind] at tail
 simp only [Option.bind_eq_bind,Option.bind_some,Bool.not_true,Bool.false_eq_true,if_false]
 rcases z9s e with ⟨h1,h2,h3⟩|⟨h1,h3⟩|⟨h1,c,h3,h4,h5⟩
 ·rw [h3,h1]
  simp only [decide_true,if_true,beq_self_eq_true,Bool.not_true,Option.bind_some,Bool.false_eq_true,if_false]
  rw [z2w _ (by omega),zx5 h1 h2]
  simp only [Option.bind_some,decide_true,Bool.not_true,Bool.false_eq_true,if_false,hsame]
  exact tail
 ·rw [h3,h1]
  simp only [show decide ((191:Int)=0)=false from rfl,Bool.false_eq_true,if_false,decide_true,beq_self_eq_true,Bool.not_true,Option.bind_some]
  exact tail
 ·rw [h3]
  simp only [h4,h5,h1,decide_false,Bool.false_eq_true,if_false,beq_self_eq_true,Bool.not_true,Option.bind_some]
  exact tail
end Go.Sen
end
section
namespace Go.Sen
open Go.Lk Go.Pe
/-! Maps, plainly. -/
theorem zda {k:List UInt8} {v z:List (List UInt8)}:∀ {m:MP},(m.map (·.1)).Nodup→(k,v)∈m→z14 m k z=v
 | (a,b)::r,hn,h=>by
  simp only [List.map_cons,List.nodup_cons] at hn
  unfold z14
  rcases List.mem_cons.1 h with h|h
  ·cases h;rw [if_pos rfl]
  ·have hk:k∈r.map (·.1):=List.mem_map_of_mem (f:=(·.1)) h
   rw [if_neg (fun e:k=a=>hn.1 (e▸hk))]
   exact zda hn.2 h
theorem zd9 {k:List UInt8} {z:List (List UInt8)}:∀ {m:MP},k∉m.map (·.1)→z14 m k z=z
 | [],_=>rfl
 | (a,b)::r,h=>by
  simp only [List.map_cons,List.mem_cons,not_or] at h
  unfold z14
  rw [if_neg h.1]
  exact zd9 h.2
theorem zqh {k:List UInt8} {z:List (List UInt8)} {m m':MP} (h:m.Perm m') (hn:(m.map (·.1)).Nodup):z14 m k z=z14 m' k z:=by
 have hn':(m'.map (·.1)).Nodup:=(h.map _).nodup_iff.1 hn
 by_cases hk:k∈m.map (·.1)
 ·obtain ⟨⟨a,v⟩,hx,rfl⟩:=List.mem_map.1 hk
  rw [zda hn hx,zda hn' (h.mem_iff.1 hx)]
 ·rw [zd9 hk,zd9 (fun q=>hk ((h.map _).mem_iff.2 q))]
theorem zd8 (k:List UInt8):∀ {m:MP},(m.map (·.1)).Nodup→z6k m k=m.filter (fun x => !decide (x.1=k))
 | [],_=>rfl
 | (a,b)::r,hn=>by
  simp only [List.map_cons,List.nodup_cons] at hn
  unfold z6k
  by_cases h:k=a
  ·subst h
   rw [if_pos rfl,List.filter_cons_of_neg (by simp)]
   refine (List.filter_eq_self.2 fun x hx => ?_).symm
   have hk:x.1∈r.map (·.1):=List.mem_map_of_mem (f:=(·.1)) hx
   simp only [Bool.not_eq_true',decide_eq_false_iff_not]
   exact fun e=>hn.1 (e▸hk)
  ·rw [if_neg h,List.filter_cons_of_pos (by simpa using fun e:a=k=>h e.symm),zd8 k hn.2]
theorem zgd {k:List UInt8} {v:List (List UInt8)}:∀ {m:MP},k∉m.map (·.1)→z3r m k v=m++[(k,v)]
 | [],_=>rfl
 | (a,b)::r,h=>by
  simp only [List.map_cons,List.mem_cons,not_or] at h
  unfold z3r
  rw [if_neg h.1,zgd h.2]
  rfl
/-- The map behind an edit. -/
theorem z43 {m:MP} {x:ED} {v:List (List UInt8)} (hn:(m.map (·.1)).Nodup):z4i m x v=m.filter (fun y => !decide (y.1=x.zg))++(if 0<v.length then [(x.zg,v)] else []):=by
 unfold z4i
 rw [zd8 _ hn]
 by_cases h:0<v.length
 ·rw [if_pos h,if_pos h]
  refine zgd fun q => ?_
  obtain ⟨y,hy,e⟩:=List.mem_map.1 q
  simpa [e] using (List.mem_filter.1 hy).2
 ·rw [if_neg h,if_neg h,List.append_nil]
theorem znx {m m':MP} (h:m.Perm m') (hn:(m.map (·.1)).Nodup) (x:ED) (v:List (List UInt8)):(z4i m x v).Perm (z4i m' x v):=by
 rw [z43 hn,z43 ((h.map _).nodup_iff.1 hn)]
 exact (h.filter _).append_right _
theorem zoa {m m':MP} (h:m.Perm m') (hn:(m.map (·.1)).Nodup) (x:ED):(z3e m x).1=(z3e m' x).1∧(z3e m x).2.Perm (z3e m' x).2:=by
 rw [z9w,z9w,zqh h hn]
 have hp:=znx h hn x (dn x (z14 m' x.zg [])).1
 rw [hp.length_eq]
 split
 ·split
  ·exact ⟨rfl,List.Perm.refl _⟩
  ·exact ⟨rfl,hp⟩
 ·exact ⟨rfl,List.Perm.refl _⟩
/-- What a map of a thing that may be holds. -/
structure Inv (m:MP):Prop where
 nd:(m.map (·.1)).Nodup
 ok:∀ y∈m,isName y.1=true∧0<y.2.length∧sgl y.2=true
theorem Inv.perm {m m':MP} (h:Inv m) (p:m.Perm m'):Inv m':=⟨(p.map _).nodup_iff.1 h.nd,fun y hy=>h.ok y (p.mem_iff.2 hy)⟩
theorem z4u {x:ED} (h:z5j x=true):isName x.zg=true:=by
 unfold z5j at h
 simp only [Bool.and_eq_true] at h
 exact h.1.1.1.1.1
theorem zgt {l:List (List UInt8)}:sgl l=true↔l.length≤64∧l.Nodup∧∀ v∈l,z2n v=true:=by
 unfold sgl
 simp only [Bool.and_eq_true,decide_eq_true_eq,List.all_eq_true,and_assoc]
theorem zsm (x:ED) (hk:x.za=1) (first:Nat):∀ (l:List (List UInt8)) (i:Nat),dnL x first i l=l.filter (fun v => !pick x v)
 | [],_=>rfl
 | v::r,i=>by
  have h2:¬(i=first∧x.za=2):=fun h=>by omega
  unfold dnL
  rw [if_neg h2,zsm x hk first r (i+1)]
  simp only [hk,decide_true,Bool.true_or,Bool.and_true]
  cases h:pick x v<;>simp [List.filter_cons,h]
theorem zln (x:ED) (hk:x.za=2) (first:Nat):∀ (l:List (List UInt8)) (i:Nat),first<i→dnL x first i l=l.filter (fun v => !pick x v && !decide (v=x.zh.head?.getD []))
 | [],_,_=>rfl
 | v::r,i,hi=>by
  have h2:¬(i=first∧x.za=2):=fun h=>by omega
  unfold dnL
  rw [if_neg h2,zln x hk first r (i+1) (by omega)]
  simp only [hk,show decide ((2:Int)=1)=false from rfl,Bool.false_or,List.filter_cons]
  cases (!pick x v && !decide (v=x.zh.head?.getD []))<;>simp
/-- The replaced values: different zs5. -/
theorem zyr (x:ED) (hk:x.za=2) (first:Nat):∀ (l:List (List UInt8)) (i:Nat),l.Nodup→i≤first→(dnL x first i l).Nodup
 | [],_,_,_=>by simp [dnL]
 | v::r,i,hn,hi=>by
  simp only [List.nodup_cons] at hn
  unfold dnL
  by_cases h:i=first
  ·rw [if_pos ⟨h,hk⟩,zln x hk first r (i+1) (by omega)]
   simp only [List.singleton_append,List.nodup_cons]
   refine ⟨fun q => ?_,hn.2.filter _⟩
   have:=(List.mem_filter.1 q).2
   simp at this
  ·rw [if_neg (fun q=>h q.1)]
   have ih:=zyr x hk first r (i+1) hn.2 (by omega)
   by_cases hc:(!pick x v&&(decide (x.za=1) || !decide (v=x.zh.head?.getD [])))=true
   ·rw [if_pos hc]
    simp only [List.singleton_append,List.nodup_cons]
    refine ⟨fun q => ?_,ih⟩
    simp only [hk,show decide ((2:Int)=1)=false from rfl,Bool.false_or,Bool.and_eq_true,Bool.not_eq_true',decide_eq_false_iff_not] at hc
    rcases zft q with q|q
    ·exact hn.1 q
    ·exact hc.2 q
   ·rw [if_neg hc]
    simpa using ih
theorem z9a {x:ED} (h:z5j x=true):(x.za=0∧x.z0t=false∧0<x.zh.length)∨(x.za=1∧x.zh=[])∨(x.za=2∧0<x.zh.length):=by
 unfold z5j at h
 simp only [Bool.and_eq_true] at h
 have h:=h.2
 unfold edK at h
 split at h
 ·rename_i h0;simp only [Bool.and_eq_true,decide_eq_true_eq,Bool.not_eq_true'] at h;exact .inl ⟨h0,h.2,h.1⟩
 ·split at h
  ·rename_i h1;exact .inr (.inl ⟨h1,by simpa using h⟩)
  ·split at h
   ·rename_i h2;simp only [Bool.and_eq_true,decide_eq_true_eq] at h;exact .inr (.inr ⟨h2,h.1⟩)
   ·cases h
theorem zys {x:ED} {old:List (List UInt8)} (hx:z5j x=true) (ho:sgl old=true) (hl:(dn x old).1.length≤64):sgl (dn x old).1=true:=by
 obtain ⟨_,n1,t1⟩:=zgt.1 ho
 obtain ⟨_,n2,t2⟩:=zgt.1 (z9b hx)
 refine zgt.2 ⟨hl,?_,?_⟩
 ·unfold dn
  split
  ·rw [List.nodup_append]
   refine ⟨n1,n2.filter _,fun a ha b hb => ?_⟩
   have h:=(List.mem_filter.1 hb).2
   simp only [Bool.not_eq_true',List.contains_eq_mem,decide_eq_false_iff_not] at h
   exact fun e=>h (e▸ha)
  ·rename_i h0
   split
   ·exact n2
   ·simp
   ·rename_i i _ _
    rcases z9a hx with h|h|h
    ·exact (h0 h.1).elim
    ·rw [zsm x h.1];exact n1.filter _
    ·exact zyr x h.1 i old 0 n1 (Nat.zero_le _)
 ·intro v hv
  unfold dn at hv
  split at hv
  ·rcases List.mem_append.1 hv with h|h
   ·exact t1 v h
   ·exact t2 v (List.mem_filter.1 h).1
  ·rename_i h0
   split at hv
   ·exact t2 v hv
   ·cases hv
   ·rename_i i _ _
    rcases z9a hx with h|h|h
    ·exact (h0 h.1).elim
    ·rw [zsm x h.1] at hv;exact t1 v (List.mem_filter.1 hv).1
    ·rcases zft hv with q|q
     ·exact t1 v q
     ·rw [q]
      cases hvv:x.zh with
      | nil=>rw [hvv] at h;simp at h
      | cons a b=>exact t2 a (by rw [hvv];exact List.mem_cons_self)
theorem zxf:sgl []=true:=rfl
theorem Inv.get {m:MP} (h:Inv m) (k:List UInt8):sgl (z14 m k [])=true:=by
 rcases zbz (k:=k) (z:=[]) m with e|e
 ·rw [e];exact zxf
 ·exact (h.ok _ e).2.2
theorem Inv.next {m:MP} (h:Inv m) {x:ED} {v:List (List UInt8)} (hx:isName x.zg=true) (hv:sgl v=true):Inv (z4i m x v):=by
 rw [z43 h.nd]
 constructor
 ·rw [List.map_append,List.nodup_append]
  refine ⟨(List.filter_sublist.map _).nodup h.nd,?_,fun a ha b hb => ?_⟩
  ·split<;>simp
  ·split at hb
   ·simp only [List.map_cons,List.map_nil,List.mem_singleton] at hb
    obtain ⟨y,hy,e⟩:=List.mem_map.1 ha
    have:=(List.mem_filter.1 hy).2
    simp only [Bool.not_eq_true',decide_eq_false_iff_not] at this
    rw [←e,hb]
    exact this
   ·cases hb
 ·intro y hy
  rcases List.mem_append.1 hy with q|q
  ·exact h.ok y (List.mem_filter.1 q).1
  ·split at q
   ·rename_i hp
    rw [List.mem_singleton] at q
    subst q
    exact ⟨hx,hp,hv⟩
   ·cases q
theorem z7j {m:MP} {x:ED} (h:Inv m) (hx:z5j x=true) (h0:(z3e m x).1=0):Inv (z3e m x).2:=by
 obtain ⟨h1,h2,h3,h4⟩:=z6d h0
 rw [h4]
 exact h.next (z4u hx) (zys hx (h.get _) h2)
theorem zcr:∀ {l:List ED} {m:MP},Inv m→(∀ x∈l,z5j x=true)→(z1f l m).1=0→Inv (z1f l m).2
 | [],m,h,_,_=>h
 | x::l,m,h,hl,h0=>by
  rw [z1p] at h0 ⊢
  by_cases h1:(z3e m x).1=0
  ·rw [if_pos h1] at h0 ⊢
   exact zcr (z7j h (hl x List.mem_cons_self) h1) (fun y hy=>hl y (List.mem_cons_of_mem _ hy)) h0
  ·rw [if_neg h1] at h0
   exact (h1 h0).elim
theorem zf0:∀ {l:List ED} {m m':MP},Inv m→m.Perm m'→(∀ x∈l,z5j x=true)→(z1f l m).1=(z1f l m').1∧(z1f l m).2.Perm (z1f l m').2
 | [],m,m',_,p,_=>⟨rfl,p⟩
 | x::l,m,m',h,p,hl=>by
  obtain ⟨e,q⟩:=zoa p h.nd x
  rw [z1p,z1p,←e]
  by_cases h1:(z3e m x).1=0
  ·rw [if_pos h1,if_pos h1]
   exact zf0 (z7j h (hl x List.mem_cons_self) h1) q (fun y hy=>hl y (List.mem_cons_of_mem _ hy))
  ·rw [if_neg h1,if_neg h1]
   exact ⟨rfl,List.Perm.refl _⟩
theorem zhu:∀ (l l':List ED) (m:MP),z1f (l++l') m=if (z1f l m).1=0 then z1f l' (z1f l m).2 else ((z1f l m).1,[])
 | [],l',m=>by simp [z1f]
 | x::l,l',m=>by
  rw [List.cons_append,z1p,z1p]
  by_cases h1:(z3e m x).1=0
  ·rw [if_pos h1,if_pos h1,zhu l l' _]
  ·rw [if_neg h1,if_neg h1,if_neg h1]
/-! Sorted. -/
theorem zmw (m:MP):(srt m).Perm (m.map fun x=>q02.mk x.1 x.2):=List.mergeSort_perm _ _
theorem zvl {m m':MP} (p:m.Perm m') (hn:(m.map (·.1)).Nodup):srt m=srt m' :=
 zck (p.map _) (by simpa [List.map_map,Function.comp_def] using hn)
theorem zxh (m:MP):(srt m).length=m.length:=by rw [(zmw m).length_eq,List.length_map]
theorem z7i (m:MP):((srt m).map fun f=>(f.zg,f.zh)).Perm m:=by
 have h:=(zmw m).map fun f=>(f.zg,f.zh)
 simpa [List.map_map,Function.comp_def] using h
theorem zv6:∀ (l:List q02) (m:MP),(∀ f∈l,f.zg∉m.map (·.1))→(l.map (·.zg)).Nodup→l.foldl (fun m f=>z3r m f.zg f.zh) m=m++l.map fun f=>(f.zg,f.zh)
 | [],m,_,_=>by simp
 | f::l,m,h,hn=>by
  simp only [List.map_cons,List.nodup_cons] at hn
  rw [List.foldl_cons,zgd (h f List.mem_cons_self),zv6 l _ (fun g hg => ?_) hn.2]
  ·simp
  ·simp only [List.map_append,List.map_cons,List.map_nil,List.mem_append,List.mem_singleton,not_or]
   exact ⟨h g (List.mem_cons_of_mem _ hg),fun e=>hn.1 (e▸List.mem_map_of_mem (f:=(·.zg)) hg)⟩
theorem zv7 {l:List q02} (hn:(l.map (·.zg)).Nodup):mp0 l=l.map fun f=>(f.zg,f.zh):=by
 unfold mp0
 rw [zv6 l [] (fun f _ h=>by cases h) hn,List.nil_append]
theorem zld:∀ (x y:List UInt8),Op.bytesLess x y=decide (x<y)
 | [],[]=>by simp [Op.bytesLess]
 | _::_,[]=>by simp [Op.bytesLess]
 | [],_::_=>by simp [Op.bytesLess]
 | a::x,b::y=>by
  rw [Op.bytesLess,zld x y]
  simp only [List.cons_lt_cons_iff]
  by_cases h1:a<b<;>by_cases h2:a=b<;>by_cases h3:x<y<;>simp [h1,h2,h3]
theorem zdv {a b:List UInt8}:slt a b=true↔a<b:=by
 unfold slt
 rw [zld]
 simp
theorem zp9:∀ {l:List q02} {p:Option (List UInt8)},(∀ f∈l,isName f.zg=true∧0<f.zh.length∧sgl f.zh=true)→(∀ f∈l,zfe p f.zg=true)→l.Pairwise (fun a b=>a.zg<b.zg)→zjn p l=true
 | [],_,_,_,_=>rfl
 | f::l,p,h,hp,hs=>by
  obtain ⟨h1,h2,h3⟩:=h f List.mem_cons_self
  rw [List.pairwise_cons] at hs
  have h4:=zp9 (p:=some f.zg) (fun g hg=>h g (List.mem_cons_of_mem _ hg)) (fun g hg=>zdv.2 (hs.1 g hg)) hs.2
  have h5:¬f.zh.length=0:=by omega
  simp only [zjn,h1,hp f List.mem_cons_self,h3,h4,h5,decide_false,Bool.not_false,Bool.and_self]
theorem z96:∀ {l:List q02} {p:Option (List UInt8)},zjn p l=true→(∀ f∈l,isName f.zg=true∧0<f.zh.length∧sgl f.zh=true)∧(∀ f∈l,zfe p f.zg=true)∧l.Pairwise (fun a b=>a.zg<b.zg)
 | [],_,_=>⟨fun f h=>(by cases h),fun f h=>(by cases h),List.Pairwise.nil⟩
 | f::l,p,h=>by
  simp only [zjn,Bool.and_eq_true,Bool.not_eq_true',decide_eq_false_iff_not] at h
  obtain ⟨⟨⟨⟨h1,h2⟩,h3⟩,h4⟩,h5⟩:=h
  obtain ⟨k1,k2,k3⟩:=z96 h5
  refine ⟨fun g hg => ?_,fun g hg => ?_,?_⟩
  ·rcases List.mem_cons.1 hg with rfl|hg
   ·exact ⟨h1,by omega,h4⟩
   ·exact k1 g hg
  ·rcases List.mem_cons.1 hg with rfl|hg
   ·exact h2
   ·cases p with
    | none=>rfl
    | some q=>exact zdv.2 (List.lt_trans (zdv.1 h2) (zdv.1 (k2 g hg)))
  ·exact List.pairwise_cons.2 ⟨fun g hg=>zdv.1 (k2 g hg),k3⟩
theorem z97 {t:TH}:zjh t=0↔t.ze.length≤32∧zjn none t.ze=true:=by
 unfold zjh
 split
 ·rename_i h;simp [h]
 ·rename_i h
  constructor
  ·intro q;cases q
  ·intro q;exact (h q).elim
theorem zkd {l:List q02} (h:l.Pairwise (fun a b=>a.zg<b.zg)):(l.map (·.zg)).Nodup:=by
 rw [List.nodup_iff_pairwise_ne,List.pairwise_map]
 exact h.imp (fun {a b} (q:a.zg<b.zg) (e:a.zg=b.zg)=>List.lt_irrefl _ (e▸q))
theorem zad {t:TH} (h:zjh t=0):Inv (mp0 t.ze)∧mp0 t.ze=t.ze.map (fun f=>(f.zg,f.zh)):=by
 obtain ⟨_,h2⟩:=z97.1 h
 obtain ⟨k1,_,k3⟩:=z96 h2
 have hn:=zkd k3
 have e:=zv7 hn
 refine ⟨⟨?_,fun y hy => ?_⟩,e⟩
 ·rw [e];simpa [List.map_map,Function.comp_def] using hn
 ·rw [e] at hy
  obtain ⟨f,hf,rfl⟩:=List.mem_map.1 hy
  exact k1 f hf
/-- What is answered may be. -/
theorem zz004 {m:MP} (h:Inv m):zjn none (srt m)=true:=by
 have hm:∀ f∈srt m,(f.zg,f.zh)∈m:=fun f hf=>(z7i m).mem_iff.1 (List.mem_map_of_mem (f:=fun f=>(f.zg,f.zh)) hf)
 have tr:∀ a b c:q02,decide (a.zg≤b.zg)=true→decide (b.zg≤c.zg)=true→decide (a.zg≤c.zg)=true:=fun a b c h1 h2=>decide_eq_true (zz9 _ _ _ (of_decide_eq_true h1) (of_decide_eq_true h2))
 have tot:∀ a b:q02,(decide (a.zg≤b.zg)||decide (b.zg≤a.zg))=true:=fun a b=>by
  rcases List.le_total a.zg b.zg with h|h<;>simp [h]
 have p1:(srt m).Pairwise fun a b=>decide (a.zg≤b.zg)=true:=List.pairwise_mergeSort tr tot _
 have hn:((srt m).map (·.zg)).Nodup:=by
  have:=((z7i m).map (·.1)).nodup_iff.2 h.nd
  simpa [List.map_map,Function.comp_def] using this
 rw [List.nodup_iff_pairwise_ne,List.pairwise_map] at hn
 refine zp9 (fun f hf=>h.ok _ (hm f hf)) (fun f _=>rfl) ?_
 refine (p1.and hn).imp fun {a b} q => ?_
 have h1:a.zg≤b.zg:=of_decide_eq_true q.1
 rcases List.le_iff_lt_or_eq.1 h1 with h2|h2
 ·exact h2
 ·exact (q.2 h2).elim
theorem zws {m:MP} (h:Inv m):(mp0 (srt m)).Perm m:=by
 have hn:((srt m).map (·.zg)).Nodup:=by
  have:=((z7i m).map (·.1)).nodup_iff.2 h.nd
  simpa [List.map_map,Function.comp_def] using this
 rw [zv7 hn]
 exact z7i m
theorem zxi {t:TH} (h:zjh t=0):srt (mp0 t.ze)=t.ze:=by
 obtain ⟨_,h2⟩:=z97.1 h
 obtain ⟨_,_,k3⟩:=z96 h2
 rw [(zad h).2]
 unfold srt
 rw [List.map_map]
 have e:(t.ze.map ((fun x:List UInt8 × List (List UInt8)=>q02.mk x.1 x.2)∘fun f=>(f.zg,f.zh)))=t.ze:=by
  conv=>rhs;rw [←List.map_id t.ze]
  rfl
 rw [e]
 exact List.mergeSort_of_pairwise (k3.imp fun q=>decide_eq_true (List.le_of_lt q))
end Go.Sen
end
