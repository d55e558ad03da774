import Derived.Test.YtmmgdladipbedaaGreatDoorSpC
set_option linter.all false
namespace Go.Sen
open Go.Lk Go.Pe
abbrev TH:=q04
def q02.sz (f:q02):Nat:=f.zg.length+kys f.zh+1
def q04.sz (t:TH):Nat:=t.gId.length+t.za.length+t.z4f.length+(t.ze.map (·.sz)).sum+1
def z1b (t:TH):Prop:=t.sz<1000000000
theorem zaq {α:Type} {g:α→Nat}:∀ {l:List α} {x:α},x∈l→g x≤(l.map g).sum
 | y::l,x,h=>by
  simp only [List.map_cons,List.sum_cons]
  rcases List.mem_cons.1 h with rfl|h
  ·omega
  ·have:=zaq (g:=g) h;omega
theorem z7l {α:Type} {g:α→Nat} (hg:∀ x,1≤g x):∀ l:List α,l.length≤(l.map g).sum
 | []=>by simp
 | x::l=>by
  have:=z7l hg l
  have:=hg x
  simp only [List.map_cons,List.sum_cons,List.length_cons]
  omega
theorem z1b.parts {t:TH} (h:z1b t):t.ze.length<1000000000∧t.gId.length<1000000000∧t.z4f.length<1000000000∧∀ f∈t.ze,f.zg.length<1000000000∧f.zh.length<1000000000∧∀ v∈f.zh,v.length<1000000000:=by
 unfold z1b q04.sz at h
 have h1:=z7l (g:=fun f:q02=>f.sz) (fun f=>by unfold q02.sz;omega) t.ze
 refine ⟨by omega,by omega,by omega,fun f hf => ?_⟩
 have h2:=zaq (g:=fun f:q02=>f.sz) hf
 have e2:f.sz=f.zg.length+kys f.zh+1:=rfl
 simp only [e2] at h2
 have h3:=z69 f.zh
 refine ⟨by omega,by omega,fun v hv => ?_⟩
 have:=zg5 hv
 omega
/-- The values of a name. -/
def zjd (t:TH) (n:List UInt8):List (List UInt8):=if n=[105,100] then [t.gId] else if n=[116,97,103] then [t.z4f] else match t.ze.find? (fun f=>decide (f.zg=n)) with
 | some f=>f.zh
 | none=>[]
theorem z8m {α:Type} (p:α→Bool):∀ l:List α,l.find? p=(l.findIdx? p).bind fun i=>l[i]?
 | []=>rfl
 | x::l=>by
  rw [List.find?_cons,List.findIdx?_cons]
  cases h:p x with
  | true=>simp
  | false =>
   simp only [Bool.false_eq_true,if_false]
   rw [z8m p l]
   cases l.findIdx? p<;>simp
theorem zet {α:Type} {p:α→Bool} {l:List α} {i:Nat} (h:l.findIdx? p=some i):∃ hi:i<l.length,p l[i]=true:=by
 rw [List.findIdx?_eq_some_iff_getElem] at h
 obtain ⟨h1,h2,_⟩:=h
 exact ⟨h1,h2⟩
theorem zeb {t:TH} {n:List UInt8} (hl:t.ze.length<1000000000):M.q2v t n=some (zjd t n):=by
 unfold M.q2v zjd
 by_cases h1:n=[105,100]
 ·simp [h1]
 ·by_cases h2:n=[116,97,103]
  ·simp [h2]
  ·have hk:M.zq t.ze n 0=some (match t.ze.findIdx? (fun f=>decide (f.zg=n)) with|some i => .done (i:Int)|none => .go ()):=by
    refine zef (fun i:Nat=>(i:Int)) () (by omega) (fun i h => ?_) ?_
    ·rw [M.zq]
     simp [show ((i:Int)<(t.ze.length:Int)) by omega,z4a,h,M.q2w]
    ·rw [M.zq]
     simp
   unfold M.q5f
   rw [hk,z8m]
   simp only [h1,h2,decide_false,Bool.false_eq_true,if_false]
   cases h:t.ze.findIdx? (fun f=>decide (f.zg=n)) with
   | none=>simp
   | some i =>
    obtain ⟨hi,_⟩:=zet h
    simp [z4a,hi]
theorem zgl {t:TH} {n:List UInt8} (hl:t.ze.length<1000000000):M.q4p t n=some (zjd t n):=by
 unfold M.q4p zjd
 by_cases h1:n=[105,100]
 ·simp [h1]
 ·by_cases h2:n=[116,97,103]
  ·simp [h2]
  ·have hk:M.z2i t n 0=some (match t.ze.findIdx? (fun f=>decide (f.zg=n)) with|some i => .done ((t.ze[i]?.map (·.zh)).getD [])|none => .go ()):=by
    refine zef (l:=t.ze) (p:=fun f=>decide (f.zg=n)) (fun i:Nat=>(t.ze[i]?.map (·.zh)).getD []) () (by omega) (fun i h => ?_) ?_
    ·rw [M.z2i]
     simp [show ((i:Int)<(t.ze.length:Int)) by omega,z4a,h]
    ·rw [M.z2i]
     simp
   rw [hk,z8m]
   simp only [h1,h2,decide_false,Bool.false_eq_true,if_false]
   cases h:t.ze.findIdx? (fun f=>decide (f.zg=n)) with
   | none=>simp
   | some i =>
    obtain ⟨hi,_⟩:=zet h
    simp [hi]
def fits (k:Int) (v w:List UInt8):Bool :=
 if k=3 then !decide (v=[]) else if k=4∨k=5 then decide (v=w) else if k=6 then Lib.contains v w else if k=7 then w.isPrefixOf v else if k=8 then w.isSuffixOf v else
 if k=9 then !(slt v w||decide (v=w)) else if k=10 then !slt v w else if k=11 then slt v w else slt v w||decide (v=w)
theorem zug {s p:List UInt8} (h:p.length≤s.length):decide (s.drop (s.length - p.length)=p)=p.isSuffixOf s:=by
 rw [Bool.eq_iff_iff,decide_eq_true_iff,List.isSuffixOf_iff_suffix,List.suffix_iff_eq_drop]
 exact ⟨fun h=>h.symm,fun h=>h.symm⟩
theorem zxl {s p:List UInt8} (h:¬p.length≤s.length):p.isSuffixOf s=false:=by
 rw [Bool.eq_false_iff,Ne,List.isSuffixOf_iff_suffix]
 exact fun hs=>h hs.length_le
theorem zph {s p:List UInt8} (hs:s.length<1152921504606846976):(do
  let j_3←(do
   if (decide ((p.length:Int)≤(s.length:Int))) then
    let s_4←sub s (IntKind.wrap .i64 ((s.length:Int) - (p.length:Int))) (s.length:Int)
    some (decide (s_4=p))
   else some false:Option Bool)
  some j_3)=some (p.isSuffixOf s):=by
 by_cases h:p.length≤s.length
 ·have h':(p.length:Int)≤(s.length:Int):=by omega
  have e:IntKind.wrap .i64 ((s.length:Int) - (p.length:Int))=((s.length - p.length:Nat):Int):=by rw [w64]<;>omega
  simp only [h',decide_true,if_true,e,zbr (l:=s) (a:=s.length - p.length) (by omega),Option.bind_eq_bind,Option.bind_some,zug h]
 ·have h':¬(p.length:Int)≤(s.length:Int):=by omega
  simp [h',zxl h]
theorem zb6 {s p:List UInt8} (hs:s.length<1152921504606846976):M.q5w s p=some (p.isSuffixOf s):=by
 have:=zph (p:=p) hs
 unfold M.q5w M.q0h
 rw [this]
 rfl
theorem zko {s p:List UInt8} (hs:s.length<1152921504606846976):M.q46 s p=some (p.isSuffixOf s):=zph hs
theorem zgk (s p:List UInt8):M.q41 s p=some (p.isPrefixOf s):=by
 have:=z2b s p
 unfold M.q5v M.q0g at this
 unfold M.q41
 revert this
 by_cases h:p.length≤s.length
 ·have h':(p.length:Int)≤(s.length:Int):=by omega
  simp only [h',decide_true,if_true,zl0 h,Option.bind_eq_bind,Option.bind_some]
  exact id
 ·have h':¬(p.length:Int)≤(s.length:Int):=by omega
  simp [h']
theorem contains_iff {v w:List UInt8}:Lib.contains v w=true↔∃ i,i+w.length≤v.length∧(v.drop i).take w.length=w:=by
 unfold Lib.contains
 rw [decide_eq_true_iff]
 constructor
 ·intro h
  rcases Lib.index_spec v w with ⟨h1,_⟩|⟨i,h1,h2,h3,_⟩
  ·omega
  ·have hr:=Lib.index_room v w h
   refine ⟨i,by omega,?_⟩
   unfold Lib.occAt at h3
   have:=List.isPrefixOf_iff_prefix.1 h3
   exact (List.prefix_iff_eq_take.1 this).symm
 ·rintro ⟨i,h1,h2⟩
  rcases Lib.index_spec v w with ⟨_,h3⟩|⟨j,h3,_⟩
  ·have:=h3 i (by omega)
   unfold Lib.occAt at this
   rw [Bool.eq_false_iff] at this
   exact absurd (List.isPrefixOf_iff_prefix.2 (List.prefix_iff_eq_take.2 h2.symm)) this
  ·omega
theorem zgm {v w:List UInt8} (hv:v.length<1000000000) (hw:w.length<1000000000):M.q4q v w=some (Lib.contains v w):=by
 have key:∀ (n i:Nat),v.length+1 - i=n→i≤v.length+1→(M.z15 w v (i:Int)=some (.done true)∧∃ j,i≤j∧j+w.length≤v.length∧(v.drop j).take w.length=w)∨(M.z15 w v (i:Int)=some (.go ())∧¬ ∃ j,i≤j∧j+w.length≤v.length∧(v.drop j).take w.length=w):=by
  intro n
  induction n with
  | zero =>
   intro i h1 h2
   rw [M.z15,wadd (by omega)]
   rw [if_neg (by simp;omega)]
   exact .inr ⟨rfl,by rintro ⟨j,h3,h4,_⟩;omega⟩
  | succ n ih =>
   intro i h1 h2
   rw [M.z15,wadd (by omega)]
   by_cases hi:i+w.length≤v.length
   ·rw [if_pos (by simp;omega),zxk (by omega) hi]
    have e:(v.take (i+w.length)).drop i=(v.drop i).take w.length:=by rw [List.drop_take];congr 1;omega
    simp only [Option.bind_eq_bind,Option.bind_some,e]
    by_cases hm:(v.drop i).take w.length=w
    ·rw [if_pos (by simpa using hm)]
     exact .inl ⟨rfl,i,Nat.le_refl _,hi,hm⟩
    ·rw [if_neg (by simpa using hm),w1 (by omega)]
     rcases ih (i+1) (by omega) (by omega) with ⟨h3,j,h4,h5⟩|⟨h3,h4⟩
     ·exact .inl ⟨h3,j,by omega,h5⟩
     ·refine .inr ⟨h3,?_⟩
      rintro ⟨j,h5,h6,h7⟩
      refine h4 ⟨j,?_,h6,h7⟩
      rcases Nat.eq_or_lt_of_le h5 with rfl|h8
      ·exact absurd h7 hm
      ·omega
   ·rw [if_neg (by simp;omega)]
    exact .inr ⟨rfl,by rintro ⟨j,h3,h4,_⟩;omega⟩
 unfold M.q4q
 have hc:=contains_iff (v:=v) (w:=w)
 rcases key _ 0 rfl (Nat.zero_le _) with ⟨h1,j,_,h2⟩|⟨h1,h2⟩
 ·have h1':M.z15 w v 0=some (.done true):=h1
  rw [h1',hc.2 ⟨j,h2⟩]
  rfl
 ·have h1':M.z15 w v 0=some (.go ()):=h1
  have:Lib.contains v w=false:=by
   rw [Bool.eq_false_iff]
   intro h
   obtain ⟨j,h3⟩:=hc.1 h
   exact h2 ⟨j,Nat.zero_le _,h3⟩
  rw [h1',this]
  rfl
theorem zkp {k:Int} {v w:List UInt8} (hv:v.length<1000000000) (hw:w.length<1000000000):M.q48 k v w=some (fits k v w):=by
 unfold M.q48 fits
 by_cases h3:k=3
 ·simp [h3]
 by_cases h4:k=4
 ·simp [h4]
 by_cases h5:k=5
 ·simp [h5]
 by_cases h6:k=6
 ·simp [h6,zgm hv hw]
 by_cases h7:k=7
 ·simp [h7,zgk]
 by_cases h8:k=8
 ·simp [h8,zko (s:=v) (by omega)]
 by_cases h9:k=9
 ·simp [h9]
 by_cases h10:k=10
 ·simp [h10]
 by_cases h11:k=11
 ·simp [h11]
 simp [h3,h4,h5,h6,h7,h8,h9,h10,h11]
theorem ze5 {v w:List UInt8} (hv:v.length<1000000000):M.contains v w=some (Lib.contains v w):=by
 unfold M.contains
 rw [z3i (by simp;omega)]
 rfl
theorem znn {e:EX} (h1:3<e.za) (h2:e.za<13):∃ c:q06,(do let a←M.q1s;ix a (IntKind.wrap .i64 (e.za - 4)))=some c∧∀ v:List UInt8,v.length<1000000000→M.q2a v c.znl e=some (fits e.za v e.z04):=by
 have:e.za=4∨e.za=5∨e.za=6∨e.za=7∨e.za=8∨e.za=9∨e.za=10∨e.za=11∨e.za=12:=by omega
 rcases this with h|h|h|h|h|h|h|h|h<;>rw [h]<;>refine ⟨_,rfl,fun v hv => ?_⟩ <;>
  simp [M.q2a,M.q0b,fits,M.q1t,M.q1u,M.q1v,M.q1w,M.q1x,ze5 hv,z2b,zb6 (s:=v) (by omega),F.q1t,F.strings_Contains,F.q5v,F.q5w,F.q1u,F.q1v,F.q1w,F.q1x]
mutual
def hdE (t:TH):EX→Bool
 | ⟨k,n,v,l⟩=>if k=0 then (zw4 t l).all id else if k=1 then (zw4 t l).any id else if k=2 then !((zw4 t l).head?.getD false) else if k=3 then (zjd t n).any (fun x => !decide (x=[])) else !((zjd t n).any (fun x=>fits k x v)==decide (k=5))
def zw4 (t:TH):List EX→List Bool
 | []=>[]
 | x::xs=>hdE t x::zw4 t xs
end
theorem zlz (t:TH):∀ l,zw4 t l=l.map (hdE t)
 | []=>by simp [zw4]
 | x::l=>by simp [zw4,zlz t l]
theorem zpr (t:TH) (e:EX):hdE t e=if e.za=0 then e.zf.all (hdE t) else if e.za=1 then e.zf.any (hdE t) else if e.za=2 then !((e.zf.map (hdE t)).head?.getD false) else if e.za=3 then (zjd t e.zg).any (fun x => !decide (x=[])) else !((zjd t e.zg).any (fun x=>fits e.za x e.z04)==decide (e.za=5)):=by
 cases e
 simp [hdE,zlz,List.all_map,List.any_map,Function.comp_def]
theorem zfj {t:TH} (ht:z1b t) (n:List UInt8):(zjd t n).length<1000000000∧∀ v∈zjd t n,v.length<1000000000:=by
 obtain ⟨h1,h2,h3,h4⟩:=ht.parts
 unfold zjd
 split
 ·exact ⟨by simp,fun v hv=>by rw [List.mem_singleton] at hv;rw [hv];exact h2⟩
 ·split
  ·exact ⟨by simp,fun v hv=>by rw [List.mem_singleton] at hv;rw [hv];exact h3⟩
  ·split
   ·rename_i f hf
    exact (h4 f (List.mem_of_find?_eq_some hf)).2
   ·simp
theorem zw6 {l:List (List UInt8)} (hl:l.length<1000000000):M.q52 l=some (l.any fun x => !decide (x=[])):=by
 have hk:M.zy l 0=some (match l.findIdx? (fun x => !decide (x=[])) with|some i => .done (i:Int)|none => .go ()):=by
  refine zef (fun i:Nat=>(i:Int)) () (by omega) (fun i h => ?_) ?_
  ·rw [M.zy]
   simp [show ((i:Int)<(l.length:Int)) by omega,z4a,h,M.q29]
  ·rw [M.zy]
   simp
 unfold M.q52 M.q5k
 rw [hk]
 rcases z3y l (fun x => !decide (x=[])) with ⟨h1,h2⟩|⟨i,h1,h2⟩
 ·rw [h1,h2];rfl
 ·rw [h1,h2];simp
theorem zw7 {l:List (List UInt8)} {e:EX} {c:Nat} (hl:l.length<1000000000) (hs:∀ v∈l,M.q2a v c e=some (fits e.za v e.z04)):M.q54 l c e=some (l.any fun x=>fits e.za x e.z04):=by
 have hk:M.z00 l c e 0=some (match l.findIdx? (fun x=>fits e.za x e.z04) with|some i => .done (i:Int)|none => .go ()):=by
  refine zef (fun i:Nat=>(i:Int)) () (by omega) (fun i h => ?_) ?_
  ·rw [M.z00]
   simp only [show ((i:Int)<(l.length:Int)) by omega,decide_true,if_true,z4a,List.getElem?_eq_getElem h,Option.bind_eq_bind,Option.bind_some,hs _ (List.getElem_mem h)]
  ·rw [M.z00]
   simp
 unfold M.q54 M.q5l
 rw [hk]
 rcases z3y l (fun x=>fits e.za x e.z04) with ⟨h1,h2⟩|⟨i,h1,h2⟩
 ·rw [h1,h2];rfl
 ·rw [h1,h2];simp
theorem z4k {t:TH} (ht:z1b t):∀ (f:Nat) (e:EX),4*e.sz≤f→z0l e→fm e=true→M.q24 f e t=some (hdE t e)
 | 0,e,hf,_,_=>by have:=e.z1m;omega
 | f+1,e,hf,hs,hfm=>by
  have hz:=e.z1m
  have hs':=hs
  unfold z0l at hs'
  have hlen:=z4v e.zf
  have hkk:=z6x hfm
  have hv:=zfj ht e.zg
  have hval:=zeb (t:=t) (n:=e.zg) ht.parts.1
  have h2:∀ g,4*ezs e.zf+1≤g→g≤f→∀ x∈e.zf,M.q28 g x t=some (!hdE t x,t):=fun g hg hgf x hx=>by
   have hm:=z2k hx
   match g,hg,hgf with
   | g+1,hg,hgf =>
    unfold M.q28
    rw [z4k ht g x (by omega) (hs.mem hx) (zcq hfm hx)]
    rfl
  have h1:∀ g,4*ezs e.zf+1≤g→g≤f→∀ x∈e.zf,M.q25 g x t=some (hdE t x,t):=fun g hg hgf x hx=>by
   have hm:=z2k hx
   match g,hg,hgf with
   | g+1,hg,hgf =>
    unfold M.q25
    rw [z4k ht g x (by omega) (hs.mem hx) (zcq hfm hx)]
    rfl
  unfold M.q24
  rw [zpr]
  by_cases k0:e.za=0
  ·have:M.q4y f e.zf t=some (e.zf.any (fun x => !hdE t x),t):=by
    match f,hf with
    | g+2,hf =>
     have hk:M.zl e.zf (M.q28 g) 0 t.gId t.za t.z4f t.ze=some (match e.zf.findIdx? (fun x => !hdE t x) with|some i => .done ((i:Int),t)|none => .go (t.gId,t.za,t.z4f,t.ze)):=by
      refine zef (F:=fun i=>M.zl e.zf (M.q28 g) i t.gId t.za t.z4f t.ze) (fun i:Nat=>((i:Int),t)) (t.gId,t.za,t.z4f,t.ze) (by omega) (fun i h => ?_) ?_
      ·show M.zl e.zf (M.q28 g) i t.gId t.za t.z4f t.ze=_
       rw [M.zl]
       simp only [show ((i:Int)<(e.zf.length:Int)) by omega,decide_true,if_true,z4a,List.getElem?_eq_getElem h,Option.bind_eq_bind,Option.bind_some,show (q04.mk t.gId t.za t.z4f t.ze)=t from rfl,h2 g (by omega) (by omega) _ (List.getElem_mem h)]
      ·show M.zl e.zf (M.q28 g) _ t.gId t.za t.z4f t.ze=_
       rw [M.zl]
       simp
     unfold M.q4y M.q5e
     rw [hk]
     rcases z3y e.zf (fun x => !hdE t x) with ⟨h1,h2⟩|⟨i,h1,h2⟩
     ·rw [h1,h2];rfl
     ·rw [h1,h2];simp
    | 0,hf=>omega
    | 1,hf=>omega
   simp only [k0,decide_true,if_true,this,Option.bind_eq_bind,Option.bind_some]
   rw [List.all_eq_not_any_not]
  by_cases k1:e.za=1
  ·have:M.q4x f e.zf t=some (e.zf.any (fun x=>hdE t x),t):=by
    match f,hf with
    | g+2,hf =>
     have hk:M.zk e.zf (M.q25 g) 0 t.gId t.za t.z4f t.ze=some (match e.zf.findIdx? (fun x=>hdE t x) with|some i => .done ((i:Int),t)|none => .go (t.gId,t.za,t.z4f,t.ze)):=by
      refine zef (F:=fun i=>M.zk e.zf (M.q25 g) i t.gId t.za t.z4f t.ze) (fun i:Nat=>((i:Int),t)) (t.gId,t.za,t.z4f,t.ze) (by omega) (fun i h => ?_) ?_
      ·show M.zk e.zf (M.q25 g) i t.gId t.za t.z4f t.ze=_
       rw [M.zk]
       simp only [show ((i:Int)<(e.zf.length:Int)) by omega,decide_true,if_true,z4a,List.getElem?_eq_getElem h,Option.bind_eq_bind,Option.bind_some,show (q04.mk t.gId t.za t.z4f t.ze)=t from rfl,h1 g (by omega) (by omega) _ (List.getElem_mem h)]
      ·show M.zk e.zf (M.q25 g) _ t.gId t.za t.z4f t.ze=_
       rw [M.zk]
       simp
     unfold M.q4x M.q5d
     rw [hk]
     rcases z3y e.zf (fun x=>hdE t x) with ⟨h1,h2⟩|⟨i,h1,h2⟩
     ·rw [h1,h2];rfl
     ·rw [h1,h2];simp
    | 0,hf=>omega
    | 1,hf=>omega
   simp only [k0,k1,decide_true,decide_false,Bool.false_eq_true,if_false,if_true,this,Option.bind_eq_bind,Option.bind_some,show ((1:Int)=0)=False from by decide]
  by_cases k2:e.za=2
  ·obtain ⟨x,hx,_,_,_⟩:=zex hfm k2
   have hxm:x∈e.zf:=by rw [hx];exact List.mem_singleton.2 rfl
   have hm:=z2k hxm
   have:=x.z1m
   simp only [k2,decide_true,if_true,hx,znq,List.getElem?_cons_zero,Option.bind_eq_bind,Option.bind_some,h2 f (by omega) (Nat.le_refl _) x hxm]
   simp
  by_cases k3:e.za=3
  ·simp only [k3,decide_true,if_true,hval,Option.bind_eq_bind,Option.bind_some,zw6 hv.1]
   simp
  ·obtain ⟨c,hc1,hc2⟩:=znn (e:=e) (by omega) hkk.2
   simp only [k0,k1,k2,k3,decide_false,Bool.false_eq_true,if_false,Option.bind_eq_bind,hval]
   have hc1':(M.q1s.bind fun a=>(ix a (IntKind.wrap .i64 (e.za - 4))).bind fun x=>some x.znl)=some c.znl:=by
    rw [←Option.bind_assoc]
    have:(M.q1s.bind fun a=>ix a (IntKind.wrap .i64 (e.za - 4)))=some c:=hc1
    rw [this];rfl
   rw [hc1']
   simp only [Option.bind_some,zw7 hv.1 (fun v hvm=>hc2 v (hv.2 v hvm))]
termination_by f=>f
decreasing_by all_goals omega
theorem zbh {t:TH} (ht:z1b t):∀ (f:Nat) (e:EX),e.sz≤f→z0l e→fm e=true→M.q3o f e t=some (hdE t e)
 | 0,e,hf,_,_=>by have:=e.z1m;omega
 | f+1,e,hf,hs,hfm=>by
  have hz:=e.z1m
  have hs':=hs
  unfold z0l at hs'
  have hlen:=z4v e.zf
  have hkk:=z6x hfm
  have hv:=zfj ht e.zg
  have hval:=zgl (t:=t) (n:=e.zg) ht.parts.1
  have hself:∀ x∈e.zf,M.q3o f x t=some (hdE t x):=fun x hx=>zbh ht f x (by have:=z2k hx;omega) (hs.mem hx) (zcq hfm hx)
  unfold M.q3o
  rw [zpr]
  by_cases k01:e.za=0∨e.za=1
  ·have h0:(if (decide (e.za=0))=true then some (decide (e.za=0)) else some (decide (e.za=1)):Option Bool)=some true:=by
    rcases k01 with h|h<;>rw [h]<;>rfl
   have hk:M.z2s e (M.q3o f) t 0=some (match e.zf.findIdx? (fun x=>hdE t x==decide (e.za=1)) with|some i => .done (.done (decide (e.za=1)))|none => .go ()):=by
    refine zef (l:=e.zf) (p:=fun x=>hdE t x==decide (e.za=1)) (fun _=>(.done (decide (e.za=1)):Jn Bool Unit)) () (by omega) (fun i h => ?_) ?_
    ·rw [M.z2s]
     simp only [show ((i:Int)<(e.zf.length:Int)) by omega,decide_true,if_true,z4a,List.getElem?_eq_getElem h,Option.bind_eq_bind,Option.bind_some,hself _ (List.getElem_mem h)]
    ·rw [M.z2s]
     simp
   rw [h0]
   simp only [Option.bind_eq_bind,Option.bind_some,if_true,hk]
   rcases k01 with h|h
   ·rw [h]
    have e1:(fun x=>hdE t x==decide ((0:Int)=1))=fun x => !hdE t x:=by funext x;simp
    rw [e1]
    rcases z5a e.zf (hdE t) with ⟨h1,h2⟩|⟨i,h1,h2⟩
    ·rw [h1];simp only [if_true,h2];rfl
    ·rw [h1];simp only [if_true,h2];rfl
   ·rw [h]
    have e1:(fun x=>hdE t x==decide ((1:Int)=1))=hdE t:=by funext x;simp
    rw [e1]
    rcases z3y e.zf (hdE t) with ⟨h1,h2⟩|⟨i,h1,h2⟩
    ·rw [h1];simp only [show ((1:Int)=0)=False from by decide,if_false,if_true,h2];rfl
    ·rw [h1];simp only [show ((1:Int)=0)=False from by decide,if_false,if_true,h2];rfl
  ·have k0:¬e.za=0:=by omega
   have k1:¬e.za=1:=by omega
   by_cases k2:e.za=2
   ·obtain ⟨x,hx,_,_,_⟩:=zex hfm k2
    have hxm:x∈e.zf:=by rw [hx];exact List.mem_singleton.2 rfl
    simp [k2,hx,znq,hself x hxm]
   ·have hk:M.z2t (zjd t e.zg) e 0=some (match (zjd t e.zg).findIdx? (fun x=>fits e.za x e.z04) with|some i => .done (!decide (e.za=5))|none => .go ()):=by
     refine zef (fun _=>(!decide (e.za=5))) () (by omega) (fun i h => ?_) ?_
     ·rw [M.z2t]
      simp only [show ((i:Int)<((zjd t e.zg).length:Int)) by omega,decide_true,if_true,z4a,List.getElem?_eq_getElem h,Option.bind_eq_bind,Option.bind_some,zkp (hv.2 _ (List.getElem_mem h)) (by omega:e.z04.length<1000000000)]
     ·rw [M.z2t]
      simp
    simp only [k0,k1,k2,decide_false,Bool.false_eq_true,if_false,Option.bind_eq_bind,Option.bind_some,hval,hk]
    by_cases k3:e.za=3
    ·have hf3:(fun x=>fits e.za x e.z04)=fun x:List UInt8 => !decide (x=[]):=by funext x;simp [fits,k3]
     rw [hf3,if_pos k3]
     rcases z3y (zjd t e.zg) (fun x => !decide (x=[])) with ⟨h1,h2⟩|⟨i,h1,h2⟩
     ·rw [h1,h2,k3];rfl
     ·rw [h1,h2,k3];rfl
    ·rw [if_neg k3]
     rcases z3y (zjd t e.zg) (fun x=>fits e.za x e.z04) with ⟨h1,h2⟩|⟨i,h1,h2⟩
     ·rw [h1,h2];cases decide (e.za=5)<;>rfl
     ·rw [h1,h2];cases decide (e.za=5)<;>rfl
def mat (e:EX) (t:TH):Bool:=decide (z6n e=0)&&hdE t e
theorem z9p {e:EX} {t:TH} {f:Nat} (hf:4*e.sz+17≤f) (hs:z0l e) (ht:z1b t):M.q1k f e t=some (mat e t):=by
 unfold M.q1k mat
 rw [z2v hf hs]
 by_cases h:z6n e=0
 ·simp [h,z4k ht f e (by omega) hs (za4 h).1]
 ·simp [h]
theorem ziy {e:EX} {t:TH} {f:Nat} (hf:e.sz≤f) (hs:z0l e) (ht:z1b t):M.q3p f e t=some (mat e t):=by
 unfold M.q3p mat
 rw [z7b hf hs]
 by_cases h:z6n e=0
 ·simp [h,zbh ht f e (by omega) hs (za4 h).1]
 ·simp [h]
end Go.Sen
