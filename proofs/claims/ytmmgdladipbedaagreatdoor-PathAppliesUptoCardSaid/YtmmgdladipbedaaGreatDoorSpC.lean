import Derived.Test.YtmmgdladipbedaaGreatDoorSnG
set_option linter.all false
section
namespace Go.Sen
open _root_.Option renaming bind_eq_bind → ya, bind_some → yb, getD_some → yc
open _root_.Bool renaming and_eq_true → yd, false_eq_true → ye, or_eq_true → yf
open _root_.List renaming append_assoc → yg, cons_append → yh, drop_zero → yi, getElem?_eq_getElem → yj, getElem_mem → yk, head?_cons → yl, length_append → ym, length_cons → yn, length_nil → yo, nil_append → yp
open _root_.Nat renaming max_assoc → yq
open IntKind renaming wrap → yr
open Go.Lk Go.Pe
theorem zvy:∀ e:EX,dp e≤e.sz:=by
 have key:(∀ e:EX,dp e≤e.sz):=by
  intro e
  induction h:e.sz using Nat.strongRecOn generalizing e with
  | ind n ih =>
   subst h
   have hz:=e.z2a
   rw [zn2]
   split
   ·omega
   ·have:∀ l:List EX,(∀ x∈l,x.sz<e.sz)→dpL e.zc l≤ezs l+1:=by
     intro l
     induction l with
     | nil=>intro _;simp [dpL]
     | cons x l ih2 =>
      intro hl
      have h1:=ih x.sz (hl x List.mem_cons_self) x rfl
      have h2:=ih2 fun y hy=>hl y (List.mem_cons_of_mem _ hy)
      simp only [dpL,ezs]
      have h3:=x.z2a
      split<;>omega
    have h:=this e.zh fun x hx=>by have:=z36 hx;omega
    omega
 exact key
theorem zae (a b:Nat):zny (a:Int) (b:Int)=((max a b:Nat):Int):=by
 unfold zny
 split<;>omega
theorem zuy {e:EX} {self:EX→Option (List UInt8 × Int)} (hs:z16 e) (hself:∀ x∈e.zh,self x=some (tx x,(dp x:Int))):∀ (n i:Nat) (acc:List (List UInt8)) (d:Nat),e.zh.length - i=n→i≤e.zh.length→acc.length≤i →
  M.z1u e self acc (d:Int) (i:Int)=some (acc++txL e.zc (e.zh.drop i),((max d (dpL e.zc (e.zh.drop i)):Nat):Int)):=by
 have hz:=e.z2a
 have hlen:=z4g e.zh
 unfold z16 at hs
 intro n
 induction n with
 | zero =>
  intro i acc d h1 h2 h3
  have:i=e.zh.length:=by omega
  subst this
  rw [M.z1u]
  simp [txL,dpL]
 | succ n ih =>
  intro i acc d h1 h2 h3
  have hi:i<e.zh.length:=by omega
  have hm:=yk hi
  have hx:=z36 hm
  have hxl:=zp6 e.zh[i]
  have hdl:=zvy e.zh[i]
  have hb:(((decide (e.zc=2))||(decide (e.zh[i].zc=1)))||((decide (e.zh[i].zc=0))&&(decide (e.zc=0))))=bra e.zc e.zh[i]:=rfl
  rw [M.z1u]
  simp only [show ((i:Int)<(e.zh.length:Int)) by omega,decide_true,if_true,z3d,yj hi,ya,yb,hself _ hm,hb]
  rw [z13 hi]
  simp only [txL,dpL]
  cases hbr:bra e.zc e.zh[i] with
  | true =>
   simp only [if_true]
   rw [z6u (by simp only [yn,yo];omega)]
   simp only [yb]
   rw [z6u (by simp only [yn,yo,ym];omega)]
   simp only [yb]
   rw [z2e (by simp only [yn,yo];omega)]
   simp only [yb]
   rw [w1 (by omega),w1 (by omega),zae,ih (i+1) _ _ (by omega) (by omega) (by simp;omega)]
   simp only [yg,yh,yp,yq]
  | false =>
   simp only [ye,if_false,yb]
   rw [z2e (by simp only [yn,yo];omega)]
   simp only [yb]
   rw [w1 (by omega),zae,ih (i+1) _ _ (by omega) (by omega) (by simp;omega)]
   simp only [yg,yh,yp,yq,Nat.add_zero]
theorem zm3 {v:List UInt8} (h:z1q v=true) {f:Nat} (hf:17≤f):M.q0i f ⟨4,v,[],[]⟩=some (qt v,0):=by
 unfold z1q at h
 simp only [yd,decide_eq_true_eq] at h
 have hq:=zdf v
 rw [zea hf (by unfold Small;simp [q03.sz,szs,kys];omega)]
 have h1:z7z ⟨4,v,[],[]⟩ 0=0:=by simp [z7z,frm,h.2,zc5]
 have h2:prJ ⟨4,v,[],[]⟩=qt v:=by simp [prJ]
 unfold print
 rw [if_pos h1,h2,if_neg (by omega)]
theorem zxf {k:Int} (h1:3<k) (h2:k<13):∃ c:q06,(do let a←M.q1g;ix a (yr .i64 (k - 4)))=some c∧c.z48=wrd k:=by
 have:k=4∨k=5∨k=6∨k=7∨k=8∨k=9∨k=10∨k=11∨k=12:=by omega
 rcases this with rfl|rfl|rfl|rfl|rfl|rfl|rfl|rfl|rfl<;>exact ⟨_,rfl,rfl⟩
theorem zb1 {e:EX} (h:fm e=true):0≤e.zc∧e.zc<13:=by
 rw [ze4] at h
 simp only [yd] at h
 have h1:=h.1
 unfold fm0 at h1
 split at h1
 ·omega
 ·split at h1
  ·omega
  ·simp only [yd,decide_eq_true_eq] at h1;omega
theorem ze5 {e:EX} (h:fm e=true) (hk:2<e.zc):e.zh=[]∧isName e.zg=true∧z1q e.z07=true∧(e.zc=3→e.z07=[]):=by
 rw [ze4] at h
 simp only [yd] at h
 have h1:=h.1
 unfold fm0 at h1
 rw [if_neg (by omega),if_neg (by omega)] at h1
 simp only [yd,decide_eq_true_eq,yf,Bool.not_eq_true',decide_eq_false_iff_not] at h1
 obtain ⟨⟨⟨⟨_,h2⟩,h3⟩,h4⟩,h5⟩:=h1
 exact ⟨List.eq_nil_of_length_eq_zero h2,h3,h4,fun hk=>h5.resolve_left fun hn=>hn hk⟩
theorem zg4 {e:EX} (h:fm e=true) (hk:e.zc=2):∃ x,e.zh=[x]∧e.zg=[]∧e.z07=[]∧fm x=true:=by
 rw [ze4] at h
 simp only [yd,yf,decide_eq_true_eq] at h
 have h1:=h.1
 unfold fm0 at h1
 rw [if_neg (by omega),if_pos hk] at h1
 simp only [yd,decide_eq_true_eq] at h1
 obtain ⟨x,hx⟩:=List.length_eq_one_iff.1 h1.1.1
 have h2:=h.2.resolve_left (by omega)
 rw [hx] at h2
 simp only [fmL,Bool.and_true] at h2
 exact ⟨x,hx,h1.1.2,h1.2,h2⟩
theorem zsa {e:EX} (h:fm e=true) (hk:e.zc=0∨e.zc=1):2≤e.zh.length∧e.zg=[]∧e.z07=[]∧∀ x∈e.zh,fm x=true:=by
 rw [ze4] at h
 simp only [yd,yf,decide_eq_true_eq] at h
 have h1:=h.1
 unfold fm0 at h1
 rw [if_pos hk] at h1
 simp only [yd,decide_eq_true_eq] at h1
 have h2:=h.2.resolve_left (by omega)
 rw [ze3,List.all_eq_true] at h2
 exact ⟨h1.1.1,h1.1.2,h1.2,h2⟩
theorem zd2 {e x:EX} (h:fm e=true) (hx:x∈e.zh):fm x=true:=by
 by_cases h2:2<e.zc
 ·rw [(ze5 h h2).1] at hx;cases hx
 ·have hk:=zb1 h
  by_cases h3:e.zc=2
  ·obtain ⟨y,hy,_,_,h4⟩:=zg4 h h3
   rw [hy,List.mem_singleton] at hx
   rw [hx];exact h4
  ·exact (zsa h (by omega)).2.2.2 x hx
theorem z5y:∀ (f:Nat) (e:EX),e.sz+17≤f→z16 e→fm e=true→M.q2f f e=some (tx e,(dp e:Int))
 | 0,e,hf,_,_=>by omega
 | f+1,e,hf,hs,hfm=>by
  have hz:=e.z2a
  have hs':=hs
  unfold z16 at hs'
  have hk:=zb1 hfm
  unfold M.q2f
  by_cases h3:e.zc=3
  ·simp only [h3,decide_true,if_true]
   rw [z6u (by simp only [yn,yo];omega),zrp e,zn2 e,if_pos h3,if_pos (by omega)]
   rfl
  ·simp only [h3,decide_false,ye,if_false]
   by_cases h4:3<e.zc
   ·obtain ⟨h5,h6,h7,_⟩:=ze5 hfm (by omega)
    obtain ⟨c,hc1,hc2⟩:=zxf h4 hk.2
    have hq:=zdf e.z07
    have hw:=zpc e.zc
    simp only [h4,decide_true,if_true,zm3 h7 (f:=f) (by omega),ya,yb]
    rw [z6u (by simp only [yn,yo];omega)]
    simp only [yb]
    have hc1':(M.q1g.bind fun a=>(ix a (yr .i64 (e.zc - 4))).bind fun x=>(cat (e.zg++[32]) x.z48).bind fun s=>(cat s [32]).bind fun s=>(cat s (qt e.z07)).bind fun s=>some (s,(0:Int))) =
      ((do let a←M.q1g;ix a (yr .i64 (e.zc - 4))):Option q06).bind fun x=>(cat (e.zg++[32]) x.z48).bind fun s=>(cat s [32]).bind fun s=>(cat s (qt e.z07)).bind fun s=>some (s,(0:Int)):=by
     simp [Option.bind_assoc]
    rw [hc1',hc1]
    simp only [yb,hc2]
    rw [z6u (by simp only [yn,yo,ym];omega)]
    simp only [yb]
    rw [z6u (by simp only [yn,yo,ym];omega)]
    simp only [yb]
    rw [z6u (by simp only [yn,yo,ym];omega)]
    rw [zrp e,zn2 e,if_neg h3,if_pos h4,if_pos (by omega)]
    rfl
   ·have hk1:=zuy (self:=M.q2f f) hs (fun x hx=>z5y f x (by have:=z36 hx;omega) (hs.mem hx) (zd2 hfm hx)) _ 0 [] 0 rfl (Nat.zero_le _) (Nat.le_refl _)
    simp only [yi,yp,Nat.zero_max] at hk1
    simp only [h4,decide_false,ye,if_false,ya]
    have hk1':M.z1u e (M.q2f f) [] 0 0=some (txL e.zc e.zh,(dpL e.zc e.zh:Int)):=hk1
    rw [hk1']
    have ht:=zp6 e
    rw [zrp e,zn2 e,if_neg (by omega:¬2<e.zc)]
    rw [zrp e,if_neg h3,if_neg h4] at ht
    rw [if_neg h3,if_neg h4]
    by_cases h2:e.zc=2
    ·obtain ⟨x,hx,_,_,_⟩:=zg4 hfm h2
     rw [if_pos h2] at ht ⊢
     simp only [h2,hx,txL,yl,yc,ym,yn,yo] at ht
     simp only [h2,decide_true,if_true,hx,txL,yl,yc,yb,zjp,List.getElem?_cons_zero]
     rw [z6u (by simp only [yn,yo];omega)]
     rfl
    ·have h01:e.zc=0∨e.zc=1:=by omega
     rw [if_neg h2] at ht ⊢
     have hsep:ix [([32,97,110,100,32]:List UInt8),([32,111,114,32]:List UInt8)] e.zc=some (sep e.zc):=by
      rcases h01 with h|h<;>rw [h]<;>rfl
     have hll:(txL e.zc e.zh).length=e.zh.length:=by rw [zp5];simp
     have hlen:=z4g e.zh
     simp only [h2,decide_false,ye,if_false,yb,hsep]
     unfold M.join
     rw [z30 (by simp only [yd,decide_eq_true_eq];omega)]
     rfl
theorem zbs:∀ (f:Nat) (e:EX),e.sz≤f→z16 e→fm e=true→M.q2u f e=some (dp e:Int)
 | 0,e,hf,_,_=>by have:=e.z2a;omega
 | f+1,e,hf,hs,hfm=>by
  have hz:=e.z2a
  have hs':=hs
  unfold z16 at hs'
  have hlen:=z4g e.zh
  have hk:∀ (n i d:Nat),e.zh.length - i=n→i≤e.zh.length→M.z1m e (M.q2u f) (d:Int) (i:Int)=some ((max d (dpL e.zc (e.zh.drop i)):Nat):Int):=by
   intro n
   induction n with
   | zero =>
    intro i d h1 h2
    have:i=e.zh.length:=by omega
    subst this
    rw [M.z1m]
    simp [dpL]
   | succ n ih =>
    intro i d h1 h2
    have hi:i<e.zh.length:=by omega
    have hm:=yk hi
    have hx:=z36 hm
    have hdl:=zvy e.zh[i]
    have hb:M.q2t e.zh[i] e=some (bra e.zc e.zh[i]):=rfl
    rw [M.z1m]
    simp only [show ((i:Int)<(e.zh.length:Int)) by omega,decide_true,if_true,z3d,yj hi,ya,yb,zbs f _ (by omega) (hs.mem hm) (zd2 hfm hm),hb]
    rw [z13 hi]
    simp only [dpL]
    cases hbr:bra e.zc e.zh[i] with
    | true =>
     simp only [if_true]
     rw [w1 (by omega),w1 (by omega),zae,ih (i+1) _ (by omega) (by omega),yq]
    | false =>
     simp only [ye,if_false,Nat.add_zero]
     rw [w1 (by omega),zae,ih (i+1) _ (by omega) (by omega),yq]
  unfold M.q2u
  have:=hk _ 0 0 rfl (Nat.zero_le _)
  simp only [yi,Nat.zero_max] at this
  have h0:M.z1m e (M.q2u f) 0 0=some (dpL e.zc e.zh:Int):=this
  simp only [h0,ya,yb]
  rw [zn2]
  split
  ·rename_i h2
   rw [(ze5 hfm h2).1]
   rfl
  ·rfl
def zfa (e:EX):Int:=if fm e=false then 194 else if 16<dp e then 193 else 0
theorem z5e {e:EX} {f:Nat} (hf:4*e.sz+17≤f) (hs:z16 e):M.q12 f e=some (zfa e):=by
 unfold M.q12 zfa
 rw [z5x f e (by omega) hs]
 cases h:fm e with
 | false=>rfl
 | true =>
  simp only [ya,yb,Bool.not_true,ye,if_false,z5y f e (by omega) hs h]
  by_cases hd:16<dp e
  ·have:(16:Int)<(dp e:Int):=by omega
   simp [hd,this]
  ·have:¬(16:Int)<(dp e:Int):=by omega
   simp [hd,this]
def prE (e:EX):List UInt8 × Int:=if zfa e=0 then (if 1024<(tx e).length then ([],191) else (tx e,0)) else ([],zfa e)
theorem zmv {e:EX} (h:zfa e=0):fm e=true∧dp e≤16:=by
 unfold zfa at h
 cases hf:fm e with
 | false=>rw [hf] at h;simp at h
 | true =>
  rw [hf] at h
  simp only [Bool.true_eq_false,if_false] at h
  refine ⟨rfl,?_⟩
  by_cases hd:16<dp e
  ·rw [if_pos hd] at h;cases h
  ·omega
theorem zep {e:EX} {f:Nat} (hf:4*e.sz+17≤f) (hs:z16 e):M.q1d f e=some (prE e):=by
 unfold M.q1d prE
 rw [z5e hf hs]
 by_cases h:zfa e=0
 ·have hfm:=(zmv h).1
  simp only [h,ya,yb,decide_true,Bool.not_true,ye,if_false,if_true,z5y f e (by omega) hs hfm]
  by_cases hl:1024<(tx e).length
  ·have:(1024:Int)<((tx e).length:Int):=by omega
   simp [hl,this]
  ·have:¬(1024:Int)<((tx e).length:Int):=by omega
   simp [hl,this]
 ·simp [h]
end Go.Sen
end
section
namespace Go.Sen
open _root_.Option renaming bind_eq_bind → ya, bind_some → yb
open _root_.Bool renaming eq_false_iff → yc, false_eq_true → yd
open _root_.List renaming getElem?_eq_getElem → ye, getElem_mem → yf, isPrefixOf_iff_prefix → yg, isSuffixOf_iff_suffix → yh, mem_singleton → yi, prefix_iff_eq_take → yj
open IntKind renaming wrap → yk
open Go.Lk Go.Pe
abbrev TH:=q04
def q02.sz (f:q02):Nat:=f.zg.length+kys f.zf+1
def q04.sz (t:TH):Nat:=t.gId.length+t.zc.length+t.z2c.length+(t.za.map (·.sz)).sum+1
def z1o (t:TH):Prop:=t.sz<1000000000
theorem z9d {α:Type} {g:α→Nat}:∀ {l:List α} {x:α},x∈l→g x≤(l.map g).sum
 | y::l,x,h=>by
  simp only [List.map_cons,List.sum_cons]
  rcases List.mem_cons.1 h with rfl|h
  ·omega
  ·have:=z9d (g:=g) h;omega
theorem z9c {α:Type} {g:α→Nat} (hg:∀ x,1≤g x):∀ l:List α,l.length≤(l.map g).sum
 | []=>by simp
 | x::l=>by
  have:=z9c hg l
  have:=hg x
  simp only [List.map_cons,List.sum_cons,List.length_cons]
  omega
theorem z1o.parts {t:TH} (h:z1o t):t.za.length<1000000000∧t.gId.length<1000000000∧t.z2c.length<1000000000∧∀ f∈t.za,f.zg.length<1000000000∧f.zf.length<1000000000∧∀ v∈f.zf,v.length<1000000000:=by
 unfold z1o q04.sz at h
 have h1:=z9c (g:=fun f:q02=>f.sz) (fun f=>by unfold q02.sz;omega) t.za
 refine ⟨by omega,by omega,by omega,fun f hf => ?_⟩
 have h2:=z9d (g:=fun f:q02=>f.sz) hf
 have e2:f.sz=f.zg.length+kys f.zf+1:=rfl
 simp only [e2] at h2
 have h3:=z5b f.zf
 refine ⟨by omega,by omega,fun v hv => ?_⟩
 have:=zed hv
 omega
def zfe (t:TH) (n:List UInt8):List (List UInt8):=if n=[105,100] then [t.gId] else if n=[116,97,103] then [t.z2c] else match t.za.find? (fun f=>decide (f.zg=n)) with
 | some f=>f.zf
 | none=>[]
theorem z7m {α:Type} (p:α→Bool):∀ l:List α,l.find? p=(l.findIdx? p).bind fun i=>l[i]?
 | []=>rfl
 | x::l=>by
  rw [List.find?_cons,List.findIdx?_cons]
  cases h:p x with
  | true=>simp
  | false =>
   simp only [yd,if_false]
   rw [z7m p l]
   cases l.findIdx? p<;>simp
theorem zcz {α:Type} {p:α→Bool} {l:List α} {i:Nat} (h:l.findIdx? p=some i):∃ hi:i<l.length,p l[i]=true:=by
 rw [List.findIdx?_eq_some_iff_getElem] at h
 obtain ⟨h1,h2,_⟩:=h
 exact ⟨h1,h2⟩
theorem zcj {t:TH} {n:List UInt8} (hl:t.za.length<1000000000):M.q2g t n=some (zfe t n):=by
 unfold M.q2g zfe
 by_cases h1:n=[105,100]
 ·simp [h1]
 ·by_cases h2:n=[116,97,103]
  ·simp [h2]
  ·have hk:M.zq t.za n 0=some (match t.za.findIdx? (fun f=>decide (f.zg=n)) with|some i => .done (i:Int)|none => .go ()):=by
    refine z9a (fun i:Nat=>(i:Int)) () (by omega) (fun i h => ?_) ?_
    ·rw [M.zq]
     simp [show ((i:Int)<(t.za.length:Int)) by omega,z3d,h,M.q2h]
    ·rw [M.zq]
     simp
   unfold M.q3u
   rw [hk,z7m]
   simp only [h1,h2,decide_false,yd,if_false]
   cases h:t.za.findIdx? (fun f=>decide (f.zg=n)) with
   | none=>simp
   | some i =>
    obtain ⟨hi,_⟩:=zcz h
    simp [z3d,hi]
theorem z8r {t:TH} {n:List UInt8} (hl:t.za.length<1000000000):M.q36 t n=some (zfe t n):=by
 unfold M.q36 zfe
 by_cases h1:n=[105,100]
 ·simp [h1]
 ·by_cases h2:n=[116,97,103]
  ·simp [h2]
  ·have hk:M.z29 t n 0=some (match t.za.findIdx? (fun f=>decide (f.zg=n)) with|some i => .done ((t.za[i]?.map (·.zf)).getD [])|none => .go ()):=by
    refine z9a (l:=t.za) (p:=fun f=>decide (f.zg=n)) (fun i:Nat=>(t.za[i]?.map (·.zf)).getD []) () (by omega) (fun i h => ?_) ?_
    ·rw [M.z29]
     simp [show ((i:Int)<(t.za.length:Int)) by omega,z3d,h]
    ·rw [M.z29]
     simp
   rw [hk,z7m]
   simp only [h1,h2,decide_false,yd,if_false]
   cases h:t.za.findIdx? (fun f=>decide (f.zg=n)) with
   | none=>simp
   | some i =>
    obtain ⟨hi,_⟩:=zcz h
    simp [hi]
def fits (k:Int) (v w:List UInt8):Bool :=
 if k=3 then !decide (v=[]) else if k=4∨k=5 then decide (v=w) else if k=6 then Lib.contains v w else if k=7 then w.isPrefixOf v else if k=8 then w.isSuffixOf v else
 if k=9 then !(slt v w||decide (v=w)) else if k=10 then !slt v w else if k=11 then slt v w else slt v w||decide (v=w)
theorem zrk {s p:List UInt8} (h:p.length≤s.length):decide (s.drop (s.length - p.length)=p)=p.isSuffixOf s:=by
 rw [Bool.eq_iff_iff,decide_eq_true_iff,yh,List.suffix_iff_eq_drop]
 exact ⟨fun h=>h.symm,fun h=>h.symm⟩
theorem zur {s p:List UInt8} (h:¬p.length≤s.length):p.isSuffixOf s=false:=by
 rw [yc,Ne,yh]
 exact fun hs=>h hs.length_le
theorem zn4 {s p:List UInt8} (hs:s.length<1152921504606846976):(do
  let j_3←(do
   if (decide ((p.length:Int)≤(s.length:Int))) then
    let s_4←sub s (yk .i64 ((s.length:Int) - (p.length:Int))) (s.length:Int)
    some (decide (s_4=p))
   else some false:Option Bool)
  some j_3)=some (p.isSuffixOf s):=by
 by_cases h:p.length≤s.length
 ·have h':(p.length:Int)≤(s.length:Int):=by omega
  have e:yk .i64 ((s.length:Int) - (p.length:Int))=((s.length - p.length:Nat):Int):=by rw [w64]<;>omega
  simp only [h',decide_true,if_true,e,za9 (l:=s) (a:=s.length - p.length) (by omega),ya,yb,zrk h]
 ·have h':¬(p.length:Int)≤(s.length:Int):=by omega
  simp [h',zur h]
theorem z9o {s p:List UInt8} (hs:s.length<1152921504606846976):M.q4e s p=some (p.isSuffixOf s):=by
 have:=zn4 (p:=p) hs
 unfold M.q4e M.q0e
 rw [this]
 rfl
theorem zih {s p:List UInt8} (hs:s.length<1152921504606846976):M.q2w s p=some (p.isSuffixOf s):=zn4 hs
theorem zet (s p:List UInt8):M.q2s s p=some (p.isPrefixOf s):=by
 have:=z1t s p
 unfold M.q4d M.q0d at this
 unfold M.q2s
 revert this
 by_cases h:p.length≤s.length
 ·have h':(p.length:Int)≤(s.length:Int):=by omega
  simp only [h',decide_true,if_true,zit h,ya,yb]
  exact id
 ·have h':¬(p.length:Int)≤(s.length:Int):=by omega
  simp [h']
theorem contains_iff {v w:List UInt8}:Lib.contains v w=true↔∃ i,i+w.length≤v.length∧(v.drop i).take w.length=w:=by
 unfold Lib.contains
 rw [decide_eq_true_iff]
 constructor
 ·intro h
  rcases Lib.index_spec v w with ⟨h1,_⟩|⟨i,h1,h2,h3,_⟩
  ·omega
  ·have hr:=Lib.index_room v w h
   refine ⟨i,by omega,?_⟩
   unfold Lib.occAt at h3
   have:=yg.1 h3
   exact (yj.1 this).symm
 ·rintro ⟨i,h1,h2⟩
  rcases Lib.index_spec v w with ⟨_,h3⟩|⟨j,h3,_⟩
  ·have:=h3 i (by omega)
   unfold Lib.occAt at this
   rw [yc] at this
   exact absurd (yg.2 (yj.2 h2.symm)) this
  ·omega
theorem zeu {v w:List UInt8} (hv:v.length<1000000000) (hw:w.length<1000000000):M.q3a v w=some (Lib.contains v w):=by
 have key:∀ (n i:Nat),v.length+1 - i=n→i≤v.length+1→(M.z0y w v (i:Int)=some (.done true)∧∃ j,i≤j∧j+w.length≤v.length∧(v.drop j).take w.length=w)∨(M.z0y w v (i:Int)=some (.go ())∧¬ ∃ j,i≤j∧j+w.length≤v.length∧(v.drop j).take w.length=w):=by
  intro n
  induction n with
  | zero =>
   intro i h1 h2
   rw [M.z0y,zxc (by omega)]
   rw [if_neg (by simp;omega)]
   exact .inr ⟨rfl,by rintro ⟨j,h3,h4,_⟩;omega⟩
  | succ n ih =>
   intro i h1 h2
   rw [M.z0y,zxc (by omega)]
   by_cases hi:i+w.length≤v.length
   ·rw [if_pos (by simp;omega),zrj (by omega) hi]
    have e:(v.take (i+w.length)).drop i=(v.drop i).take w.length:=by rw [List.drop_take];congr 1;omega
    simp only [ya,yb,e]
    by_cases hm:(v.drop i).take w.length=w
    ·rw [if_pos (by simpa using hm)]
     exact .inl ⟨rfl,i,Nat.le_refl _,hi,hm⟩
    ·rw [if_neg (by simpa using hm),w1 (by omega)]
     rcases ih (i+1) (by omega) (by omega) with ⟨h3,j,h4,h5⟩|⟨h3,h4⟩
     ·exact .inl ⟨h3,j,by omega,h5⟩
     ·refine .inr ⟨h3,?_⟩
      rintro ⟨j,h5,h6,h7⟩
      refine h4 ⟨j,?_,h6,h7⟩
      rcases Nat.eq_or_lt_of_le h5 with rfl|h8
      ·exact absurd h7 hm
      ·omega
   ·rw [if_neg (by simp;omega)]
    exact .inr ⟨rfl,by rintro ⟨j,h3,h4,_⟩;omega⟩
 unfold M.q3a
 have hc:=contains_iff (v:=v) (w:=w)
 rcases key _ 0 rfl (Nat.zero_le _) with ⟨h1,j,_,h2⟩|⟨h1,h2⟩
 ·have h1':M.z0y w v 0=some (.done true):=h1
  rw [h1',hc.2 ⟨j,h2⟩]
  rfl
 ·have h1':M.z0y w v 0=some (.go ()):=h1
  have:Lib.contains v w=false:=by
   rw [yc]
   intro h
   obtain ⟨j,h3⟩:=hc.1 h
   exact h2 ⟨j,Nat.zero_le _,h3⟩
  rw [h1',this]
  rfl
theorem zii {k:Int} {v w:List UInt8} (hv:v.length<1000000000) (hw:w.length<1000000000):M.q2x k v w=some (fits k v w):=by
 unfold M.q2x fits
 by_cases h3:k=3
 ·simp [h3]
 by_cases h4:k=4
 ·simp [h4]
 by_cases h5:k=5
 ·simp [h5]
 by_cases h6:k=6
 ·simp [h6,zeu hv hw]
 by_cases h7:k=7
 ·simp [h7,zet]
 by_cases h8:k=8
 ·simp [h8,zih (s:=v) (by omega)]
 by_cases h9:k=9
 ·simp [h9]
 by_cases h10:k=10
 ·simp [h10]
 by_cases h11:k=11
 ·simp [h11]
 simp [h3,h4,h5,h6,h7,h8,h9,h10,h11]
theorem zcc {v w:List UInt8} (hv:v.length<1000000000):M.contains v w=some (Lib.contains v w):=by
 unfold M.contains
 rw [z30 (by simp;omega)]
 rfl
theorem zlb {e:EX} (h1:3<e.zc) (h2:e.zc<13):∃ c:q06,(do let a←M.q1g;ix a (yk .i64 (e.zc - 4)))=some c∧∀ v:List UInt8,v.length<1000000000→M.q1v v c.zl8 e=some (fits e.zc v e.z07):=by
 have:e.zc=4∨e.zc=5∨e.zc=6∨e.zc=7∨e.zc=8∨e.zc=9∨e.zc=10∨e.zc=11∨e.zc=12:=by omega
 rcases this with h|h|h|h|h|h|h|h|h<;>rw [h]<;>refine ⟨_,rfl,fun v hv => ?_⟩ <;>
  simp [M.q1v,M.q08,fits,M.q1h,M.q1i,M.q1j,M.q1k,M.q1l,zcc hv,z1t,z9o (s:=v) (by omega),F.q1h,F.strings_Contains,F.q4d,F.q4e,F.q1i,F.q1j,F.q1k,F.q1l]
mutual
def hdE (t:TH):EX→Bool
 | ⟨k,n,v,l⟩=>if k=0 then (ztl t l).all id else if k=1 then (ztl t l).any id else if k=2 then !((ztl t l).head?.getD false) else if k=3 then (zfe t n).any (fun x => !decide (x=[])) else !((zfe t n).any (fun x=>fits k x v)==decide (k=5))
def ztl (t:TH):List EX→List Bool
 | []=>[]
 | x::xs=>hdE t x::ztl t xs
end
theorem zjm (t:TH):∀ l,ztl t l=l.map (hdE t)
 | []=>by simp [ztl]
 | x::l=>by simp [ztl,zjm t l]
theorem zsb (t:TH) (e:EX):hdE t e=if e.zc=0 then e.zh.all (hdE t) else if e.zc=1 then e.zh.any (hdE t) else if e.zc=2 then !((e.zh.map (hdE t)).head?.getD false) else if e.zc=3 then (zfe t e.zg).any (fun x => !decide (x=[])) else !((zfe t e.zg).any (fun x=>fits e.zc x e.z07)==decide (e.zc=5)):=by
 cases e
 simp [hdE,zjm,List.all_map,List.any_map,Function.comp_def]
theorem zdl {t:TH} (ht:z1o t) (n:List UInt8):(zfe t n).length<1000000000∧∀ v∈zfe t n,v.length<1000000000:=by
 obtain ⟨h1,h2,h3,h4⟩:=ht.parts
 unfold zfe
 split
 ·exact ⟨by simp,fun v hv=>by rw [yi] at hv;rw [hv];exact h2⟩
 ·split
  ·exact ⟨by simp,fun v hv=>by rw [yi] at hv;rw [hv];exact h3⟩
  ·split
   ·rename_i f hf
    exact (h4 f (List.mem_of_find?_eq_some hf)).2
   ·simp
theorem ztn {l:List (List UInt8)} (hl:l.length<1000000000):M.q3k l=some (l.any fun x => !decide (x=[])):=by
 have hk:M.zx l 0=some (match l.findIdx? (fun x => !decide (x=[])) with|some i => .done (i:Int)|none => .go ()):=by
  refine z9a (fun i:Nat=>(i:Int)) () (by omega) (fun i h => ?_) ?_
  ·rw [M.zx]
   simp [show ((i:Int)<(l.length:Int)) by omega,z3d,h,M.q1u]
  ·rw [M.zx]
   simp
 unfold M.q3k M.q3z
 rw [hk]
 rcases z2l l (fun x => !decide (x=[])) with ⟨h1,h2⟩|⟨i,h1,h2⟩
 ·rw [h1,h2];rfl
 ·rw [h1,h2];simp
theorem zto {l:List (List UInt8)} {e:EX} {c:Nat} (hl:l.length<1000000000) (hs:∀ v∈l,M.q1v v c e=some (fits e.zc v e.z07)):M.q3l l c e=some (l.any fun x=>fits e.zc x e.z07):=by
 have hk:M.zy l c e 0=some (match l.findIdx? (fun x=>fits e.zc x e.z07) with|some i => .done (i:Int)|none => .go ()):=by
  refine z9a (fun i:Nat=>(i:Int)) () (by omega) (fun i h => ?_) ?_
  ·rw [M.zy]
   simp only [show ((i:Int)<(l.length:Int)) by omega,decide_true,if_true,z3d,ye h,ya,yb,hs _ (yf h)]
  ·rw [M.zy]
   simp
 unfold M.q3l M.q41
 rw [hk]
 rcases z2l l (fun x=>fits e.zc x e.z07) with ⟨h1,h2⟩|⟨i,h1,h2⟩
 ·rw [h1,h2];rfl
 ·rw [h1,h2];simp
theorem z3v {t:TH} (ht:z1o t):∀ (f:Nat) (e:EX),4*e.sz≤f→z16 e→fm e=true→M.q1r f e t=some (hdE t e)
 | 0,e,hf,_,_=>by have:=e.z2a;omega
 | f+1,e,hf,hs,hfm=>by
  have hz:=e.z2a
  have hs':=hs
  unfold z16 at hs'
  have hlen:=z4g e.zh
  have hkk:=zb1 hfm
  have hv:=zdl ht e.zg
  have hval:=zcj (t:=t) (n:=e.zg) ht.parts.1
  have h2:∀ g,4*ezs e.zh+1≤g→g≤f→∀ x∈e.zh,M.q1t g x t=some (!hdE t x,t):=fun g hg hgf x hx=>by
   have hm:=z36 hx
   match g,hg,hgf with
   | g+1,hg,hgf =>
    unfold M.q1t
    rw [z3v ht g x (by omega) (hs.mem hx) (zd2 hfm hx)]
    rfl
  have h1:∀ g,4*ezs e.zh+1≤g→g≤f→∀ x∈e.zh,M.q1s g x t=some (hdE t x,t):=fun g hg hgf x hx=>by
   have hm:=z36 hx
   match g,hg,hgf with
   | g+1,hg,hgf =>
    unfold M.q1s
    rw [z3v ht g x (by omega) (hs.mem hx) (zd2 hfm hx)]
    rfl
  unfold M.q1r
  rw [zsb]
  by_cases k0:e.zc=0
  ·have:M.q3h f e.zh t=some (e.zh.any (fun x => !hdE t x),t):=by
    match f,hf with
    | g+2,hf =>
     have hk:M.zl e.zh (M.q1t g) 0 t.gId t.zc t.z2c t.za=some (match e.zh.findIdx? (fun x => !hdE t x) with|some i => .done ((i:Int),t)|none => .go (t.gId,t.zc,t.z2c,t.za)):=by
      refine z9a (F:=fun i=>M.zl e.zh (M.q1t g) i t.gId t.zc t.z2c t.za) (fun i:Nat=>((i:Int),t)) (t.gId,t.zc,t.z2c,t.za) (by omega) (fun i h => ?_) ?_
      ·show M.zl e.zh (M.q1t g) i t.gId t.zc t.z2c t.za=_
       rw [M.zl]
       simp only [show ((i:Int)<(e.zh.length:Int)) by omega,decide_true,if_true,z3d,ye h,ya,yb,show (q04.mk t.gId t.zc t.z2c t.za)=t from rfl,h2 g (by omega) (by omega) _ (yf h)]
      ·show M.zl e.zh (M.q1t g) _ t.gId t.zc t.z2c t.za=_
       rw [M.zl]
       simp
     unfold M.q3h M.q3t
     rw [hk]
     rcases z2l e.zh (fun x => !hdE t x) with ⟨h1,h2⟩|⟨i,h1,h2⟩
     ·rw [h1,h2];rfl
     ·rw [h1,h2];simp
    | 0,hf=>omega
    | 1,hf=>omega
   simp only [k0,decide_true,if_true,this,ya,yb]
   rw [List.all_eq_not_any_not]
  by_cases k1:e.zc=1
  ·have:M.q3g f e.zh t=some (e.zh.any (fun x=>hdE t x),t):=by
    match f,hf with
    | g+2,hf =>
     have hk:M.zk e.zh (M.q1s g) 0 t.gId t.zc t.z2c t.za=some (match e.zh.findIdx? (fun x=>hdE t x) with|some i => .done ((i:Int),t)|none => .go (t.gId,t.zc,t.z2c,t.za)):=by
      refine z9a (F:=fun i=>M.zk e.zh (M.q1s g) i t.gId t.zc t.z2c t.za) (fun i:Nat=>((i:Int),t)) (t.gId,t.zc,t.z2c,t.za) (by omega) (fun i h => ?_) ?_
      ·show M.zk e.zh (M.q1s g) i t.gId t.zc t.z2c t.za=_
       rw [M.zk]
       simp only [show ((i:Int)<(e.zh.length:Int)) by omega,decide_true,if_true,z3d,ye h,ya,yb,show (q04.mk t.gId t.zc t.z2c t.za)=t from rfl,h1 g (by omega) (by omega) _ (yf h)]
      ·show M.zk e.zh (M.q1s g) _ t.gId t.zc t.z2c t.za=_
       rw [M.zk]
       simp
     unfold M.q3g M.q3s
     rw [hk]
     rcases z2l e.zh (fun x=>hdE t x) with ⟨h1,h2⟩|⟨i,h1,h2⟩
     ·rw [h1,h2];rfl
     ·rw [h1,h2];simp
    | 0,hf=>omega
    | 1,hf=>omega
   simp only [k0,k1,decide_true,decide_false,yd,if_false,if_true,this,ya,yb,show ((1:Int)=0)=False from by decide]
  by_cases k2:e.zc=2
  ·obtain ⟨x,hx,_,_,_⟩:=zg4 hfm k2
   have hxm:x∈e.zh:=by rw [hx];exact yi.2 rfl
   have hm:=z36 hxm
   have:=x.z2a
   simp only [k2,decide_true,if_true,hx,zjp,List.getElem?_cons_zero,ya,yb,h2 f (by omega) (Nat.le_refl _) x hxm]
   simp
  by_cases k3:e.zc=3
  ·simp only [k3,decide_true,if_true,hval,ya,yb,ztn hv.1]
   simp
  ·obtain ⟨c,hc1,hc2⟩:=zlb (e:=e) (by omega) hkk.2
   simp only [k0,k1,k2,k3,decide_false,yd,if_false,ya,hval]
   have hc1':(M.q1g.bind fun a=>(ix a (yk .i64 (e.zc - 4))).bind fun x=>some x.zl8)=some c.zl8:=by
    rw [←Option.bind_assoc]
    have:(M.q1g.bind fun a=>ix a (yk .i64 (e.zc - 4)))=some c:=hc1
    rw [this];rfl
   rw [hc1']
   simp only [yb,zto hv.1 (fun v hvm=>hc2 v (hv.2 v hvm))]
termination_by f=>f
decreasing_by all_goals omega
theorem z61 {t:TH} (ht:z1o t):∀ (f:Nat) (e:EX),e.sz≤f→z16 e→fm e=true→M.q2n f e t=some (hdE t e)
 | 0,e,hf,_,_=>by have:=e.z2a;omega
 | f+1,e,hf,hs,hfm=>by
  have hz:=e.z2a
  have hs':=hs
  unfold z16 at hs'
  have hlen:=z4g e.zh
  have hkk:=zb1 hfm
  have hv:=zdl ht e.zg
  have hval:=z8r (t:=t) (n:=e.zg) ht.parts.1
  have hself:∀ x∈e.zh,M.q2n f x t=some (hdE t x):=fun x hx=>z61 ht f x (by have:=z36 hx;omega) (hs.mem hx) (zd2 hfm hx)
  unfold M.q2n
  rw [zsb]
  by_cases k01:e.zc=0∨e.zc=1
  ·have h0:(if (decide (e.zc=0))=true then some (decide (e.zc=0)) else some (decide (e.zc=1)):Option Bool)=some true:=by
    rcases k01 with h|h<;>rw [h]<;>rfl
   have hk:M.z2i e (M.q2n f) t 0=some (match e.zh.findIdx? (fun x=>hdE t x==decide (e.zc=1)) with|some i => .done (.done (decide (e.zc=1)))|none => .go ()):=by
    refine z9a (l:=e.zh) (p:=fun x=>hdE t x==decide (e.zc=1)) (fun _=>(.done (decide (e.zc=1)):Jn Bool Unit)) () (by omega) (fun i h => ?_) ?_
    ·rw [M.z2i]
     simp only [show ((i:Int)<(e.zh.length:Int)) by omega,decide_true,if_true,z3d,ye h,ya,yb,hself _ (yf h)]
    ·rw [M.z2i]
     simp
   rw [h0]
   simp only [ya,yb,if_true,hk]
   rcases k01 with h|h
   ·rw [h]
    have e1:(fun x=>hdE t x==decide ((0:Int)=1))=fun x => !hdE t x:=by funext x;simp
    rw [e1]
    rcases z3i e.zh (hdE t) with ⟨h1,h2⟩|⟨i,h1,h2⟩
    ·rw [h1];simp only [if_true,h2];rfl
    ·rw [h1];simp only [if_true,h2];rfl
   ·rw [h]
    have e1:(fun x=>hdE t x==decide ((1:Int)=1))=hdE t:=by funext x;simp
    rw [e1]
    rcases z2l e.zh (hdE t) with ⟨h1,h2⟩|⟨i,h1,h2⟩
    ·rw [h1];simp only [show ((1:Int)=0)=False from by decide,if_false,if_true,h2];rfl
    ·rw [h1];simp only [show ((1:Int)=0)=False from by decide,if_false,if_true,h2];rfl
  ·have k0:¬e.zc=0:=by omega
   have k1:¬e.zc=1:=by omega
   by_cases k2:e.zc=2
   ·obtain ⟨x,hx,_,_,_⟩:=zg4 hfm k2
    have hxm:x∈e.zh:=by rw [hx];exact yi.2 rfl
    simp [k2,hx,zjp,hself x hxm]
   ·have hk:M.z2j (zfe t e.zg) e 0=some (match (zfe t e.zg).findIdx? (fun x=>fits e.zc x e.z07) with|some i => .done (!decide (e.zc=5))|none => .go ()):=by
     refine z9a (fun _=>(!decide (e.zc=5))) () (by omega) (fun i h => ?_) ?_
     ·rw [M.z2j]
      simp only [show ((i:Int)<((zfe t e.zg).length:Int)) by omega,decide_true,if_true,z3d,ye h,ya,yb,zii (hv.2 _ (yf h)) (by omega:e.z07.length<1000000000)]
     ·rw [M.z2j]
      simp
    simp only [k0,k1,k2,decide_false,yd,if_false,ya,yb,hval,hk]
    by_cases k3:e.zc=3
    ·have hf3:(fun x=>fits e.zc x e.z07)=fun x:List UInt8 => !decide (x=[]):=by funext x;simp [fits,k3]
     rw [hf3,if_pos k3]
     rcases z2l (zfe t e.zg) (fun x => !decide (x=[])) with ⟨h1,h2⟩|⟨i,h1,h2⟩
     ·rw [h1,h2,k3];rfl
     ·rw [h1,h2,k3];rfl
    ·rw [if_neg k3]
     rcases z2l (zfe t e.zg) (fun x=>fits e.zc x e.z07) with ⟨h1,h2⟩|⟨i,h1,h2⟩
     ·rw [h1,h2];cases decide (e.zc=5)<;>rfl
     ·rw [h1,h2];cases decide (e.zc=5)<;>rfl
def mat (e:EX) (t:TH):Bool:=decide (zfa e=0)&&hdE t e
theorem zeo {e:EX} {t:TH} {f:Nat} (hf:4*e.sz+17≤f) (hs:z16 e) (ht:z1o t):M.q18 f e t=some (mat e t):=by
 unfold M.q18 mat
 rw [z5e hf hs]
 by_cases h:zfa e=0
 ·simp [h,z3v ht f e (by omega) hs (zmv h).1]
 ·simp [h]
end Go.Sen
end
