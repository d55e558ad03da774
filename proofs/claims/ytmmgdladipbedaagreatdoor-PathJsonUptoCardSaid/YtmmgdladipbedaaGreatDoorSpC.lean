import Derived.Test.YtmmgdladipbedaaGreatDoorSpB
set_option linter.all false
namespace Go.Sen
open Go.Lk Go.Pe
theorem zyt:∀ e:EX,dp e≤e.sz:=by
 have key:(∀ e:EX,dp e≤e.sz):=by
  intro e
  induction h:e.sz using Nat.strongRecOn generalizing e with
  | ind n ih =>
   subst h
   have hz:=e.z1m
   rw [za7]
   split
   ·omega
   ·have:∀ l:List EX,(∀ x∈l,x.sz<e.sz)→dpL e.za l≤ezs l+1:=by
     intro l
     induction l with
     | nil=>intro _;simp [dpL]
     | cons x l ih2 =>
      intro hl
      have h1:=ih x.sz (hl x List.mem_cons_self) x rfl
      have h2:=ih2 fun y hy=>hl y (List.mem_cons_of_mem _ hy)
      simp only [dpL,ezs]
      have h3:=x.z1m
      split<;>omega
    have h:=this e.zf fun x hx=>by have:=z2k hx;omega
    omega
 exact key
theorem zby (a b:Nat):zqf (a:Int) (b:Int)=((max a b:Nat):Int):=by
 unfold zqf
 split<;>omega
theorem zxt {e:EX} {self:EX→Option (List UInt8 × Int)} (hs:z0l e) (hself:∀ x∈e.zf,self x=some (tx x,(dp x:Int))):∀ (n i:Nat) (acc:List (List UInt8)) (d:Nat),e.zf.length - i=n→i≤e.zf.length→acc.length≤i →
  M.z2d e self acc (d:Int) (i:Int)=some (acc++txL e.za (e.zf.drop i),((max d (dpL e.za (e.zf.drop i)):Nat):Int)):=by
 have hz:=e.z1m
 have hlen:=z4v e.zf
 unfold z0l at hs
 intro n
 induction n with
 | zero =>
  intro i acc d h1 h2 h3
  have:i=e.zf.length:=by omega
  subst this
  rw [M.z2d]
  simp [txL,dpL]
 | succ n ih =>
  intro i acc d h1 h2 h3
  have hi:i<e.zf.length:=by omega
  have hm:=List.getElem_mem hi
  have hx:=z2k hm
  have hxl:=zfi e.zf[i]
  have hdl:=zyt e.zf[i]
  have hb:(((decide (e.za=2))||(decide (e.zf[i].za=1)))||((decide (e.zf[i].za=0))&&(decide (e.za=0))))=bra e.za e.zf[i]:=rfl
  rw [M.z2d]
  simp only [show ((i:Int)<(e.zf.length:Int)) by omega,decide_true,if_true,z4a,List.getElem?_eq_getElem hi,Option.bind_eq_bind,Option.bind_some,hself _ hm,hb]
  rw [z1y hi]
  simp only [txL,dpL]
  cases hbr:bra e.za e.zf[i] with
  | true =>
   simp only [if_true]
   rw [z2a (by simp only [List.length_cons,List.length_nil];omega)]
   simp only [Option.bind_some]
   rw [z2a (by simp only [List.length_cons,List.length_nil,List.length_append];omega)]
   simp only [Option.bind_some]
   rw [z3g (by simp only [List.length_cons,List.length_nil];omega)]
   simp only [Option.bind_some]
   rw [w1 (by omega),w1 (by omega),zby,ih (i+1) _ _ (by omega) (by omega) (by simp;omega)]
   simp only [List.append_assoc,List.cons_append,List.nil_append,Nat.max_assoc]
  | false =>
   simp only [Bool.false_eq_true,if_false,Option.bind_some]
   rw [z3g (by simp only [List.length_cons,List.length_nil];omega)]
   simp only [Option.bind_some]
   rw [w1 (by omega),zby,ih (i+1) _ _ (by omega) (by omega) (by simp;omega)]
   simp only [List.append_assoc,List.cons_append,List.nil_append,Nat.max_assoc,Nat.add_zero]
theorem zod {v:List UInt8} (h:z2n v=true) {f:Nat} (hf:17≤f):M.q0l f ⟨4,v,[],[]⟩=some (qt v,0):=by
 unfold z2n at h
 simp only [Bool.and_eq_true,decide_eq_true_eq] at h
 have hq:=zbg v
 rw [z9i hf (by unfold Small;simp [q03.sz,szs,kys];omega)]
 have h1:z3t ⟨4,v,[],[]⟩ 0=0:=by simp [z3t,frm,h.2,z6q]
 have h2:prJ ⟨4,v,[],[]⟩=qt v:=by simp [prJ]
 unfold print
 rw [if_pos h1,h2,if_neg (by omega)]
theorem zz00e {k:Int} (h1:3<k) (h2:k<13):∃ c:q06,(do let a←M.q1s;ix a (IntKind.wrap .i64 (k - 4)))=some c∧c.z4z=wrd k:=by
 have:k=4∨k=5∨k=6∨k=7∨k=8∨k=9∨k=10∨k=11∨k=12:=by omega
 rcases this with rfl|rfl|rfl|rfl|rfl|rfl|rfl|rfl|rfl<;>exact ⟨_,rfl,rfl⟩
theorem z6x {e:EX} (h:fm e=true):0≤e.za∧e.za<13:=by
 rw [zaa] at h
 simp only [Bool.and_eq_true] at h
 have h1:=h.1
 unfold fm0 at h1
 split at h1
 ·omega
 ·split at h1
  ·omega
  ·simp only [Bool.and_eq_true,decide_eq_true_eq] at h1;omega
theorem z8n {e:EX} (h:fm e=true) (hk:2<e.za):e.zf=[]∧isName e.zg=true∧z2n e.z04=true∧(e.za=3→e.z04=[]):=by
 rw [zaa] at h
 simp only [Bool.and_eq_true] at h
 have h1:=h.1
 unfold fm0 at h1
 rw [if_neg (by omega),if_neg (by omega)] at h1
 simp only [Bool.and_eq_true,decide_eq_true_eq,Bool.or_eq_true,Bool.not_eq_true',decide_eq_false_iff_not] at h1
 obtain ⟨⟨⟨⟨_,h2⟩,h3⟩,h4⟩,h5⟩:=h1
 exact ⟨List.eq_nil_of_length_eq_zero h2,h3,h4,fun hk=>h5.resolve_left fun hn=>hn hk⟩
theorem zex {e:EX} (h:fm e=true) (hk:e.za=2):∃ x,e.zf=[x]∧e.zg=[]∧e.z04=[]∧fm x=true:=by
 rw [zaa] at h
 simp only [Bool.and_eq_true,Bool.or_eq_true,decide_eq_true_eq] at h
 have h1:=h.1
 unfold fm0 at h1
 rw [if_neg (by omega),if_pos hk] at h1
 simp only [Bool.and_eq_true,decide_eq_true_eq] at h1
 obtain ⟨x,hx⟩:=List.length_eq_one_iff.1 h1.1.1
 have h2:=h.2.resolve_left (by omega)
 rw [hx] at h2
 simp only [fmL,Bool.and_true] at h2
 exact ⟨x,hx,h1.1.2,h1.2,h2⟩
theorem zpm {e:EX} (h:fm e=true) (hk:e.za=0∨e.za=1):2≤e.zf.length∧e.zg=[]∧e.z04=[]∧∀ x∈e.zf,fm x=true:=by
 rw [zaa] at h
 simp only [Bool.and_eq_true,Bool.or_eq_true,decide_eq_true_eq] at h
 have h1:=h.1
 unfold fm0 at h1
 rw [if_pos hk] at h1
 simp only [Bool.and_eq_true,decide_eq_true_eq] at h1
 have h2:=h.2.resolve_left (by omega)
 rw [zcp,List.all_eq_true] at h2
 exact ⟨h1.1.1,h1.1.2,h1.2,h2⟩
theorem zcq {e x:EX} (h:fm e=true) (hx:x∈e.zf):fm x=true:=by
 by_cases h2:2<e.za
 ·rw [(z8n h h2).1] at hx;cases hx
 ·have hk:=z6x h
  by_cases h3:e.za=2
  ·obtain ⟨y,hy,_,_,h4⟩:=zex h h3
   rw [hy,List.mem_singleton] at hx
   rw [hx];exact h4
  ·exact (zpm h (by omega)).2.2.2 x hx
theorem z7a:∀ (f:Nat) (e:EX),e.sz+17≤f→z0l e→fm e=true→M.q2u f e=some (tx e,(dp e:Int))
 | 0,e,hf,_,_=>by omega
 | f+1,e,hf,hs,hfm=>by
  have hz:=e.z1m
  have hs':=hs
  unfold z0l at hs'
  have hk:=z6x hfm
  unfold M.q2u
  by_cases h3:e.za=3
  ·simp only [h3,decide_true,if_true]
   rw [z2a (by simp only [List.length_cons,List.length_nil];omega),zav e,za7 e,if_pos h3,if_pos (by omega)]
   rfl
  ·simp only [h3,decide_false,Bool.false_eq_true,if_false]
   by_cases h4:3<e.za
   ·obtain ⟨h5,h6,h7,_⟩:=z8n hfm (by omega)
    obtain ⟨c,hc1,hc2⟩:=zz00e h4 hk.2
    have hq:=zbg e.z04
    have hw:=zl6 e.za
    simp only [h4,decide_true,if_true,zod h7 (f:=f) (by omega),Option.bind_eq_bind,Option.bind_some]
    rw [z2a (by simp only [List.length_cons,List.length_nil];omega)]
    simp only [Option.bind_some]
    have hc1':(M.q1s.bind fun a=>(ix a (IntKind.wrap .i64 (e.za - 4))).bind fun x=>(cat (e.zg++[32]) x.z4z).bind fun s=>(cat s [32]).bind fun s=>(cat s (qt e.z04)).bind fun s=>some (s,(0:Int))) =
      ((do let a←M.q1s;ix a (IntKind.wrap .i64 (e.za - 4))):Option q06).bind fun x=>(cat (e.zg++[32]) x.z4z).bind fun s=>(cat s [32]).bind fun s=>(cat s (qt e.z04)).bind fun s=>some (s,(0:Int)):=by
     simp [Option.bind_assoc]
    rw [hc1',hc1]
    simp only [Option.bind_some,hc2]
    rw [z2a (by simp only [List.length_cons,List.length_nil,List.length_append];omega)]
    simp only [Option.bind_some]
    rw [z2a (by simp only [List.length_cons,List.length_nil,List.length_append];omega)]
    simp only [Option.bind_some]
    rw [z2a (by simp only [List.length_cons,List.length_nil,List.length_append];omega)]
    rw [zav e,za7 e,if_neg h3,if_pos h4,if_pos (by omega)]
    rfl
   ·have hk1:=zxt (self:=M.q2u f) hs (fun x hx=>z7a f x (by have:=z2k hx;omega) (hs.mem hx) (zcq hfm hx)) _ 0 [] 0 rfl (Nat.zero_le _) (Nat.le_refl _)
    simp only [List.drop_zero,List.nil_append,Nat.zero_max] at hk1
    simp only [h4,decide_false,Bool.false_eq_true,if_false,Option.bind_eq_bind]
    have hk1':M.z2d e (M.q2u f) [] 0 0=some (txL e.za e.zf,(dpL e.za e.zf:Int)):=hk1
    rw [hk1']
    have ht:=zfi e
    rw [zav e,za7 e,if_neg (by omega:¬2<e.za)]
    rw [zav e,if_neg h3,if_neg h4] at ht
    rw [if_neg h3,if_neg h4]
    by_cases h2:e.za=2
    ·obtain ⟨x,hx,_,_,_⟩:=zex hfm h2
     rw [if_pos h2] at ht ⊢
     simp only [h2,hx,txL,List.head?_cons,Option.getD_some,List.length_append,List.length_cons,List.length_nil] at ht
     simp only [h2,decide_true,if_true,hx,txL,List.head?_cons,Option.getD_some,Option.bind_some,znq,List.getElem?_cons_zero]
     rw [z2a (by simp only [List.length_cons,List.length_nil];omega)]
     rfl
    ·have h01:e.za=0∨e.za=1:=by omega
     rw [if_neg h2] at ht ⊢
     have hsep:ix [([32,97,110,100,32]:List UInt8),([32,111,114,32]:List UInt8)] e.za=some (sep e.za):=by
      rcases h01 with h|h<;>rw [h]<;>rfl
     have hll:(txL e.za e.zf).length=e.zf.length:=by rw [z90];simp
     have hlen:=z4v e.zf
     simp only [h2,decide_false,Bool.false_eq_true,if_false,Option.bind_some,hsep]
     unfold M.join
     rw [z3i (by simp only [Bool.and_eq_true,decide_eq_true_eq];omega)]
     rfl
theorem zdl:∀ (f:Nat) (e:EX),e.sz≤f→z0l e→fm e=true→M.q44 f e=some (dp e:Int)
 | 0,e,hf,_,_=>by have:=e.z1m;omega
 | f+1,e,hf,hs,hfm=>by
  have hz:=e.z1m
  have hs':=hs
  unfold z0l at hs'
  have hlen:=z4v e.zf
  have hk:∀ (n i d:Nat),e.zf.length - i=n→i≤e.zf.length→M.z2h e (M.q44 f) (d:Int) (i:Int)=some ((max d (dpL e.za (e.zf.drop i)):Nat):Int):=by
   intro n
   induction n with
   | zero =>
    intro i d h1 h2
    have:i=e.zf.length:=by omega
    subst this
    rw [M.z2h]
    simp [dpL]
   | succ n ih =>
    intro i d h1 h2
    have hi:i<e.zf.length:=by omega
    have hm:=List.getElem_mem hi
    have hx:=z2k hm
    have hdl:=zyt e.zf[i]
    have hb:M.q42 e.zf[i] e=some (bra e.za e.zf[i]):=rfl
    rw [M.z2h]
    simp only [show ((i:Int)<(e.zf.length:Int)) by omega,decide_true,if_true,z4a,List.getElem?_eq_getElem hi,Option.bind_eq_bind,Option.bind_some,zdl f _ (by omega) (hs.mem hm) (zcq hfm hm),hb]
    rw [z1y hi]
    simp only [dpL]
    cases hbr:bra e.za e.zf[i] with
    | true =>
     simp only [if_true]
     rw [w1 (by omega),w1 (by omega),zby,ih (i+1) _ (by omega) (by omega),Nat.max_assoc]
    | false =>
     simp only [Bool.false_eq_true,if_false,Nat.add_zero]
     rw [w1 (by omega),zby,ih (i+1) _ (by omega) (by omega),Nat.max_assoc]
  unfold M.q44
  have:=hk _ 0 0 rfl (Nat.zero_le _)
  simp only [List.drop_zero,Nat.zero_max] at this
  have h0:M.z2h e (M.q44 f) 0 0=some (dpL e.za e.zf:Int):=this
  simp only [h0,Option.bind_eq_bind,Option.bind_some]
  rw [za7]
  split
  ·rename_i h2
   rw [(z8n hfm h2).1]
   rfl
  ·rfl
/-- May it be? -/
def z6n (e:EX):Int:=if fm e=false then 194 else if 16<dp e then 193 else 0
theorem z2v {e:EX} {f:Nat} (hf:4*e.sz+17≤f) (hs:z0l e):M.q1f f e=some (z6n e):=by
 unfold M.q1f z6n
 rw [z74 f e (by omega) hs]
 cases h:fm e with
 | false=>rfl
 | true =>
  simp only [Option.bind_eq_bind,Option.bind_some,Bool.not_true,Bool.false_eq_true,if_false,z7a f e (by omega) hs h]
  by_cases hd:16<dp e
  ·have:(16:Int)<(dp e:Int):=by omega
   simp [hd,this]
  ·have:¬(16:Int)<(dp e:Int):=by omega
   simp [hd,this]
theorem z7b {e:EX} {f:Nat} (hf:e.sz≤f) (hs:z0l e):M.q3m f e=some (z6n e):=by
 unfold M.q3m z6n
 rw [zdm f e hf hs]
 cases h:fm e with
 | false=>rfl
 | true =>
  simp only [Option.bind_eq_bind,Option.bind_some,Bool.not_true,Bool.false_eq_true,if_false,zdl f e hf hs h]
  by_cases hd:16<dp e
  ·have:(16:Int)<(dp e:Int):=by omega
   simp [hd,this]
  ·have:¬(16:Int)<(dp e:Int):=by omega
   simp [hd,this]
theorem zpz (L:List (List UInt8)) (sp:List UInt8) (i:Nat) (hi:i<L.length):Lib.join (L.take (i+1)) sp=Lib.join (L.take i) sp++(if i=0 then [] else sp)++L[i]:=by
 cases L with
 | nil=>simp at hi
 | cons x L =>
  cases i with
  | zero=>simp [Lib.join_one,Lib.join_nil]
  | succ i =>
   have hi':i<L.length:=by simpa using hi
   simp only [List.take_succ_cons,Lib.join_cons,Lib.joinTail,List.getElem_cons_succ]
   rw [List.take_add_one (l:=L),List.getElem?_eq_getElem hi',if_neg (by omega)]
   simp only [Option.toList_some,List.map_append,List.map_cons,List.map_nil,List.flatten_append,List.flatten_cons,List.flatten_nil,List.append_nil,List.append_assoc]
theorem zdk:∀ (f:Nat) (e:EX),e.sz≤f→z0l e→fm e=true→M.q3y f e=some (tx e)
 | 0,e,hf,_,_=>by have:=e.z1m;omega
 | f+1,e,hf,hs,hfm=>by
  have hz:=e.z1m
  have hs':=hs
  unfold z0l at hs'
  have hlen:=z4v e.zf
  have hkk:=z6x hfm
  have htx:=zfi e
  have hself:∀ x∈e.zf,M.q3y f x=some (tx x):=fun x hx=>zdk f x (by have:=z2k hx;omega) (hs.mem hx) (zcq hfm hx)
  have hL:=zh0 e.za e.zf
  have hjl:∀ i,(Lib.join ((txL e.za e.zf).take i) (sep e.za)).length≤16*ezs e.zf:=fun i=>by
   have h1:=zcx ((txL e.za e.zf).take i) (sep e.za)
   have h2:=zkv e.za
   have h3:∀ (L:List (List UInt8)) (i:Nat),((L.take i).map fun x=>x.length+(sep e.za).length).sum≤(L.map fun x=>x.length+5).sum:=by
    intro L
    induction L with
    | nil=>simp
    | cons x L ih =>
     intro i
     cases i with
     | zero=>simp
     | succ i =>
      have:=ih i
      simp only [List.take_succ_cons,List.map_cons,List.sum_cons]
      omega
   have h4:=h3 (txL e.za e.zf) i
   omega
  have hk:(e.za=0∨e.za=1)→∀ (n i:Nat),e.zf.length - i=n→i≤e.zf.length→M.z1d e (M.q3y f) (Lib.join ((txL e.za e.zf).take i) (sep e.za)) (i:Int)=some (Lib.join (txL e.za e.zf) (sep e.za)):=by
   intro h01 n
   have hll:(txL e.za e.zf).length=e.zf.length:=by rw [z90];simp
   induction n with
   | zero =>
    intro i h1 h2
    have:i=e.zf.length:=by omega
    subst this
    rw [M.z1d]
    simp [←hll]
   | succ n ih =>
    intro i h1 h2
    have hi:i<e.zf.length:=by omega
    have hm:=List.getElem_mem hi
    have hx:=z2k hm
    have hxl:=zfi e.zf[i]
    have hb:M.q42 e.zf[i] e=some (bra e.za e.zf[i]):=rfl
    have hj:=hjl i
    have hLi:(txL e.za e.zf)[i]'(by omega)=txb e.za e.zf[i]:=by simp [z90]
    have hjt:=zpz (txL e.za e.zf) (sep e.za) i (by omega)
    have hih:=ih (i+1) (by omega) (by omega)
    rw [hjt,hLi] at hih
    generalize Lib.join ((txL e.za e.zf).take i) (sep e.za)=J at hj hih ⊢
    have hsl:=zkv e.za
    have hstep:∀ (t:List UInt8),t.length≤16*ezs e.zf+5→(M.q42 e.zf[i] e).bind (fun a=>if a=true then (cat [40] (tx e.zf[i])).bind fun s=>(cat s [41]).bind fun s=>(cat t s).bind fun s=>M.z1d e (M.q3y f) s (IntKind.wrap .i64 ((i:Int)+1)) else (cat t (tx e.zf[i])).bind fun s=>M.z1d e (M.q3y f) s (IntKind.wrap .i64 ((i:Int)+1))) =
      M.z1d e (M.q3y f) (t++txb e.za e.zf[i]) ((i+1:Nat):Int):=fun t ht=>by
     rw [hb,w1 (by omega)]
     simp only [Option.bind_some]
     unfold txb
     cases hbr:bra e.za e.zf[i] with
     | true =>
      simp only [if_true]
      rw [z2a (by simp only [List.length_cons,List.length_nil];omega)]
      simp only [Option.bind_some]
      rw [z2a (by simp only [List.length_cons,List.length_nil,List.length_append];omega)]
      simp only [Option.bind_some]
      rw [z2a (by simp only [List.length_cons,List.length_nil,List.length_append];omega)]
      simp
     | false =>
      simp only [Bool.false_eq_true,if_false]
      rw [z2a (by omega)]
      simp
    rw [M.z1d]
    simp only [show ((i:Int)<(e.zf.length:Int)) by omega,decide_true,if_true,z4a,List.getElem?_eq_getElem hi,Option.bind_eq_bind,Option.bind_some,hself _ hm]
    by_cases hi0:i=0
    ·subst hi0
     simp only [Int.natCast_zero,Int.lt_irrefl,decide_false,Bool.false_and,Bool.false_eq_true,if_false,Option.bind_some]
     have:=hstep J (by omega)
     simp only [Int.natCast_zero] at this
     rw [if_pos rfl,List.append_nil] at hih
     exact this.trans hih
    ·have h0i:(0:Int)<(i:Int):=by omega
     rw [if_neg hi0] at hih
     rcases h01 with h0|h0
     ·have h1':¬e.za=1:=by omega
      simp only [h0i,h0,decide_true,Bool.and_true,if_true]
      rw [z2a (by simp only [List.length_cons,List.length_nil];omega)]
      simp only [Option.bind_some,show decide ((0:Int)=1)=false from rfl,Bool.and_false,Bool.false_eq_true,if_false]
      have:=hstep (J++[32,97,110,100,32]) (by simp only [List.length_append,List.length_cons,List.length_nil];omega)
      rw [show sep e.za=[32,97,110,100,32] by rw [h0];rfl] at hih
      rw [h0] at this hih
      exact this.trans hih
     ·have h1':¬e.za=0:=by omega
      simp only [h0i,h0,show decide ((1:Int)=0)=false from rfl,Bool.and_false,Bool.false_eq_true,if_false,Option.bind_some,decide_true,Bool.and_true,if_true]
      rw [z2a (by simp only [List.length_cons,List.length_nil];omega)]
      simp only [Option.bind_some]
      have:=hstep (J++[32,111,114,32]) (by simp only [List.length_append,List.length_cons,List.length_nil];omega)
      rw [show sep e.za=[32,111,114,32] by rw [h0];rfl] at hih
      rw [h0] at this hih
      exact this.trans hih
  unfold M.q3y
  by_cases h2:e.za=2
  ·obtain ⟨x,hx,_,_,_⟩:=zex hfm h2
   have hxm:x∈e.zf:=by rw [hx];exact List.mem_singleton.2 rfl
   have hxs:=z2k hxm
   have hxl:=zfi x
   have hbx:bra 2 x=true:=rfl
   simp only [h2,decide_true,if_true,hx,znq,List.getElem?_cons_zero,Option.bind_eq_bind,Option.bind_some,hself x hxm]
   rw [z2a (by simp only [List.length_cons,List.length_nil];omega)]
   simp only [Option.bind_some]
   rw [z2a (by simp only [List.length_cons,List.length_nil,List.length_append];omega)]
   rw [zav e,if_neg (by omega),if_neg (by omega),if_pos h2,h2,hx]
   simp [txL,hbx]
  ·simp only [h2,decide_false,Bool.false_eq_true,if_false]
   by_cases h01:e.za=0∨e.za=1
   ·have h0:(if (decide (e.za=0))=true then some (decide (e.za=0)) else some (decide (e.za=1)):Option Bool)=some true:=by
     rcases h01 with h|h<;>rw [h]<;>rfl
    have:=hk h01 _ 0 rfl (Nat.zero_le _)
    simp only [List.take_zero,Lib.join_nil] at this
    have h00:M.z1d e (M.q3y f) [] 0=some (Lib.join (txL e.za e.zf) (sep e.za)):=this
    rw [h0]
    simp only [Option.bind_eq_bind,Option.bind_some,if_true,h00]
    rw [zav e,if_neg (by omega),if_neg (by omega),if_neg h2]
   ·have h0:(if (decide (e.za=0))=true then some (decide (e.za=0)) else some (decide (e.za=1)):Option Bool)=some false:=by
     have h1:¬e.za=0:=by omega
     have h2:¬e.za=1:=by omega
     simp [h1,h2]
    rw [h0]
    simp only [Option.bind_eq_bind,Option.bind_some,Bool.false_eq_true,if_false]
    by_cases h3:e.za=3
    ·simp only [h3,decide_true,if_true]
     rw [z2a (by simp only [List.length_cons,List.length_nil];omega),zav e,if_pos h3]
     rfl
    ·have h4:3<e.za:=by omega
     obtain ⟨h5,h6,h7,_⟩:=z8n hfm (by omega)
     have hq:=zbg e.z04
     have hw:=zl6 e.za
     have hwx:(do let a←M.q4r;ix a (IntKind.wrap .i64 (e.za - 4)))=some (wrd e.za):=by
      have:e.za=4∨e.za=5∨e.za=6∨e.za=7∨e.za=8∨e.za=9∨e.za=10∨e.za=11∨e.za=12:=by omega
      rcases this with h|h|h|h|h|h|h|h|h<;>rw [h]<;>rfl
     simp only [h3,decide_false,Bool.false_eq_true,if_false,Option.bind_some]
     rw [z2a (by simp only [List.length_cons,List.length_nil];omega)]
     simp only [Option.bind_some]
     rw [zav e,if_neg h3,if_pos h4]
     have hw':∀ {β:Type} (g:List UInt8→Option β),(M.q4r.bind fun a=>(ix a (IntKind.wrap .i64 (e.za - 4))).bind g)=g (wrd e.za):=fun g=>by
      rw [←Option.bind_assoc]
      have:(M.q4r.bind fun a=>ix a (IntKind.wrap .i64 (e.za - 4)))=some (wrd e.za):=hwx
      rw [this];rfl
     rw [hw',z2a (by simp only [List.length_cons,List.length_nil,List.length_append];omega)]
     simp only [Option.bind_some]
     rw [z2a (by simp only [List.length_cons,List.length_nil,List.length_append];omega)]
     simp only [Option.bind_some]
     rw [zkm (by omega)]
     simp only [Option.bind_some,zjl]
     rw [z2a (by simp only [List.length_cons,List.length_nil,List.length_append];omega)]
     rfl
def prE (e:EX):List UInt8 × Int:=if z6n e=0 then (if 1024<(tx e).length then ([],191) else (tx e,0)) else ([],z6n e)
theorem za4 {e:EX} (h:z6n e=0):fm e=true∧dp e≤16:=by
 unfold z6n at h
 cases hf:fm e with
 | false=>rw [hf] at h;simp at h
 | true =>
  rw [hf] at h
  simp only [Bool.true_eq_false,if_false] at h
  refine ⟨rfl,?_⟩
  by_cases hd:16<dp e
  ·rw [if_pos hd] at h;cases h
  ·omega
theorem z3n {e:EX} {f:Nat} (hf:4*e.sz+17≤f) (hs:z0l e):M.q1o f e=some (prE e):=by
 unfold M.q1o prE
 rw [z2v hf hs]
 by_cases h:z6n e=0
 ·have hfm:=(za4 h).1
  simp only [h,Option.bind_eq_bind,Option.bind_some,decide_true,Bool.not_true,Bool.false_eq_true,if_false,if_true,z7a f e (by omega) hs hfm]
  by_cases hl:1024<(tx e).length
  ·have:(1024:Int)<((tx e).length:Int):=by omega
   simp [hl,this]
  ·have:¬(1024:Int)<((tx e).length:Int):=by omega
   simp [hl,this]
 ·simp [h]
theorem ziz {e:EX} {f:Nat} (hf:e.sz≤f) (hs:z0l e):M.q3t f e=some (prE e):=by
 unfold M.q3t prE
 rw [z7b hf hs]
 by_cases h:z6n e=0
 ·have hfm:=(za4 h).1
  simp only [h,Option.bind_eq_bind,Option.bind_some,decide_true,Bool.not_true,Bool.false_eq_true,if_false,if_true,zdk f e hf hs hfm]
  by_cases hl:1024<(tx e).length
  ·have:(1024:Int)<((tx e).length:Int):=by omega
   simp [hl,this]
  ·have:¬(1024:Int)<((tx e).length:Int):=by omega
   simp [hl,this]
 ·simp [h]
end Go.Sen
