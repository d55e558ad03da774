import Derived.Test.YtmmgdladipbedaaGreatDoorSnI
set_option linter.all false
namespace Go.Sen
open Go.Lk Go.Pe
theorem zmk (c:UInt8):(qb c=[c]∧¬c.toNat<32∧¬c=34∧¬c=92)∨∃ tl,qb c=92::tl∧∀ r,zoj (92::(tl++r))=some ([c],r):=by
 have two:∀ x:UInt8,zyw x=some c→∀ r,zoj (92::([x]++r))=some ([c],r):=fun x hx r=>by
  simp [zoj,hx]
 by_cases h34:c=34
 ·subst h34;exact .inr ⟨[34],by decide,two 34 (by decide)⟩
 by_cases h92:c=92
 ·subst h92;exact .inr ⟨[92],by decide,two 92 (by decide)⟩
 by_cases h8:c=8
 ·subst h8;exact .inr ⟨[98],by decide,two 98 (by decide)⟩
 by_cases h9:c=9
 ·subst h9;exact .inr ⟨[116],by decide,two 116 (by decide)⟩
 by_cases h10:c=10
 ·subst h10;exact .inr ⟨[110],by decide,two 110 (by decide)⟩
 by_cases h12:c=12
 ·subst h12;exact .inr ⟨[102],by decide,two 102 (by decide)⟩
 by_cases h13:c=13
 ·subst h13;exact .inr ⟨[114],by decide,two 114 (by decide)⟩
 by_cases hl:c.toNat<32
 ·refine .inr ⟨[117,48,48,zok (c.toNat / 16),zok (c.toNat % 16)],?_,fun r => ?_⟩
  ·unfold qb
   simp [h34,h92,h8,h9,h10,h12,h13,hl]
  ·have tab:∀ n:Fin 32,zbn (zok (n.val / 16))=some (n.val / 16)∧zbn (zok (n.val % 16))=some (n.val % 16)∧encS (n.val:Int)=[UInt8.ofNat n.val]:=by decide +kernel
   obtain ⟨t1,t2,t3⟩:=tab ⟨c.toNat,hl⟩
   simp only at t1 t2 t3
   have e117:zyw 117=none:=by decide
   have h48:zbn 48=some 0:=by decide
   have un:unit (92::117::48::48::zok (c.toNat / 16)::zok (c.toNat % 16)::r)=some (c.toNat,r):=by
    simp only [unit,h48,t1,t2,Option.bind_some,and_self,if_true]
    have e:16*(16*(16*0+0)+c.toNat / 16)+c.toNat % 16=c.toNat:=by omega
    rw [e]
   have l1:zom c.toNat=false:=by
    unfold zom
    rw [←Bool.not_eq_true,Bool.and_eq_true];simp only [decide_eq_true_eq];omega
   have l2:zhy c.toNat=false:=by
    unfold zhy
    rw [←Bool.not_eq_true,Bool.and_eq_true];simp only [decide_eq_true_eq];omega
   have t3':encS (c.toNat:Int)=[c]:=by rw [t3];simp
   simp only [List.cons_append,List.nil_append,zoj,e117,un,l1,l2,t3',Bool.false_eq_true,if_false,if_true]
 ·refine .inl ⟨?_,hl,h34,h92⟩
  unfold qb
  simp [h34,h92,h8,h9,h10,h12,h13,hl]
theorem zxu (r:List UInt8):∀ (s acc:List UInt8) (f:Nat),s.length<f→txt f (qbs s++34::r) acc=if Lib.validD (acc++s)=true then some (acc++s,r) else none:=by
 intro s
 induction s with
 | nil =>
  intro acc f hf
  obtain ⟨f,rfl⟩:∃ g,f=g+1:=⟨f - 1,by simp at hf;omega⟩
  simp [qbs,txt]
 | cons c s ih =>
  intro acc f hf
  obtain ⟨f,rfl⟩:∃ g,f=g+1:=⟨f - 1,by simp at hf;omega⟩
  simp only [List.length_cons] at hf
  rw [z9t]
  have e:acc++c::s=(acc++[c])++s:=by simp
  rw [e]
  rcases zmk c with ⟨h1,h2,h3,h4⟩|⟨tl,h1,h2⟩
  ·rw [h1]
   have hh:=ih (acc++[c]) f (by omega)
   simp only [List.cons_append,List.nil_append,List.append_assoc,txt,h2,h3,h4,if_false] at hh ⊢
   exact hh
  ·rw [h1]
   have h3:=h2 (qbs s++34::r)
   have n1:¬(92:UInt8).toNat<32:=by decide
   have n2:¬(92:UInt8)=34:=by decide
   have hh:=ih (acc++[c]) f (by omega)
   simp only [List.cons_append,List.nil_append,List.append_assoc,txt,n1,n2,if_false,if_true,h3] at hh ⊢
   exact hh
theorem zvd:∀ s:List UInt8,s.length≤(qbs s).length
 | []=>by simp
 | c::s=>by
  have:=zvd s
  rw [z9t,List.length_append,List.length_cons]
  rcases zmk c with ⟨h1,_⟩|⟨tl,h1,_⟩<;>rw [h1]<;>simp<;>omega
theorem zl1 (s r:List UInt8):text (qt s++r)=if Lib.validD s=true then some (s,r) else none:=by
 have e:qt s++r=34::(qbs s++34::r):=by simp [qt]
 rw [e]
 simp only [text,if_true]
 have:=zvd s
 rw [zxu r s [] _ (by simp;omega)]
 simp
/-! What ends a number. -/
def nch (c:UInt8):Bool:=isD c||decide (c=46)||decide (c=101)||decide (c=69)||decide (c=43)||decide (c=45)
def stop (r:List UInt8):Prop := ∀ c,r.head? = some c→nch c=false
theorem zuf:stop []:=fun c h=>by cases h
theorem zdw {c:UInt8} {r:List UInt8} (h:nch c=false):stop (c::r):=fun d hd=>by cases hd;exact h
theorem zik {c:UInt8} (h:nch c=false):isD c=false∧¬c=46∧¬c=101∧¬c=69∧¬c=43∧¬c=45:=by
 unfold nch at h
 simpa [and_assoc] using h
theorem zpf {r:List UInt8} (h:stop r):z5h r=0:=by
 cases r with
 | nil=>rfl
 | cons c r=>rw [z6s,(zik (h c rfl)).1];rfl
theorem zbv {r:List UInt8} (h:stop r):∀ s,z5h (s++r)=z5h s
 | []=>by rw [List.nil_append,zpf h];rfl
 | c::s=>by rw [List.cons_append,z6s,z6s,zbv h s]
theorem zfy (s r:List UInt8):(s++r).head? = if s=[] then r.head? else s.head?:=by cases s<;>simp
theorem zxg {r:List UInt8} (h:stop r) (s:List UInt8):sgn (s++r)=sgn s:=by
 unfold sgn
 rw [zfy]
 cases s with
 | nil =>
  cases r with
  | nil=>rfl
  | cons c r=>have:=(zik (h c rfl)).2.2.2.2.2;simp [this]
 | cons c s=>simp
theorem zu9 {r:List UInt8} (h:stop r) (s:List UInt8):z7h (s++r)=z7h s:=by
 unfold z7h
 rw [zfy]
 cases s with
 | nil =>
  cases r with
  | nil=>rfl
  | cons c r=>have h1:=(zik (h c rfl)).2.2.2.2.2;have h2:=(zik (h c rfl)).2.2.2.2.1;simp [h1,h2]
 | cons c s=>simp
theorem zt9 {r:List UInt8} (h:stop r) (s:List UInt8):z6i (s++r)=z6i s:=by
 unfold z6i
 rw [zfy,zbv h]
 cases s with
 | nil =>
  cases r with
  | nil=>rfl
  | cons c r =>
   have:¬c=48:=by
    rintro rfl
    have:=(zik (h 48 rfl)).1
    simp [isD] at this
   simp [this]
 | cons c s=>simp
theorem z5s (c:UInt8) (s:List UInt8):zab (c::s)=if c=46 then (if 0<z5h s then 1+z5h s else 0) else 0:=by
 by_cases h:c=46
 ·subst h;simp [zab]
 ·rw [if_neg h]
  unfold zab
  split
  ·rename_i r hr;injection hr with e1 e2;exact absurd e1 h
  ·rfl
theorem frac_nil:zab []=0:=rfl
theorem zsy {r:List UInt8} (h:stop r) (s:List UInt8):zab (s++r)=zab s:=by
 cases s with
 | nil =>
  cases r with
  | nil=>rfl
  | cons c r=>rw [List.nil_append,z5s,if_neg (zik (h c rfl)).2.1];rfl
 | cons c s=>rw [List.cons_append,z5s,z5s,zbv h]
theorem zst {r:List UInt8} (h:stop r) (s:List UInt8):zci (s++r)=zci s:=by
 cases s with
 | nil =>
  cases r with
  | nil=>rfl
  | cons c r =>
   have h1:=(zik (h c rfl)).2.2.1
   have h2:=(zik (h c rfl)).2.2.2.1
   simp [zci,h1,h2]
 | cons c s =>
  rw [List.cons_append]
  unfold zci
  simp only
  rw [zu9 h,List.drop_append_of_le_length (zkx s),zbv h]
theorem zww {r:List UInt8} (h:stop r) (s:List UInt8):num (s++r)=num s:=by
 have l1:=zrk s
 have l2:=zk2 (s.drop (sgn s))
 have l3:=zjz (s.drop (sgn s+z6i (s.drop (sgn s))))
 simp only [List.length_drop] at l2 l3
 unfold num
 simp only
 rw [zxg h,List.drop_append_of_le_length l1,zt9 h,List.drop_append_of_le_length (by omega),zsy h,List.drop_append_of_le_length (by omega),zst h]
theorem zmc {s:List UInt8} (h:¬num s=0):∃ c r,s=c::r∧(c=45∨isD c=true):=by
 cases s with
 | nil=>exact absurd (by decide) h
 | cons c r =>
  refine ⟨c,r,rfl,?_⟩
  by_cases hc:c=45
  ·exact .inl hc
  ·refine .inr ?_
   unfold num at h
   have hs:sgn (c::r)=0:=by simp [sgn,hc]
   simp only [hs,List.drop_zero] at h
   split at h
   ·exact absurd rfl h
   ·rename_i h1
    by_cases hd:isD c=true
    ·exact hd
    ·exfalso
     apply h1
     rw [←z5i,z6s,if_neg hd]
/-! The first byte of a form. -/
theorem z13 {c:UInt8} {r:List UInt8} (h:bl c=false):z0u (c::r)=c::r:=by
 unfold z0u
 rw [List.dropWhile_cons,h]
 rfl
def opens (c:UInt8):Bool := !bl c && !decide (c=93) && !decide (c=125) && !decide (c=44)
theorem zqt:∀ c:UInt8,(c=45∨isD c=true)→opens c=true∧¬c=34∧¬c=91∧¬c=123∧¬c=110∧¬c=102∧¬c=116:=by
 have:∀ c:UInt8,(!(decide (c=45)||isD c)||(opens c && !decide (c=34) && !decide (c=91) && !decide (c=123) && !decide (c=110) && !decide (c=102) && !decide (c=116)))=true:=z6g (by decide +kernel)
 intro c h
 have h2:=this c
 have h3:(decide (c=45)||isD c)=true:=by simpa using h
 rw [h3] at h2
 simpa [and_assoc] using h2
theorem z9o {c:UInt8} (h:opens c=true):bl c=false∧¬c=93∧¬c=125∧¬c=44:=by
 unfold opens at h
 simpa [and_assoc] using h
theorem zpp {t:List UInt8} {n:Nat} {ks:List (List UInt8)} (h:frm 3 t n ks=true):¬t=[]∧num t=t.length∧n=0∧ks=[]:=by
 unfold frm at h
 simp [and_assoc] at h
 exact h.2
theorem zt0 {t:List UInt8} {n:Nat} {ks:List (List UInt8)} (h:frm 4 t n ks=true):Lib.validD t=true∧n=0∧ks=[]:=by
 unfold frm at h
 simp [and_assoc] at h
 exact h.2
theorem zt1 {k:Int} {t:List UInt8} {n:Nat} {ks:List (List UInt8)} (hk:k=0∨k=1∨k=2) (h:frm k t n ks=true):t=[]∧n=0∧ks=[]:=by
 unfold frm at h
 rw [if_pos hk] at h
 simp [and_assoc] at h
 exact h.2
theorem zsz {t:List UInt8} {n:Nat} {ks:List (List UInt8)} (h:frm 5 t n ks=true):t=[]∧ks=[]:=by
 unfold frm at h
 simp at h
 exact h.2
theorem zw3 {t:List UInt8} {n:Nat} {ks:List (List UInt8)} (h:frm 6 t n ks=true):t=[]∧ks.length=n∧ks.Nodup∧∀ k∈ks,Lib.validD k=true:=by
 unfold frm at h
 simp [and_assoc] at h
 exact ⟨h.2.1,h.2.2.1,h.2.2.2,h.1⟩
theorem zf5 {k:Int} (h0:0≤k) (h7:k<7):k=0∨k=1∨k=2∨k=3∨k=4∨k=5∨k=6:=by omega
theorem z7z {v:J} {w:Nat} (h:z3t v w=0):∃ c r,prJ v=c::r∧opens c=true:=by
 obtain ⟨c1,c2,c3⟩:=za5 h
 obtain ⟨d1,d2,d3,d4⟩:=zfx c2
 rw [zdf]
 rcases zf5 d3 d4 with h|h|h|h|h|h|h
 ·simp only [h,if_true];exact ⟨_,_,rfl,by decide⟩
 ·rw [h];exact ⟨_,_,rfl,by decide⟩
 ·rw [h];exact ⟨_,_,rfl,by decide⟩
 ·rw [h] at c2 ⊢
  obtain ⟨f1,f2,_⟩:=zpp c2
  obtain ⟨c,r,e,h5⟩:=zmc (s:=v.z0d) (by rw [f2];exact fun e=>f1 (List.eq_nil_of_length_eq_zero e))
  exact ⟨c,r,e,(zqt c h5).1⟩
 ·rw [h];exact ⟨_,_,rfl,by decide⟩
 ·rw [h];exact ⟨_,_,rfl,by decide⟩
 ·rw [h];exact ⟨_,_,rfl,by decide⟩
theorem z0g {c d:UInt8} {p r:List UInt8} (h:¬c=d):take (c::r) (d::p)=none:=by
 unfold take
 have:¬d=c:=fun e=>h e.symm
 simp [List.isPrefixOf,this]
theorem zgw (p r:List UInt8):take (p++r) p=some (z0u r):=by
 unfold take
 rw [if_pos (by rw [List.isPrefixOf_iff_prefix];exact List.prefix_append _ _)]
 simp
theorem zas {c:UInt8} {r:List UInt8} (h:¬c=34):text (c::r)=none:=by simp [text,h]
theorem z9j (v:J):(⟨v.za,v.z0d,v.zf,v.z0a⟩:J)=v:=by cases v;rfl
/-- Elements, and what closes them, are read as they were told. -/
theorem zta {vf:List UInt8→Rd} {o:Bool} {w w0:Nat} {r:List UInt8} (hv:∀ x,z3t x w0=0→∀ r,stop r→vf (prJ x++r)=if z3t x w=0 then .ok (x,z0u r) else .pan 21) :
  ∀ (l:List J) (ks:List (List UInt8)) (la:List J) (ka:List (List UInt8)) (f:Nat) (x:J),(x::l).length≤f→z6q (x::l) w0=0→(o=true→ks.length=(x::l).length)→(o=false→ks=[]∧ka=[])→(ka++ks).Nodup→(∀ k∈ks,Lib.validD k=true) →
   ∀ s,s=(prL o (x::l) ks true++(if o=true then 125 else 93)::r)→items vf o (if o=true then 125 else 93) f s la ka =
   if z6q (x::l) w=0 then .ok (⟨if o=true then 6 else 5,[],la++x::l,ka++ks⟩,z0u r) else .pan 21:=by
 intro l
 induction l with
 | nil =>
  intro ks la ka f x hf hc hk hk2 hnd hvk s hs
  subst hs
  obtain ⟨f,rfl⟩:∃ g,f=g+1:=⟨f - 1,by simp at hf;omega⟩
  have hcx:=z5z hc x (by simp)
  obtain ⟨hx,hr,he,ho⟩:=z7z hcx
  obtain ⟨b1,b2,b3,b4⟩:=z9o ho
  have hvx:=hv x hcx ((if o=true then 125 else 93)::r) (by cases o<;>exact zdw (by decide))
  have hbl:z0u ((if o=true then 125 else 93)::r)=(if o=true then 125 else 93)::r:=by cases o<;>exact z13 (by decide)
  rw [hbl] at hvx
  have hch:z6q [x] w=z3t x w:=by rw [z4t];by_cases e:z3t x w=0<;>simp [e,z6q]
  rw [items,hch]
  cases o with
  | false =>
   obtain ⟨rfl,rfl⟩:=hk2 rfl
   simp only [Bool.false_eq_true,if_false,z3a,if_true,List.nil_append,prL,List.append_nil] at hvx ⊢
   rw [hvx]
   by_cases hq:z3t x w=0
   ·simp [hq,take_one]
   ·simp [hq]
  | true =>
   have hk:=hk rfl
   simp only [List.length_cons,List.length_nil] at hk
   obtain ⟨k,rfl⟩:∃ k,ks=[k]:=by
    match ks,hk with
    | [k],_=>exact ⟨k,rfl⟩
   have hnk:¬k∈ka:=fun hm=>by
    rw [List.nodup_append] at hnd
    exact hnd.2.2 k hm k (by simp) rfl
   simp only [if_true,z3a,List.nil_append,prL,List.append_nil,List.head?_cons,Option.getD_some,List.append_assoc] at hvx ⊢
   unfold zq1
   rw [zl1,if_pos (hvk k (by simp))]
   have h58:bl 58=false:=by decide
   simp only [hnk,if_false,List.cons_append,List.nil_append,z13 h58,take_one,if_true]
   rw [he,List.cons_append,z13 b1,←List.cons_append,←he,hvx]
   by_cases hq:z3t x w=0
   ·simp [hq]
   ·simp [hq]
 | cons y l ih =>
  intro ks la ka f x hf hc hk hk2 hnd hvk s hs
  subst hs
  obtain ⟨f,rfl⟩:∃ g,f=g+1:=⟨f - 1,by simp at hf;omega⟩
  have hcx:=z5z hc x (by simp)
  have hcy:=z5z hc y (by simp)
  have hcl:z6q (y::l) w0=0:=by rw [z4t,if_pos hcx] at hc;exact hc
  obtain ⟨hx,hr,he,ho⟩:=z7z hcx
  obtain ⟨b1,b2,b3,b4⟩:=z9o ho
  obtain ⟨hy,hyr,hye,hyo⟩:=z7z hcy
  obtain ⟨y1,y2,y3,y4⟩:=z9o hyo
  have h44:bl 44=false:=by decide
  rw [items,z4t x]
  cases o with
  | false =>
   obtain ⟨rfl,rfl⟩:=hk2 rfl
   have e:∀ z,prL false (y::l) [] false++z=44::(prL false (y::l) [] true++z):=fun z=>by simp [z3a]
   simp only [Bool.false_eq_true,if_false] at ih ⊢
   have hvx:=hv x hcx (44::(prL false (y::l) [] true++93::r)) (zdw (by decide))
   rw [z3a]
   simp only [Bool.false_eq_true,if_false,if_true,List.nil_append,List.tail_nil,List.append_assoc,e]
   rw [hvx]
   by_cases hq:z3t x w=0
   ·have hb:z0u (prL false (y::l) [] true++93::r)=prL false (y::l) [] true++93::r:=by
     rw [z3a,hye];simp [z13 y1]
    have ne:¬(44:UInt8)=93:=by decide
    simp only [hq,if_true,z13 h44,take_one,ne,if_false,hb]
    rw [ih [] (la++[x]) [] f y (by simp at hf ⊢;omega) hcl (fun h=>by cases h) (fun _=>⟨rfl,rfl⟩) (by simp) (fun k hk=>by cases hk) _ rfl]
    simp
   ·simp [hq]
  | true =>
   have hk:=hk rfl
   obtain ⟨k,ks',rfl⟩:∃ k ks',ks=k::ks':=by
    match ks,hk with
    | k::ks',_=>exact ⟨k,ks',rfl⟩
   have hnk:¬k∈ka:=fun hm=>by
    rw [List.nodup_append] at hnd
    exact hnd.2.2 k hm k (by simp) rfl
   have e:∀ z,prL true (y::l) ks' false++z=44::(prL true (y::l) ks' true++z):=fun z=>by simp [z3a]
   simp only [if_true] at ih ⊢
   have hvx:=hv x hcx (44::(prL true (y::l) ks' true++125::r)) (zdw (by decide))
   rw [z3a]
   simp only [if_true,List.nil_append,List.append_assoc,e,List.head?_cons,Option.getD_some,List.tail_cons]
   unfold zq1
   rw [zl1,if_pos (hvk k (by simp))]
   have h58:bl 58=false:=by decide
   simp only [hnk,if_false,List.cons_append,List.nil_append,z13 h58,take_one,if_true]
   rw [he,List.cons_append,z13 b1,←List.cons_append,←he,hvx]
   by_cases hq:z3t x w=0
   ·have hb:z0u (prL true (y::l) ks' true++125::r)=prL true (y::l) ks' true++125::r:=by
     rw [z3a]
     simp [qt,z13 (show bl 34=false by decide)]
    have ne:¬(44:UInt8)=125:=by decide
    simp only [hq,if_true,z13 h44,ne,if_false,hb]
    rw [ih ks' (la++[x]) (ka++[k]) f y (by simp at hf ⊢;omega) hcl (fun _=>by simpa using hk) (fun h=>by cases h) (by simpa using hnd) (fun k hk=>hvk k (by simp [hk])) _ rfl]
    simp
   ·simp [hq]
theorem zvc:∀ (o:Bool) (l:List J) (ks:List (List UInt8)) (f:Bool) {w:Nat},z6q l w=0→l.length≤(prL o l ks f).length
 | _,[],_,_,_,_=>by simp
 | o,x::l,ks,f,w,h=>by
  have h1:=zvc o l ks.tail false (w:=w) (by
   rw [z4t] at h
   by_cases e:z3t x w=0
   ·rw [if_pos e] at h;exact h
   ·rw [if_neg e] at h;exact absurd h e)
  obtain ⟨c,r,e,_⟩:=z7z (z5z h x (by simp))
  rw [z3a,e]
  simp only [List.length_append,List.length_cons]
  omega
theorem zqk {vf:List UInt8→Rd} {o:Bool} {w w0:Nat} {r:List UInt8} (hv:∀ x,z3t x w0=0→∀ r,stop r→vf (prJ x++r)=if z3t x (w+1)=0 then .ok (x,z0u r) else .pan 21)
  {l:List J} {ks:List (List UInt8)} (hc:z6q l w0=0) (hk:o=true→ks.length=l.length) (hk2:o=false→ks=[]) (hnd:ks.Nodup) (hvk:∀ k∈ks,Lib.validD k=true) :
  nest vf o w (z0u (prL o l ks true++(if o=true then 125 else 93)::r))=if 16≤w then .pan 21 else if z6q l (w+1)=0 then .ok (⟨if o=true then 6 else 5,[],l,ks⟩,z0u r) else .pan 21:=by
 unfold nest
 by_cases h16:16≤w
 ·simp [h16]
 simp only [h16,if_false]
 cases l with
 | nil =>
  have hks:ks=[]:=by
   cases o with
   | false=>exact hk2 rfl
   | true=>exact List.eq_nil_of_length_eq_zero (by simpa using hk rfl)
  subst hks
  have hbl:z0u ((if o=true then 125 else 93)::r)=(if o=true then 125 else 93)::r:=by cases o<;>exact z13 (by decide)
  simp [prL,hbl,take_one,z6q]
 | cons x l =>
  have hcx:=z5z hc x (by simp)
  obtain ⟨c,rr,he,ho⟩:=z7z hcx
  obtain ⟨b1,b2,b3,b4⟩:=z9o ho
  have hfst:∃ d z,prL o (x::l) ks true++(if o=true then 125 else 93)::r=d::z∧bl d=false∧¬d=(if o=true then 125 else 93):=by
   rw [z3a]
   cases o with
   | false=>rw [he];exact ⟨c,_,by simp only [Bool.false_eq_true,if_false,if_true,List.nil_append,List.cons_append];rfl,b1,b2⟩
   | true=>exact ⟨34,_,by simp only [if_true,List.nil_append,qt,List.cons_append];rfl,by decide,by decide⟩
  obtain ⟨d,z,e,g1,g2⟩:=hfst
  have hb:z0u (prL o (x::l) ks true++(if o=true then 125 else 93)::r)=prL o (x::l) ks true++(if o=true then 125 else 93)::r:=by rw [e,z13 g1]
  have ht:take (prL o (x::l) ks true++(if o=true then 125 else 93)::r) [if o=true then 125 else 93]=none:=by rw [e,z0g g2]
  rw [hb,ht]
  have hge:=zvc o (x::l) ks true hc
  have:=zta (o:=o) (w:=w+1) (w0:=w0) (r:=r) hv l ks [] [] ((prL o (x::l) ks true++(if o=true then 125 else 93)::r).length+1) x (by simp only [List.length_append,List.length_cons] at hge ⊢;omega) hc hk (fun h=>⟨hk2 h,rfl⟩) (by simpa using hnd) hvk _ rfl
  rw [this]
  simp
theorem zz007:∀ (f:Nat) (v:J) (w w0:Nat) (r:List UInt8),w≤16→17≤f+w→z3t v w0=0→stop r→val f (prJ v++r) w=if z3t v w=0 then .ok (v,z0u r) else .pan 21:=by
 intro f
 induction f with
 | zero=>intro v w w0 r h1 h2;omega
 | succ f ih =>
  intro v w w0 r hw hf hc hr
  obtain ⟨c1,c2,c3⟩:=za5 hc
  obtain ⟨d1,d2,d3,d4⟩:=zfx c2
  have fit:z3t v w=if (v.za=5∨v.za=6)∧16≤w then 21 else z6q v.zf (w+1):=by rw [z3b,c2];simp
  have leaf:¬(v.za=5∨v.za=6)→z3t v w=0:=fun h=>by
   rw [fit,if_neg (fun x=>h x.1),List.eq_nil_of_length_eq_zero (d2 h)]
   rfl
  have lw:∀ k,v.za=k→(k=0∨k=1∨k=2)→v=⟨k,[],[],[]⟩:=fun k hk h=>by
   rw [hk] at c2
   obtain ⟨e1,e2,e3⟩:=zt1 h c2
   rw [←z9j v,hk,e1,e3,List.eq_nil_of_length_eq_zero e2]
  rw [val]
  rcases zf5 d3 d4 with h|h|h|h|h|h|h
  ·rw [if_pos (leaf (by omega)),lw 0 h (by simp)]
   have:prJ ⟨0,[],[],[]⟩=[110,117,108,108]:=by simp [prJ]
   rw [this]
   have h1:=zgw [110,117,108,108] r
   simp only [List.cons_append,List.nil_append] at h1 ⊢
   rw [zas (by decide),z0g (by decide),z0g (by decide)]
   simp [word,h1]
  ·rw [if_pos (leaf (by omega)),lw 1 h (by simp)]
   have:prJ ⟨1,[],[],[]⟩=[102,97,108,115,101]:=by simp [prJ]
   rw [this]
   have h1:=zgw [102,97,108,115,101] r
   simp only [List.cons_append,List.nil_append] at h1 ⊢
   rw [zas (by decide),z0g (by decide),z0g (by decide)]
   have h2:take (102::97::108::115::101::r) [110,117,108,108]=none:=z0g (by decide)
   simp [word,h1,h2]
  ·rw [if_pos (leaf (by omega)),lw 2 h (by simp)]
   have:prJ ⟨2,[],[],[]⟩=[116,114,117,101]:=by simp [prJ]
   rw [this]
   have h1:=zgw [116,114,117,101] r
   simp only [List.cons_append,List.nil_append] at h1 ⊢
   rw [zas (by decide),z0g (by decide),z0g (by decide)]
   have h2:take (116::114::117::101::r) [110,117,108,108]=none:=z0g (by decide)
   have h3:take (116::114::117::101::r) [102,97,108,115,101]=none:=z0g (by decide)
   simp [word,h1,h2,h3]
  ·rw [if_pos (leaf (by omega))]
   have c2':=c2
   rw [h] at c2'
   obtain ⟨f1,f2,f3,f4⟩:=zpp c2'
   have hp:prJ v=v.z0d:=by rw [zdf,h];simp
   have hnz:¬num v.z0d=0:=by rw [f2];exact fun e=>f1 (List.eq_nil_of_length_eq_zero e)
   obtain ⟨c,rr,e,h5⟩:=zmc hnz
   obtain ⟨_,o1,o2,o3,o4,o5,o6⟩:=zqt c h5
   have hn:num (v.z0d++r)=v.z0d.length:=by rw [zww hr,f2]
   have hlen:¬v.z0d.length=0:=fun e=>f1 (List.eq_nil_of_length_eq_zero e)
   have hh:(v.z0d++r).head? = some c:=by rw [e];rfl
   have hne:¬some c=some 34:=fun x=>o1 (by injection x)
   have hv:(⟨3,v.z0d,[],[]⟩:J)=v:=by rw [←z9j v,h,f4,List.eq_nil_of_length_eq_zero f3]
   have t0:text (v.z0d++r)=none:=by rw [e];exact zas o1
   have t1:take (v.z0d++r) [91]=none:=by rw [e];exact z0g o2
   have t2:take (v.z0d++r) [123]=none:=by rw [e];exact z0g o3
   have t3:take (v.z0d++r) [110,117,108,108]=none:=by rw [e];exact z0g o4
   have t4:take (v.z0d++r) [102,97,108,115,101]=none:=by rw [e];exact z0g o5
   have t5:take (v.z0d++r) [116,114,117,101]=none:=by rw [e];exact z0g o6
   rw [hp]
   simp only [t0,hh,hne,if_false,t1,t2,word,t3,t4,t5,hn,hlen]
   simp [hv]
  ·rw [if_pos (leaf (by omega))]
   have c2':=c2
   rw [h] at c2'
   obtain ⟨f1,f2,f3⟩:=zt0 c2'
   have hp:prJ v=qt v.z0d:=by rw [zdf,h];simp
   have hv:(⟨4,v.z0d,[],[]⟩:J)=v:=by rw [←z9j v,h,f3,List.eq_nil_of_length_eq_zero f2]
   rw [hp,zl1,if_pos f1]
   simp [hv]
  ·have c2':=c2
   rw [h] at c2'
   obtain ⟨f1,f2⟩:=zsz c2'
   have hp:prJ v=91::prL false v.zf v.z0a true++[93]:=by rw [zdf,h];simp
   have e1:prJ v++r=91::(prL false v.zf v.z0a true++93::r):=by rw [hp];simp
   have hnest:=zqk (vf:=fun s=>val f s (w+1)) (o:=false) (w:=w) (w0:=w0+1) (r:=r) (l:=v.zf) (ks:=v.z0a)
   have hw16:16≤w→nest (fun s=>val f s (w+1)) false w (z0u (prL false v.zf v.z0a true++93::r)) = .pan 21:=fun x=>by unfold nest;rw [if_pos x]
   have hne34:¬some (91:UInt8)=some 34:=by decide
   have ht:take (91::(prL false v.zf v.z0a true++93::r)) [91]=some (z0u (prL false v.zf v.z0a true++93::r)):=by simp [take_one]
   rw [e1,zas (by decide),fit,ht]
   simp only [List.head?_cons,hne34,if_false]
   by_cases h16:16≤w
   ·simp [hw16 h16,h,h16]
   ·have:=hnest (fun x hx r hr=>ih x (w+1) (w0+1) r (by omega) (by omega) hx hr) c3 (fun h=>by cases h) (fun _=>f2) (by rw [f2];simp) (fun k hk=>by rw [f2] at hk;cases hk)
    simp only [Bool.false_eq_true,if_false,h16] at this
    have hv:(⟨5,[],v.zf,v.z0a⟩:J)=v:=by rw [←z9j v,h,f1]
    rw [this]
    simp [h16,hv]
  ·have c2':=c2
   rw [h] at c2'
   obtain ⟨f1,f2,f3,f4⟩:=zw3 c2'
   have hp:prJ v=123::prL true v.zf v.z0a true++[125]:=by rw [zdf,h];simp
   have e1:prJ v++r=123::(prL true v.zf v.z0a true++125::r):=by rw [hp];simp
   have hnest:=zqk (vf:=fun s=>val f s (w+1)) (o:=true) (w:=w) (w0:=w0+1) (r:=r) (l:=v.zf) (ks:=v.z0a)
   have hw16:16≤w→nest (fun s=>val f s (w+1)) true w (z0u (prL true v.zf v.z0a true++125::r)) = .pan 21:=fun x=>by unfold nest;rw [if_pos x]
   have hne34:¬some (123:UInt8)=some 34:=by decide
   have ht0:take (123::(prL true v.zf v.z0a true++125::r)) [91]=none:=z0g (by decide)
   have ht:take (123::(prL true v.zf v.z0a true++125::r)) [123]=some (z0u (prL true v.zf v.z0a true++125::r)):=by simp [take_one]
   rw [e1,zas (by decide),fit,ht0,ht]
   simp only [List.head?_cons,hne34,if_false]
   by_cases h16:16≤w
   ·simp [hw16 h16,h,h16]
   ·have:=hnest (fun x hx r hr=>ih x (w+1) (w0+1) r (by omega) (by omega) hx hr) c3 (fun _=>f2) (fun h=>by cases h) f3 f4
    simp only [if_true,if_false,h16] at this
    have hv:(⟨6,[],v.zf,v.z0a⟩:J)=v:=by rw [←z9j v,h,f1]
    rw [this]
    simp [h16,hv]
end Go.Sen
