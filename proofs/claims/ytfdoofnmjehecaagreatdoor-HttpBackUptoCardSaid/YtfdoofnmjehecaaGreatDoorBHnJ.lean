import Derived.Test.YtfdoofnmjehecaaGreatDoorBHnI
set_option linter.all false
namespace Go.Sen
open _root_.Option renaming getD_some → ya
open _root_.Bool renaming and_eq_true → yb, false_eq_true → yc, not_eq_true → yd
open _root_.List renaming append_assoc → ye, append_nil → yf, cons_append → yg, drop_append_of_le_length → yh, eq_nil_of_length_eq_zero → yi, head?_cons → yj, length_append → yk, length_cons → yl, nil_append → ym, nodup_append → yn
open Go.Lk Go.Pe
theorem znd (c:UInt8):(qb c=[c]∧¬c.toNat<32∧¬c=34∧¬c=92)∨∃ tl,qb c=92::tl∧∀ r,zpa (92::(tl++r))=some ([c],r):=by
 have two:∀ x:UInt8,esc1 x=some c→∀ r,zpa (92::([x]++r))=some ([c],r):=fun x hx r=>by
  simp [zpa,hx]
 by_cases h34:c=34
 ·subst h34;exact .inr ⟨[34],by decide,two 34 (by decide)⟩
 by_cases h92:c=92
 ·subst h92;exact .inr ⟨[92],by decide,two 92 (by decide)⟩
 by_cases h8:c=8
 ·subst h8;exact .inr ⟨[98],by decide,two 98 (by decide)⟩
 by_cases h9:c=9
 ·subst h9;exact .inr ⟨[116],by decide,two 116 (by decide)⟩
 by_cases h10:c=10
 ·subst h10;exact .inr ⟨[110],by decide,two 110 (by decide)⟩
 by_cases h12:c=12
 ·subst h12;exact .inr ⟨[102],by decide,two 102 (by decide)⟩
 by_cases h13:c=13
 ·subst h13;exact .inr ⟨[114],by decide,two 114 (by decide)⟩
 by_cases hl:c.toNat<32
 ·refine .inr ⟨[117,48,48,zwk (c.toNat / 16),zwk (c.toNat % 16)],?_,fun r => ?_⟩
  ·unfold qb
   simp [h34,h92,h8,h9,h10,h12,h13,hl]
  ·have tab:∀ n:Fin 32,zcu (zwk (n.val / 16))=some (n.val / 16)∧zcu (zwk (n.val % 16))=some (n.val % 16)∧encS (n.val:Int)=[UInt8.ofNat n.val]:=by decide +kernel
   obtain ⟨t1,t2,t3⟩:=tab ⟨c.toNat,hl⟩
   simp only at t1 t2 t3
   have e117:esc1 117=none:=by decide
   have h48:zcu 48=some 0:=by decide
   have un:unit (92::117::48::48::zwk (c.toNat / 16)::zwk (c.toNat % 16)::r)=some (c.toNat,r):=by
    simp only [unit,h48,t1,t2,Option.bind_some,and_self,if_true]
    have e:16*(16*(16*0+0)+c.toNat / 16)+c.toNat % 16=c.toNat:=by omega
    rw [e]
   have l1:zpc c.toNat=false:=by
    unfold zpc
    rw [←yd,yb];simp only [decide_eq_true_eq];omega
   have l2:ziq c.toNat=false:=by
    unfold ziq
    rw [←yd,yb];simp only [decide_eq_true_eq];omega
   have t3':encS (c.toNat:Int)=[c]:=by rw [t3];simp
   simp only [yg,ym,zpa,e117,un,l1,l2,t3',yc,if_false,if_true]
 ·refine .inl ⟨?_,hl,h34,h92⟩
  unfold qb
  simp [h34,h92,h8,h9,h10,h12,h13,hl]
theorem zz00a (r:Z):∀ (s acc:Z) (f:Nat),s.length<f→txt f (qbs s++34::r) acc=if Lib.validD (acc++s)=true then some (acc++s,r) else none:=by
 intro s
 induction s with
 | nil =>
  intro acc f hf
  obtain ⟨f,rfl⟩:∃ g,f=g+1:=⟨f - 1,by simp at hf;omega⟩
  simp [qbs,txt]
 | cons c s ih =>
  intro acc f hf
  obtain ⟨f,rfl⟩:∃ g,f=g+1:=⟨f - 1,by simp at hf;omega⟩
  simp only [yl] at hf
  rw [zh6]
  have e:acc++c::s=(acc++[c])++s:=by simp
  rw [e]
  rcases znd c with ⟨h1,h2,h3,h4⟩|⟨tl,h1,h2⟩
  ·rw [h1]
   have hh:=ih (acc++[c]) f (by omega)
   simp only [yg,ym,ye,txt,h2,h3,h4,if_false] at hh ⊢
   exact hh
  ·rw [h1]
   have h3:=h2 (qbs s++34::r)
   have n1:¬(92:UInt8).toNat<32:=by decide
   have n2:¬(92:UInt8)=34:=by decide
   have hh:=ih (acc++[c]) f (by omega)
   simp only [yg,ym,ye,txt,n1,n2,if_false,if_true,h3] at hh ⊢
   exact hh
theorem zx2:∀ s:Z,s.length≤(qbs s).length
 | []=>by simp
 | c::s=>by
  have:=zx2 s
  rw [zh6,yk,yl]
  rcases znd c with ⟨h1,_⟩|⟨tl,h1,_⟩<;>rw [h1]<;>simp<;>omega
theorem zm0 (s r:Z):text (qt s++r)=if Lib.validD s=true then some (s,r) else none:=by
 have e:qt s++r=34::(qbs s++34::r):=by simp [qt]
 rw [e]
 simp only [text,if_true]
 have:=zx2 s
 rw [zz00a r s [] _ (by simp;omega)]
 simp
def nch (c:UInt8):Bool:=isD c||decide (c=46)||decide (c=101)||decide (c=69)||decide (c=43)||decide (c=45)
def stop (r:Z):Prop := ∀ c,r.head? = some c→nch c=false
theorem zw0:stop []:=fun c h=>by cases h
theorem zeo {c:UInt8} {r:Z} (h:nch c=false):stop (c::r):=fun d hd=>by cases hd;exact h
theorem zjc {c:UInt8} (h:nch c=false):isD c=false∧¬c=46∧¬c=101∧¬c=69∧¬c=43∧¬c=45:=by
 unfold nch at h
 simpa [and_assoc] using h
theorem zq3 {r:Z} (h:stop r):z6k r=0:=by
 cases r with
 | nil=>rfl
 | cons c r=>rw [z8q,(zjc (h c rfl)).1];rfl
theorem zd0 {r:Z} (h:stop r):∀ s,z6k (s++r)=z6k s
 | []=>by rw [ym,zq3 h];rfl
 | c::s=>by rw [yg,z8q,z8q,zd0 h s]
theorem zb3 (s r:Z):(s++r).head? = if s=[] then r.head? else s.head?:=by cases s<;>simp
theorem zz002 {r:Z} (h:stop r) (s:Z):sgn (s++r)=sgn s:=by
 unfold sgn
 rw [zb3]
 cases s with
 | nil =>
  cases r with
  | nil=>rfl
  | cons c r=>have:=(zjc (h c rfl)).2.2.2.2.2;simp [this]
 | cons c s=>simp
theorem zvt {r:Z} (h:stop r) (s:Z):z98 (s++r)=z98 s:=by
 unfold z98
 rw [zb3]
 cases s with
 | nil =>
  cases r with
  | nil=>rfl
  | cons c r=>have h1:=(zjc (h c rfl)).2.2.2.2.2;have h2:=(zjc (h c rfl)).2.2.2.2.1;simp [h1,h2]
 | cons c s=>simp
theorem zub {r:Z} (h:stop r) (s:Z):z8b (s++r)=z8b s:=by
 unfold z8b
 rw [zb3,zd0 h]
 cases s with
 | nil =>
  cases r with
  | nil=>rfl
  | cons c r =>
   have:¬c=48:=by
    rintro rfl
    have:=(zjc (h 48 rfl)).1
    simp [isD] at this
   simp [this]
 | cons c s=>simp
theorem z74 (c:UInt8) (s:Z):zbz (c::s)=if c=46 then (if 0<z6k s then 1+z6k s else 0) else 0:=by
 by_cases h:c=46
 ·subst h;simp [zbz]
 ·rw [if_neg h]
  unfold zbz
  split
  ·rename_i r hr;injection hr with e1 e2;exact absurd e1 h
  ·rfl
theorem frac_nil:zbz []=0:=rfl
theorem ztx {r:Z} (h:stop r) (s:Z):zbz (s++r)=zbz s:=by
 cases s with
 | nil =>
  cases r with
  | nil=>rfl
  | cons c r=>rw [ym,z74,if_neg (zjc (h c rfl)).2.1];rfl
 | cons c s=>rw [yg,z74,z74,zd0 h]
theorem ztr {r:Z} (h:stop r) (s:Z):zdl (s++r)=zdl s:=by
 cases s with
 | nil =>
  cases r with
  | nil=>rfl
  | cons c r =>
   have h1:=(zjc (h c rfl)).2.2.1
   have h2:=(zjc (h c rfl)).2.2.2.1
   simp [zdl,h1,h2]
 | cons c s =>
  rw [yg]
  unfold zdl
  simp only
  rw [zvt h,yh (zlx s),zd0 h]
theorem zz2 {r:Z} (h:stop r) (s:Z):num (s++r)=num s:=by
 have l1:=zsh s
 have l2:=zkt (s.drop (sgn s))
 have l3:=zko (s.drop (sgn s+z8b (s.drop (sgn s))))
 simp only [List.length_drop] at l2 l3
 unfold num
 simp only
 rw [zz002 h,yh l1,zub h,yh (by omega),ztx h,yh (by omega),ztr h]
theorem zn7 {s:Z} (h:¬num s=0):∃ c r,s=c::r∧(c=45∨isD c=true):=by
 cases s with
 | nil=>exact absurd (by decide) h
 | cons c r =>
  refine ⟨c,r,rfl,?_⟩
  by_cases hc:c=45
  ·exact .inl hc
  ·refine .inr ?_
   unfold num at h
   have hs:sgn (c::r)=0:=by simp [sgn,hc]
   simp only [hs,List.drop_zero] at h
   split at h
   ·exact absurd rfl h
   ·rename_i h1
    by_cases hd:isD c=true
    ·exact hd
    ·exfalso
     apply h1
     rw [←z6l,z8q,if_neg hd]
theorem z2i {c:UInt8} {r:Z} (h:bl c=false):z1z (c::r)=c::r:=by
 unfold z1z
 rw [List.dropWhile_cons,h]
 rfl
def opens (c:UInt8):Bool := !bl c && !decide (c=93) && !decide (c=125) && !decide (c=44)
theorem zrs:∀ c:UInt8,(c=45∨isD c=true)→opens c=true∧¬c=34∧¬c=91∧¬c=123∧¬c=110∧¬c=102∧¬c=116:=by
 have:∀ c:UInt8,(!(decide (c=45)||isD c)||(opens c && !decide (c=34) && !decide (c=91) && !decide (c=123) && !decide (c=110) && !decide (c=102) && !decide (c=116)))=true:=zcg (by decide +kernel)
 intro c h
 have h2:=this c
 have h3:(decide (c=45)||isD c)=true:=by simpa using h
 rw [h3] at h2
 simpa [and_assoc] using h2
theorem zbh {c:UInt8} (h:opens c=true):bl c=false∧¬c=93∧¬c=125∧¬c=44:=by
 unfold opens at h
 simpa [and_assoc] using h
theorem zqg {t:Z} {n:Nat} {ks:List Z} (h:frm 3 t n ks=true):¬t=[]∧num t=t.length∧n=0∧ks=[]:=by
 unfold frm at h
 simp [and_assoc] at h
 exact h.2
theorem ztz {t:Z} {n:Nat} {ks:List Z} (h:frm 4 t n ks=true):Lib.validD t=true∧n=0∧ks=[]:=by
 unfold frm at h
 simp [and_assoc] at h
 exact h.2
theorem zu0 {k:Int} {t:Z} {n:Nat} {ks:List Z} (hk:k=0∨k=1∨k=2) (h:frm k t n ks=true):t=[]∧n=0∧ks=[]:=by
 unfold frm at h
 rw [if_pos hk] at h
 simp [and_assoc] at h
 exact h.2
theorem zty {t:Z} {n:Nat} {ks:List Z} (h:frm 5 t n ks=true):t=[]∧ks=[]:=by
 unfold frm at h
 simp at h
 exact h.2
theorem zxw {t:Z} {n:Nat} {ks:List Z} (h:frm 6 t n ks=true):t=[]∧ks.length=n∧ks.Nodup∧∀ k∈ks,Lib.validD k=true:=by
 unfold frm at h
 simp [and_assoc] at h
 exact ⟨h.2.1,h.2.2.1,h.2.2.2,h.1⟩
theorem zfw {k:Int} (h0:0≤k) (h7:k<7):k=0∨k=1∨k=2∨k=3∨k=4∨k=5∨k=6:=by omega
theorem z9l {v:J} {w:Nat} (h:z5i v w=0):∃ c r,prJ v=c::r∧opens c=true:=by
 obtain ⟨c1,c2,c3⟩:=z6z h
 obtain ⟨d1,d2,d3,d4⟩:=zd2 c2
 rw [zeb]
 rcases zfw d3 d4 with h|h|h|h|h|h|h
 ·simp only [h,if_true];exact ⟨_,_,rfl,by decide⟩
 ·rw [h];exact ⟨_,_,rfl,by decide⟩
 ·rw [h];exact ⟨_,_,rfl,by decide⟩
 ·rw [h] at c2 ⊢
  obtain ⟨f1,f2,_⟩:=zqg c2
  obtain ⟨c,r,e,h5⟩:=zn7 (s:=v.zt) (by rw [f2];exact fun e=>f1 (yi e))
  exact ⟨c,r,e,(zrs c h5).1⟩
 ·rw [h];exact ⟨_,_,rfl,by decide⟩
 ·rw [h];exact ⟨_,_,rfl,by decide⟩
 ·rw [h];exact ⟨_,_,rfl,by decide⟩
theorem z1h {c d:UInt8} {p r:Z} (h:¬c=d):take (c::r) (d::p)=none:=by
 unfold take
 have:¬d=c:=fun e=>h e.symm
 simp [List.isPrefixOf,this]
theorem zhh (p r:Z):take (p++r) p=some (z1z r):=by
 unfold take
 rw [if_pos (by rw [List.isPrefixOf_iff_prefix];exact List.prefix_append _ _)]
 simp
theorem zc9 {c:UInt8} {r:Z} (h:¬c=34):text (c::r)=none:=by simp [text,h]
theorem zb6 (v:J):(⟨v.zi,v.zt,v.zj,v.zw⟩:J)=v:=by cases v;rfl
theorem zuc {vf:Z→Rd} {o:Bool} {w w0:Nat} {r:Z} (hv:∀ x,z5i x w0=0→∀ r,stop r→vf (prJ x++r)=if z5i x w=0 then .ok (x,z1z r) else .pan 21) :
  ∀ (l:List J) (ks:List Z) (la:List J) (ka:List Z) (f:Nat) (x:J),(x::l).length≤f→z9r (x::l) w0=0→(o=true→ks.length=(x::l).length)→(o=false→ks=[]∧ka=[])→(ka++ks).Nodup→(∀ k∈ks,Lib.validD k=true) →
   ∀ s,s=(prL o (x::l) ks true++(if o=true then 125 else 93)::r)→items vf o (if o=true then 125 else 93) f s la ka =
   if z9r (x::l) w=0 then .ok (⟨if o=true then 6 else 5,[],la++x::l,ka++ks⟩,z1z r) else .pan 21:=by
 intro l
 induction l with
 | nil =>
  intro ks la ka f x hf hc hk hk2 hnd hvk s hs
  subst hs
  obtain ⟨f,rfl⟩:∃ g,f=g+1:=⟨f - 1,by simp at hf;omega⟩
  have hcx:=z6c hc x (by simp)
  obtain ⟨hx,hr,he,ho⟩:=z9l hcx
  obtain ⟨b1,b2,b3,b4⟩:=zbh ho
  have hvx:=hv x hcx ((if o=true then 125 else 93)::r) (by cases o<;>exact zeo (by decide))
  have hbl:z1z ((if o=true then 125 else 93)::r)=(if o=true then 125 else 93)::r:=by cases o<;>exact z2i (by decide)
  rw [hbl] at hvx
  have hch:z9r [x] w=z5i x w:=by rw [z5v];by_cases e:z5i x w=0<;>simp [e,z9r]
  rw [items,hch]
  cases o with
  | false =>
   obtain ⟨rfl,rfl⟩:=hk2 rfl
   simp only [yc,if_false,z4g,if_true,ym,prL,yf] at hvx ⊢
   rw [hvx]
   by_cases hq:z5i x w=0
   ·simp [hq,take_one]
   ·simp [hq]
  | true =>
   have hk:=hk rfl
   simp only [yl,List.length_nil] at hk
   obtain ⟨k,rfl⟩:∃ k,ks=[k]:=by
    match ks,hk with
    | [k],_=>exact ⟨k,rfl⟩
   have hnk:¬k∈ka:=fun hm=>by
    rw [yn] at hnd
    exact hnd.2.2 k hm k (by simp) rfl
   simp only [if_true,z4g,ym,prL,yf,yj,ya,ye] at hvx ⊢
   unfold zqy
   rw [zm0,if_pos (hvk k (by simp))]
   have h58:bl 58=false:=by decide
   simp only [hnk,if_false,yg,ym,z2i h58,take_one,if_true]
   rw [he,yg,z2i b1,←yg,←he,hvx]
   by_cases hq:z5i x w=0
   ·simp [hq]
   ·simp [hq]
 | cons y l ih =>
  intro ks la ka f x hf hc hk hk2 hnd hvk s hs
  subst hs
  obtain ⟨f,rfl⟩:∃ g,f=g+1:=⟨f - 1,by simp at hf;omega⟩
  have hcx:=z6c hc x (by simp)
  have hcy:=z6c hc y (by simp)
  have hcl:z9r (y::l) w0=0:=by rw [z5v,if_pos hcx] at hc;exact hc
  obtain ⟨hx,hr,he,ho⟩:=z9l hcx
  obtain ⟨b1,b2,b3,b4⟩:=zbh ho
  obtain ⟨hy,hyr,hye,hyo⟩:=z9l hcy
  obtain ⟨y1,y2,y3,y4⟩:=zbh hyo
  have h44:bl 44=false:=by decide
  rw [items,z5v x]
  cases o with
  | false =>
   obtain ⟨rfl,rfl⟩:=hk2 rfl
   have e:∀ z,prL false (y::l) [] false++z=44::(prL false (y::l) [] true++z):=fun z=>by simp [z4g]
   simp only [yc,if_false] at ih ⊢
   have hvx:=hv x hcx (44::(prL false (y::l) [] true++93::r)) (zeo (by decide))
   rw [z4g]
   simp only [yc,if_false,if_true,ym,List.tail_nil,ye,e]
   rw [hvx]
   by_cases hq:z5i x w=0
   ·have hb:z1z (prL false (y::l) [] true++93::r)=prL false (y::l) [] true++93::r:=by
     rw [z4g,hye];simp [z2i y1]
    have ne:¬(44:UInt8)=93:=by decide
    simp only [hq,if_true,z2i h44,take_one,ne,if_false,hb]
    rw [ih [] (la++[x]) [] f y (by simp at hf ⊢;omega) hcl (fun h=>by cases h) (fun _=>⟨rfl,rfl⟩) (by simp) (fun k hk=>by cases hk) _ rfl]
    simp
   ·simp [hq]
  | true =>
   have hk:=hk rfl
   obtain ⟨k,ks',rfl⟩:∃ k ks',ks=k::ks':=by
    match ks,hk with
    | k::ks',_=>exact ⟨k,ks',rfl⟩
   have hnk:¬k∈ka:=fun hm=>by
    rw [yn] at hnd
    exact hnd.2.2 k hm k (by simp) rfl
   have e:∀ z,prL true (y::l) ks' false++z=44::(prL true (y::l) ks' true++z):=fun z=>by simp [z4g]
   simp only [if_true] at ih ⊢
   have hvx:=hv x hcx (44::(prL true (y::l) ks' true++125::r)) (zeo (by decide))
   rw [z4g]
   simp only [if_true,ym,ye,e,yj,ya,List.tail_cons]
   unfold zqy
   rw [zm0,if_pos (hvk k (by simp))]
   have h58:bl 58=false:=by decide
   simp only [hnk,if_false,yg,ym,z2i h58,take_one,if_true]
   rw [he,yg,z2i b1,←yg,←he,hvx]
   by_cases hq:z5i x w=0
   ·have hb:z1z (prL true (y::l) ks' true++125::r)=prL true (y::l) ks' true++125::r:=by
     rw [z4g]
     simp [qt,z2i (show bl 34=false by decide)]
    have ne:¬(44:UInt8)=125:=by decide
    simp only [hq,if_true,z2i h44,ne,if_false,hb]
    rw [ih ks' (la++[x]) (ka++[k]) f y (by simp at hf ⊢;omega) hcl (fun _=>by simpa using hk) (fun h=>by cases h) (by simpa using hnd) (fun k hk=>hvk k (by simp [hk])) _ rfl]
    simp
   ·simp [hq]
theorem zwz:∀ (o:Bool) (l:List J) (ks:List Z) (f:Bool) {w:Nat},z9r l w=0→l.length≤(prL o l ks f).length
 | _,[],_,_,_,_=>by simp
 | o,x::l,ks,f,w,h=>by
  have h1:=zwz o l ks.tail false (w:=w) (by
   rw [z5v] at h
   by_cases e:z5i x w=0
   ·rw [if_pos e] at h;exact h
   ·rw [if_neg e] at h;exact absurd h e)
  obtain ⟨c,r,e,_⟩:=z9l (z6c h x (by simp))
  rw [z4g,e]
  simp only [yk,yl]
  omega
theorem zrg {vf:Z→Rd} {o:Bool} {w w0:Nat} {r:Z} (hv:∀ x,z5i x w0=0→∀ r,stop r→vf (prJ x++r)=if z5i x (w+1)=0 then .ok (x,z1z r) else .pan 21)
  {l:List J} {ks:List Z} (hc:z9r l w0=0) (hk:o=true→ks.length=l.length) (hk2:o=false→ks=[]) (hnd:ks.Nodup) (hvk:∀ k∈ks,Lib.validD k=true) :
  nest vf o w (z1z (prL o l ks true++(if o=true then 125 else 93)::r))=if 16≤w then .pan 21 else if z9r l (w+1)=0 then .ok (⟨if o=true then 6 else 5,[],l,ks⟩,z1z r) else .pan 21:=by
 unfold nest
 by_cases h16:16≤w
 ·simp [h16]
 simp only [h16,if_false]
 cases l with
 | nil =>
  have hks:ks=[]:=by
   cases o with
   | false=>exact hk2 rfl
   | true=>exact yi (by simpa using hk rfl)
  subst hks
  have hbl:z1z ((if o=true then 125 else 93)::r)=(if o=true then 125 else 93)::r:=by cases o<;>exact z2i (by decide)
  simp [prL,hbl,take_one,z9r]
 | cons x l =>
  have hcx:=z6c hc x (by simp)
  obtain ⟨c,rr,he,ho⟩:=z9l hcx
  obtain ⟨b1,b2,b3,b4⟩:=zbh ho
  have hfst:∃ d z,prL o (x::l) ks true++(if o=true then 125 else 93)::r=d::z∧bl d=false∧¬d=(if o=true then 125 else 93):=by
   rw [z4g]
   cases o with
   | false=>rw [he];exact ⟨c,_,by simp only [yc,if_false,if_true,ym,yg];rfl,b1,b2⟩
   | true=>exact ⟨34,_,by simp only [if_true,ym,qt,yg];rfl,by decide,by decide⟩
  obtain ⟨d,z,e,g1,g2⟩:=hfst
  have hb:z1z (prL o (x::l) ks true++(if o=true then 125 else 93)::r)=prL o (x::l) ks true++(if o=true then 125 else 93)::r:=by rw [e,z2i g1]
  have ht:take (prL o (x::l) ks true++(if o=true then 125 else 93)::r) [if o=true then 125 else 93]=none:=by rw [e,z1h g2]
  rw [hb,ht]
  have hge:=zwz o (x::l) ks true hc
  have:=zuc (o:=o) (w:=w+1) (w0:=w0) (r:=r) hv l ks [] [] ((prL o (x::l) ks true++(if o=true then 125 else 93)::r).length+1) x (by simp only [yk,yl] at hge ⊢;omega) hc hk (fun h=>⟨hk2 h,rfl⟩) (by simpa using hnd) hvk _ rfl
  rw [this]
  simp
theorem zz02u:∀ (f:Nat) (v:J) (w w0:Nat) (r:Z),w≤16→17≤f+w→z5i v w0=0→stop r→val f (prJ v++r) w=if z5i v w=0 then .ok (v,z1z r) else .pan 21:=by
 intro f
 induction f with
 | zero=>intro v w w0 r h1 h2;omega
 | succ f ih =>
  intro v w w0 r hw hf hc hr
  obtain ⟨c1,c2,c3⟩:=z6z hc
  obtain ⟨d1,d2,d3,d4⟩:=zd2 c2
  have fit:z5i v w=if (v.zi=5∨v.zi=6)∧16≤w then 21 else z9r v.zj (w+1):=by rw [z6j,c2];simp
  have leaf:¬(v.zi=5∨v.zi=6)→z5i v w=0:=fun h=>by
   rw [fit,if_neg (fun x=>h x.1),yi (d2 h)]
   rfl
  have lw:∀ k,v.zi=k→(k=0∨k=1∨k=2)→v=⟨k,[],[],[]⟩:=fun k hk h=>by
   rw [hk] at c2
   obtain ⟨e1,e2,e3⟩:=zu0 h c2
   rw [←zb6 v,hk,e1,e3,yi e2]
  rw [val]
  rcases zfw d3 d4 with h|h|h|h|h|h|h
  ·rw [if_pos (leaf (by omega)),lw 0 h (by simp)]
   have:prJ ⟨0,[],[],[]⟩=[110,117,108,108]:=by simp [prJ]
   rw [this]
   have h1:=zhh [110,117,108,108] r
   simp only [yg,ym] at h1 ⊢
   rw [zc9 (by decide),z1h (by decide),z1h (by decide)]
   simp [word,h1]
  ·rw [if_pos (leaf (by omega)),lw 1 h (by simp)]
   have:prJ ⟨1,[],[],[]⟩=[102,97,108,115,101]:=by simp [prJ]
   rw [this]
   have h1:=zhh [102,97,108,115,101] r
   simp only [yg,ym] at h1 ⊢
   rw [zc9 (by decide),z1h (by decide),z1h (by decide)]
   have h2:take (102::97::108::115::101::r) [110,117,108,108]=none:=z1h (by decide)
   simp [word,h1,h2]
  ·rw [if_pos (leaf (by omega)),lw 2 h (by simp)]
   have:prJ ⟨2,[],[],[]⟩=[116,114,117,101]:=by simp [prJ]
   rw [this]
   have h1:=zhh [116,114,117,101] r
   simp only [yg,ym] at h1 ⊢
   rw [zc9 (by decide),z1h (by decide),z1h (by decide)]
   have h2:take (116::114::117::101::r) [110,117,108,108]=none:=z1h (by decide)
   have h3:take (116::114::117::101::r) [102,97,108,115,101]=none:=z1h (by decide)
   simp [word,h1,h2,h3]
  ·rw [if_pos (leaf (by omega))]
   have c2':=c2
   rw [h] at c2'
   obtain ⟨f1,f2,f3,f4⟩:=zqg c2'
   have hp:prJ v=v.zt:=by rw [zeb,h];simp
   have hnz:¬num v.zt=0:=by rw [f2];exact fun e=>f1 (yi e)
   obtain ⟨c,rr,e,h5⟩:=zn7 hnz
   obtain ⟨_,o1,o2,o3,o4,o5,o6⟩:=zrs c h5
   have hn:num (v.zt++r)=v.zt.length:=by rw [zz2 hr,f2]
   have hlen:¬v.zt.length=0:=fun e=>f1 (yi e)
   have hh:(v.zt++r).head? = some c:=by rw [e];rfl
   have hne:¬some c=some 34:=fun x=>o1 (by injection x)
   have hv:(⟨3,v.zt,[],[]⟩:J)=v:=by rw [←zb6 v,h,f4,yi f3]
   have t0:text (v.zt++r)=none:=by rw [e];exact zc9 o1
   have t1:take (v.zt++r) [91]=none:=by rw [e];exact z1h o2
   have t2:take (v.zt++r) [123]=none:=by rw [e];exact z1h o3
   have t3:take (v.zt++r) [110,117,108,108]=none:=by rw [e];exact z1h o4
   have t4:take (v.zt++r) [102,97,108,115,101]=none:=by rw [e];exact z1h o5
   have t5:take (v.zt++r) [116,114,117,101]=none:=by rw [e];exact z1h o6
   rw [hp]
   simp only [t0,hh,hne,if_false,t1,t2,word,t3,t4,t5,hn,hlen]
   simp [hv]
  ·rw [if_pos (leaf (by omega))]
   have c2':=c2
   rw [h] at c2'
   obtain ⟨f1,f2,f3⟩:=ztz c2'
   have hp:prJ v=qt v.zt:=by rw [zeb,h];simp
   have hv:(⟨4,v.zt,[],[]⟩:J)=v:=by rw [←zb6 v,h,f3,yi f2]
   rw [hp,zm0,if_pos f1]
   simp [hv]
  ·have c2':=c2
   rw [h] at c2'
   obtain ⟨f1,f2⟩:=zty c2'
   have hp:prJ v=91::prL false v.zj v.zw true++[93]:=by rw [zeb,h];simp
   have e1:prJ v++r=91::(prL false v.zj v.zw true++93::r):=by rw [hp];simp
   have hnest:=zrg (vf:=fun s=>val f s (w+1)) (o:=false) (w:=w) (w0:=w0+1) (r:=r) (l:=v.zj) (ks:=v.zw)
   have hw16:16≤w→nest (fun s=>val f s (w+1)) false w (z1z (prL false v.zj v.zw true++93::r)) = .pan 21:=fun x=>by unfold nest;rw [if_pos x]
   have hne34:¬some (91:UInt8)=some 34:=by decide
   have ht:take (91::(prL false v.zj v.zw true++93::r)) [91]=some (z1z (prL false v.zj v.zw true++93::r)):=by simp [take_one]
   rw [e1,zc9 (by decide),fit,ht]
   simp only [yj,hne34,if_false]
   by_cases h16:16≤w
   ·simp [hw16 h16,h,h16]
   ·have:=hnest (fun x hx r hr=>ih x (w+1) (w0+1) r (by omega) (by omega) hx hr) c3 (fun h=>by cases h) (fun _=>f2) (by rw [f2];simp) (fun k hk=>by rw [f2] at hk;cases hk)
    simp only [yc,if_false,h16] at this
    have hv:(⟨5,[],v.zj,v.zw⟩:J)=v:=by rw [←zb6 v,h,f1]
    rw [this]
    simp [h16,hv]
  ·have c2':=c2
   rw [h] at c2'
   obtain ⟨f1,f2,f3,f4⟩:=zxw c2'
   have hp:prJ v=123::prL true v.zj v.zw true++[125]:=by rw [zeb,h];simp
   have e1:prJ v++r=123::(prL true v.zj v.zw true++125::r):=by rw [hp];simp
   have hnest:=zrg (vf:=fun s=>val f s (w+1)) (o:=true) (w:=w) (w0:=w0+1) (r:=r) (l:=v.zj) (ks:=v.zw)
   have hw16:16≤w→nest (fun s=>val f s (w+1)) true w (z1z (prL true v.zj v.zw true++125::r)) = .pan 21:=fun x=>by unfold nest;rw [if_pos x]
   have hne34:¬some (123:UInt8)=some 34:=by decide
   have ht0:take (123::(prL true v.zj v.zw true++125::r)) [91]=none:=z1h (by decide)
   have ht:take (123::(prL true v.zj v.zw true++125::r)) [123]=some (z1z (prL true v.zj v.zw true++125::r)):=by simp [take_one]
   rw [e1,zc9 (by decide),fit,ht0,ht]
   simp only [yj,hne34,if_false]
   by_cases h16:16≤w
   ·simp [hw16 h16,h,h16]
   ·have:=hnest (fun x hx r hr=>ih x (w+1) (w0+1) r (by omega) (by omega) hx hr) c3 (fun _=>f2) (fun h=>by cases h) f3 f4
    simp only [if_true,if_false,h16] at this
    have hv:(⟨6,[],v.zj,v.zw⟩:J)=v:=by rw [←zb6 v,h,f1]
    rw [this]
    simp [h16,hv]
end Go.Sen
