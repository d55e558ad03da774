import Derived.Test.YtfdoofnmjehecaaGreatDoorAShJ
set_option linter.all false
namespace Go.Sen
open _root_.Option renaming bind_eq_bind → ya, bind_none → yb, bind_some → yc, map_some → yd
open _root_.Bool renaming false_and → ye, false_eq_true → yf, false_or → yg, not_false → yh, not_true → yi, or_self → yj
open _root_.List renaming drop_eq_getElem_cons → yk, drop_eq_nil_of_le → yl, drop_zero → ym, getElem?_eq_getElem → yn, getElem?_map → yo, getElem_mem → yp, length_map → yq
open _root_.Nat renaming zero_le → yr
open IntKind renaming wrap → ys
open Go.Lk Go.Pe
theorem zoz:M.q5n=some (tab.map Rw.toR):=MF.q5n.le 300 _ (by kernel_rfl)
def ztt (z:Option (Jn (Z × Z × Bool) (Z × Z))):Option (Z × Z)→Prop
 | some on=>z=some (.go on)
 | none=>z=some (.done ([],[],false))
theorem zz00q {p ws:List Z} (hp:p.length<100000000) (hw:ws.length=p.length):∀ (n i:Nat) (o m:Z),p.length - i=n→i≤p.length→ztt (M.z2p ws p o m (i:Int)) (zby (ws.drop i) (p.drop i) o m):=by
 have e1:([79,70]:Z)=segO:=rfl
 have e2:(B67:Z)=segN:=rfl
 intro n
 induction n with
 | zero =>
  intro i o m hn hi
  have:¬((i:Int)<(ws.length:Int)):=by omega
  rw [M.z2p.eq_1,yl (by omega),yl (by omega)]
  simp [this,zby,ztt]
 | succ n ih =>
  intro i o m hn hi
  have hlt:i<p.length:=by omega
  have hlw:i<ws.length:=by omega
  have h1:((i:Int)<(ws.length:Int)):=by omega
  rw [M.z2p.eq_1,yk hlt,yk hlw,e1,e2]
  simp only [h1,decide_true,if_true,z4k,yn hlt,yn hlw,ya,yc,w1 (show i<4611686018427387904 by omega)]
  obtain ⟨w,hw'⟩:∃ w,ws[i]=w:=⟨_,rfl⟩
  obtain ⟨s,hs'⟩:∃ s,p[i]=s:=⟨_,rfl⟩
  rw [hw',hs',zby]
  by_cases c1:w=segO
  ·simp only [c1,decide_true,if_true]
   by_cases c2:s=[]
   ·simp [c2,ztt]
   ·simp only [c2,decide_false,yf,if_false]
    exact ih (i+1) s m (by omega) (by omega)
  ·by_cases c3:w=segN
   ·subst c3
    simp only [c1,decide_true,decide_false,yf,if_true,if_false]
    exact ih (i+1) o s (by omega) (by omega)
   ·by_cases c4:w=s
    ·subst c4
     simp only [c1,c3,decide_true,decide_false,yi,yf,if_true,if_false]
     exact ih (i+1) o m (by omega) (by omega)
    ·simp [c1,c3,c4,ztt]
theorem zgn {r:Rw} (h:zh3 r) {p:List Z} (hp:p.length<100000000):M.q6j r.toR p=some (match zby r.sg p [] [] with|some on=>(on.1,on.2,true)|none=>([],[],false)):=by
 have h1:=h.one
 have h2:=h.len
 unfold M.q6j
 have hs:sub r.toR.z09 1 (r.toR.z09.length:Int)=some ((zpc r.sg).drop 1):=zaw (l:=zpc r.sg) (a:=1) h1
 have hc:M.q5z ((zpc r.sg).drop 1) 47=some (z0l 47 ((zpc r.sg).drop 1)):=zuh 47 (by rw [List.length_drop];omega)
 rw [hs]
 simp only [ya,yc,hc,h.cut]
 by_cases hl:r.sg.length=p.length
 ·have hl':((r.sg.length:Int)=(p.length:Int)):=by omega
  have hk:=zz00q hp hl _ 0 [] [] rfl (yr _)
  rw [ym,ym] at hk
  have hk:ztt (M.z2p r.sg p [] [] 0) (zby r.sg p [] []):=hk
  simp only [hl',decide_true,yi,yf,if_false]
  cases hf:zby r.sg p [] [] with
  | some on =>
   rw [hf] at hk
   have hk:M.z2p r.sg p [] [] 0=some (.go on):=hk
   rw [hk]
   rfl
  | none =>
   rw [hf] at hk
   have hk:M.z2p r.sg p [] [] 0=some (.done ([],[],false)):=hk
   rw [hk]
   rfl
 ·have hl':¬((r.sg.length:Int)=(p.length:Int)):=by omega
  cases hf:zby r.sg p [] [] with
  | some on=>exact (hl (zce hf)).elim
  | none =>
   simp only [hl',decide_false,yh,if_true]
theorem zp8 {l:List Z} (hl:l.length<1000000000) (hm:∀ x∈l,x.length<100000000):∀ (n i:Nat),l.length - i=n→i≤l.length →
  ∃ z,M.z2t l (i:Int)=some z∧(z = .done (zee (l.drop i))∨z = .go ()∧zee (l.drop i)=[]):=by
 intro n
 induction n with
 | zero =>
  intro i hn hi
  have:¬((i:Int)<(l.length:Int)):=by omega
  rw [M.z2t.eq_1,yl (by omega)]
  simp [this,zee]
 | succ n ih =>
  intro i hn hi
  have hlt:i<l.length:=by omega
  have h1:((i:Int)<(l.length:Int)):=by omega
  have hx:=hm _ (yp hlt)
  have hb:=zen l[i]
  have hf:M.q67 (bare l[i]) 61=some (z1h 61 (bare l[i])):=zle 61 (by omega)
  rw [M.z2t.eq_1,yk hlt]
  simp only [h1,decide_true,if_true,z4k,yn hlt,ya,yc]
  rw [zp1 (by omega)]
  have e:([115,101,115,115,105,111,110]:Z)=kSes:=rfl
  simp only [yc,hf,e]
  rw [zee]
  by_cases c:(z1h 61 (bare l[i])).2.2=true∧(z1h 61 (bare l[i])).1=kSes
  ·rw [if_pos c]
   simp only [c.1,c.2,decide_true,Bool.and_self,if_true]
   exact ⟨_,rfl,.inl rfl⟩
  ·have cb:((z1h 61 (bare l[i])).2.2&&decide ((z1h 61 (bare l[i])).1=kSes))=false:=by
    cases h1:(z1h 61 (bare l[i])).2.2 with
    | false=>rfl
    | true=>simpa using fun q=>c ⟨h1,q⟩
   rw [if_neg c]
   simp only [cb,yf,if_false]
   rw [w1 (by omega)]
   exact ih (i+1) (by omega) (by omega)
theorem zhk {l:List q05} (hl:l.length<100000000) (hf:zkg l):M.q6o l=some (zed l):=by
 unfold M.q6o zed
 have hv:=z61 hf z4n
 have e:(B50:Z)=z4n:=rfl
 have hc:M.q5z (z4h l z4n []) 59=some (z0l 59 (z4h l z4n [])):=zuh 59 hv
 rw [e,za0 z4n (by omega)]
 simp only [ya,yc,hc]
 have hs:=zao 59 (z4h l z4n [])
 obtain ⟨z,hz,hc⟩:=zp8 (l:=z0l 59 (z4h l z4n [])) (by omega) (fun x hx=>by have:=z4z 59 _ x hx;omega) _ 0 rfl (yr _)
 have hz:M.z2t (z0l 59 (z4h l z4n [])) 0=some z:=hz
 rw [ym] at hc
 rw [hz]
 rcases hc with rfl|⟨rfl,hc⟩
 ·rfl
 ·rw [hc]
  rfl
theorem zq4 (c:UInt8):∀ s:Z,(z1h c s).2.2=s.contains c
 | []=>rfl
 | x::r=>by
  rw [z3e,List.contains_cons,←zq4 c r]
  by_cases h:x=c
  ·simp [h]
  ·have:(c==x)=false:=by simpa using fun q=>h q.symm
   simp [h,this]
theorem zt2 {s:Z} (h:s.length<100000000):M.q6r s=some (zn1 s):=by
 unfold M.q6r zn1
 have h1:M.q67 s 34=some (z1h 34 s):=zle 34 h
 have h2:M.q5u s 33 126=some (z6x 33 126 s):=zik 33 126 (by omega)
 simp only [h1,h2,ya,yc,zq4]
theorem zx8 {l:List q05} {r:Rw} (hr:zh3 r) {i:Nat} {x:q05} (hx:l[i]? = some x):∀ (n j:Nat) (b:Bool),r.ps.length - j=n→j≤r.ps.length →
  M.z3r r.toR l (i:Int) b (j:Int)=some (b||z69 (r.ps.drop j) x.zo):=by
 have hpl:=hr.psl
 have hgl:r.toR.z6d.length=r.ps.length:=yq ..
 intro n
 induction n with
 | zero =>
  intro j b hn hj
  have:¬((j:Int)<(r.toR.z6d.length:Int)):=by rw [hgl];omega
  rw [M.z3r.eq_1,yl (by omega)]
  simp [this,z69]
 | succ n ih =>
  intro j b hn hj
  have hlt:j<r.ps.length:=by omega
  have h1:((j:Int)<(r.toR.z6d.length:Int)):=by rw [hgl];omega
  have hp:ix r.toR.z6d (j:Int)=some (Pt.toR r.ps[j]):=by
   rw [z4k]
   show (r.ps.map Pt.toR)[j]? = _
   rw [yo,yn hlt]
   rfl
  have en:(Pt.toR r.ps[j]).zo=r.ps[j].nm:=by cases r.ps[j]<;>rfl
  have ek:z69 (r.ps[j]::r.ps.drop (j+1)) x.zo=(decide (r.ps[j].nm=x.zo)||z69 (r.ps.drop (j+1)) x.zo):=by unfold z69;rw [List.any_cons]
  rw [M.z3r.eq_1,yk hlt,ek]
  simp only [h1,decide_true,if_true,hp,z4k,hx,ya,yc,en]
  rw [w1 (by omega)]
  cases b with
  | true =>
   simp only [if_true,yc,Bool.true_or]
   rw [ih (j+1) true (by omega) (by omega)]
   rfl
  | false =>
   simp only [yf,if_false,yc,yg]
   rw [ih (j+1) _ (by omega) (by omega)]
theorem zx7 {l:List q05} {r:Rw} (hr:zh3 r) (a:q00) (hl:l.length<100000000):∀ (n i:Nat),l.length - i=n→i≤l.length →
  M.z3q l r.toR a (i:Int)=some (if (l.drop i).all (fun p=>decide (zbl l p.zo=1)&&z69 r.ps p.zo)=true then .go () else .done (a,false)):=by
 intro n
 induction n with
 | zero =>
  intro i hn hi
  have:¬((i:Int)<(l.length:Int)):=by omega
  rw [M.z3q.eq_1,yl (by omega)]
  simp [this]
 | succ n ih =>
  intro i hn hi
  have hlt:i<l.length:=by omega
  have h1:((i:Int)<(l.length:Int)):=by omega
  have hk2:=zx8 hr (l:=l) (i:=i) (yn hlt) _ 0 false rfl (yr _)
  rw [ym,yg] at hk2
  have hk2:M.z3r r.toR l (i:Int) false 0=_:=hk2
  rw [M.z3q.eq_1,yk hlt,List.all_cons]
  simp only [h1,decide_true,if_true,z4k,yn hlt,ya,yc]
  rw [zdl _ (by omega)]
  simp only [yc,hk2]
  by_cases c:zbl l l[i].zo=1
  ·have c':(((zbl l l[i].zo:Nat):Int)=1):=by omega
   cases hkn:z69 r.ps l[i].zo with
   | false=>simp [c,c']
   | true =>
    simp only [c,c',decide_true,yi,yj,yf,if_false,yc,Bool.and_self,Bool.true_and]
    rw [w1 (by omega)]
    exact ih (i+1) (by omega) (by omega)
  ·have c':¬(((zbl l l[i].zo:Nat):Int)=1):=by omega
   simp [c,c']
theorem zqm {t:Nat × Nat × Z} (h:t∈z9n) (a:q00) (v:Z):M.q6p a t.2.2 v=some (zng a t.1 v,true) :=
 z5f (P:=fun t=>M.q6p a t.2.2 v=some (zng a t.1 v,true)) h rfl rfl rfl rfl rfl rfl rfl rfl rfl rfl rfl rfl rfl rfl rfl rfl rfl rfl
theorem zz03m {t:Nat × Nat × Z} (h:t∈z9n):¬t.2.2=[] :=
 z5f (P:=fun t=>¬t.2.2=[]) h (by decide) (by decide) (by decide) (by decide) (by decide) (by decide) (by decide) (by decide) (by decide) (by decide) (by decide) (by decide) (by decide) (by decide) (by decide) (by decide) (by decide) (by decide)
theorem zz08r {t:Nat × Nat × Z} (h:t∈z9n) (a:q00) (v:Z) (c:Bool):zqr (zng a t.1 v) c=zqr a c:=by
 cases c
 ·exact z5f (P:=fun t=>zqr (zng a t.1 v) false=zqr a false) h rfl rfl rfl rfl rfl rfl rfl rfl rfl rfl rfl rfl rfl rfl rfl rfl rfl rfl
 ·exact z5f (P:=fun t=>zqr (zng a t.1 v) true=zqr a true) h rfl rfl rfl rfl rfl rfl rfl rfl rfl rfl rfl rfl rfl rfl rfl rfl rfl rfl
theorem zz08p {a:q00} {c:Bool} (h:zqr a c=0):zxi a c 0=a:=by
 unfold zqr at h
 unfold zxi
 obtain ⟨a0,a1,a2,a3,a4,a5,a6,a7,a8,a9,a10,a11,a12,a13,a14,a15,a16,a17,a18,a19,a20,a21,a22,a23,a24,a25⟩:=a
 cases c
 ·simp only [yf,if_false] at h ⊢
  rw [h]
 ·simp only [if_true] at h ⊢
  rw [h]
theorem zta {a:q00} {c d:Bool} {n:Int} (h:¬d=c):zqr (zxi a c n) d=zqr a d:=by
 cases c<;>cases d
 ·exact (h rfl).elim
 ·rfl
 ·rfl
 ·exact (h rfl).elim
theorem zz083 (v:Z):(0≤numC 9 v)↔isNum 9 v=true:=by
 unfold numC
 cases isNum 9 v with
 | true=>simp
 | false=>simp
theorem zz08l {c:Bool} (a:q00) (v:Z):M.q6p a (if c=true then B62 else B80) v=some (zxi a c (if v=[] then 0 else numC 9 v),decide (v=[]∨isNum 9 v=true)):=by
 have hc:M.q5y v 9=some (numC 9 v):=zmj (k:=9) (by decide)
 have key:=zz083 v
 by_cases h:v=[]
 ·subst h
  cases c<;>rfl
 ·cases c with
  | true=>simp [M.q6p,hc,h,key,zxi]
  | false=>simp [M.q6p,hc,h,key,zxi]
def RZ (z:Option (Jn (q00 × Bool) q00)):Option q00→Prop
 | some a=>z=some (.go a)
 | none=>∃ a,z=some (.done (a,false))
theorem zx9 {l:List q05} {r:Rw} (hr:zh3 r) (hl:l.length<100000000) (hf:zkg l):∀ (n i:Nat) (a:q00),r.ps.length - i=n→i≤r.ps.length→(∀ c∈cns (r.ps.drop i),zqr a c=0)→(cns (r.ps.drop i)).Nodup→RZ (M.z2h r.toR l (i:Int) a) (zrn l (r.ps.drop i) a):=by
 have hpl:=hr.psl
 have hgl:r.toR.z6d.length=r.ps.length:=yq ..
 intro n
 induction n with
 | zero =>
  intro i a hn hi _ _
  have:¬((i:Int)<(r.toR.z6d.length:Int)):=by rw [hgl];omega
  rw [M.z2h.eq_1,yl (by omega)]
  simp [this,zrn,RZ]
 | succ n ih =>
  intro i a hn hi h0 hnd
  have hlt:i<r.ps.length:=by omega
  have h1:((i:Int)<(r.toR.z6d.length:Int)):=by rw [hgl];omega
  have hx:ix r.toR.z6d (i:Int)=some (Pt.toR r.ps[i]):=by
   rw [z4k]
   show (r.ps.map Pt.toR)[i]? = _
   rw [yo,yn hlt]
   rfl
  have hok:=hr.ps _ (yp hlt)
  rw [yk hlt] at h0 hnd
  rw [M.z2h.eq_1,yk hlt,zrn]
  simp only [h1,decide_true,if_true,hx,ya,yc]
  obtain ⟨p,hp⟩:∃ p,r.ps[i]=p:=⟨_,rfl⟩
  rw [hp] at hok h0 hnd ⊢
  rw [zdl _ (by omega),w1 (by omega)]
  simp only [yc]
  cases p with
  | fx nm v =>
   have hfd:(Pt.toR (.fx nm v)).zi6=[]:=rfl
   have hfx:(Pt.toR (.fx nm v)).zvb=v:=rfl
   have hnm:(Pt.toR (.fx nm v)).zo=nm:=rfl
   simp only [hfd,hfx,hnm,decide_true,if_true]
   rw [zz053]
   have hpos:=zjd l nm
   by_cases c:zav l nm=true∧z4h l nm []=v
   ·rw [if_pos c]
    rw [c.1,decide_eq_true_iff] at hpos
    have n0:¬(((zbl l nm:Nat):Int)=0):=by omega
    simp only [n0,c.2,decide_false,decide_true,yi,yj,yf,if_false]
    exact ih (i+1) a (by omega) (by omega) h0 hnd
   ·rw [if_neg c]
    have cb:(decide (((zbl l nm:Nat):Int)=0) || !decide (z4h l nm []=v))=true:=by
     cases h1:zav l nm with
     | false =>
      rw [h1,decide_eq_false_iff_not] at hpos
      have:(((zbl l nm:Nat):Int)=0):=by omega
      simp [this]
     | true =>
      have:¬z4h l nm []=v:=fun q=>c ⟨h1,q⟩
      simp [this]
    simp only [cb,if_true]
    exact ⟨a,rfl⟩
  | st nm t w =>
   have ht:=zwv hok
   have hfd:(Pt.toR (.st nm t w)).zi6=t.2.2:=rfl
   have hw:(Pt.toR (.st nm t w)).zzd=w:=rfl
   have hnm:(Pt.toR (.st nm t w)).zo=nm:=rfl
   simp only [hfd,hw,hnm,zz03m ht,decide_false,yf,if_false]
   rw [zz054]
   have hv:=z61 hf nm
   have h0':∀ v,∀ c∈cns (r.ps.drop (i+1)),zqr (zng a t.1 v) c=0:=fun v c hc=>by rw [zz08r ht];exact h0 c hc
   cases w with
   | false =>
    simp only [yf,if_false,yc,zqm ht,yi]
    exact ih (i+1) _ (by omega) (by omega) (h0' _) hnd
   | true =>
    simp only [if_true,zdk (show (z4h l nm []).length<100000000 by omega),yc]
    cases hb:zyl (z4h l nm []) with
    | none =>
     simp only [Option.map_none,yb]
     exact ⟨a,by simp⟩
    | some v =>
     simp only [decide_true,yi,yf,if_false,yc,zqm ht,yd]
     exact ih (i+1) _ (by omega) (by omega) (h0' _) hnd
  | cn nm c =>
   have hfd:(Pt.toR (.cn nm c)).zi6=if c=true then B62 else B80:=rfl
   have hw:(Pt.toR (.cn nm c)).zzd=false:=rfl
   have hnm:(Pt.toR (.cn nm c)).zo=nm:=rfl
   have hne:¬((if c=true then B62 else B80:Z)=[]):=by cases c<;>decide
   have hd:cns (.cn nm c::r.ps.drop (i+1))=c::cns (r.ps.drop (i+1)):=rfl
   rw [hd] at h0 hnd
   have hca:=h0 c (by simp)
   have h0r:∀ d∈cns (r.ps.drop (i+1)),zqr a d=0:=fun d hd=>h0 d (by simp [hd])
   rw [List.nodup_cons] at hnd
   simp only [hfd,hw,hnm,hne,decide_false,yf,if_false,yc,zz08l]
   rw [zz052]
   by_cases he:z4h l nm []=[]
   ·rw [if_pos he]
    simp only [he,true_or,decide_true,yi,yf,if_false,if_true,zz08p hca,yc]
    exact ih (i+1) a (by omega) (by omega) h0r hnd.2
   ·rw [if_neg he]
    simp only [he,false_or,if_false]
    cases hn9:isNum 9 (z4h l nm []) with
    | false =>
     simp only [yf,decide_false,yh,if_true,if_false,yb]
     exact ⟨_,rfl⟩
    | true =>
     have en:numC 9 (z4h l nm [])=((zbe 0 (z4h l nm []):Nat):Int):=by unfold numC;rw [if_pos hn9]
     simp only [decide_true,yi,yf,if_true,if_false,en,yc]
     refine ih (i+1) _ (by omega) (by omega) (fun d hd => ?_) hnd.2
     rw [zta (fun q:d=c=>hnd.1 (by rw [←q];exact hd))]
     exact h0r d hd
def RZ2 (z:Option (q00 × Bool)):Option q00→Prop
 | some a=>z=some (a,true)
 | none=>∃ a,z=some (a,false)
theorem zcv {l:List q05} {r:Rw} (hr:zh3 r) (hl:l.length<100000000) (hf:zkg l) {a:q00} (h1:a.z2y=0) (h2:a.z1d=0):RZ2 (M.q68 r.toR a l) (zlf r.ps l a):=by
 unfold M.q68
 have k1:=zx7 hr a hl _ 0 rfl (yr _)
 rw [ym] at k1
 have k1:M.z3q l r.toR a 0=some (if zgd r.ps l=true then .go () else .done (a,false)):=k1
 have k3:=zx9 hr hl hf _ 0 a rfl (yr _) (fun c _=>by unfold zqr;cases c<;>simp [h1,h2]) (by rw [ym];exact hr.cns)
 rw [ym] at k3
 have k3:RZ (M.z2h r.toR l 0 a) (zrn l r.ps a):=k3
 rw [k1]
 unfold zlf
 cases zgd r.ps l with
 | false=>exact ⟨a,rfl⟩
 | true =>
  simp only [if_true,ya,yc]
  cases hp:zrn l r.ps a with
  | none =>
   rw [hp] at k3
   obtain ⟨b,k3⟩:=k3
   rw [k3]
   exact ⟨b,rfl⟩
  | some b =>
   rw [hp] at k3
   have k3:M.z2h r.toR l 0 a=some (.go b):=k3
   rw [k3]
   rfl
def rA (k:Int) (o n s t g:Z):q00:=⟨k,o,[],[],s,[],t,[],[],[],[],[],[],[],[],[],n,[],[],[],g,[],[],[],0,0⟩
theorem zi8 (p v:Z):p.isPrefixOf v=decide (v.take p.length=p):=by
 rw [Bool.eq_iff_iff,decide_eq_true_iff,List.isPrefixOf_iff_prefix,List.prefix_iff_eq_take]
 grind
theorem whS_1 {r:Rw} (h:zh3 r):(decide (whS r.wh=B32)=decide (r.wh=2))∧(decide (whS r.wh=[])=decide (r.wh=0))∧(decide (whS r.wh=B10)=decide (r.wh=1))∧(decide (whS r.wh=B69)=decide (r.wh=4))∧(decide (whS r.wh=B75)=decide (r.wh=3)):=by
 rcases zkb h with w|w|w|w|w<;>rw [w]<;>decide
theorem RZ2.ret {z:Option (q00 × Bool)} {x:Option q00} (h:RZ2 z x):RZ2 (z.bind fun a=>some (a.1,a.2)) x:=by
 cases x with
 | some a =>
  have h:z=some (a,true):=h
  grind
 | none =>
  obtain ⟨a,h⟩:=h
  rw [h]
  exact ⟨a,rfl⟩
theorem zp4 {s:Z} {f:Nat} (hf:17≤f) (a:q00):RZ2 ((M.q4q f s).bind fun a139=>(M.q4p a139.1 [105,100]).bind fun a141=>(M.q4p a139.1 B33).bind fun a143=>(M.q64 a143.1).bind fun a145 =>
  if ((((((!decide (a139.2=0))||(!decide ((a139.1.zk.length:Int)=2)))||(!a141.2))||(!a143.2))||(!decide (a141.1.zh=4)))||(!a145.2))=true then some (a,false)
  else some ({ a with zo:=a141.1.z0i,zt:=a145.1 },true)) (zsn s a):=by
 obtain ⟨h1,h2⟩:=zjw s
 have e1:([105,100]:Z)=kId:=rfl
 have e2:(B33:Z)=z4a:=rfl
 have hp:=h1.parts
 rw [zmg s hf,e1,e2]
 simp only [yc]
 rw [zcu (by omega),zcu (by omega)]
 simp only [yc]
 rw [zt4 (h1.z88 z4a) (h2.z88 z4a).keys]
 simp only [yc]
 unfold zsn
 by_cases c:(parse s).2=0∧(parse s).1.zk.length=2∧(z88 (parse s).1 kId).2=true∧(z88 (parse s).1 z4a).2=true∧(z88 (parse s).1 kId).1.zh=4∧(z98 (z88 (parse s).1 z4a).1).2=true
 ·rw [if_pos c]
  obtain ⟨c1,c2,c3,c4,c5,c6⟩:=c
  have c2':(((parse s).1.zk.length:Int)=2):=by omega
  simp only [c1,c2',c3,c4,c5,c6,decide_true,yi,yj,yf,if_false]
  rfl
 ·rw [if_neg c]
  have:((((((!decide ((parse s).2=0))||(!decide (((parse s).1.zk.length:Int)=2)))||(!(z88 (parse s).1 kId).2))||(!(z88 (parse s).1 z4a).2))||(!decide ((z88 (parse s).1 kId).1.zh=4)))||(!(z98 (z88 (parse s).1 z4a).1).2))=true:=by
   apply Classical.byContradiction
   intro q
   have q:=Bool.eq_false_iff.2 q
   simp only [Bool.or_eq_false_iff,Bool.not_eq_false',decide_eq_true_eq] at q
   obtain ⟨⟨⟨⟨⟨q1,q2⟩,q3⟩,q4⟩,q5⟩,q6⟩:=q
   exact c ⟨q1,by omega,q3,q4,q5,q6⟩
  simp only [this,if_true]
  exact ⟨a,rfl⟩
theorem zek {s:Z} (h:s.length<100000000):M.q4c s=some (z25 s):=by
 by_cases h8:s.length<1000000
 ·exact zgj h8
 ·unfold M.q4c z25
  grind
theorem zp2 {r:Rw} (hr:zh3 r) {q:q03} (hq:fit q) {f:Nat} (hf:34≤f) (k:Int) (o n s t g:Z) :
  RZ2 (if (((!decide (r.toR.z5k=(B32:Z)))&&(decide (0<(q.z0r.length:Int))))||(if (decide (r.toR.z5k=([]:Z)))=true then (!decide (q.z01=([]:Z))) else ((decide (r.toR.z5k=(B32:Z)))&&(!decide (q.z01=([]:Z))))))=true then some (rA k o n s t g,false)
   else if (decide (r.toR.z5k=(B32:Z)))=true then (M.q68 r.toR (rA k o n s t g) q.z0r).bind fun a=>some (a.1,a.2)
   else if (decide (r.toR.z5k=(B10:Z)))=true then (M.q4c q.z01).bind fun a135=>if (!decide (a135.2=0))=true then some (rA k o n s t g,false) else (M.q68 r.toR (rA k o n s t g) a135.1).bind fun a=>some (a.1,a.2)
   else if (decide (r.toR.z5k=(B69:Z)))=true then some ({ rA k o n s t g with z1j:=q.z01 },true)
   else if (decide (r.toR.z5k=(B75:Z)))=true then ((M.q4q f q.z01).bind fun a139=>(M.q4p a139.1 [105,100]).bind fun a141=>(M.q4p a139.1 B33).bind fun a143=>(M.q64 a143.1).bind fun a145 =>
  if ((((((!decide (a139.2=0))||(!decide ((a139.1.zk.length:Int)=2)))||(!a141.2))||(!a143.2))||(!decide (a141.1.zh=4)))||(!a145.2))=true then some (rA k o n s t g,false)
  else some ({ rA k o n s t g with zo:=a141.1.z0i,zt:=a145.1 },true))
   else some (rA k o n s t g,true)) (if r.wh=2∨q.z0r=[] then zu6 r q (rA k o n s t g) else none):=by
 obtain ⟨_,f2,_,f4,f5,f6,f7,f8⟩:=hq
 obtain ⟨w1,w2,w3,w4,w5⟩:=whS_1 hr
 have ew:r.toR.z5k=whS r.wh:=rfl
 rw [ew]
 have eq0:decide (0<(q.z0r.length:Int)) = !decide (q.z0r=[]):=by
  cases q.z0r with
  | nil=>rfl
  | cons x l=>simp
 simp only [w1,w2,w3,w4,w5,eq0]
 by_cases c:r.wh=2∨q.z0r=[]
 ·have cq:(!decide (r.wh=2) && !decide (q.z0r=[]))=false:=by
   rcases c with c|c<;>simp [c]
  rw [if_pos c]
  simp only [cq,yg]
  unfold zu6
  rcases zkb hr with w|w|w|w|w
  ·simp only [w,decide_true,if_true]
   grind [RZ2]
  ·obtain ⟨ff1,ff2⟩:=zdw q.z01
   have n2:¬(1:Nat)=2:=by decide
   have n0:¬(1:Nat)=0:=by decide
   simp only [w,n2,n0,decide_true,decide_false,ye,yf,if_true,if_false]
   rw [zek (by omega)]
   simp only [yc]
   by_cases cb:(z25 q.z01).2=0
   ·simp only [cb,decide_true,yi,yf,if_true,if_false]
    exact (zcv hr (by omega) ff1 rfl rfl).ret
   ·simp only [cb,decide_false,yh,if_true,if_false]
    exact ⟨_,rfl⟩
  ·have n0:¬(2:Nat)=0:=by decide
   simp only [w,n0,decide_true,decide_false,Bool.true_and,yf,if_true,if_false]
   by_cases cb:q.z01=[]
   ·simp only [cb,decide_true,yi,yf,if_true,if_false]
    exact (zcv hr f4 f5 rfl rfl).ret
   ·simp only [cb,decide_false,yh,if_true,if_false]
    exact ⟨_,rfl⟩
  ·have n0:¬(3:Nat)=0:=by decide
   have n1:¬(3:Nat)=1:=by decide
   have n2:¬(3:Nat)=2:=by decide
   have n4:¬(3:Nat)=4:=by decide
   simp only [w,n0,n1,n2,n4,decide_true,decide_false,ye,yf,if_true,if_false]
   grind [zp4]
  ·have n0:¬(4:Nat)=0:=by decide
   have n1:¬(4:Nat)=1:=by decide
   have n2:¬(4:Nat)=2:=by decide
   simp only [w,n0,n1,n2,decide_true,decide_false,ye,yf,if_true,if_false]
   rfl
 ·have cq:(!decide (r.wh=2) && !decide (q.z0r=[]))=true:=by
   have c1:¬r.wh=2:=fun h=>c (.inl h)
   have c2:¬q.z0r=[]:=fun h=>c (.inr h)
   simp [c1,c2]
  rw [if_neg c]
  simp only [cq,Bool.true_or,if_true]
  exact ⟨_,rfl⟩
theorem zn2:zn1 []=true:=rfl
theorem zp0 {r:Rw} (hr:zh3 r) {q:q03} (hq:fit q) {f:Nat} (hf:34≤f) {on:Z × Z} (hfit:zby r.sg q.z09 [] []=some on):RZ2 (M.q5v f r.toR q) (zy6 r q on.1 on.2):=by
 have hq':=hq
 obtain ⟨_,f2,_,f4,f5,f6,f7,f8⟩:=hq'
 unfold M.q5v
 rw [zgn hr f2,hfit]
 have e1:(B24:Z)=z7p:=rfl
 have e2:(B46:Z)=zde:=rfl
 have e3:(B39:Z)=kIf:=rfl
 have g1:r.toR.zq=r.mr.testBit 0:=rfl
 have g2:r.toR.zbj=r.mr.testBit 1:=rfl
 have g3:r.toR.z5v=r.mr.testBit 2:=rfl
 have hv1:=z61 f7 z7p
 have hv2:=z61 f7 kIf
 have hck:=zkz f7
 rw [e1,e2,e3,g1,g2,g3]
 simp only [ya,yc,zhk f6 f7,za0 z7p (show q.z0h.length<1000000000 by omega),za0 kIf (show q.z0h.length<1000000000 by omega)]
 -- the session
 obtain ⟨s,hs⟩:∃ s,s=if r.mr.testBit 0=true then zed q.z0h else []:=⟨_,rfl⟩
 have hsl:s.length<100000000:=by
  rw [hs]
  split
  ·exact hck
  ·simp
 have js:(if r.mr.testBit 0=true then some (zed q.z0h) else some [])=some s:=by rw [hs];split<;>rfl
 have ps:sesP r.mr q.z0h=if zb5 s=true then some s else none:=by
  unfold sesP
  rw [hs]
  cases r.mr.testBit 0 with
  | true=>rfl
  | false=>rfl
 rw [js]
 simp only [yc]
 unfold zy6 zll
 rw [ps]
 -- the token
 obtain ⟨v,hv⟩:∃ v,z4h q.z0h z7p []=v:=⟨_,rfl⟩
 obtain ⟨u,hu⟩:∃ u,z4h q.z0h kIf []=u:=⟨_,rfl⟩
 rw [hv] at hv1
 rw [hu] at hv2
 simp only [hv,hu]
 have e7:zde.length=7:=rfl
 have hj43:(if (decide ((v.length:Int)<7))=true then some true else (sub v 0 7).bind fun s44=>some (!decide (s44=zde)))=some (!zde.isPrefixOf v):=by
  rw [zi8,e7]
  by_cases c:v.length<7
  ·have c':((v.length:Int)<7):=by omega
   have:¬v.take 7=zde:=fun q=>by grind
   grind
  ·grind [zhl]
 have htk:(∃ t,(if r.mr.testBit 1=true then (if zav q.z0h z7p=true then (if (decide ((v.length:Int)<7))=true then some true else (sub v 0 7).bind fun s44=>some (!decide (s44=zde))) else some false).bind fun j43=>if j43=true then some (.done (rA r.kd on.1 on.2 s [] [],false)) else if zav q.z0h z7p=true then (sub v 7 (v.length:Int)).bind fun s45=>some (.go s45) else some (.go []) else some (.go []):Option (Jn (q00 × Bool) Z))=some (.go t)∧t.length<100000000∧tokP r.mr q.z0h=(if (r.mr.testBit 1 && !z6x 33 126 t)=true then none else some t))∨((if r.mr.testBit 1=true then (if zav q.z0h z7p=true then (if (decide ((v.length:Int)<7))=true then some true else (sub v 0 7).bind fun s44=>some (!decide (s44=zde))) else some false).bind fun j43=>if j43=true then some (.done (rA r.kd on.1 on.2 s [] [],false)) else if zav q.z0h z7p=true then (sub v 7 (v.length:Int)).bind fun s45=>some (.go s45) else some (.go []) else some (.go []):Option (Jn (q00 × Bool) Z))=some (.done (rA r.kd on.1 on.2 s [] [],false))∧tokP r.mr q.z0h=none):=by
  unfold tokP
  rw [hv]
  cases h1:r.mr.testBit 1 with
  | false=>simp
  | true =>
   cases h2:zav q.z0h z7p with
   | false=>grind [z6x]
   | true =>
    simp only [if_true,hj43,yc,true_and]
    cases h3:zde.isPrefixOf v with
    | false=>simp
    | true =>
     have hl7:7≤v.length:=by
      rw [zi8,e7,decide_eq_true_iff] at h3
      have:=congrArg List.length h3
      rw [List.length_take,e7] at this
      omega
     have hs7:sub v 7 (v.length:Int)=some (v.drop 7):=zaw (l:=v) (a:=7) hl7
     grind
 have eA:∀ s t g,(q00.mk r.toR.zh on.1 ([]:Z) ([]:Z) s ([]:Z) t ([]:Z) ([]:Z) ([]:Z) ([]:Z) ([]:Z) ([]:Z) ([]:Z) ([]:Z) ([]:Z) on.2 ([]:Z) ([]:Z) ([]:Z) g ([]:Z) ([]:Z) [] 0 0)=rA r.kd on.1 on.2 s t g:=fun _ _ _=>rfl
 simp only [eA]
 rcases htk with ⟨t,ht1,ht2,ht3⟩|⟨ht1,ht3⟩
 rotate_left
 ·rw [ht1,ht3]
  cases (if zb5 s=true then some s else none) with
  | none=>exact ⟨_,rfl⟩
  | some x=>exact ⟨_,rfl⟩
 rw [ht1]
 simp only [yc]
 -- the tag
 have htg:(∃ g,(if r.mr.testBit 2=true then (if zav q.z0h kIf=true then (if (decide ((u.length:Int)<2))=true then some true else (ix u 0).bind fun c90=>if (!decide ((c90.toNat:Int)=34))=true then some true else (ix u (ys .i64 ((u.length:Int) - 1))).bind fun c91=>some (!decide ((c91.toNat:Int)=34))) else some false).bind fun j89=>if j89=true then some (.done (rA r.kd on.1 on.2 s t [],false)) else if zav q.z0h kIf=true then (sub u 1 (ys .i64 ((u.length:Int) - 1))).bind fun s92=>some (.go s92) else some (.go []) else some (.go []):Option (Jn (q00 × Bool) Z))=some (.go g)∧g.length<100000000∧zy9 r.mr q.z0h=(if zn1 g=true then some g else none))∨((if r.mr.testBit 2=true then (if zav q.z0h kIf=true then (if (decide ((u.length:Int)<2))=true then some true else (ix u 0).bind fun c90=>if (!decide ((c90.toNat:Int)=34))=true then some true else (ix u (ys .i64 ((u.length:Int) - 1))).bind fun c91=>some (!decide ((c91.toNat:Int)=34))) else some false).bind fun j89=>if j89=true then some (.done (rA r.kd on.1 on.2 s t [],false)) else if zav q.z0h kIf=true then (sub u 1 (ys .i64 ((u.length:Int) - 1))).bind fun s92=>some (.go s92) else some (.go []) else some (.go []):Option (Jn (q00 × Bool) Z))=some (.done (rA r.kd on.1 on.2 s t [],false))∧zy9 r.mr q.z0h=none):=by
  unfold zy9
  rw [hu]
  cases h1:r.mr.testBit 2 with
  | false=>grind [zn2]
  | true =>
   cases h2:zav q.z0h kIf with
   | false=>grind [zn2]
   | true =>
    simp only [if_true,true_and]
    by_cases c2:2≤u.length
    ·have c2':¬((u.length:Int)<2):=by omega
     obtain ⟨x,y,hx,hy,hq⟩:=zgi c2
     have h0:ix u 0=some x:=by rw [zsm,←List.head?_eq_getElem?,hx]
     have hun:=zxy u
     simp only [c2',decide_false,yf,if_false,h0,zvx c2 hv2,hy,yc,zz01i,hq,zxz c2 hv2]
     grind
    grind [ze7]
 rcases htg with ⟨g,hg1,hg2,hg3⟩|⟨hg1,hg3⟩
 rotate_left
 ·rw [hg1,hg3]
  cases (if zb5 s=true then some s else none) with
  | none=>exact ⟨_,rfl⟩
  | some x=>cases tokP r.mr q.z0h<;>exact ⟨_,rfl⟩
 rw [hg1]
 have hat:M.q5u t 33 126=some (z6x 33 126 t):=zik 33 126 (by omega)
 simp only [yc,zmk (show s.length<1000000000 by omega),hat,zt2 hg2]
 rw [ht3,hg3]
 cases h1:zb5 s with
 | false =>
  simp only [yh,if_true,yc,yf,if_false]
  exact ⟨_,rfl⟩
 | true =>
  simp only [yi,yf,if_false,if_true]
  have hj:(if r.mr.testBit 1=true then some (!z6x 33 126 t) else some false)=some (r.mr.testBit 1 && !z6x 33 126 t):=by cases r.mr.testBit 1<;>rfl
  rw [hj]
  simp only [yc]
  cases h2:(r.mr.testBit 1 && !z6x 33 126 t) with
  | true =>
   simp only [if_true,yc]
   exact ⟨_,rfl⟩
  | false =>
   simp only [yf,if_false,yc]
   cases h3:zn1 g with
   | false =>
    simp only [yh,if_true,yf,if_false]
    exact ⟨_,rfl⟩
   | true =>
    simp only [yi,yf,if_false,if_true]
    exact zp2 hr hq hf r.kd on.1 on.2 s t g
theorem zz056 {L:List Rw} (hL:∀ r∈L,zh3 r) (hl:L.length<1000) {q:q03} (hq:fit q) {f:Nat} (hf:34≤f):∀ (n i:Nat) (e:Int),L.length - i=n→i≤L.length→¬e=0 →
  ∃ z,M.z4m (L.map Rw.toR) q f e (i:Int)=some z∧((∃ a,zti q (L.drop i) e=(a,0)∧z = .done (a,0))∨∃ e',¬e'=0∧zti q (L.drop i) e=(zA,e')∧z = .go e'):=by
 intro n
 induction n with
 | zero =>
  intro i e hn hi he
  have:¬((i:Int)<((L.map Rw.toR).length:Int)):=by rw [yq];omega
  rw [M.z4m.eq_1,yl (by omega)]
  simp only [this,decide_false,yf,if_false]
  exact ⟨_,rfl,.inr ⟨e,he,rfl,rfl⟩⟩
 | succ n ih =>
  intro i e hn hi he
  have hlt:i<L.length:=by omega
  have h1:((i:Int)<((L.map Rw.toR).length:Int)):=by rw [yq];omega
  have hr:=hL _ (yp hlt)
  rw [M.z4m.eq_1,yk hlt,zti]
  simp only [h1,decide_true,if_true,z4k,yo,yn hlt,yd,ya,yc]
  rw [w1 (by omega),zgn hr hq.2.1]
  cases hon:zby L[i].sg q.z09 [] [] with
  | none =>
   simp only [yc,yh,if_true]
   exact ih (i+1) e (by omega) (by omega) he
  | some on =>
   simp only [yc,yi,yf,if_false]
   have em:L[i].toR.z02=L[i].me:=rfl
   have e5:(if decide (e=225)=true then some 226 else some e)=some (if e=225 then 226 else e):=by by_cases c:e=225<;>simp [c]
   rw [em,e5]
   simp only [yc]
   by_cases cm:L[i].me=q.z02
   ·simp only [cm,decide_true,yi,yf,if_false,if_true]
    have ha:=zp0 hr hq hf hon
    cases hk:zy6 L[i] q on.1 on.2 with
    | some a =>
     rw [hk] at ha
     have ha:M.q5v f L[i].toR q=some (a,true):=ha
     grind
    | none =>
     rw [hk] at ha
     obtain ⟨a,ha⟩:=ha
     rw [ha]
     simp only [yc,yf,if_false]
     exact ih (i+1) 227 (by omega) (by omega) (by decide)
   ·simp only [cm,decide_false,yh,if_true,if_false]
    exact ih (i+1) _ (by omega) (by omega) (by omega)
theorem zt1 {q:q03} (hq:fit q) {f:Nat} (hf:34≤f):M.q5f f q=some (askH q):=by
 unfold M.q5f askH
 rw [zoz]
 simp only [ya,yc]
 obtain ⟨z,hz,hc⟩:=zz056 (L:=tab) (fun r hr=>zpj hr) (by decide) hq hf _ 0 225 rfl (yr _) (by decide)
 have hz:M.z4m (tab.map Rw.toR) q f 225 0=some z:=hz
 rw [ym] at hc
 rw [hz]
 rcases hc with ⟨a,h1,rfl⟩|⟨e,_,h1,rfl⟩
 ·grind
 ·rw [h1]
  rfl
theorem zz02h {t:Nat × Nat × Z} (h:t∈z9n) (a:q00) (v:Z):(zng a t.1 v).zt=a.zt :=
 z5f (P:=fun t=>(zng a t.1 v).zt=a.zt) h rfl rfl rfl rfl rfl rfl rfl rfl rfl rfl rfl rfl rfl rfl rfl rfl rfl rfl
theorem zz08q (a:q00) (c:Bool) (n:Int):(zxi a c n).zt=a.zt:=by cases c<;>rfl
theorem zz02e {l:List q05}:∀ (ps:List Pt),(∀ p∈ps,p.okB=true)→∀ (a b:q00),zrn l ps a=some b→b.zt=a.zt
 | [],_,a,b,h=>by
  grind [zrn]
 | p::ps,hp,a,b,h=>by
  rw [zrn] at h
  cases h1:putP l a p with
  | none=>grind
  | some c =>
   rw [h1] at h
   rw [zz02e ps (fun x hx=>hp x (by simp [hx])) c b h]
   have hok:=hp p (by simp)
   unfold putP at h1
   split at h1
   ·grind
   ·have ht:=zwv hok
    split at h1
    ·rw [Option.map_eq_some_iff] at h1
     obtain ⟨v,_,rfl⟩:=h1
     exact zz02h ht a v
    grind [zz02h]
   grind [zz08q]
theorem zv6 {ps:List Pt} {l:List q05} {a b:q00} (hp:∀ p∈ps,p.okB=true) (h:zlf ps l a=some b):b.zt=a.zt:=by
 grind [zlf,zz02e]
theorem zz06x {r:Rw} (hr:zh3 r) {q:q03} {o n:Z} {a:q00} (h:zy6 r q o n=some a):zli a.zt<10000000:=by
 unfold zy6 at h
 cases hh:zll r.mr q.z0h r.kd o n with
 | none=>grind
 | some b =>
  rw [hh] at h
  have hb:b.zt=[]:=by
   unfold zll at hh
   split at hh
   ·grind
   ·cases hh
  have z:zli b.zt<10000000:=by rw [hb];decide
  simp only at h
  split at h
  ·unfold zu6 at h
   split at h
   ·grind
   ·split at h
    ·rw [zv6 hr.ps h];exact z
    ·cases h
   ·split at h
    ·rw [zv6 hr.ps h];exact z
    ·cases h
   ·unfold zsn at h
    split at h
    ·cases h
     have h1:=zw6 (z88 (parse q.z01).1 z4a).1
     have h2:=(zjw q.z01).1.z88 z4a
     grind [SzJ]
    ·cases h
   grind
  ·cases h
theorem zz01h {q:q03}:∀ (L:List Rw) (e:Int),(∀ r∈L,zh3 r)→zli (zti q L e).1.zt<10000000
 | [],e,_=>show zli ([]:List q02)<10000000 by decide
 | r::L,e,h=>by
  rw [zti]
  have ih:=fun e=>zz01h (q:=q) L e fun x hx=>h x (by simp [hx])
  cases hf:zby r.sg q.z09 [] [] with
  | none=>exact ih e
  | some on =>
   simp only
   split
   ·cases ha:zy6 r q on.1 on.2 with
    | none=>exact ih 227
    | some a=>exact zz06x (h r (by simp)) ha
   ·exact ih _
theorem zmp {a:q00} (h:zli a.zt<10000000):M.q5p a a=some true:=by
 grind [M.q5p,zk5]
theorem zz031 {q:q03} {f:Nat} (hfx:M.q45 f=some true) (hf:34≤f) (h:fit q):M.q3u f q=some true:=by
 unfold M.q3u
 grind [zfw,zt1,zz01h,zpj,zmp,askH]
end Go.Sen
