import Derived.Test.YtfdoofnmjehecaaGreatDoorBHnP
import Derived.Test.YtfdoofnmjehecaaGreatDoorBShA
import Derived.Test.YtfdoofnmjehecaaGreatDoorBHnI
set_option linter.all false
section
namespace Go.Sen
open _root_.Option renaming bind_eq_bind → ya, bind_some → yb
open _root_.List renaming append_assoc → yc, drop_eq_getElem_cons → yd, drop_eq_nil_of_le → ye, drop_zero → yf, getElem?_eq_getElem → yg, length_append → yh, length_cons → yi, map_cons → yj, nil_append → yk
open _root_.Nat renaming zero_le → yl
open Go.Lk Go.Pe
def I64 (n:Int):Prop := -9223372036854775808≤n∧n≤9223372036854775807
def q02.sz (f:q02):Nat:=f.z1a.length+kys f.z3d+1
def zct (l:List q02):Nat:=(l.map (·.sz)).sum
theorem zb2 (f:q02) (l:List q02):zct (f::l)=f.sz+zct l:=by simp [zct]
theorem zgp:∀ l:List q02,l.length≤zct l
 | []=>by simp
 | f::l=>by have:=zgp l;rw [zb2,yi];unfold q02.sz;omega
def q07.sz (t:q07):Nat:=t.gId.length+t.zi.length+t.z5g.length+zct t.z0n+1
def zk8 (l:List q07):Nat:=(l.map (·.sz)).sum
theorem zbo (f:q07) (l:List q07):zk8 (f::l)=f.sz+zk8 l:=by simp [zk8]
theorem zhk:∀ l:List q07,l.length≤zk8 l
 | []=>by simp
 | f::l=>by have:=zhk l;rw [zbo,yi];unfold q07.sz;omega
def q01.sz (c:q01):Nat:=c.zae.length+c.zag.length+c.zad.length+c.zy.length+c.zaf.length+c.z0j.length+kys c.zk+kys c.z6w
def ClOk (c:q01):Prop:=c.sz≤8388608∧I64 c.zc2∧I64 c.zc1∧I64 c.z0e
def q06.sz (r:q06):Nat:=r.z03.length+r.z2k.length+r.z1n.length+r.z14.length+r.gId.length+r.zt.length+kys r.zk+r.zl.sz+zk8 r.z06
def RpOk (r:q06):Prop:=r.sz≤8388608∧(I64 r.z1l∧I64 r.z10∧I64 r.z0i∧I64 r.z0e∧I64 r.z1p)∧(I64 r.zl.zc2∧I64 r.zl.zc1∧I64 r.zl.z0e)
theorem zhe:∀ {l:List Nat} {x:Nat},x∈l→x≤l.sum
 | a::l,x,h=>by
  rw [List.sum_cons]
  rcases List.mem_cons.1 h with rfl|h
  ·omega
  ·have:=zhe h;omega
theorem zt3 (v:J):q04.mk v.zi v.zt v.zj v.zw=v:=by cases v;rfl
def jT (s:Z):J:=⟨4,s,[],[]⟩
def jTs (l:List Z):J:=⟨5,[],l.map jT,[]⟩
def jFs (l:List q02):J:=⟨6,[],l.map fun f=>jTs f.z3d,l.map (·.z1a)⟩
def jN (n:Int):J:=⟨3,Lib.itoa n,[],[]⟩
abbrev Mb:=Z × J
def obj (l:List Mb):J:=⟨6,[],l.map (·.2),l.map (·.1)⟩
def opt (b:Bool) (k:Z) (v:J):List Mb:=if b=true then [(k,v)] else []
theorem zrt (b:Bool) (k:Z) (v:J):(opt b k v).length≤1:=by unfold opt;split<;>simp
theorem objects_eq:M.q1v=some ⟨obj []⟩:=rfl
theorem put_eq {l:List Mb} {b:Bool} {k:Z} {v:J} (h:l.length<1000000):M.q1n ⟨obj l⟩ b k v=some ⟨obj (l++opt b k v)⟩:=by
 unfold M.q1n
 cases b with
 | false=>simp [opt]
 | true =>
  simp only [if_true,zt3,ya]
  have e1:(obj l).zw=l.map (·.1):=rfl
  have e2:(obj l).zj=l.map (·.2):=rfl
  rw [e1,e2,z6b (by simp;omega)]
  simp only [yb]
  rw [z6b (by simp;omega)]
  simp [opt,obj]
theorem zka {n:Int} (h:I64 n):M.itoa n=some (Lib.itoa n):=by
 unfold M.itoa
 rw [z4k (by unfold I64 at h;simp;omega)]
 rfl
theorem z5w {n:Int} (h:I64 n):M.q1e n=some (jN n):=by
 unfold M.q1e
 rw [zka h]
 rfl
theorem text_jT (s:Z):M.q2m s=some (jT s):=rfl
theorem zw3 {l:List Z} (hl:l.length<10000000):∀ (n i:Nat) (a:List J),l.length - i=n→i≤l.length→a.length≤i→M.z0p l (i:Int) a=some (a++(l.drop i).map jT):=by
 intro n
 induction n with
 | zero =>
  intro i a hn hi ha
  rw [M.z0p,ye (by omega)]
  have:¬((i:Int)<(l.length:Int)):=by omega
  simp [this]
 | succ n ih =>
  intro i a hn hi ha
  have hlt:i<l.length:=by omega
  have h1:((i:Int)<(l.length:Int)):=by omega
  rw [M.z0p,yd hlt]
  simp only [h1,decide_true,if_true,zcj,yg hlt,ya,yb,text_jT,zt3]
  rw [z6b (by simp;omega),w1 (by omega)]
  simp only [yb]
  rw [ih (i+1) _ (by omega) (by omega) (by simp;omega),yj,yc]
  rfl
theorem zbn {l:List Z} (hl:l.length<10000000):M.q2n l=some (jTs l):=by
 unfold M.q2n
 have h:M.z0p l 0 []=some ([]++(l.drop 0).map jT):=zw3 hl _ 0 [] rfl (yl _) (by simp)
 rw [h]
 simp [jTs]
theorem zrn {l:List q02} (hl:zct l<10000000):∀ (n i:Nat) (a:List J) (b:List Z),l.length - i=n→i≤l.length→a.length≤i→b.length≤i →
  M.z2n l (i:Int) a b=some (a++(l.drop i).map (fun f=>jTs f.z3d),b++(l.drop i).map (·.z1a)):=by
 have hlen:=zgp l
 have hmem:∀ f∈l,f.z3d.length<10000000:=fun f hf=>by
  have h1:f.sz≤zct l:=by
   unfold zct
   exact zhe (List.mem_map.2 ⟨f,hf,rfl⟩)
  have h2:=z4y f.z3d
  unfold q02.sz at h1
  omega
 intro n
 induction n with
 | zero =>
  intro i a b hn hi ha hb
  rw [M.z2n,ye (by omega)]
  have:¬((i:Int)<(l.length:Int)):=by omega
  simp [this]
 | succ n ih =>
  intro i a b hn hi ha hb
  have hlt:i<l.length:=by omega
  have h1:((i:Int)<(l.length:Int)):=by omega
  rw [M.z2n,yd hlt]
  simp only [h1,decide_true,if_true,zcj,yg hlt,ya,yb]
  rw [z6b (by simp;omega),zbn (hmem _ (by simp))]
  simp only [yb,zt3]
  rw [z6b (by simp;omega),w1 (by omega)]
  simp only [yb]
  rw [ih (i+1) _ _ (by omega) (by omega) (by simp;omega) (by simp;omega),yj,yj,yc,yc]
  rfl
theorem zos {l:List q02} (hl:zct l<10000000):M.q1u l=some (jFs l):=by
 unfold M.q1u
 have h:M.z2n l 0 [] []=some ([]++(l.drop 0).map (fun f=>jTs f.z3d),[]++(l.drop 0).map (·.z1a)):=zrn hl _ 0 [] [] rfl (yl _) (by simp) (by simp)
 rw [h]
 simp [jFs]
def zyb:Z:=[105,115,115]
def zyd:Z:=[115,117,98]
def zy7:Z:=[97,117,100]
def zy9:Z:=[99,108,105,101,110,116,95,105,100]
def zyc:Z:=[106,116,105]
def zdz:Z:=[110,111,110,99,101]
def kIat:Z:=[105,97,116]
def kExp:Z:=[101,120,112]
def z6e:Z:=[108,101,118,101,108]
def z5b:Z:=[115,99,111,112,101]
def zy6:Z:=[97,99,116]
def z3k (c:q01):List Mb:=[(zyb,jT c.zae),(zyd,jT c.zag),(zy7,jT c.zad),(zy9,jT c.zy),(zyc,jT c.zaf),(zdz,jT c.z0j),(kIat,jN c.zc2),(kExp,jN c.zc1),(z6e,jN c.z0e),(z5b,jTs c.zk),(zy6,jTs c.z6w)]
def z7j (c:q01):Bool:=decide (c.zae=[])&&decide (c.zag=[])&&decide (c.zad=[])&&decide (c.zy=[])&&decide (c.zaf=[])&&decide (c.z0j=[])&&decide (c.zc2=0)&&decide (c.zc1=0)&&decide (c.z0e=0)&&decide (c.zk=[])&&decide (c.z6w=[])
def zc8:List q05→(q05→Bool)→List Mb
 | [],_=>[]
 | p::r,b=>opt (b p) p.z1a (jT p.z34)++zc8 r b
theorem zx0 {ps:List q05} (b:q05→Bool) {F:Int→Int→Z→List J→List Z→Option (Int × Z × List J × List Z)} (hl:ps.length<1000)
  (hF:∀ (i:Nat) (h:i<ps.length) (l:List Mb),l.length≤1000+i→F (i:Int) 6 [] (obj l).zj (obj l).zw=F ((i+1:Nat):Int) 6 [] (obj (l++opt (b ps[i]) ps[i].z1a (jT ps[i].z34))).zj (obj (l++opt (b ps[i]) ps[i].z1a (jT ps[i].z34))).zw)
  (hE:∀ l:List Mb,F (ps.length:Int) 6 [] (obj l).zj (obj l).zw=some (6,[],(obj l).zj,(obj l).zw)) :
  ∀ (n i:Nat) (l:List Mb),ps.length - i=n→i≤ps.length→l.length≤1000+i→F (i:Int) 6 [] (obj l).zj (obj l).zw=some (6,[],(obj (l++zc8 (ps.drop i) b)).zj,(obj (l++zc8 (ps.drop i) b)).zw):=by
 intro n
 induction n with
 | zero =>
  intro i l hn hi hk
  have:i=ps.length:=by omega
  subst this
  rw [List.drop_length,hE]
  simp [zc8]
 | succ n ih =>
  intro i l hn hi hk
  have hlt:i<ps.length:=by omega
  have:=zrt (b ps[i]) ps[i].z1a (jT ps[i].z34)
  rw [hF i hlt l hk,ih (i+1) _ (by omega) (by omega) (by rw [yh];omega),yd hlt]
  simp only [zc8,yc]
theorem obj_mk (l:List Mb):q04.mk 6 [] (obj l).zj (obj l).zw=obj l:=rfl
theorem zdt {c:q01} (h:ClOk c):M.q19 c=some (obj (z3k c),!z7j c):=by
 obtain ⟨h0,h1,h2,h3⟩:=h
 unfold q01.sz at h0
 have k1:=z4y c.zk
 have k2:=z4y c.z6w
 unfold M.q19
 obtain ⟨ps,hps⟩:∃ ps,ps=[(q05.mk ([105,115,115]:Z) c.zae),(q05.mk ([115,117,98]:Z) c.zag),(q05.mk ([97,117,100]:Z) c.zad),(q05.mk ([99,108,105,101,110,116,95,105,100]:Z) c.zy),(q05.mk ([106,116,105]:Z) c.zaf),(q05.mk ([110,111,110,99,101]:Z) c.z0j)]:=⟨_,rfl⟩
 have hp6:ps.length=6:=by rw [hps];rfl
 have hk:=zx0 (ps:=ps) (fun _=>true) (F:=M.z0a c) (by rw [hps];simp) (fun i hi l hl=>by
  rw [M.z0a,←hps]
  have h1:((i:Int)<(ps.length:Int)):=by omega
  simp only [h1,decide_true,if_true,zcj,yg hi,ya,yb,text_jT,obj_mk]
  rw [put_eq (by omega),w1 (by rw [hps] at hi;simp at hi;omega)]
  rfl) (fun l=>by
  rw [M.z0a,←hps]
  simp) _ 0 [] rfl (yl _) (by simp)
 have hk:M.z0a c 0 (obj []).zi (obj []).zt (obj []).zj (obj []).zw=some (6,[],(obj ([]++zc8 (ps.drop 0) fun _=>true)).zj,(obj ([]++zc8 (ps.drop 0) fun _=>true)).zw):=hk
 rw [yf,yk] at hk
 have hpl:(zc8 ps fun _=>true).length=6:=by rw [hps];rfl
 simp only [objects_eq,ya,yb,hk,obj_mk,z5w h1,z5w h2,z5w h3]
 rw [put_eq (by omega)]
 simp only [yb]
 rw [put_eq (by simp [opt];omega)]
 simp only [yb]
 rw [put_eq (by simp [opt];omega),zbn (by omega)]
 simp only [yb]
 rw [put_eq (by simp [opt];omega),zbn (by omega)]
 simp only [yb]
 rw [put_eq (by simp [opt];omega)]
 simp only [yb]
 rw [z3r (by omega)]
 simp only [yb]
 rw [z3r (by simp;omega)]
 simp only [yb]
 rw [z3r (by simp;omega)]
 simp only [yb]
 rw [z3r (by simp;omega)]
 simp only [yb]
 rw [z3r (by simp;omega)]
 simp only [yb]
 congr 1
 refine Prod.ext ?_ ?_
 ·rw [hps];rfl
 ·unfold z7j
  simp only [List.append_eq_nil_iff,Bool.decide_and]
  have e:∀ {α:Type} [DecidableEq α] (l:List α),decide ((l.length:Int)=0)=decide (l=[]):=fun l=>decide_eq_decide.2 (by rw [←List.length_eq_zero_iff];omega)
  rw [e,e]
def zb7:Z:=[101,114,114,111,114]
def z9y:Z:=[103,114,97,110,116]
def z6q:Z:=[97,99,99,101,115,115,95,116,111,107,101,110]
def z52:Z:=[114,101,102,114,101,115,104,95,116,111,107,101,110]
def zsz:Z:=[105,100,95,116,111,107,101,110]
def zf7:Z:=[116,101,120,116]
def z5o:Z:=[101,120,112,105,114,101,115,95,105,110]
def zb8:Z:=[116,111,116,97,108]
def z6r:Z:=[97,99,116,105,118,101]
def z4x:Z:=[99,108,97,105,109,115]
def z45:Z:=[116,104,105,110,103,115]
def kId:Z:=[105,100]
def ziz:Z:=[107,105,110,100]
def zwo:Z:=[116,97,103]
def z5e:Z:=[102,105,101,108,100,115]
def z4u (t:q07):List Mb:=[(kId,jT t.gId),(ziz,jT t.zi),(zwo,jT t.z5g),(z5e,jFs t.z0n)]
def zof:J:=⟨2,[],[],[]⟩
def jL (l:List J):J:=⟨5,[],l,[]⟩
def z4z (s:Z):Bool := !decide (s=[])
def z0s (r:q06):List Mb:=opt (!decide (r.z10=0)) zb7 (jN r.z10)++opt (z4z r.z2k) z9y (jT r.z2k)++opt (z4z r.z1n) z6q (jT r.z1n)++opt (z4z r.z14) z52 (jT r.z14)++opt (z4z r.gId) zsz (jT r.gId)++opt (z4z r.zt) zf7 (jT r.zt) ++
 opt (!decide (r.zk=[])) z5b (jTs r.zk)++opt (!decide (r.z0i=0)) z5o (jN r.z0i)++opt (!decide (r.z0e=0)) z6e (jN r.z0e)++opt (!decide (r.z1p=0)) zb8 (jN r.z1p)++opt r.z3a z6r zof++opt (!z7j r.zl) z4x (obj (z3k r.zl)) ++
 opt (!decide (r.z06=[])) z45 (jL (r.z06.map fun t=>obj (z4u t)))
theorem znm {l:List q07} {t:q07} (h:t∈l):t.sz≤zk8 l:=zhe (List.mem_map.2 ⟨t,h,rfl⟩)
theorem zxj {r:q06} (hl:zk8 r.z06<10000000):∀ (n i:Nat) (a:List J),r.z06.length - i=n→i≤r.z06.length→a.length≤i→M.z0x r (i:Int) a=some (a++(r.z06.drop i).map fun t=>obj (z4u t)):=by
 have hlen:=zhk r.z06
 intro n
 induction n with
 | zero =>
  intro i a hn hi ha
  rw [M.z0x,ye (by omega)]
  have:¬((i:Int)<(r.z06.length:Int)):=by omega
  simp [this]
 | succ n ih =>
  intro i a hn hi ha
  have hlt:i<r.z06.length:=by omega
  have h1:((i:Int)<(r.z06.length:Int)):=by omega
  have hs:=znm (l:=r.z06) (t:=r.z06[i]) (by simp)
  have hf:zct r.z06[i].z0n<10000000:=by unfold q07.sz at hs;omega
  rw [M.z0x,yd hlt]
  simp only [h1,decide_true,if_true,zcj,yg hlt,ya,yb,objects_eq,text_jT,zos hf]
  rw [put_eq (by simp)]
  simp only [yb]
  rw [put_eq (by simp [opt])]
  simp only [yb]
  rw [put_eq (by simp [opt])]
  simp only [yb]
  rw [put_eq (by simp [opt])]
  simp only [yb,zt3]
  rw [z6b (by simp;omega),w1 (by omega)]
  simp only [yb]
  rw [ih (i+1) _ (by omega) (by omega) (by simp;omega),yj,yc]
  rfl
theorem zir {r:q06} (h:RpOk r):M.q13 r=some (obj (z0s r)):=by
 obtain ⟨h0,⟨i1,i2,i3,i4,i5⟩,i6⟩:=h
 unfold q06.sz at h0
 have k1:=z4y r.zk
 have hc:ClOk r.zl:=⟨by omega,i6⟩
 unfold M.q13
 obtain ⟨ps,hps⟩:∃ ps,ps=[(q05.mk ([103,114,97,110,116]:Z) r.z2k),(q05.mk ([97,99,99,101,115,115,95,116,111,107,101,110]:Z) r.z1n),(q05.mk ([114,101,102,114,101,115,104,95,116,111,107,101,110]:Z) r.z14),(q05.mk ([105,100,95,116,111,107,101,110]:Z) r.gId),(q05.mk ([116,101,120,116]:Z) r.zt)]:=⟨_,rfl⟩
 have hk:∀ l:List Mb,l.length≤1000→M.z0w r 0 (obj l).zi (obj l).zt (obj l).zj (obj l).zw=some (6,[],(obj (l++zc8 ps fun p=>z4z p.z34)).zj,(obj (l++zc8 ps fun p=>z4z p.z34)).zw):=fun l hl=>by
  have hk:=zx0 (ps:=ps) (fun p=>z4z p.z34) (F:=M.z0w r) (by rw [hps];simp) (fun i hi l hl=>by
   rw [M.z0w,←hps]
   have h1:((i:Int)<(ps.length:Int)):=by omega
   simp only [h1,decide_true,if_true,zcj,yg hi,ya,yb,text_jT,obj_mk]
   rw [put_eq (by rw [hps] at hi;simp at hi;omega),w1 (by rw [hps] at hi;simp at hi;omega)]
   rfl) (fun l=>by
   rw [M.z0w,←hps]
   simp) _ 0 l rfl (yl _) (by omega)
  rw [yf] at hk
  exact hk
 have hth:M.z0x r 0 []=some ([]++(r.z06.drop 0).map fun t=>obj (z4u t)):=zxj (by omega) _ 0 [] rfl (yl _) (by simp)
 rw [yf,yk] at hth
 have o:=zrt
 have o1:=o (!decide (r.z10=0)) zb7 (jN r.z10)
 have hpl:(zc8 ps fun p=>z4z p.z34).length≤5:=by
  rw [hps]
  simp only [zc8,yh,List.length_nil]
  have a1:=o (z4z r.z2k) z9y (jT r.z2k)
  have a2:=o (z4z r.z1n) z6q (jT r.z1n)
  have a3:=o (z4z r.z14) z52 (jT r.z14)
  have a4:=o (z4z r.gId) zsz (jT r.gId)
  have a5:=o (z4z r.zt) zf7 (jT r.zt)
  unfold z9y at a1
  unfold z6q at a2
  unfold z52 at a3
  unfold zsz at a4
  unfold zf7 at a5
  omega
 have o2:=o (!decide (r.zk=[])) z5b (jTs r.zk)
 have o3:=o (!decide (r.z0i=0)) z5o (jN r.z0i)
 have o4:=o (!decide (r.z0e=0)) z6e (jN r.z0e)
 have o5:=o (!decide (r.z1p=0)) zb8 (jN r.z1p)
 have o6:=o r.z3a z6r zof
 have o7:=o (!z7j r.zl) z4x (obj (z3k r.zl))
 have e0:∀ {α:Type} [DecidableEq α] (l:List α),decide (0<(l.length:Int)) = !decide (l=[]):=fun l=>by
  cases l with
  | nil=>rfl
  | cons a l=>simp
 have c1:([101,114,114,111,114]:Z)=zb7:=rfl
 have c2:([115,99,111,112,101]:Z)=z5b:=rfl
 have c3:([101,120,112,105,114,101,115,95,105,110]:Z)=z5o:=rfl
 have c4:([108,101,118,101,108]:Z)=z6e:=rfl
 have c5:([116,111,116,97,108]:Z)=zb8:=rfl
 have c6:([97,99,116,105,118,101]:Z)=z6r:=rfl
 have c7:([99,108,97,105,109,115]:Z)=z4x:=rfl
 have c8:([116,104,105,110,103,115]:Z)=z45:=rfl
 have c9:q04.mk 2 ([]:Z) [] []=zof:=rfl
 simp only [objects_eq,ya,yb,z5w i2,z5w i3,z5w i4,z5w i5,c1,c2,c3,c4,c5,c6,c7,c8,c9,zdt hc,zbn (show r.zk.length<10000000 by omega),hth,e0]
 rw [put_eq (by simp)]
 simp only [yb,yk]
 rw [hk _ (by omega)]
 simp only [yb,obj_mk]
 rw [put_eq (by rw [yh];omega)]
 simp only [yb]
 rw [put_eq (by simp only [yh];omega)]
 simp only [yb]
 rw [put_eq (by simp only [yh];omega)]
 simp only [yb]
 rw [put_eq (by simp only [yh];omega)]
 simp only [yb]
 rw [put_eq (by simp only [yh];omega)]
 simp only [yb]
 rw [put_eq (by simp only [yh];omega)]
 simp only [yb]
 rw [put_eq (by simp only [yh];omega)]
 simp only [yb]
 congr 2
 rw [hps]
 unfold z0s
 have e9:∀ l:List q07,decide (0<((l.map fun t=>obj (z4u t)).length:Int)) = !decide (l=[]):=fun l=>by cases l<;>simp
 rw [e9]
 simp only [zc8,yc,List.append_nil]
 rfl
end Go.Sen
end
section
namespace Go.Sen
open Go.Lk Go.Pe
def isAl (b:UInt8):Bool:=isA b||(decide (97≤b.toNat)&&decide (b.toNat≤122))||isD b
def plainB (b:UInt8):Bool:=isAl b||decide (b=45)||decide (b=46)||decide (b=95)||decide (b=126)
def hxU (n:Nat):UInt8:=UInt8.ofNat (if n<10 then 48+n else 55+n)
def pctB (bl:Z) (c:UInt8):Z:=if plainB c=true then [c] else if c=32 then bl else [37,hxU (c.toNat / 16),hxU (c.toNat % 16)]
def pct (bl s:Z):Z:=s.flatMap (pctB bl)
def pPath (s:Z):Z:=pct [37,50,48] s
def pWord (s:Z):Z:=pct [43] s
def fld (p:q05):Z:=pWord p.z1a++[61]++pWord p.z34
def formS (l:List q05):Z:=Lib.join (l.map fld) [38]
def FitP (l:List q05):Prop := ∀ p∈l,p.z1a.length<100000000∧p.z34.length<100000000
def fit (q:q03):Prop:=q.z0r.length<100000000∧q.z1q.length<100000000∧(∀ p∈q.z1q,p.length<100000000)∧q.z3c.length<100000000∧FitP q.z3c∧q.z2p.length<100000000∧FitP q.z2p∧q.z0u.length<100000000
def pathS (l:List Z):Z:=l.flatMap fun p=>47::pPath p
theorem z5k {n k:Nat} (h:n<10 ^ k) (hk:1≤k):(Lib.decDigits n).length≤k:=by
 induction k generalizing n with
 | zero=>omega
 | succ k ih =>
  rw [Lib.decDigits]
  split
  ·simp
  ·rename_i h10
   have h2:n / 10<10 ^ k:=by rw [Nat.pow_succ] at h;omega
   have h1:1≤k:=by
    cases k with
    | zero=>simp at h;omega
    | succ k=>omega
   have:=ih h2 h1
   simp
   omega
end Go.Sen
end
