import Derived.Test.YtfdoofnmjehecaaGreatDoorRHnG
import Derived.Test.YtfdoofnmjehecaaGreatDoorRHnE
set_option linter.all false
section
namespace Go.Sen
open _root_.Option renaming bind_eq_bind → ya, bind_some → yb
open _root_.List renaming append_assoc → yc, drop_eq_getElem_cons → yd, drop_eq_nil_of_le → ye, drop_zero → yf, getElem?_eq_getElem → yg, length_append → yh, length_cons → yi, map_cons → yj, nil_append → yk
open _root_.Nat renaming zero_le → yl
open Go.Lk Go.Pe
def I64 (n:Int):Prop := -9223372036854775808≤n∧n≤9223372036854775807
def q02.sz (f:q02):Nat:=f.z1c.length+kys f.z3g+1
def zdk (l:List q02):Nat:=(l.map (·.sz)).sum
theorem zbp (f:q02) (l:List q02):zdk (f::l)=f.sz+zdk l:=by simp [zdk]
theorem zea:∀ l:List q02,l.length≤zdk l
 | []=>by simp
 | f::l=>by have:=zea l;rw [zbp,yi];unfold q02.sz;omega
def q07.sz (t:q07):Nat:=t.gId.length+t.zh.length+t.z55.length+zdk t.z0m+1
def zle (l:List q07):Nat:=(l.map (·.sz)).sum
theorem zco (f:q07) (l:List q07):zle (f::l)=f.sz+zle l:=by simp [zle]
theorem zf3:∀ l:List q07,l.length≤zle l
 | []=>by simp
 | f::l=>by have:=zf3 l;rw [zco,yi];unfold q07.sz;omega
def q01.sz (c:q01):Nat:=c.z7d.length+c.z7f.length+c.z7c.length+c.zt.length+c.z7e.length+c.z0f.length+kys c.zj+kys c.z3u
def zp8 (c:q01):Prop:=c.sz≤8388608∧I64 c.z8d∧I64 c.z8c∧I64 c.z03
def q06.sz (r:q06):Nat:=r.z0c.length+r.z2l.length+r.z1p.length+r.z1f.length+r.gId.length+r.zq.length+kys r.zj+r.zm.sz+zle r.z0q
def zvh (r:q06):Prop:=r.sz≤8388608∧(I64 r.z2v∧I64 r.z11∧I64 r.z0h∧I64 r.z03∧I64 r.z1l)∧(I64 r.zm.z8d∧I64 r.zm.z8c∧I64 r.zm.z03)
theorem zey:∀ {l:List Nat} {x:Nat},x∈l→x≤l.sum
 | a::l,x,h=>by
  rw [List.sum_cons]
  rcases List.mem_cons.1 h with rfl|h
  ·omega
  ·have:=zey h;omega
theorem zfe (v:J):q04.mk v.zh v.zq v.zk v.zn=v:=by cases v;rfl
def jT (s:Z):J:=⟨4,s,[],[]⟩
def jTs (l:List Z):J:=⟨5,[],l.map jT,[]⟩
def jFs (l:List q02):J:=⟨6,[],l.map fun f=>jTs f.z3g,l.map (·.z1c)⟩
def jN (n:Int):J:=⟨3,Lib.itoa n,[],[]⟩
abbrev Mb:=Z × J
def obj (l:List Mb):J:=⟨6,[],l.map (·.2),l.map (·.1)⟩
def opt (b:Bool) (k:Z) (v:J):List Mb:=if b=true then [(k,v)] else []
theorem zif (b:Bool) (k:Z) (v:J):(opt b k v).length≤1:=by unfold opt;split<;>simp
theorem objects_eq:M.q1v=some ⟨obj []⟩:=rfl
theorem put_eq {l:List Mb} {b:Bool} {k:Z} {v:J} (h:l.length<1000000):M.q1n ⟨obj l⟩ b k v=some ⟨obj (l++opt b k v)⟩:=by
 unfold M.q1n
 cases b with
 | false=>simp [opt]
 | true =>
  simp only [if_true,zfe,ya]
  have e1:(obj l).zn=l.map (·.1):=rfl
  have e2:(obj l).zk=l.map (·.2):=rfl
  rw [e1,e2,z2p (by simp;omega)]
  simp only [yb]
  rw [z2p (by simp;omega)]
  simp [opt,obj]
theorem zhg {n:Int} (h:I64 n):M.itoa n=some (Lib.itoa n):=by
 unfold M.itoa
 rw [zap (by unfold I64 at h;simp;omega)]
 rfl
theorem z5g {n:Int} (h:I64 n):M.q1e n=some (jN n):=by
 unfold M.q1e
 rw [zhg h]
 rfl
theorem text_jT (s:Z):M.q2n s=some (jT s):=rfl
theorem zrm {l:List Z} (hl:l.length<10000000):∀ (n i:Nat) (a:List J),l.length - i=n→i≤l.length→a.length≤i→M.z0l l (i:Int) a=some (a++(l.drop i).map jT):=by
 intro n
 induction n with
 | zero =>
  intro i a hn hi ha
  rw [M.z0l,ye (by omega)]
  have:¬((i:Int)<(l.length:Int)):=by omega
  simp [this]
 | succ n ih =>
  intro i a hn hi ha
  have hlt:i<l.length:=by omega
  have h1:((i:Int)<(l.length:Int)):=by omega
  rw [M.z0l,yd hlt]
  simp only [h1,decide_true,if_true,z6m,yg hlt,ya,yb,text_jT,zfe]
  rw [z2p (by simp;omega),w1 (by omega)]
  simp only [yb]
  rw [ih (i+1) _ (by omega) (by omega) (by simp;omega),yj,yc]
  rfl
theorem za5 {l:List Z} (hl:l.length<10000000):M.q2o l=some (jTs l):=by
 unfold M.q2o
 have h:M.z0l l 0 []=some ([]++(l.drop 0).map jT):=zrm hl _ 0 [] rfl (yl _) (by simp)
 rw [h]
 simp [jTs]
theorem zn9 {l:List q02} (hl:zdk l<10000000):∀ (n i:Nat) (a:List J) (b:List Z),l.length - i=n→i≤l.length→a.length≤i→b.length≤i →
  M.z2h l (i:Int) a b=some (a++(l.drop i).map (fun f=>jTs f.z3g),b++(l.drop i).map (·.z1c)):=by
 have hlen:=zea l
 have hmem:∀ f∈l,f.z3g.length<10000000:=fun f hf=>by
  have h1:f.sz≤zdk l:=by
   unfold zdk
   exact zey (List.mem_map.2 ⟨f,hf,rfl⟩)
  have h2:=z3y f.z3g
  unfold q02.sz at h1
  omega
 intro n
 induction n with
 | zero =>
  intro i a b hn hi ha hb
  rw [M.z2h,ye (by omega)]
  have:¬((i:Int)<(l.length:Int)):=by omega
  simp [this]
 | succ n ih =>
  intro i a b hn hi ha hb
  have hlt:i<l.length:=by omega
  have h1:((i:Int)<(l.length:Int)):=by omega
  rw [M.z2h,yd hlt]
  simp only [h1,decide_true,if_true,z6m,yg hlt,ya,yb]
  rw [z2p (by simp;omega),za5 (hmem _ (by simp))]
  simp only [yb,zfe]
  rw [z2p (by simp;omega),w1 (by omega)]
  simp only [yb]
  rw [ih (i+1) _ _ (by omega) (by omega) (by simp;omega) (by simp;omega),yj,yj,yc,yc]
  rfl
theorem zl3 {l:List q02} (hl:zdk l<10000000):M.q1u l=some (jFs l):=by
 unfold M.q1u
 have h:M.z2h l 0 [] []=some ([]++(l.drop 0).map (fun f=>jTs f.z3g),[]++(l.drop 0).map (·.z1c)):=zn9 hl _ 0 [] [] rfl (yl _) (by simp) (by simp)
 rw [h]
 simp [jFs]
def kIss:Z:=[105,115,115]
def kSub:Z:=[115,117,98]
def kAud:Z:=[97,117,100]
def kCid:Z:=[99,108,105,101,110,116,95,105,100]
def kJti:Z:=[106,116,105]
def zs6:Z:=[110,111,110,99,101]
def kIat:Z:=[105,97,116]
def kExp:Z:=[101,120,112]
def z9s:Z:=[108,101,118,101,108]
def z9t:Z:=[115,99,111,112,101]
def zzz:Z:=[97,99,116]
def z7m (c:q01):List Mb:=[(kIss,jT c.z7d),(kSub,jT c.z7f),(kAud,jT c.z7c),(kCid,jT c.zt),(kJti,jT c.z7e),(zs6,jT c.z0f),(kIat,jN c.z8d),(kExp,jN c.z8c),(z9s,jN c.z03),(z9t,jTs c.zj),(zzz,jTs c.z3u)]
def z7l (c:q01):Bool:=decide (c.z7d=[])&&decide (c.z7f=[])&&decide (c.z7c=[])&&decide (c.zt=[])&&decide (c.z7e=[])&&decide (c.z0f=[])&&decide (c.z8d=0)&&decide (c.z8c=0)&&decide (c.z03=0)&&decide (c.zj=[])&&decide (c.z3u=[])
def zai:List q05→(q05→Bool)→List Mb
 | [],_=>[]
 | p::r,b=>opt (b p) p.z1c (jT p.z36)++zai r b
theorem zsi {ps:List q05} (b:q05→Bool) {F:Int→Int→Z→List J→List Z→Option (Int × Z × List J × List Z)} (hl:ps.length<1000)
  (hF:∀ (i:Nat) (h:i<ps.length) (l:List Mb),l.length≤1000+i→F (i:Int) 6 [] (obj l).zk (obj l).zn=F ((i+1:Nat):Int) 6 [] (obj (l++opt (b ps[i]) ps[i].z1c (jT ps[i].z36))).zk (obj (l++opt (b ps[i]) ps[i].z1c (jT ps[i].z36))).zn)
  (hE:∀ l:List Mb,F (ps.length:Int) 6 [] (obj l).zk (obj l).zn=some (6,[],(obj l).zk,(obj l).zn)) :
  ∀ (n i:Nat) (l:List Mb),ps.length - i=n→i≤ps.length→l.length≤1000+i→F (i:Int) 6 [] (obj l).zk (obj l).zn=some (6,[],(obj (l++zai (ps.drop i) b)).zk,(obj (l++zai (ps.drop i) b)).zn):=by
 intro n
 induction n with
 | zero =>
  intro i l hn hi hk
  have:i=ps.length:=by omega
  subst this
  rw [List.drop_length,hE]
  simp [zai]
 | succ n ih =>
  intro i l hn hi hk
  have hlt:i<ps.length:=by omega
  have:=zif (b ps[i]) ps[i].z1c (jT ps[i].z36)
  rw [hF i hlt l hk,ih (i+1) _ (by omega) (by omega) (by rw [yh];omega),yd hlt]
  simp only [zai,yc]
theorem obj_mk (l:List Mb):q04.mk 6 [] (obj l).zk (obj l).zn=obj l:=rfl
theorem zbs {c:q01} (h:zp8 c):M.q19 c=some (obj (z7m c),!z7l c):=by
 obtain ⟨h0,h1,h2,h3⟩:=h
 unfold q01.sz at h0
 have k1:=z3y c.zj
 have k2:=z3y c.z3u
 unfold M.q19
 obtain ⟨ps,hps⟩:∃ ps,ps=[(q05.mk ([105,115,115]:Z) c.z7d),(q05.mk ([115,117,98]:Z) c.z7f),(q05.mk ([97,117,100]:Z) c.z7c),(q05.mk ([99,108,105,101,110,116,95,105,100]:Z) c.zt),(q05.mk ([106,116,105]:Z) c.z7e),(q05.mk ([110,111,110,99,101]:Z) c.z0f)]:=⟨_,rfl⟩
 have hp6:ps.length=6:=by rw [hps];rfl
 have hk:=zsi (ps:=ps) (fun _=>true) (F:=M.z08 c) (by rw [hps];simp) (fun i hi l hl=>by
  rw [M.z08,←hps]
  have h1:((i:Int)<(ps.length:Int)):=by omega
  simp only [h1,decide_true,if_true,z6m,yg hi,ya,yb,text_jT,obj_mk]
  rw [put_eq (by omega),w1 (by rw [hps] at hi;simp at hi;omega)]
  rfl) (fun l=>by
  rw [M.z08,←hps]
  simp) _ 0 [] rfl (yl _) (by simp)
 have hk:M.z08 c 0 (obj []).zh (obj []).zq (obj []).zk (obj []).zn=some (6,[],(obj ([]++zai (ps.drop 0) fun _=>true)).zk,(obj ([]++zai (ps.drop 0) fun _=>true)).zn):=hk
 rw [yf,yk] at hk
 have hpl:(zai ps fun _=>true).length=6:=by rw [hps];rfl
 simp only [objects_eq,ya,yb,hk,obj_mk,z5g h1,z5g h2,z5g h3]
 rw [put_eq (by omega)]
 simp only [yb]
 rw [put_eq (by simp [opt];omega)]
 simp only [yb]
 rw [put_eq (by simp [opt];omega),za5 (by omega)]
 simp only [yb]
 rw [put_eq (by simp [opt];omega),za5 (by omega)]
 simp only [yb]
 rw [put_eq (by simp [opt];omega)]
 simp only [yb]
 rw [z2z (by omega)]
 simp only [yb]
 rw [z2z (by simp;omega)]
 simp only [yb]
 rw [z2z (by simp;omega)]
 simp only [yb]
 rw [z2z (by simp;omega)]
 simp only [yb]
 rw [z2z (by simp;omega)]
 simp only [yb]
 congr 1
 refine Prod.ext ?_ ?_
 ·rw [hps];rfl
 ·unfold z7l
  simp only [List.append_eq_nil_iff,Bool.decide_and]
  have e:∀ {α:Type} [DecidableEq α] (l:List α),decide ((l.length:Int)=0)=decide (l=[]):=fun l=>decide_eq_decide.2 (by rw [←List.length_eq_zero_iff];omega)
  rw [e,e]
def zbx:Z:=[101,114,114,111,114]
def zby:Z:=[103,114,97,110,116]
def z95:Z:=[97,99,99,101,115,115,95,116,111,107,101,110]
def z6p:Z:=[114,101,102,114,101,115,104,95,116,111,107,101,110]
def ztj:Z:=[105,100,95,116,111,107,101,110]
def zhy:Z:=[116,101,120,116]
def z6o:Z:=[101,120,112,105,114,101,115,95,105,110]
def zc0:Z:=[116,111,116,97,108]
def z96:Z:=[97,99,116,105,118,101]
def z97:Z:=[99,108,97,105,109,115]
def zbz:Z:=[116,104,105,110,103,115]
def kId:Z:=[105,100]
def zwp:Z:=[107,105,110,100]
def kTag:Z:=[116,97,103]
def zmt:Z:=[102,105,101,108,100,115]
def z71 (t:q07):List Mb:=[(kId,jT t.gId),(zwp,jT t.zh),(kTag,jT t.z55),(zmt,jFs t.z0m)]
def zhx:J:=⟨2,[],[],[]⟩
def jL (l:List J):J:=⟨5,[],l,[]⟩
def z4v (s:Z):Bool := !decide (s=[])
def z4u (r:q06):List Mb:=opt (!decide (r.z11=0)) zbx (jN r.z11)++opt (z4v r.z2l) zby (jT r.z2l)++opt (z4v r.z1p) z95 (jT r.z1p)++opt (z4v r.z1f) z6p (jT r.z1f)++opt (z4v r.gId) ztj (jT r.gId)++opt (z4v r.zq) zhy (jT r.zq) ++
 opt (!decide (r.zj=[])) z9t (jTs r.zj)++opt (!decide (r.z0h=0)) z6o (jN r.z0h)++opt (!decide (r.z03=0)) z9s (jN r.z03)++opt (!decide (r.z1l=0)) zc0 (jN r.z1l)++opt r.z3w z96 zhx++opt (!z7l r.zm) z97 (obj (z7m r.zm)) ++
 opt (!decide (r.z0q=[])) zbz (jL (r.z0q.map fun t=>obj (z71 t)))
theorem zka {l:List q07} {t:q07} (h:t∈l):t.sz≤zle l:=zey (List.mem_map.2 ⟨t,h,rfl⟩)
theorem zsz {r:q06} (hl:zle r.z0q<10000000):∀ (n i:Nat) (a:List J),r.z0q.length - i=n→i≤r.z0q.length→a.length≤i→M.z0y r (i:Int) a=some (a++(r.z0q.drop i).map fun t=>obj (z71 t)):=by
 have hlen:=zf3 r.z0q
 intro n
 induction n with
 | zero =>
  intro i a hn hi ha
  rw [M.z0y,ye (by omega)]
  have:¬((i:Int)<(r.z0q.length:Int)):=by omega
  simp [this]
 | succ n ih =>
  intro i a hn hi ha
  have hlt:i<r.z0q.length:=by omega
  have h1:((i:Int)<(r.z0q.length:Int)):=by omega
  have hs:=zka (l:=r.z0q) (t:=r.z0q[i]) (by simp)
  have hf:zdk r.z0q[i].z0m<10000000:=by unfold q07.sz at hs;omega
  rw [M.z0y,yd hlt]
  simp only [h1,decide_true,if_true,z6m,yg hlt,ya,yb,objects_eq,text_jT,zl3 hf]
  rw [put_eq (by simp)]
  simp only [yb]
  rw [put_eq (by simp [opt])]
  simp only [yb]
  rw [put_eq (by simp [opt])]
  simp only [yb]
  rw [put_eq (by simp [opt])]
  simp only [yb,zfe]
  rw [z2p (by simp;omega),w1 (by omega)]
  simp only [yb]
  rw [ih (i+1) _ (by omega) (by omega) (by simp;omega),yj,yc]
  rfl
theorem zg8 {r:q06} (h:zvh r):M.q13 r=some (obj (z4u r)):=by
 obtain ⟨h0,⟨i1,i2,i3,i4,i5⟩,i6⟩:=h
 unfold q06.sz at h0
 have k1:=z3y r.zj
 have hc:zp8 r.zm:=⟨by omega,i6⟩
 unfold M.q13
 obtain ⟨ps,hps⟩:∃ ps,ps=[(q05.mk ([103,114,97,110,116]:Z) r.z2l),(q05.mk ([97,99,99,101,115,115,95,116,111,107,101,110]:Z) r.z1p),(q05.mk ([114,101,102,114,101,115,104,95,116,111,107,101,110]:Z) r.z1f),(q05.mk ([105,100,95,116,111,107,101,110]:Z) r.gId),(q05.mk ([116,101,120,116]:Z) r.zq)]:=⟨_,rfl⟩
 have hk:∀ l:List Mb,l.length≤1000→M.z0x r 0 (obj l).zh (obj l).zq (obj l).zk (obj l).zn=some (6,[],(obj (l++zai ps fun p=>z4v p.z36)).zk,(obj (l++zai ps fun p=>z4v p.z36)).zn):=fun l hl=>by
  have hk:=zsi (ps:=ps) (fun p=>z4v p.z36) (F:=M.z0x r) (by rw [hps];simp) (fun i hi l hl=>by
   rw [M.z0x,←hps]
   have h1:((i:Int)<(ps.length:Int)):=by omega
   simp only [h1,decide_true,if_true,z6m,yg hi,ya,yb,text_jT,obj_mk]
   rw [put_eq (by rw [hps] at hi;simp at hi;omega),w1 (by rw [hps] at hi;simp at hi;omega)]
   rfl) (fun l=>by
   rw [M.z0x,←hps]
   simp) _ 0 l rfl (yl _) (by omega)
  rw [yf] at hk
  exact hk
 have hth:M.z0y r 0 []=some ([]++(r.z0q.drop 0).map fun t=>obj (z71 t)):=zsz (by omega) _ 0 [] rfl (yl _) (by simp)
 rw [yf,yk] at hth
 have o:=zif
 have o1:=o (!decide (r.z11=0)) zbx (jN r.z11)
 have hpl:(zai ps fun p=>z4v p.z36).length≤5:=by
  rw [hps]
  simp only [zai,yh,List.length_nil]
  have a1:=o (z4v r.z2l) zby (jT r.z2l)
  have a2:=o (z4v r.z1p) z95 (jT r.z1p)
  have a3:=o (z4v r.z1f) z6p (jT r.z1f)
  have a4:=o (z4v r.gId) ztj (jT r.gId)
  have a5:=o (z4v r.zq) zhy (jT r.zq)
  unfold zby at a1
  unfold z95 at a2
  unfold z6p at a3
  unfold ztj at a4
  unfold zhy at a5
  omega
 have o2:=o (!decide (r.zj=[])) z9t (jTs r.zj)
 have o3:=o (!decide (r.z0h=0)) z6o (jN r.z0h)
 have o4:=o (!decide (r.z03=0)) z9s (jN r.z03)
 have o5:=o (!decide (r.z1l=0)) zc0 (jN r.z1l)
 have o6:=o r.z3w z96 zhx
 have o7:=o (!z7l r.zm) z97 (obj (z7m r.zm))
 have e0:∀ {α:Type} [DecidableEq α] (l:List α),decide (0<(l.length:Int)) = !decide (l=[]):=fun l=>by
  cases l with
  | nil=>rfl
  | cons a l=>simp
 have c1:([101,114,114,111,114]:Z)=zbx:=rfl
 have c2:([115,99,111,112,101]:Z)=z9t:=rfl
 have c3:([101,120,112,105,114,101,115,95,105,110]:Z)=z6o:=rfl
 have c4:([108,101,118,101,108]:Z)=z9s:=rfl
 have c5:([116,111,116,97,108]:Z)=zc0:=rfl
 have c6:([97,99,116,105,118,101]:Z)=z96:=rfl
 have c7:([99,108,97,105,109,115]:Z)=z97:=rfl
 have c8:([116,104,105,110,103,115]:Z)=zbz:=rfl
 have c9:q04.mk 2 ([]:Z) [] []=zhx:=rfl
 simp only [objects_eq,ya,yb,z5g i2,z5g i3,z5g i4,z5g i5,c1,c2,c3,c4,c5,c6,c7,c8,c9,zbs hc,za5 (show r.zj.length<10000000 by omega),hth,e0]
 rw [put_eq (by simp)]
 simp only [yb,yk]
 rw [hk _ (by omega)]
 simp only [yb,obj_mk]
 rw [put_eq (by rw [yh];omega)]
 simp only [yb]
 rw [put_eq (by simp only [yh];omega)]
 simp only [yb]
 rw [put_eq (by simp only [yh];omega)]
 simp only [yb]
 rw [put_eq (by simp only [yh];omega)]
 simp only [yb]
 rw [put_eq (by simp only [yh];omega)]
 simp only [yb]
 rw [put_eq (by simp only [yh];omega)]
 simp only [yb]
 rw [put_eq (by simp only [yh];omega)]
 simp only [yb]
 congr 2
 rw [hps]
 unfold z4u
 have e9:∀ l:List q07,decide (0<((l.map fun t=>obj (z71 t)).length:Int)) = !decide (l=[]):=fun l=>by cases l<;>simp
 rw [e9]
 simp only [zai,yc,List.append_nil]
 rfl
end Go.Sen
end
section
namespace Go.Sen
open Go.Lk Go.Pe
def zzx (b:UInt8):Bool:=isA b||(decide (97≤b.toNat)&&decide (b.toNat≤122))||isD b
def plainB (b:UInt8):Bool:=zzx b||decide (b=45)||decide (b=46)||decide (b=95)||decide (b=126)
def hxU (n:Nat):UInt8:=UInt8.ofNat (if n<10 then 48+n else 55+n)
def pctB (bl:Z) (c:UInt8):Z:=if plainB c=true then [c] else if c=32 then bl else [37,hxU (c.toNat / 16),hxU (c.toNat % 16)]
def pct (bl s:Z):Z:=s.flatMap (pctB bl)
def pPath (s:Z):Z:=pct [37,50,48] s
def pWord (s:Z):Z:=pct [43] s
def fld (p:q05):Z:=pWord p.z1c++[61]++pWord p.z36
def formS (l:List q05):Z:=Lib.join (l.map fld) [38]
def pathS (l:List Z):Z:=l.flatMap fun p=>47::pPath p
theorem z9k {n k:Nat} (h:n<10 ^ k) (hk:1≤k):(Lib.decDigits n).length≤k:=by
 induction k generalizing n with
 | zero=>omega
 | succ k ih =>
  rw [Lib.decDigits]
  split
  ·simp
  ·rename_i h10
   have h2:n / 10<10 ^ k:=by rw [Nat.pow_succ] at h;omega
   have h1:1≤k:=by
    cases k with
    | zero=>simp at h;omega
    | succ k=>omega
   have:=ih h2 h1
   simp
   omega
end Go.Sen
end
