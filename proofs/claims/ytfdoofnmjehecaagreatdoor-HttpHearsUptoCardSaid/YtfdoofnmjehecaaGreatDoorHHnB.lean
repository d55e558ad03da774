import Derived.Test.YtfdoofnmjehecaaGreatDoorHHtM
import Derived.Test.YtfdoofnmjehecaaGreatDoorHShL
import Derived.Lib.SplitLaws
import Derived.Lib.AtoiAllCases
import Derived.Lib.MapLaws
import Derived.Lib.TrimAscii
import Derived.Lib.TrimU
set_option linter.all false
namespace Go.Sen
open _root_.Option renaming bind_eq_bind → ya, bind_eq_some_iff → yb, bind_some → yc, getD_some → yd, map_eq_some_iff → ye, map_some → yf
open _root_.Bool renaming and_eq_false_iff → yg, and_eq_true → yh, and_false → yi, eq_iff_iff → yj, false_eq_true → yk, not_eq_true → yl, not_eq_true' → ym, not_false → yn, not_true → yo, or_eq_true → yp, true_and → yq, true_eq_false → yr
open _root_.List renaming all_cons → ys, all_eq_true → yt, append_assoc → yu, cons_append → yv, dropWhile_cons → yw, dropWhile_sublist → yx, drop_drop → yy, drop_eq_getElem_cons → yz, drop_eq_nil_of_le → yaa, drop_succ_cons → yab, drop_take → yac, drop_zero → yad, eq_nil_of_length_eq_zero → yae, findIdx?_cons → yaf, getElem?_cons_succ → yag, getElem?_cons_zero → yah, getElem?_eq_getElem → yai, getElem?_eq_none → yaj, getElem_mem → yak, head?_cons → yal, isPrefixOf → yam, length_append → yan, length_cons → yao, length_drop → yap, length_eq_zero_iff → yaq, length_nil → yar, length_take → yas, mem_append → yat, mem_cons → yau, nil_append → yav, nodup_append → yaw, pairwise_iff_getElem → yax, tail_cons → yay, takeWhile_cons → yaz, take_length → ya0, take_succ_cons → ya1
open _root_.Nat renaming add_assoc → ya2, add_right_comm → ya3, le_of_not_lt → ya4, le_refl → ya5, le_trans → ya6, lt_or_ge → ya7, pow_le_pow_right → ya8, pow_succ → ya9, zero_add → yba, zero_le → ybb
open _root_.Int renaming tmod → ybc
open IntKind renaming wrap → ybd
open _root_.UInt8 renaming ofNat → ybe
section
open Go.Lk Go.Pe
theorem z5y(s p:Z):M.q7a s p=some (p.isPrefixOf s):=by
 unfold M.q7a M.q35;by_cases h:p.length≤s.length
 ·have a:(p.length:Int)≤(s.length:Int):=by omega
  simp only[a,decide_true,if_true,ze9 h,ya,yc,zte]
 ·have a:¬(p.length:Int)≤(s.length:Int):=by omega
  have:p.isPrefixOf s=false:=by cases b:p.isPrefixOf s with|false=>rfl|true=>exact absurd (zf2 b) h
  simp[a,this]
theorem z6w(s p:Z):M.q79 s p=some (if p.isPrefixOf s then(s.drop p.length,true)else(s,false)):=by have h:=z5y s p;unfold M.q7a at h;simp only[ya]at h;unfold M.q79 M.q34;cases a:M.q35 s p with|none=>rw[a]at h;cases h|some b=>rw[a]at h;simp only[yc,Option.some.injEq]at h;subst h;cases c:p.isPrefixOf s with|false=>simp|true=>simp[zcb (zf2 c)]
theorem za6(s p:Z):M.q7b s p=some (if p.isPrefixOf s then s.drop p.length else s):=by have h:=z5y s p;unfold M.q7a at h;simp only[ya]at h;unfold M.q7b M.q36;cases a:M.q35 s p with|none=>rw[a]at h;cases h|some b=>rw[a]at h;simp only[yc,Option.some.injEq]at h;subst h;cases c:p.isPrefixOf s with|false=>simp|true=>simp[zcb (zf2 c)]
def isD(b:UInt8):Bool:=decide (48≤b.toNat)&&decide (b.toNat≤57)
theorem zz06i:∀b:UInt8,([48,49,50,51,52,53,54,55,56,57]:Z).contains b=isD b:=by
 intro b;have h:∀n:Fin 256,([48,49,50,51,52,53,54,55,56,57]:Z).contains (ybe n.val)=isD (ybe n.val):=by decide+kernel
 have:=h ⟨b.toNat,zfq⟩;simpa using this
def z7p(s:Z):Nat:=(s.takeWhile isD).length
theorem zh3(s:Z):z7p s≤s.length:=by unfold z7p;exact(List.takeWhile_sublist _).length_le
theorem zn1(c:UInt8)(s:Z):z7p (c::s)=if isD c then z7p s+1 else 0:=by unfold z7p;rw[yaz];split<;>simp
theorem z8q{s:Z}(h:s.length<4611686018427387904):M.q3h s=some (z7p s:Int):=by
 unfold M.q3h M.trimLeft;have e:(decide (([48,49,50,51,52,53,54,55,56,57]:Z).length<4294967281)&&([48,49,50,51,52,53,54,55,56,57]:Z).all fun b=>decide (b.toNat<128))=true:=by decide
 rw[z3a e];simp only[ya,yc];have a:Lib.trimLeftS s [48,49,50,51,52,53,54,55,56,57]=s.dropWhile isD:=by unfold Lib.trimLeftS;congr 1;funext b;exact zz06i b
 rw[a];have c:z7p s+(s.dropWhile isD).length=s.length:=by unfold z7p;rw[←yan,List.takeWhile_append_dropWhile]
 rw[w64 (by omega) (by omega)];congr 1;omega
def sgn(s:Z):Nat:=if s.head?=some 45 then 1 else 0
def z8t(s:Z):Nat:=if s.head?=some 48 then 1 else z7p s
def zc9:Z→Nat|46::r=>if 0<z7p r then 1+z7p r else 0|_=>0
def zag(s:Z):Nat:=if s.head?=some 43∨s.head?=some 45 then 1 else 0
def zjc:Z→Nat|c::r=>if c=101∨c=69 then if 0<z7p (r.drop (zag r))then 1+zag r+z7p (r.drop (zag r))else 0 else 0|[]=>0
def num(s:Z):Nat:=let i:=sgn s
 if z8t (s.drop i)=0 then 0 else let i:=i+z8t (s.drop i)
 let i:=i+zc9 (s.drop i)
 i+zjc (s.drop i)
theorem zzp(s:Z):sgn s≤s.length:=by unfold sgn;cases s<;>simp;split<;>omega
theorem zre(s:Z):zag s≤s.length:=by unfold zag;cases s<;>simp;split<;>omega
theorem zq1(s:Z):z8t s≤s.length:=by unfold z8t;have:=zh3 s;cases s with|nil=>simp[z7p]|cons c r=>split<;>simp_all
theorem zpu(s:Z):zc9 s≤s.length:=by
 unfold zc9;split;·rename_i r;have:=zh3 r;split<;>simp<;>omega
 ·simp
theorem zz05y(s:Z):zjc s≤s.length:=by
 unfold zjc;split
 ·rename_i c r;have a:=zre r;have h2:=zh3 (r.drop (zag r));rw[yap]at h2;repeat' split
  all_goals simp only[yao]
  all_goals omega
 ·simp
theorem zo0(s:Z):num s≤s.length:=by
 unfold num;simp only;split;·simp
 ·have c:=zzp s;have h2:=zq1 (s.drop (sgn s));have a:=zpu (s.drop (sgn s+z8t (s.drop (sgn s))));have b:=zz05y (s.drop (sgn s+z8t (s.drop (sgn s))+zc9 (s.drop (sgn s+z8t (s.drop (sgn s))))));simp only[yap]at h2 a b;omega
theorem zcc(s:Z):z7p s=0↔z8t s=0:=by unfold z8t;cases s with|nil=>simp[z7p]|cons c r=>
  by_cases h:c=48;·subst h;simp[zn1,isD]
  ·simp[h]
theorem zz01t(s:Z):s.head?=s[0]?:=by cases s<;>rfl
theorem getD{s:Z}{i:Nat}:(s.drop i).head?=s[i]?:=by rw[zz01t];simp
theorem zcf{s:Z}(h:s.length<1152921504606846976):M.q3k s=some (num s:Int):=by
 unfold M.q3k;have A:(do let a_7←M.q7a s ([45]:Z)if a_7 then some 1;else some 0:Option Int)=some ((sgn s:Nat):Int):=by rw[z5y];unfold sgn;cases s with|nil=>rfl|cons c r=>
   by_cases a:c=45;·subst a;simp
   ·have:¬(45:UInt8)=c:=fun e=>a e.symm;simp[a,this]
 rw[A];simp only[ya,yc];have J:=zzp s;rw[zcb J];simp only[yc];rw[z8q (by simp;omega)];simp only[yc];unfold num;simp only;by_cases d:z7p (s.drop (sgn s))=0;·rw[if_pos (by simpa using d),if_pos ((zcc _).1 d)];rfl
 rw[if_neg (by simpa using d),if_neg fun e=>d ((zcc _).2 e)];generalize Q:sgn s=i at*;have m:i<s.length:=by
  rcases ya7 i s.length with u|u;·exact u
  ·rw[yaa u]at d;exact absurd rfl d
 rw[z3u,yai m];simp only[yc];have B:(if decide ((s[i].toNat:Int)=48)=true then some 1 else some ((z7p (s.drop i):Nat):Int))=some ((z8t (s.drop i):Nat):Int):=by
  unfold z8t;rw[getD,yai m];by_cases a:s[i]=48
  ·have:(s[i].toNat:Int)=48:=by rw[a];rfl
   simp[a]
  ·have:¬(s[i].toNat:Int)=48:=fun e=>a ((toNat_eq (n:=48) (by omega)).1 e);simp[a,this]
 rw[B];simp only[yc];have l2:=zq1 (s.drop i);generalize hn:z8t (s.drop i)=n at*;rw[yap]at l2;have f:ybd .i64 ((i:Int)+(n:Int))=((i+n:Nat):Int):=wadd (by omega);rw[f];have G:i+n≤s.length:=by omega
 generalize R:i+n=j at*;have p:(do let s_31←sub s (j:Int) (s.length:Int)let a_32←M.q7a s_31 ([46]:Z)if a_32 then let s_34←sub s (ybd .i64 ((j:Int)+1)) (s.length:Int)let a_35←M.q3h s_34;if decide (0<a_35)then some (ybd .i64 ((j:Int)+ybd .i64 (1+a_35)))else some (j:Int)else some (j:Int):Option Int)=some ((j+zc9 (s.drop j):Nat):Int):=by
  rw[zcb G];simp only[ya,yc,z5y];have ex:(∃r,s.drop j=46::r)∨([46]:Z).isPrefixOf (s.drop j)=false∧zc9 (s.drop j)=0:=by cases hd:s.drop j with|nil=>exact .inr ⟨rfl,rfl⟩|cons c r=>
    by_cases a:c=46;·subst a;exact .inl ⟨r,rfl⟩
    ·have v:¬(46:UInt8)=c:=fun e=>a e.symm;refine .inr ⟨by simp[yam,v],?_⟩;unfold zc9;split;·rename_i S o;injection o with f C;exact absurd f a
     ·rfl
  rcases ex with⟨r,o⟩|⟨f,C⟩
  ·obtain⟨O,t,P⟩:=zlc o;have:([46]:Z).isPrefixOf (s.drop j)=true:=by rw[o];rfl
   rw[this,if_pos rfl,w1 (by omega),zcb (by omega),o];simp only[yc,zc9];rw[t,z8q (by rw[←t];simp;omega)];simp only[yc];have:=zh3 r;have I:r.length+(j+1)=s.length:=by rw[←t];simp;omega
   by_cases hd:0<z7p r;·rw[if_pos (by simpa using hd),if_pos hd];rw[show(1:Int)+(z7p r:Int)=((1+z7p r:Nat):Int)by omega,w64 (x:=((1+z7p r:Nat):Int)) (by omega) (by omega),wadd (by omega)]
   ·rw[if_neg (by simpa using hd),if_neg hd];rfl
  ·rw[f,C];simp
 simp only[ya]at p;rw[p];simp only[yc];have K:=zpu (s.drop j);rw[yap]at K;have H:j+zc9 (s.drop j)≤s.length:=by omega
 generalize j+zc9 (s.drop j)=k at*;clear A B p;by_cases l:k<s.length
 ·have b:(k:Int)<(s.length:Int):=by omega
  have w:s.drop k=s[k]::s.drop (k+1):=by simp
  simp only[b,decide_true,if_true,z3u,yai l,yc];have F:(if decide ((s[k].toNat:Int)=101)=true then some true else some (decide ((s[k].toNat:Int)=69)))=some (decide (s[k]=101∨s[k]=69)):=by have y:(s[k].toNat:Int)=101↔s[k]=101:=toNat_eq (n:=101) (by omega);have z:(s[k].toNat:Int)=69↔s[k]=69:=toNat_eq (n:=69) (by omega);simp only[y,z];by_cases q:s[k]=101<;>simp[q]
  rw[F];simp only[yc];rw[w];unfold zjc;simp only;by_cases a:s[k]=101∨s[k]=69
  ·rw[if_pos (by simpa using a),if_pos a,w1 (by omega)];have D:(do let j_60←(if decide (((k+1:Nat):Int)<(s.length:Int))=true then do let c_61←ix s ((k+1:Nat):Int)if decide ((c_61.toNat:Int)=43)=true then some true;else do let c_62←ix s ((k+1:Nat):Int)some (decide ((c_62.toNat:Int)=45))else some false)if j_60=true then some (ybd .i64 (((k+1:Nat):Int)+1))else some ((k+1:Nat):Int))=some ((k+1+zag (s.drop (k+1)):Nat):Int):=by
    unfold zag;rw[getD];by_cases g:k+1<s.length
    ·have:((k+1:Nat):Int)<(s.length:Int):=by omega
     simp only[this,decide_true,if_true,z3u,yai g,ya,yc];have y:(s[k+1].toNat:Int)=43↔s[k+1]=43:=toNat_eq (n:=43) (by omega);have z:(s[k+1].toNat:Int)=45↔s[k+1]=45:=toNat_eq (n:=45) (by omega);simp only[y,z,Option.some.injEq];have N:ybd .i64 (((k+1:Nat):Int)+1)=((k+1+1:Nat):Int):=w1 (by omega);rw[N];by_cases q:s[k+1]=43;·simp[q]
     ·by_cases E:s[k+1]=45;·simp[E]
      ·simp[q,E]
    ·have:¬(k:Int)+1<(s.length:Int):=by omega
     simp[this,yaj (ya4 g)]
   simp only[ya]at D;rw[D];simp only[yc];have L:=zre (s.drop (k+1));rw[yap]at L;rw[zcb (by omega)];simp only[yc];rw[z8q (by simp;omega),←yy];simp only[yc];have l5:=zh3 ((s.drop (k+1)).drop (zag (s.drop (k+1))));rw[yap,yap]at l5;by_cases hd:0<z7p ((s.drop (k+1)).drop (zag (s.drop (k+1))));·rw[if_pos (by simpa using hd),if_pos hd,wadd (by omega)];congr 2;omega
   ·rw[if_neg (by simpa using hd),if_neg hd];rfl
  ·rw[if_neg (by simpa using a),if_neg a];rfl
 ·have b:¬(k:Int)<(s.length:Int):=by omega
  rw[yaa (ya4 l)];simp[b,zjc]
end
section
open Go.Lk Go.Pe
theorem z43(b:UInt8):M.q4v (b.toNat:Int)=some (isD b):=by
 unfold M.q4v isD;congr 2;·exact decide_eq_decide.2 (by omega)
 ·exact decide_eq_decide.2 (by omega)
theorem z8g{s:Z}{i:Nat}(h:i<s.length):z7p (s.drop i)=if isD s[i]then z7p (s.drop (i+1))+1 else 0:=by rw[yz h,zn1]
theorem z9k{s:Z}{i:Nat}(h:s.length≤i):z7p (s.drop i)=0:=by rw[yaa h];rfl
theorem zz0ay{s:Z}(d:s.length<1152921504606846976):∀(n i:Nat),s.length-i=n→i≤s.length→M.z3h s (i:Int)=some ((i+z7p (s.drop i):Nat):Int):=by
 intro n;induction n with|zero=>
  intro i hn b;rw[M.z3h.eq_1];have:¬(i:Int)<(s.length:Int):=by omega
  simp[this,z9k (show s.length≤i by omega)]|succ n c=>
  intro i hn b;have a:i<s.length:=by omega
  rw[M.z3h.eq_1];have:(i:Int)<(s.length:Int):=by omega
  simp only[this,decide_true,if_true,z3u,yai a,ya,yc,z43];rw[z8g a];cases hd:isD s[i]with|false=>simp|true=>simp only[if_true];rw[w1 (by omega),c (i+1) (by omega) (by omega)];congr 2;omega
theorem zz0az{s:Z}(d:s.length<1152921504606846976):∀(n i:Nat),s.length-i=n→i≤s.length→M.z4m s (i:Int)=some ((i+z7p (s.drop i):Nat):Int):=by
 intro n;induction n with|zero=>
  intro i hn b;rw[M.z4m.eq_1];have:¬(i:Int)<(s.length:Int):=by omega
  simp[this,z9k (show s.length≤i by omega)]|succ n c=>
  intro i hn b;have a:i<s.length:=by omega
  rw[M.z4m.eq_1];have:(i:Int)<(s.length:Int):=by omega
  simp only[this,decide_true,if_true,z3u,yai a,ya,yc,z43];rw[z8g a];cases hd:isD s[i]with|false=>simp|true=>simp only[if_true];rw[w1 (by omega),c (i+1) (by omega) (by omega)];congr 2;omega
theorem zz0ax{s:Z}(h:s.length<1152921504606846976){b:Nat}(c:b<s.length)(f:¬s[b]=48):∀(n i:Nat),s.length-i=n→i≤s.length→M.z1t s (b:Int) (i:Int)=some ((i+z7p (s.drop i):Nat):Int):=by
 intro n;induction n with|zero=>
  intro i hn d;rw[M.z1t.eq_1];have:¬(i:Int)<(s.length:Int):=by omega
  simp[this,z9k (show s.length≤i by omega)]|succ n g=>
  intro i hn d;have a:i<s.length:=by omega
  rw[M.z1t.eq_1];have:(i:Int)<(s.length:Int):=by omega
  have t:¬(s[b].toNat:Int)=48:=fun e=>f ((toNat_eq (n:=48) (by omega)).1 e);simp only[this,decide_true,if_true,z3u,yai a,yai c,ya,yc,z43,t,decide_false,yn];rw[z8g a];cases hd:isD s[i]with|false=>simp|true=>
   have:(if decide ((i:Int)=(b:Int))=true then some true else some true)=some true:=by split<;>rfl
   simp only[if_true,this,yc];rw[w1 (by omega),g (i+1) (by omega) (by omega)];congr 2;omega
theorem zz030{s:Z}(j:s.length<1152921504606846976){b:Nat}(i:b≤s.length):M.z1t s (b:Int) (b:Int)=some ((b+z8t (s.drop b):Nat):Int):=by
 rcases ya7 b s.length with h|h
 ·by_cases c:s[b]=48
  ·rw[M.z1t.eq_1];have e:(b:Int)<(s.length:Int):=by omega
   have h2:isD 48=true:=by decide
   simp only[e,decide_true,if_true,z3u,yai h,ya,yc,z43,c,h2];rw[w1 (by omega),M.z1t.eq_1];have a:z8t (s.drop b)=1:=by unfold z8t;rw[getD,yai h,c];rfl
   rw[a];by_cases f:b+1<s.length
   ·have d:((b+1:Nat):Int)<(s.length:Int):=by omega
    have g:¬((b+1:Nat):Int)=(b:Int):=by omega
    simp only[d,decide_true,if_true,z3u,yai f,yai h,ya,yc,z43,g,decide_false,c];cases isD s[b+1]<;>simp
   ·have d:¬(b:Int)+1<(s.length:Int):=by omega
    simp[d]
  ·rw[zz0ax j h c _ b rfl i];have a:z8t (s.drop b)=z7p (s.drop b):=by unfold z8t;rw[getD,yai h];simp[c]
   rw[a]
 ·rw[M.z1t.eq_1];have:¬(b:Int)<(s.length:Int):=by omega
  have a:z8t (s.drop b)=0:=by rw[yaa h];rfl
  simp[this,a]
theorem ze3{s:Z}(h:s.length<1152921504606846976):M.q4x s=some (num s:Int):=by
 unfold M.q4x;have w:(do let j_13←(do if decide (0<(s.length:Int))then let c_14←ix s 0;some (decide ((c_14.toNat:Int)=45))else some false:Option Bool)if j_13 then some (ybd .i64 (0+1))else some 0:Option Int)=some ((sgn s:Nat):Int):=by unfold sgn;cases s with|nil=>rfl|cons c r=>
   have l:(0:Int)<((c::r).length:Int):=by simp only[yao];omega
   have e:(c.toNat:Int)=45↔c=45:=toNat_eq (n:=45) (by omega);simp only[l,decide_true,if_true,zuo,yah,ya,yc,e,yal,Option.some.injEq];by_cases b:c=45<;>simp[b];rfl
 rw[w];simp only[ya,yc];have F:=zzp s;rw[zz030 h F];simp only[yc];unfold num;simp only;generalize K:sgn s=i at*;have l2:=zq1 (s.drop i);rw[yap]at l2;by_cases u:z8t (s.drop i)=0;·rw[if_pos (by simp[u]),if_pos u];rfl
 rw[if_neg (by simp;omega),if_neg u];have L:i+z8t (s.drop i)≤s.length:=by omega
 generalize i+z8t (s.drop i)=j at*;clear w;have m:(do let j_132←(do if decide (ybd .i64 ((j:Int)+1)<(s.length:Int))then let c_133←ix s (j:Int)some (decide ((c_133.toNat:Int)=46))else some false:Option Bool)let j_138←(do if j_132 then let c_139←ix s (ybd .i64 ((j:Int)+1))let a_140←M.q4v (c_139.toNat:Int)some a_140;else some false:Option Bool)if j_138 then M.z3h s (ybd .i64 ((j:Int)+1))else some (j:Int):Option Int)=some ((j+zc9 (s.drop j):Nat):Int):=by
  rw[w1 (by omega)];by_cases l:j+1<s.length
  ·have d:((j+1:Nat):Int)<(s.length:Int):=by omega
   have h2:j<s.length:=by omega
   have e:(s[j].toNat:Int)=46↔s[j]=46:=toNat_eq (n:=46) (by omega);simp only[d,decide_true,if_true,z3u,yai l,yai h2,ya,yc,e,z43];rw[yz h2];by_cases b:s[j]=46;·rw[b];unfold zc9;simp only[decide_true,if_true,yc];have hd:=z8g l;cases A:isD s[j+1]with|false=>rw[A]at hd;simp at hd;simp[hd]|true=>rw[A]at hd;simp only[if_true]at hd⊢;rw[zz0ay h _ (j+1) rfl (by omega),if_pos (by omega)];congr 2;omega
   ·have:zc9 (s[j]::s.drop (j+1))=0:=by
     unfold zc9;split;·rename_i r t;injection t with e1 e2;exact absurd e1 b
     ·rfl
    rw[this];simp[b]
  ·have d:¬(j:Int)+1<(s.length:Int):=by omega
   have:zc9 (s.drop j)=0:=by
    unfold zc9;split
    ·rename_i r t;obtain⟨_,D,J⟩:=zlc t;have:r=[]:=by rw[←D];exact yaa (by omega)
     rw[this];rfl
    ·rfl
   rw[this];simp[d]
 simp only[ya]at m;rw[m];simp only[yc];have G:=zpu (s.drop j);rw[yap]at G;have E:j+zc9 (s.drop j)≤s.length:=by omega
 generalize j+zc9 (s.drop j)=k at*;clear m;by_cases g:k<s.length
 ·have a:(k:Int)<(s.length:Int):=by omega
  have p:s.drop k=s[k]::s.drop (k+1):=by simp
  simp only[a,decide_true,if_true,z3u,yai g,yc];have C:(if decide ((s[k].toNat:Int)=101)=true then some true else some (decide ((s[k].toNat:Int)=69)))=some (decide (s[k]=101∨s[k]=69)):=by have e:(s[k].toNat:Int)=101↔s[k]=101:=toNat_eq (n:=101) (by omega);have v:(s[k].toNat:Int)=69↔s[k]=69:=toNat_eq (n:=69) (by omega);simp only[e,v];by_cases q:s[k]=101<;>simp[q]
  rw[C];simp only[yc];rw[p];unfold zjc;simp only;by_cases b:s[k]=101∨s[k]=69
  ·rw[if_pos (by simpa using b),if_pos b,w1 (by omega)];have x:(do let j_60←(if decide (((k+1:Nat):Int)<(s.length:Int))=true then do let c_61←ix s ((k+1:Nat):Int)if decide ((c_61.toNat:Int)=43)=true then some true;else do let c_62←ix s ((k+1:Nat):Int)some (decide ((c_62.toNat:Int)=45))else some false)if j_60=true then some (ybd .i64 (((k+1:Nat):Int)+1))else some ((k+1:Nat):Int))=some ((k+1+zag (s.drop (k+1)):Nat):Int):=by
    unfold zag;rw[getD];by_cases f:k+1<s.length
    ·have:((k+1:Nat):Int)<(s.length:Int):=by omega
     simp only[this,decide_true,if_true,z3u,yai f,ya,yc];have e:(s[k+1].toNat:Int)=43↔s[k+1]=43:=toNat_eq (n:=43) (by omega);have v:(s[k+1].toNat:Int)=45↔s[k+1]=45:=toNat_eq (n:=45) (by omega);simp only[e,v,Option.some.injEq];have I:ybd .i64 (((k+1:Nat):Int)+1)=((k+1+1:Nat):Int):=w1 (by omega);rw[I];by_cases q:s[k+1]=43;·simp[q]
     ·by_cases B:s[k+1]=45;·simp[B]
      ·simp[q,B]
    ·have:¬(k:Int)+1<(s.length:Int):=by omega
     simp[this,yaj (ya4 f)]
   simp only[ya]at x;rw[x];simp only[yc];have H:=zre (s.drop (k+1));rw[yap]at H;have o:s.drop (k+1+zag (s.drop (k+1)))=(s.drop (k+1)).drop (zag (s.drop (k+1))):=by rw[yy]
   rw[zz0az h _ _ rfl (by omega),o];simp only[yc];generalize z7p ((s.drop (k+1)).drop (zag (s.drop (k+1))))=y at*;generalize zag (s.drop (k+1))=z at*;by_cases hd:0<y;·rw[if_pos (by simp only[decide_eq_true_eq];omega),if_pos hd];simp only[yc];congr 2;omega
   ·rw[if_neg (by simp only[decide_eq_true_eq];omega),if_neg hd];rfl
  ·rw[if_neg (by simpa using b),if_neg b];rfl
 ·have a:¬(k:Int)<(s.length:Int):=by omega
  rw[yaa (ya4 g)];simp[a,zjc]
end
section
open Go.Lk Go.Pe
theorem z6a{P:UInt8→Prop}(h:∀n:Fin 256,P (ybe n.val))(b:UInt8):P b:=by have:=h ⟨b.toNat,zfq⟩;simp_all
theorem z6u(c:UInt8)(s:Z):[c].isPrefixOf s=decide (s.head?=some c):=by cases s with|nil=>rfl|cons d r=>grind
def kys(ks:List Z):Nat:=(ks.map fun k=>k.length+1).sum
mutual
def q04.sz:q04→Nat
 | ⟨_,t,l,ks⟩=>szs l+t.length+kys ks+1
def szs:List q04→Nat
 | []=>0
 | x::xs=>x.sz+szs xs+1
end
theorem q04.zal(v:q04):v.sz=szs v.zg+v.zq.length+kys v.zn+1:=by cases v;rfl
theorem kys_nil:kys []=0:=rfl
theorem z6c(k:Z)(ks:List Z):kys (k::ks)=k.length+1+kys ks:=by simp[kys]
theorem z38:∀ks:List Z,ks.length≤kys ks|[]=>by simp|k::ks=>by have:=z38 ks;rw[z6c,yao];omega
theorem zi0:∀{ks:List Z}{k:Z},k∈ks→k.length<kys ks
 |a::ks,k,h=>by
  rw[z6c];rcases yau.1 h with rfl|h;·omega
  ·have:=zi0 h;omega
theorem zix:∀{l:List q04}{x:q04},x∈l→x.sz<szs l
 |y::l,x,a=>by
  simp only[szs];rcases yau.1 a with rfl|a;·omega
  ·have:=zix a;omega
theorem ziw:∀l:List q04,l.length≤szs l|[]=>by simp|y::l=>by have:=ziw l;grind[szs]
def frm(k:Int)(t:Z)(n:Nat)(ks:List Z):Bool:=ks.all Lib.validD&&if k=0∨k=1∨k=2 then decide (t=[])&&decide (n=0)&&decide (ks=[])else if k=3 then !decide (t=[])&&decide (num t=t.length)&&decide (n=0)&&decide (ks=[])else if k=4 then Lib.validD t&&decide (n=0)&&decide (ks=[])else if k=5 then decide (t=[])&&decide (ks=[])else if k=6 then decide (t=[])&&decide (ks.length=n)&&decide ks.Nodup else false
mutual
def zam:q04→Nat→Int
 | ⟨k,t,l,ks⟩,w=>if (k=5∨k=6)∧16≤w then 21 else if frm k t l.length ks=false then 23 else zgb l (w+1)
def zgb:List q04→Nat→Int
 | [],_=>0
 | x::xs,w=>if zam x w=0 then zgb xs w else zam x w
end
theorem z8l(v:q04)(w:Nat):zam v w=if(v.zh=5∨v.zh=6)∧16≤w then 21 else if frm v.zh v.zq v.zg.length v.zn=false then 23 else zgb v.zg (w+1):=by cases v;rfl
def zzf(e:Int):Rs Unit:=if e=0 then .ok ()else .pan e
theorem znz(e:Int):M.q3j true e=some (.ok ()):=by rfl
instance:Std.Antisymm (α:=Z) (·≤·):=⟨fun _ _ h1 h2=>List.le_antisymm h1 h2⟩
theorem zzu(l:List Z):(l.mergeSort fun x y=>decide (x≤y)).Pairwise (·≤·):=by have:=List.pairwise_mergeSort (le:=fun x y:Z=>decide (x≤y)) (by grind) (by grind) l;grind
theorem zot{m:List Z}(e:m.Pairwise (·≤·)):(∀j,j<m.length→Lib.keeps m.toArray j=true)↔m.Nodup:=by
 rw[yax]at e;constructor;·intro d;rw[List.nodup_iff_pairwise_ne,yax];intro i j g c b f;have a:=d j c;unfold Lib.keeps at a;grind
 ·unfold Lib.keeps;grind[yax]
theorem zpl(m:List Z):(Lib.compact m).length=m.length↔∀j,j<m.length→Lib.keeps m.toArray j=true:=by grind[Lib.compact,Lib.compactUpTo,List.length_filter_eq_length_iff]
theorem zzs{l:List Z}(h:l.length*16≤140737488355328):M.single l=some (decide l.Nodup):=by unfold M.single;rw[z3a (by simpa using h)];simp only[ya,yc,Option.some.injEq];grind[List.mergeSort_perm,zot,zzu,zpl,List.length_mergeSort]
theorem z3q{s:Z}(h:s.length≤9223372036854775807):M.z0h s=some (Lib.validD s):=by grind[M.z0h,z3a]
theorem znm{ks:List Z}(d:∀k∈ks,k.length<1152921504606846976)(hl:ks.length<1152921504606846976):∀(n i:Nat),ks.length-i=n→i≤ks.length→∃r,M.zm ks (i:Int)=some r∧((ks.drop i).all Lib.validD=true∧r=.go ()∨(ks.drop i).all Lib.validD=false∧∃j:Nat,r=.done (j:Int)):=by intro n;induction n with
 |zero=>
  intro i hn c;rw[M.zm.eq_1];have:¬(i:Int)<(ks.length:Int):=by omega
  grind|succ n f=>
  intro i hn c;have a:i<ks.length:=by omega
  rw[M.zm.eq_1];have b:(i:Int)<(ks.length:Int):=by omega
  have h2:=d ks[i] (yak a);unfold M.q3g;simp only[b,decide_true,if_true,z3u,yai a,ya,yc];rw[z3q (by omega),yz a];cases e:Lib.validD ks[i]with|false=>grind|true=>grind[w1]
theorem zgz{ks:List Z}(b:∀k∈ks,k.length<1152921504606846976)(hl:ks.length<1152921504606846976):M.q6y ks=some !ks.all Lib.validD:=by
 unfold M.q6y M.q73;obtain⟨r,c,h2⟩:=znm b hl _ 0 rfl (ybb _);rcases h2 with⟨a,rfl⟩|⟨a,j,rfl⟩;·grind
 simp_all
theorem zhy{k:Int}{t:Z}{n:Nat}{ks:List Z}(d:¬(k=5∨k=6)∨True):frm k t n ks=(decide (0≤k)&&decide (k<7)&&((decide (k=5)||decide (k=6)||decide ((n:Int)=0))&&((decide (k=6)&&decide ((ks.length:Int)=(n:Int))||decide ((ks.length:Int)=0)&&!decide (k=6))&&(ks.all Lib.validD&&decide ks.Nodup&&if k=3 then !decide (t=[])&&decide (num t=t.length)else if k=4 then Lib.validD t else decide (t=[]))))):=by
 have k0:(ks.length:Int)=0↔ks=[]:=by rw[←yaq];omega
 unfold frm;by_cases a:k=0;·grind
 by_cases b:k=1;·grind
 by_cases h2:k=2;·grind
 by_cases c:k=3;·grind
 grind
end
section
open Go.Lk Go.Pe
def z2j(c:UInt8):Z→Z×Z×Bool|[]=>([],[],false)|x::r=>if x=c then([],r,true)else(x::(z2j c r).1,(z2j c r).2.1,(z2j c r).2.2)
theorem cutb_nil(c:UInt8):z2j c []=([],[],false):=rfl
theorem z5m(c x:UInt8)(r:Z):z2j c (x::r)=if x=c then([],r,true)else(x::(z2j c r).1,(z2j c r).2.1,(z2j c r).2.2):=rfl
theorem z4o(c x:UInt8)(r:Z):Lib.index (x::r) [c]=if x=c then 0 else if Lib.index r [c]=-1 then-1 else Lib.index r [c]+1:=by
 rw[Lib.index];by_cases h:x=c;·subst h;simp[yam]
 ·have:([c]:Z).isPrefixOf (x::r)=false:=by simp[yam,Ne.symm h]
  rw[this];simp[h]
theorem cut_b(c:UInt8):∀s:Z,Lib.cut s [c]=z2j c s
 |[]=>by simp[Lib.cut,Lib.index,z2j]|x::r=>by
  have g:=cut_b c r;have d:=Lib.index_ge r [c];have a:=z4o c x r;by_cases h:x=c;·rw[if_pos h]at a;unfold Lib.cut;rw[a,z5m,if_pos h];simp
  ·rw[if_neg h]at a;rw[z5m,if_neg h,←g];by_cases b:Lib.index r [c]=-1;·rw[if_pos b]at a;unfold Lib.cut;rw[a,b];simp
   ·rw[if_neg b]at a;obtain⟨k,f⟩:∃k:Nat,Lib.index r [c]=k:=⟨(Lib.index r [c]).toNat,by omega⟩;unfold Lib.cut;rw[a,f,if_pos (by omega),if_pos (by omega)];have e:((k:Int)+1).toNat=k+1:=by omega
    simp[e,ya2]
theorem z8f(c:UInt8):∀s:Z,(z2j c s).1.length+(z2j c s).2.1.length≤s.length∧((z2j c s).2.2=true→(z2j c s).1.length+(z2j c s).2.1.length+1=s.length)
 |[]=>by simp[z2j]|x::r=>by
  have a:=z8f c r;rw[z5m];split;·simp
  ·simp only[yao];refine⟨by omega,fun h=>?_⟩;have:=a.2 h;omega
theorem ztu{s:Z}(c:UInt8)(h:s.length<4294967281):M.cut s [c]=some (z2j c s):=by unfold M.cut;rw[z3a (by simpa using h),←cut_b];rfl
def z0u(c:UInt8):Z→List Z|[]=>[[]]|x::r=>if x=c then[]::z0u c r else match z0u c r with|[]=>[[x]]|h::t=>(x::h)::t
theorem zou(c:UInt8):∀s:Z,∃h t,z0u c s=h::t
 |[]=>⟨_,_,rfl⟩|x::r=>by
  unfold z0u;split;·exact⟨_,_,rfl⟩
  ·split<;>exact⟨_,_,rfl⟩
def z6g(sep:Z):Nat→Z→List Z|0,s=>[s]|k+1,s=>if Lib.index s sep=-1 then[s]else s.take (Lib.index s sep).toNat::z6g sep k (s.drop ((Lib.index s sep).toNat+sep.length))
theorem z9t(s sub:Z):Lib.indexB ⟨s.toArray⟩ ⟨sub.toArray⟩=Lib.index s sub:=by unfold Lib.indexB;simp
theorem zax(s:Z)(a b:Nat):(⟨s.toArray⟩:ByteArray).extract a b=⟨((s.take b).drop a).toArray⟩:=by apply ByteArray.ext;rw[ByteArray.data_extract];simp[yac]
theorem zis(sep:Z):∀(k:Nat)(s:Z),(Lib.splitB ⟨sep.toArray⟩ 0 k ⟨s.toArray⟩).map (·.data.toList)=z6g sep k s
 |0,s=>by simp[Lib.splitB,z6g]|k+1,s=>by
  have a:∀l:Z,(⟨l.toArray⟩:ByteArray).size=l.length:=fun l=>by simp[ByteArray.size]
  unfold Lib.splitB z6g;rw[z9t];by_cases h:Lib.index s sep=-1;·rw[if_pos (by simpa using h),if_pos h];simp
  ·rw[if_neg (by simpa using h),if_neg h,zax,zax,List.map_cons,zis sep k];simp[a]
theorem zrf{sep:Z}(g:1≤sep.length):∀(n:Nat)(s:Z),s.length≤n→∀k,s.length≤k→z6g sep (Lib.countB ⟨s.toArray⟩ ⟨sep.toArray⟩) s=z6g sep k s:=by
 intro n;have b:∀l:Z,(⟨l.toArray⟩:ByteArray).size=l.length:=fun l=>by simp[ByteArray.size]
 induction n with
 |zero=>
  intro s hn k m;have:s=[]:=yae (by omega);subst this;have a:Lib.index [] sep=-1:=by rw[Lib.index,if_neg];cases sep<;>simp_all
  rw[Lib.countB_miss _ _ (by rw[z9t];exact a)];cases k with|zero=>rfl|succ k=>unfold z6g;rw[if_pos a]
 |succ n o=>
  intro s hn k m;have h:=Lib.index_ge s sep;by_cases a:Lib.index s sep=-1;·rw[Lib.countB_miss _ _ (by rw[z9t];exact a)];cases k with|zero=>rfl|succ k=>
    conv=>rhs;unfold z6g;rw[if_pos a]
    rfl
  ·obtain⟨i,c⟩:∃i:Nat,Lib.index s sep=i:=⟨(Lib.index s sep).toNat,by omega⟩;have d:=Lib.index_room s sep (by omega);have f:=Lib.countB_hit ⟨s.toArray⟩ ⟨sep.toArray⟩ i (by rw[b];exact g) (by rw[z9t];exact c);rw[zax,b,b,ya0]at f;have hd:(s.drop (i+sep.length)).length≤n:=by rw[yap];omega
   obtain⟨k,rfl⟩:∃j,k=j+1:=⟨k-1,by omega⟩;rw[f,Nat.add_comm 1];unfold z6g;rw[if_neg a,if_neg a,c];have e:(i:Int).toNat=i:=by omega
   rw[e,o _ hd k (by rw[yap];omega)]
theorem ztp{sep:Z}(a:1≤sep.length)(s:Z):zit s sep=z6g sep s.length s:=by unfold zit;rw[zis];exact zrf a _ s (ya5 _) _ (ya5 _)
theorem zma(c:UInt8):∀(s:Z)(k:Nat),s.length≤k→z6g [c] k s=z0u c s
 |[],k,_=>by cases k with|zero=>rfl|succ k=>unfold z6g;rw[if_pos (by simp[Lib.index])];rfl
 |x::r,k,b=>by
  obtain⟨k,rfl⟩:∃j,k=j+1:=⟨k-1,by simp at b;omega⟩;simp only[yao]at b;have l:=zma c r k (by omega);have g:=Lib.index_ge r [c];unfold z0u;by_cases a:x=c;·rw[if_pos a];unfold z6g;rw[z4o,if_pos a,if_neg (by decide)];simp[l]
  ·rw[if_neg a,←zma c r (k+1) (by omega)];unfold z6g;rw[z4o,if_neg a];by_cases d:Lib.index r [c]=-1;·simp[d]
   ·obtain⟨i,h⟩:∃i:Nat,Lib.index r [c]=i:=⟨(Lib.index r [c]).toNat,by omega⟩;rw[if_neg d,h,if_neg (by omega),if_neg (by omega)];have e:((i:Int)+1).toNat=i+1:=by omega
    have f:(i:Int).toNat=i:=by omega
    simp[e,f,ya2]
theorem zeg{s:Z}(c:UInt8)(h:s.length<4294967281):M.split s [c]=some (z0u c s):=by unfold M.split;rw[z3a (by simpa using h),ztp (by simp),zma c s _ (ya5 _)];rfl
def z3x:Z→List Z|[]=>[[]]|x::r=>if x=13∧r.head?=some 10 then[]::z3x (r.drop 1)else match z3x r with|[]=>[[x]]|h::t=>(x::h)::t
termination_by s=>s.length
theorem zox:∀s:Z,∃h t,z3x s=h::t
 |[]=>⟨_,_,by unfold z3x;rfl⟩|x::r=>by
  unfold z3x;split;·exact⟨_,_,rfl⟩
  ·split<;>exact⟨_,_,rfl⟩
theorem zz017(x:UInt8)(r:Z):([13,10]:Z).isPrefixOf (x::r)=decide (x=13∧r.head?=some 10):=by cases r with|nil=>simp[yam]|cons y r=>
  simp only[yam,yal,Option.some.injEq];by_cases a:x=13<;>by_cases h2:y=10<;>simp[a,h2];·exact fun h=>h2 h.symm
  ·exact fun h=>(a h.symm).elim
  ·exact fun h=>(a h.symm).elim
theorem zaz(x:UInt8)(r:Z):Lib.index (x::r) [13,10]=if x=13∧r.head?=some 10 then 0 else if Lib.index r [13,10]=-1 then-1 else Lib.index r [13,10]+1:=by
 rw[Lib.index,zz017];by_cases h:x=13∧r.head?=some 10;·simp[h]
 ·simp[h]
theorem zz03b:∀(n:Nat)(s:Z)(k:Nat),s.length≤n→s.length≤k→z6g [13,10] k s=z3x s:=by intro n;induction n with
 |zero=>intro s k hn b;have:s=[]:=yae (by omega);subst this;unfold z3x;cases k with|zero=>rfl|succ k=>unfold z6g;rw[if_pos (by simp[Lib.index])]
 |succ n d=>intro s k hn b;cases s with
  |nil=>unfold z3x;cases k with|zero=>rfl|succ k=>unfold z6g;rw[if_pos (by simp[Lib.index])]
  |cons x r=>
   simp only[yao]at hn b;obtain⟨k,rfl⟩:∃j,k=j+1:=⟨k-1,by omega⟩;have g:=Lib.index_ge r [13,10];unfold z3x;by_cases a:x=13∧r.head?=some 10
   ·rw[if_pos a];unfold z6g;rw[zaz,if_pos a,if_neg (by decide)];have hd:(r.drop 1).length≤n:=by rw[yap];omega
    have q:=d (r.drop 1) k hd (by rw[yap];omega);simpa using q
   ·rw[if_neg a,←d r (k+1) (by omega) (by omega)];unfold z6g;rw[zaz,if_neg a];by_cases c:Lib.index r [13,10]=-1;·simp[c]
    ·obtain⟨i,h⟩:∃i:Nat,Lib.index r [13,10]=i:=⟨(Lib.index r [13,10]).toNat,by omega⟩;rw[if_neg c,h,if_neg (by omega),if_neg (by omega)];have e:((i:Int)+1).toNat=i+1:=by omega
     have f:(i:Int).toNat=i:=by omega
     simp[e,f,ya3]
theorem zrv{s:Z}(h:s.length<4294967281):M.split s [13,10]=some (z3x s):=by unfold M.split;rw[z3a (by simpa using h),ztp (by simp),zz03b _ s _ (ya5 _) (ya5 _)];rfl
end
section
open Go.Lk Go.Pe
theorem z5v(b:Bool)(e:Int):M.q3j b e=some (if b=true then .ok ()else .pan e):=by cases b<;>simp[M.q3j]
theorem zdb(x:q04)(xs:List q04)(w:Nat):zgb (x::xs) w=if zam x w=0 then zgb xs w else zam x w:=by simp only[zgb]
theorem zu5{v:q04}{self:q04→Int→Option (Rs Unit)}{w:Nat}(g:w≤16)(hl:v.zg.length<1152921504606846976)(e:∀x∈v.zg,self x ((w+1:Nat):Int)=some (zzf (zam x (w+1)))):∀(n i:Nat),v.zg.length-i=n→i≤v.zg.length→M.z2g v self (w:Int) (i:Int)=some (zzf (zgb (v.zg.drop i) (w+1))):=by
 intro n;induction n with|zero=>
  intro i hn d;rw[M.z2g.eq_1];have:¬(i:Int)<(v.zg.length:Int):=by omega
  rw[if_neg (by simpa using this),yaa (by omega)];rfl|succ n f=>
  intro i hn d;have a:i<v.zg.length:=by omega
  rw[M.z2g.eq_1];have c:(i:Int)<(v.zg.length:Int):=by omega
  simp only[c,decide_true,if_true,z3u,yai a,ya,yc];rw[w1 (n:=w) (by omega),e _ (yak a),w1 (by omega),f (i+1) (by omega) (by omega),yz a,zdb];simp only[yc];unfold zzf;by_cases b:zam v.zg[i] (w+1)=0;·simp[b]
  ·simp[b]
def Small(v:q04):Prop:=v.sz<1000000000
theorem Small.mem{v x:q04}(h:Small v)(a:x∈v.zg):Small x:=by unfold Small at*;have:=zix a;rw[q04.zal v]at h;omega
theorem Small.parts{v:q04}(h:Small v):v.zq.length<1000000000∧v.zg.length<1000000000∧v.zn.length<1000000000∧∀k∈v.zn,k.length<1000000000:=by unfold Small at h;rw[q04.zal]at h;have b:=ziw v.zg;have h2:=z38 v.zn;exact⟨by omega,by omega,by omega,fun k a=>by have:=zi0 a;omega⟩
theorem zhw:∀(f:Nat)(v:q04)(w:Nat),w≤16→17≤f+w→Small v→M.q3f f v (w:Int)=some (zzf (zam v w)):=by intro f;induction f with|zero=>intro v w l h2;omega|succ f C=>
  intro v w B hf c;obtain⟨E,F,G,D⟩:=c.parts;have g:v.zg=[]∨w<16→M.z2g v (M.q3f f) (w:Int) 0=some (zzf (zgb v.zg (w+1))):=by
   intro h;refine zu5 B (by omega) (fun x j=>?_) _ 0 rfl (ybb _);rcases h with h|h;·rw[h]at j;cases j
   ·exact C x (w+1) (by omega) (by omega) (c.mem j)
  rw[M.q3f,z8l,zhy (.inr trivial)];simp only[z5v,zgz fun k a=>by have:=D k a;omega (show v.zn.length<1152921504606846976 by omega),zzs (show v.zn.length*16≤140737488355328 by omega),ya,yc];have z:(if(! !v.zn.all Lib.validD)=true then some (decide v.zn.Nodup)else some false)=some (v.zn.all Lib.validD&&decide v.zn.Nodup):=by cases v.zn.all Lib.validD<;>simp
  rw[z];simp only[yc];have b:=zcf (s:=v.zq) (by omega);have i:=z3q (s:=v.zq) (by omega);generalize y:(v.zn.all Lib.validD&&decide v.zn.Nodup)=q;generalize u:(decide (v.zh=6)&&decide ((v.zn.length:Int)=(v.zg.length:Int))||decide ((v.zn.length:Int)=0)&&!decide (v.zh=6))=p;generalize t:(decide (0≤v.zh)&&decide (v.zh<7))=n;by_cases hd:(v.zh=5∨v.zh=6)∧16≤w
  ·have:(!(decide (v.zh=5)||decide (v.zh=6))||decide ((w:Int)<16))=false:=by rw[←yl,yp,ym,←yl,yp];simp only[decide_eq_true_eq];omega
   rw[this,if_pos hd];rfl
  ·have l:(!(decide (v.zh=5)||decide (v.zh=6))||decide ((w:Int)<16))=true:=by rw[yp,ym,←yl,yp];simp only[decide_eq_true_eq];omega
   rw[l,if_neg hd];have r:(decide (v.zh=5)||decide (v.zh=6)||decide ((v.zg.length:Int)=0))=true→v.zg=[]∨w<16:=by
    rw[yp,yp];simp only[decide_eq_true_eq];intro h;rcases h with h|h;·exact .inr (by omega)
    ·exact .inl (yae (by omega))
   generalize(decide (v.zh=5)||decide (v.zh=6)||decide ((v.zg.length:Int)=0))=o at*;cases n with|false=>rfl|true=>cases o with|false=>rfl|true=>cases p with|false=>rfl|true=>cases q with|false=>rfl|true=>
       have a:=g (r rfl);have e:((num v.zq:Nat):Int)=(v.zq.length:Int)↔num v.zq=v.zq.length:=by omega
       simp only[if_true,yq];by_cases k3:v.zh=3
       ·by_cases d:v.zq=[];·simp[k3,d,zzf]
        ·by_cases hn:num v.zq=v.zq.length;·simp[k3,d,hn,b,a]
         ·have:¬((num v.zq:Nat):Int)=(v.zq.length:Int):=fun x=>hn (e.1 x);simp[k3,d,hn,b,this,zzf]
       ·by_cases m:v.zh=4;·cases A:Lib.validD v.zq<;>simp[m,A,i,a,zzf]
        ·by_cases d:v.zq=[]<;>simp[k3,m,d,a,zzf]
theorem zln{v:q04}{f:Nat}(hf:17≤f)(h:Small v):M.q37 f v=some (zam v 0):=by unfold M.q37;have a:=zhw f v 0 (by omega) (by omega) h;have a:M.q3f f v 0=some (zzf (zam v 0)):=a;rw[a];simp only[ya,yc];unfold zzf;by_cases b:zam v 0=0<;>simp[b]
theorem zz065{v:q04}(d:∀k∈v.zn,k.length<1152921504606846976)(hl:v.zn.length<1152921504606846976):∀(n i:Nat),v.zn.length-i=n→i≤v.zn.length→M.z4z v (i:Int)=some (if(v.zn.drop i).all Lib.validD=true then .go ()else .done false):=by
 intro n;induction n with|zero=>
  intro i hn c;rw[M.z4z.eq_1];have:¬(i:Int)<(v.zn.length:Int):=by omega
  rw[if_neg (by simpa using this),yaa (by omega)];rfl|succ n f=>
  intro i hn c;have a:i<v.zn.length:=by omega
  rw[M.z4z.eq_1];have b:(i:Int)<(v.zn.length:Int):=by omega
  have h2:=d v.zn[i] (yak a);simp only[b,decide_true,if_true,z3u,yai a,ya,yc];rw[z3q (by omega),yz a,w1 (by omega),f (i+1) (by omega) (by omega)];simp only[yc,ys];by_cases e:Lib.validD v.zn[i]=true<;>simp[e]
theorem zz03i{l:List Z}(hl:l.length<1152921504606846976){i:Nat}(c:i<l.length):∀(n k:Nat),i-k=n→k≤i→M.z47 (i:Int) l (k:Int)=some (if l[i]∈(l.take i).drop k then .done (.done true)else .go ()):=by
 intro n;induction n with|zero=>
  intro k hn d;rw[M.z47.eq_1];have:¬(k:Int)<(i:Int):=by omega
  rw[if_neg (by simpa using this),yaa (by simp;omega)];simp|succ n f=>
  intro k hn d;rw[M.z47.eq_1];have b:(k:Int)<(i:Int):=by omega
  have a:k<l.length:=by omega
  simp only[b,decide_true,if_true,z3u,yai c,yai a,ya,yc];rw[w1 (by omega),f (k+1) (by omega) (by omega)];have e:(l.take i).drop k=l[k]::(l.take i).drop (k+1):=by rw[yz (by simp;omega)];simp
  rw[e];by_cases h:l[i]=l[k];·simp[h]
  ·simp[h]
theorem zz03h{l:List Z}(hl:l.length<1152921504606846976):∀(n i:Nat),l.length-i=n→i≤l.length→(l.take i).Nodup→M.z45 l (i:Int)=some (if l.Nodup then .go ()else .done true):=by
 intro n;induction n with|zero=>
  intro i hn m hd;rw[M.z45.eq_1];have:¬(i:Int)<(l.length:Int):=by omega
  rw[List.take_of_length_le (by omega)]at hd;rw[if_neg (by simpa using this),if_pos hd]|succ n o=>
  intro i hn m hd;have d:i<l.length:=by omega
  rw[M.z45.eq_1];have j:(i:Int)<(l.length:Int):=by omega
  have h2:=zz03i hl d _ 0 rfl (ybb _);simp only[j,decide_true,if_true,ya];have h2:M.z47 (i:Int) l 0=_:=h2;rw[h2];simp only[yc,yad];have e:l.take (i+1)=l.take i++[l[i]]:=by simp
  by_cases c:l[i]∈l.take i
  ·rw[if_pos c];have:¬l.Nodup:=fun h=>by have f:=(List.take_sublist (i+1) l).nodup h;rw[e,yaw]at f;exact f.2.2 _ c _ (by simp) rfl
   simp[this]
  ·rw[if_neg c];simp only;rw[w1 (by omega)];refine o (i+1) (by omega) (by omega) ?_;rw[e,yaw];exact⟨hd,by simp,fun a k b g=>by simp at g;subst g;intro h;subst h;exact c k⟩
theorem ztr{l:List Z}(hl:l.length<1152921504606846976):M.q58 l=some !decide l.Nodup:=by unfold M.q58;have h:=zz03h hl _ 0 rfl (ybb _) (by simp);have h:M.z45 l 0=_:=h;rw[h];by_cases hn:l.Nodup<;>simp[hn]
theorem zqt{v:q04}(h:Small v):M.q4w v=some (frm v.zh v.zq v.zg.length v.zn):=by obtain⟨o,p,q,m⟩:=h.parts;unfold M.q4w;have a:=zz065 (v:=v) fun k i=>by have:=m k i;omega (by omega) _ 0 rfl (ybb _);have a:M.z4z v 0=_:=a;rw[a];simp only[yad,ya,yc];unfold frm;cases n:v.zn.all Lib.validD with|false=>simp|true=>
  simp only[if_true,yq];have k0:(v.zn.length:Int)=0↔v.zn=[]:=by rw[←yaq];omega
  have l:(v.zg.length:Int)=0↔v.zg.length=0:=by omega
  have j:(v.zn.length:Int)=(v.zg.length:Int)↔v.zn.length=v.zg.length:=by omega
  have nn:((num v.zq:Nat):Int)=(v.zq.length:Int)↔num v.zq=v.zq.length:=by omega
  rw[ze3 (by omega),z3q (by omega),ztr (by omega)];simp only[yc,k0,l,j,nn];by_cases d:v.zh=0;·simp[d]
  by_cases a:v.zh=1;·simp[a]
  by_cases h2:v.zh=2;·simp[h2]
  by_cases c:v.zh=3
  ·by_cases b:v.zq=[];·simp[c,b]
   ·by_cases hn:num v.zq=v.zq.length
    ·by_cases hl:v.zg.length=0;·simp[c,b,hn,hl]
     ·simp[c,b,hn,hl]
    ·simp[c,b,hn]
  by_cases e:v.zh=4;·simp[e]
  by_cases f:v.zh=5;·simp[f]
  by_cases g:v.zh=6;·by_cases b:v.zq=[]<;>by_cases hn:v.zn.length=v.zg.length<;>simp[g,b,hn]
  simp[d,a,h2,c,e,f,g]
theorem zz015{v:q04}{self:q04→Int→Option Int}{w:Nat}(g:w≤16)(hl:v.zg.length<1152921504606846976)(e:∀x∈v.zg,self x ((w+1:Nat):Int)=some (zam x (w+1))):∀(n i:Nat),v.zg.length-i=n→i≤v.zg.length→M.z42 v self (w:Int) (i:Int)=some (if zgb (v.zg.drop i) (w+1)=0 then .go ()else .done (zgb (v.zg.drop i) (w+1))):=by
 intro n;induction n with|zero=>
  intro i hn d;rw[M.z42.eq_1];have:¬(i:Int)<(v.zg.length:Int):=by omega
  rw[if_neg (by simpa using this),yaa (by omega)];rfl|succ n f=>
  intro i hn d;have a:i<v.zg.length:=by omega
  rw[M.z42.eq_1];have c:(i:Int)<(v.zg.length:Int):=by omega
  simp only[c,decide_true,if_true,z3u,yai a,ya,yc];rw[w1 (n:=w) (by omega),e _ (yak a),w1 (by omega),f (i+1) (by omega) (by omega),yz a,zdb];simp only[yc];by_cases b:zam v.zg[i] (w+1)=0;·simp[b]
  ·simp[b]
theorem zoe:∀(f:Nat)(v:q04)(w:Nat),w≤16→17≤f+w→Small v→M.q4u f v (w:Int)=some (zam v w):=by intro f;induction f with|zero=>intro v w k h2;omega|succ f j=>
  intro v w i hf c;obtain⟨l,m,n,o⟩:=c.parts;rw[M.q4u,z8l,zqt c];have e:((decide (v.zh=5)||decide (v.zh=6))&&decide (16≤(w:Int)))=decide ((v.zh=5∨v.zh=6)∧16≤w):=by rw[yj,yh,yp];simp only[decide_eq_true_eq];omega
  rw[e];by_cases hd:(v.zh=5∨v.zh=6)∧16≤w;·simp[hd]
  ·rw[if_neg (by simpa using hd),if_neg hd];simp only[ya,yc];cases a:frm v.zh v.zq v.zg.length v.zn with|false=>simp|true=>
    have hl:v.zg=[]∨w<16:=by
     rw[zhy (.inr trivial)]at a;simp only[yh,yp,decide_eq_true_eq]at a;rcases a.2.1 with h|h;·exact .inr (by omega)
     ·exact .inl (yae (by omega))
    have b:=zz015 (v:=v) (self:=M.q4u f) i (by omega) (fun x d=>by
     rcases hl with h|h;·rw[h]at d;cases d
     ·exact j x (w+1) (by omega) (by omega) (c.mem d)) _ 0 rfl (ybb _);have b:M.z42 v (M.q4u f) (w:Int) 0=_:=b;rw[b];simp only[yad];by_cases g:zgb v.zg (w+1)=0<;>simp[g]
theorem zob{v:q04}{f:Nat}(hf:17≤f)(h:Small v):M.q4l f v=some (zam v 0):=by unfold M.q4l;have a:M.q4u f v 0=some (zam v 0):=zoe f v 0 (by omega) (by omega) h;rw[a];rfl
end
section
open Go.Lk Go.Pe
theorem z1z{a:List Int}{b:Int}(h:a.length<1099511627776):M.q77 a b=some (a++[b]):=by unfold M.q77 M.z4n;simp only[ya,yc];rw[z15 (by simp;omega)];rfl
theorem z2t{a:List Int}{b:Z}(h:a.length+b.length<1099511627776):M.q78 a b=some ((b.length:Int),a++unb b):=by unfold M.q78 M.z4n;simp only[ya,yc];rw[z15 (by simp[unb];omega)];rfl
theorem builderLen_eq(a:List Int):M.q76 a=some (a.length:Int):=rfl
theorem z39(s:Z):M.zt (unb s)=some s:=by unfold M.zt;rw[z3a (by simp[zei])];simp[zei]
def hexd(n:Nat):UInt8:=ybe (if n<10 then 48+n else 87+n)
def qb(c:UInt8):Z:=if c=34∨c=92 then[92,c]else if c=8 then[92,98]else if c=9 then[92,116]else if c=10 then[92,110]else if c=12 then[92,102]else if c=13 then[92,114]else if c.toNat<32 then[92,117,48,48,hexd (c.toNat/16),hexd (c.toNat%16)]else[c]
def qbs(s:Z):Z:=s.flatMap qb
def qt(s:Z):Z:=34::qbs s++[34]
theorem zyy(c:UInt8):(qb c).length≤6:=by
 unfold qb;repeat' split
 all_goals simp
theorem zlz:∀s:Z,(qbs s).length≤6*s.length|[]=>by simp[qbs]|c::s=>by have a:=zyy c;have h2:=zlz s;simp only[qbs,List.flatMap_cons,yan,yao]at*;omega
theorem ztj(s:Z):(qt s).length≤6*s.length+2:=by have:=zlz s;simp only[qt,yan,yao,yar];omega
theorem zth(c:UInt8)(s:Z):qbs (c::s)=qb c++qbs s:=by simp[qbs]
def jstep(x:Int):Option Z:=do let a←M.indexByte ([34,92,8,9,10,12,13]:Z) x;if decide (0≤a)then let s_87←sub ([34,92,98,116,110,102,114]:Z) a (ybd .i64 (a+1))cat ([92]:Z) s_87;else
  if decide (x<32)then let s_91←sub ([48,49]:Z) (zir .u8 x 4) (ybd .u8 (zir .u8 x 4+1))let s_92←cat ([92,117,48,48]:Z) s_91;let s_93←sub ([48,49,50,51,52,53,54,55,56,57,97,98,99,100,101,102]:Z) (z9d .u8 x 15) (ybd .u8 (z9d .u8 x 15+1))cat s_92 s_93;else some [ybe x.toNat]
theorem zz029:∀c:UInt8,jstep (c.toNat:Int)=some (qb c):=z6a (by decide+kernel)
theorem zyz{s:Z}(q:s.length<100000000000):∀(n i:Nat)(acc:List Int),s.length-i=n→i≤s.length→acc.length+6*n<1099511627776→M.z1j s (i:Int) acc=some (acc++unb (qbs (s.drop i))):=by
 intro n;induction n with|zero=>
  intro i acc hn m l;rw[M.z1j.eq_1];have:¬(i:Int)<((unb s).length:Int):=by rw[z0s];omega
  rw[if_neg (by simpa using this),yaa (by omega)];simp[qbs,unb]|succ n o=>
  intro i acc hn m l;have c:i<s.length:=by omega
  have k:(i:Int)<((unb s).length:Int):=by rw[z0s];omega
  have b:=zz029 s[i];have p:=zyy s[i];rw[M.z1j.eq_1];simp only[k,decide_true,if_true,z3u,zj5,yai c,yf,ya,yc];rw[w1 (by omega)];have next:∀a:List Int,a=acc++unb (qb s[i])→M.z1j s ((i+1:Nat):Int) a=some (acc++unb (qbs (s.drop i))):=by rintro a rfl;rw[o (i+1) _ (by omega) (by omega) (by simp[unb];omega),yz c,zth,z29,yu]
  unfold jstep at b;simp only[ya]at b;cases h:M.indexByte ([34,92,8,9,10,12,13]:Z) (s[i].toNat:Int)with|none=>rw[h]at b;cases b|some a=>
   rw[h]at b;simp only[yc]at b⊢;by_cases e:0≤a;·rw[if_pos (by simpa using e)]at b⊢;cases d:sub ([34,92,98,116,110,102,114]:Z) a (ybd .i64 (a+1))with|none=>rw[d]at b;cases b|some y=>rw[d]at b;simp only[yc]at b⊢;rw[b];simp only[yc];rw[z2t (by omega)];exact next _ rfl
   ·rw[if_neg (by simpa using e)]at b⊢;by_cases f:(s[i].toNat:Int)<32;·rw[if_pos (by simpa using f)]at b⊢;cases d:sub ([48,49]:Z) (zir .u8 (s[i].toNat:Int) 4) (ybd .u8 (zir .u8 (s[i].toNat:Int) 4+1))with|none=>rw[d]at b;cases b|some y=>rw[d]at b;simp only[yc]at b⊢;cases j:cat ([92,117,48,48]:Z) y with|none=>rw[j]at b;cases b|some z=>rw[j]at b;simp only[yc]at b⊢;cases g:sub ([48,49,50,51,52,53,54,55,56,57,97,98,99,100,101,102]:Z) (z9d .u8 (s[i].toNat:Int) 15) (ybd .u8 (z9d .u8 (s[i].toNat:Int) 15+1))with|none=>rw[g]at b;cases b|some u=>rw[g]at b;simp only[yc]at b⊢;rw[b];simp only[yc];rw[z2t (by omega)];exact next _ rfl
    ·rw[if_neg (by simpa using f)]at b⊢;rw[z1z (by omega)];simp only[Option.some.injEq]at b;refine next _ ?_;rw[←b];simp[unb]
theorem zcg{s:Z}{acc:List Int}(h:acc.length+6*s.length+2<100000000000):M.q3l acc s=some (acc++unb (qt s)):=by unfold M.q3l;rw[z1z (by omega),z3a (by simp;omega)];simp only[ya,yc];have a:=zyz (s:=s) (by omega) _ 0 (acc++[34]) rfl (ybb _) (by simp;omega);have a:M.z1j s 0 (acc++[34])=_:=a;rw[a];simp only[yc,yad];have:=zlz s;rw[z1z (by simp[unb];omega)];simp[qt,unb]
theorem zz034:∀c:UInt8,∀acc:List Int,acc.length<1000000000000→∀k:List Int→Option (List Int),(if decide ((c.toNat:Int)=34)||decide ((c.toNat:Int)=92)then(app 1 acc [92,(c.toNat:Int)]).bind k else if decide ((c.toNat:Int)=8)then(app 1 acc (unb ([92,98]:Z))).bind k else if decide ((c.toNat:Int)=9)then(app 1 acc (unb ([92,116]:Z))).bind k else if decide ((c.toNat:Int)=10)then(app 1 acc (unb ([92,110]:Z))).bind k else if decide ((c.toNat:Int)=12)then(app 1 acc (unb ([92,102]:Z))).bind k else if decide ((c.toNat:Int)=13)then(app 1 acc (unb ([92,114]:Z))).bind k else if decide ((c.toNat:Int)<32)then(ix ([48,49,50,51,52,53,54,55,56,57,97,98,99,100,101,102]:Z) (ybd .u8 (Int.tdiv (c.toNat:Int) 16))).bind fun c_81=>(ix ([48,49,50,51,52,53,54,55,56,57,97,98,99,100,101,102]:Z) (ybc (c.toNat:Int) 16)).bind fun c_82=>(app 1 acc [92,117,48,48,(c_81.toNat:Int),(c_82.toNat:Int)]).bind k else(app 1 acc [(c.toNat:Int)]).bind k:Option (List Int))=k (acc++unb (qb c)):=by
 intro c acc q k;have ap:∀l:List Int,l.length≤6→app 1 acc l=some (acc++l):=fun l hl=>z15 (by omega);have t:∀n:Nat,n<256→((c.toNat:Int)=(n:Int)↔c=ybe n):=fun n hn=>toNat_eq hn;by_cases f:c=34;·subst f;rw[if_pos (by decide),ap _ (by simp)];rfl
 by_cases g:c=92;·subst g;rw[if_pos (by decide),ap _ (by simp)];rfl
 have m:¬(c.toNat:Int)=34:=fun e=>f ((t 34 (by omega)).1 e);have o:¬(c.toNat:Int)=92:=fun e=>g ((t 92 (by omega)).1 e);rw[if_neg (by simp[m,o])];by_cases i:c=8;·subst i;rw[if_pos (by decide),ap _ (by decide)];rfl
 rw[if_neg (by simpa using fun e=>i ((t 8 (by omega)).1 e))];by_cases j:c=9;·subst j;rw[if_pos (by decide),ap _ (by decide)];rfl
 rw[if_neg (by simpa using fun e=>j ((t 9 (by omega)).1 e))];by_cases a:c=10;·subst a;rw[if_pos (by decide),ap _ (by decide)];rfl
 rw[if_neg (by simpa using fun e=>a ((t 10 (by omega)).1 e))];by_cases b:c=12;·subst b;rw[if_pos (by decide),ap _ (by decide)];rfl
 rw[if_neg (by simpa using fun e=>b ((t 12 (by omega)).1 e))];by_cases d:c=13;·subst d;rw[if_pos (by decide),ap _ (by decide)];rfl
 rw[if_neg (by simpa using fun e=>d ((t 13 (by omega)).1 e))];have eq:qb c=if c.toNat<32 then[92,117,48,48,hexd (c.toNat/16),hexd (c.toNat%16)]else[c]:=by unfold qb;simp[f,g,i,j,a,b,d]
 rw[eq];by_cases cl:c.toNat<32
 ·have h:(c.toNat:Int)<32:=by omega
  rw[if_pos (by simpa using h),if_pos cl];have tab:∀n:Fin 32,ix ([48,49,50,51,52,53,54,55,56,57,97,98,99,100,101,102]:Z) (ybd .u8 (Int.tdiv (n.val:Int) 16))=some (hexd (n.val/16))∧ix ([48,49,50,51,52,53,54,55,56,57,97,98,99,100,101,102]:Z) (ybc (n.val:Int) 16)=some (hexd (n.val%16)):=by decide+kernel
  obtain⟨p,h2⟩:=tab ⟨c.toNat,cl⟩;simp only at p h2;rw[p,h2];simp only[yc];rw[ap _ (by simp)];rfl
 ·have h:¬(c.toNat:Int)<32:=by omega
  rw[if_neg (by simpa using h),if_neg cl,ap _ (by simp)];rfl
theorem zz08a{s:Z}(g:s.length<100000000000):∀(n i:Nat)(acc:List Int),s.length-i=n→i≤s.length→acc.length+6*n<1000000000000→M.z1h s acc (i:Int)=some (acc++unb (qbs (s.drop i))):=by
 intro n;induction n with|zero=>
  intro i acc hn d c;rw[M.z1h.eq_1];have:¬(i:Int)<(s.length:Int):=by omega
  rw[if_neg (by simpa using this),yaa (by omega)];simp[qbs,unb]|succ n e=>
  intro i acc hn d c;have a:i<s.length:=by omega
  have b:(i:Int)<(s.length:Int):=by omega
  have f:=zyy s[i];rw[M.z1h.eq_1];simp only[b,decide_true,if_true,z3u,yai a,ya,yc];rw[w1 (by omega)];rw[zz034 s[i] acc (by omega) fun l=>M.z1h s l ((i+1:Nat):Int)];rw[e (i+1) _ (by omega) (by omega) (by simp[unb];omega),yz a,zth,z29,yu]
theorem zig{s:Z}(h:s.length<100000000000):M.q4s s=some (unb (qt s)):=by unfold M.q4s;have a:=zz08a (s:=s) (by omega) _ 0 [34] rfl (ybb _) (by simp;omega);have a:M.z1h s [34] 0=_:=a;rw[a];have:=zlz s;simp only[ya,yc,yad];rw[z15 (by simp[unb];omega)];simp[qt,unb]
end
section
open Go.Lk Go.Pe
mutual
def prJ:q04→Z
 | ⟨k,t,l,ks⟩=>if k=0 then B20 else if k=1 then B15 else if k=2 then B21 else if k=3 then t else if k=4 then qt t
  else (if k=6 then 123 else 91)::prL (decide (k=6)) l ks true++[if k=6 then 125 else 93]
def prL (o:Bool):List q04→List Z→Bool→Z
 | [],_,_=>[]
 | x::xs,ks,f=>(if f=true then [] else [44])++((if o=true then qt (ks.head?.getD [])++[58] else [])++(prJ x++prL o xs ks.tail false))
end
theorem zyu(v:q04):prJ v=if v.zh=0 then B20 else if v.zh=1 then B15 else if v.zh=2 then B21 else if v.zh=3 then v.zq else if v.zh=4 then qt v.zq else(if v.zh=6 then 123 else 91)::prL (decide (v.zh=6)) v.zg v.zn true++[if v.zh=6 then 125 else 93]:=by cases v;simp only[prJ]
theorem zgl(o:Bool)(x:q04)(xs:List q04)(ks:List Z)(f:Bool):prL o (x::xs) ks f=(if f=true then[]else[44])++((if o=true then qt (ks.head?.getD [])++[58]else[])++(prJ x++prL o xs ks.tail false)):=by simp only[prL]
theorem zq6(ks:List Z):(qt (ks.head?.getD [])).length≤2+6*(kys ks-kys ks.tail)∧kys ks.tail≤kys ks:=by cases ks with|nil=>simp[qt,qbs]|cons k ks=>have:=ztj k;rw[z6c];simp only[yal,yd,yay];omega
mutual
theorem zlx:∀ v:q04,(prJ v).length≤7*v.sz
 | ⟨k,t,l,ks⟩=>by
  have a:=zly (decide (k=6)) l ks true
  have h2:=ztj t
  simp only [prJ,q04.sz]
  repeat' split
  all_goals try simp only [yan,yao,yar]
  all_goals omega
theorem zly:∀ (o:Bool) (l:List q04) (ks:List Z) (f:Bool),(prL o l ks f).length≤7*szs l+7*kys ks
 | _,[],_,_=>by simp [prL]
 | o,x::xs,ks,f=>by
  have a:=zlx x
  have h2:=zly o xs ks.tail false
  obtain ⟨b,c⟩:=zq6 ks
  simp only [prL,szs]
  repeat' split
  all_goals simp only [yan,yao,yar]
  all_goals omega
end
theorem tail_drop{α:Type}(l:List α)(i:Nat):(l.drop i).tail=l.drop (i+1):=by simp
theorem zz06x{v:q04}{self:List Int→q04→Option (List Int)}(hl:v.zg.length<1152921504606846976)(s:v.zh=6→v.zn.length=v.zg.length)(z:∀x∈v.zg,∀a:List Int,a.length+7*x.sz<90000000000→self a x=some (a++unb (prJ x))):∀(n i:Nat)(acc:List Int),v.zg.length-i=n→i≤v.zg.length→acc.length+7*szs (v.zg.drop i)+7*kys (v.zn.drop i)<90000000000→M.z2q v self (i:Int) acc=some (acc++unb (prL (decide (v.zh=6)) (v.zg.drop i) (v.zn.drop i) (decide (i=0)))):=by
 intro n;induction n with|zero=>
  intro i acc hn r p;rw[M.z2q.eq_1];have:¬(i:Int)<(v.zg.length:Int):=by omega
  rw[if_neg (by simpa using this),(yaa (by omega):v.zg.drop i=[])];simp[prL,unb]|succ n m=>
  intro i acc hn r p;have b:i<v.zg.length:=by omega
  have o:(i:Int)<(v.zg.length:Int):=by omega
  rw[M.z2q.eq_1];simp only[o,decide_true,if_true,z3u,yai b,ya,yc];rw[w1 (by omega)];have f:v.zg.drop i=v.zg[i]::v.zg.drop (i+1):=yz b;have A:szs (v.zg.drop i)=v.zg[i].sz+szs (v.zg.drop (i+1))+1:=by rw[f];simp only[szs]
  have t:kys (v.zn.drop (i+1))≤kys (v.zn.drop i):=by rw[←tail_drop];exact(zq6 _).2
  have j:(if decide (0<(i:Int))=true then(M.q77 acc 44).bind fun a_119=>some a_119 else some acc)=some (acc++unb (if decide (i=0)=true then[]else[44])):=by
   by_cases l:i=0;·simp[l,unb]
   ·have:0<(i:Int):=by omega
    rw[z1z (by omega)];simp[l,this,unb]
  rw[j];simp only[yc];have q:(if decide (i=0)=true then([]:Z)else[44]).length≤1:=by split<;>simp
  generalize e:(if decide (i=0)=true then([]:Z)else[44])=B at j q;have k:=z _ (yak b);have w:=zlx v.zg[i];by_cases d:v.zh=6
  ·have c:i<v.zn.length:=by rw[s d];exact b
   have h:v.zn.drop i=v.zn[i]::v.zn.drop (i+1):=yz c;have u:kys (v.zn.drop i)=v.zn[i].length+1+kys (v.zn.drop (i+1)):=by rw[h,z6c]
   have y:=ztj v.zn[i];simp only[d,decide_true,if_true,yai c,yc];rw[zcg (by simp[unb];omega)];simp only[yc];rw[z1z (by simp[unb];omega)];simp only[yc];rw[k _ (by simp[unb];omega)];simp only[yc];rw[m (i+1) _ (by omega) (by omega) (by simp[unb];omega),f,zgl,e,h];have g:([58]:List Int)=unb [58]:=rfl;rw[g];simp[d,z29,yai c];rw[←z29,←z29];rfl
  ·rw[if_neg (by simpa using d)];rw[k _ (by simp[unb];omega)];simp only[yc];rw[m (i+1) _ (by omega) (by omega) (by simp[unb];omega),f,zgl,e,tail_drop];simp[d,z29]
theorem zgc:∀{l:List q04}{w:Nat},zgb l w=0→∀x∈l,zam x w=0
 |y::l,w,h,x,b=>by
  rw[zdb]at h;by_cases a:zam y w=0
  ·rw[if_pos a]at h;rcases yau.1 b with rfl|b;·exact a
   ·exact zgc h x b
  ·rw[if_neg a]at h;exact absurd h a
theorem zbm{v:q04}{w:Nat}(h:zam v w=0):¬((v.zh=5∨v.zh=6)∧16≤w)∧frm v.zh v.zq v.zg.length v.zn=true∧zgb v.zg (w+1)=0:=by
 rw[z8l]at h;split at h;·cases h
 ·rename_i a;split at h;·cases h
  ·rename_i h2;exact⟨a,by simpa using h2,h⟩
theorem zlb{k:Int}{t:Z}{n:Nat}{ks:List Z}(h:frm k t n ks=true):(k=6→ks.length=n)∧(¬(k=5∨k=6)→n=0)∧0≤k∧k<7:=by
 rw[zhy (.inr trivial)]at h;simp only[yh,yp,decide_eq_true_eq]at h;obtain⟨b,h2,a,_⟩:=h;refine⟨fun e=>?_,fun e=>?_,b⟩
 ·rcases a with a|a;·omega
  ·simp[e]at a
 ·rcases h2 with h2|h2;·exact absurd h2 e
  ·omega
theorem zno:∀(f:Nat)(v:q04)(w:Nat),w≤16→17≤f+w→zam v w=0→∀a:List Int,a.length+7*v.sz<90000000000→M.q3i f a v=some (a++unb (prJ v)):=by intro f;induction f with|zero=>intro v w j h2;omega|succ f D=>
  intro v w G hf B a F;obtain⟨c1,t,u⟩:=zbm B;obtain⟨y,z,E⟩:=zlb t;have C:=q04.zal v;have o:=zlx v;rw[M.q3i,zyu];rw[zyu]at o;by_cases k:v.zh=0;·have c:M.q78 a (B20:Z)=_:=z2t (by simp;omega);simp[k,c]
  by_cases j:v.zh=1;·have c:M.q78 a (B15:Z)=_:=z2t (by simp;omega);simp[j,c]
  by_cases h2:v.zh=2;·have c:M.q78 a (B21:Z)=_:=z2t (by simp;omega);simp[h2,c]
  by_cases l:v.zh=3;·have c:=z2t (a:=a) (b:=v.zq) (by omega);simp[l,c]
  by_cases m:v.zh=4;·have c:=zcg (s:=v.zq) (acc:=a) (by omega);simp[m,c]
  have hl:v.zg=[]∨w<16:=by
   by_cases n:v.zh=5∨v.zh=6;·exact .inr (by omega)
   ·exact .inl (yae (z n))
  have r:=ziw v.zg;have i:=fun(acc:List Int)(q:acc.length≤a.length+1)=>zz06x (v:=v) (self:=M.q3i f) (by omega) y (fun x p b A=>by
   rcases hl with h|h;·rw[h]at p;cases p
   ·exact D x (w+1) (by omega) (by omega) (zgc u x p) b A) _ 0 acc rfl (ybb _) (by simp only[yad];omega);have d:=zly (decide (v.zh=6)) v.zg v.zn true;rw[if_neg (by simpa using k),if_neg (by simpa using j),if_neg (by simpa using h2),if_neg (by simpa using l),if_neg (by simpa using m),if_neg k,if_neg j,if_neg h2,if_neg l,if_neg m];by_cases g:v.zh=6;·simp only[g,decide_true,if_true,ya,yc,zuo,ix_1,yah,yag];rw[z1z (by omega)];simp only[yc];have c:=i (a++[123]) (by simp);have c:M.z2q v (M.q3i f) 0 (a++[123])=_:=c;simp only[yad,decide_true,g]at c;have e:(((123:UInt8).toNat:Nat):Int)=123:=rfl;rw[e,c];simp only[yc];simp only[g,decide_true]at d;rw[z1z (by simp[unb];omega)];simp[unb]
  ·simp only[g,decide_false,if_false,ya,yc,zuo,ix_1,yah,yag,yk];rw[z1z (by omega)];simp only[yc];have c:=i (a++[91]) (by simp);have c:M.z2q v (M.q3i f) 0 (a++[91])=_:=c;simp only[yad,decide_true,decide_false,g]at c;have e:(((91:UInt8).toNat:Nat):Int)=91:=rfl;rw[e,c];simp only[yc];simp only[g,decide_false]at d;rw[z1z (by simp[unb];omega)];simp[unb]
theorem zz057{v:q04}{self:q04→Option (List Int)}(hl:v.zg.length<1152921504606846976)(r:v.zh=6→v.zn.length=v.zg.length)(z:∀x∈v.zg,self x=some (unb (prJ x))):∀(n i:Nat)(acc:List Int),v.zg.length-i=n→i≤v.zg.length→acc.length+7*szs (v.zg.drop i)+7*kys (v.zn.drop i)<90000000000→M.z4k v self acc (i:Int)=some (acc++unb (prL (decide (v.zh=6)) (v.zg.drop i) (v.zn.drop i) (decide (i=0)))):=by
 intro n;induction n with|zero=>
  intro i acc hn q o;rw[M.z4k.eq_1];have:¬(i:Int)<(v.zg.length:Int):=by omega
  rw[if_neg (by simpa using this),(yaa (by omega):v.zg.drop i=[])];simp[prL,unb]|succ n l=>
  intro i acc hn q o;have a:i<v.zg.length:=by omega
  have m:(i:Int)<(v.zg.length:Int):=by omega
  rw[M.z4k.eq_1];simp only[m,decide_true,if_true,z3u,yai a,ya,yc];rw[w1 (by omega)];have e:v.zg.drop i=v.zg[i]::v.zg.drop (i+1):=yz a;have A:szs (v.zg.drop i)=v.zg[i].sz+szs (v.zg.drop (i+1))+1:=by rw[e];simp only[szs]
  have s:kys (v.zn.drop (i+1))≤kys (v.zn.drop i):=by rw[←tail_drop];exact(zq6 _).2
  have h:(if decide (0<(i:Int))=true then(app 1 acc [44]).bind fun a_119=>some a_119 else some acc)=some (acc++unb (if decide (i=0)=true then[]else[44])):=by
   by_cases k:i=0;·simp[k,unb]
   ·have:0<(i:Int):=by omega
    rw[z15 (by simp;omega)];simp[k,this,unb]
  rw[h];simp only[yc];have p:(if decide (i=0)=true then([]:Z)else[44]).length≤1:=by split<;>simp
  generalize d:(if decide (i=0)=true then([]:Z)else[44])=B at h p;have j:=z _ (yak a);have w:=zlx v.zg[i];by_cases c:v.zh=6
  ·have b:i<v.zn.length:=by rw[r c];exact a
   have g:v.zn.drop i=v.zn[i]::v.zn.drop (i+1):=yz b;have u:kys (v.zn.drop i)=v.zn[i].length+1+kys (v.zn.drop (i+1)):=by rw[g,z6c]
   have y:=ztj v.zn[i];have t:=z38 (v.zn.drop i);simp only[c,decide_true,if_true,yai b,yc];rw[zig (by omega)];simp only[yc];rw[z15 (by simp[unb];omega)];simp only[yc];rw[z15 (by simp[unb];omega)];simp only[yc];rw[j];simp only[yc];rw[z15 (by simp[unb];omega)];simp only[yc];rw[l (i+1) _ (by omega) (by omega) (by simp[unb];omega),e,zgl,d,g];have f:([58]:List Int)=unb [58]:=rfl;rw[f];simp[c,z29,yai b];rw[←z29,←z29];rfl
  ·rw[if_neg (by simpa using c)];simp only[yc];rw[j];simp only[yc];rw[z15 (by simp[unb];omega)];simp only[yc];rw[l (i+1) _ (by omega) (by omega) (by simp[unb];omega),e,zgl,d,tail_drop];simp[c,z29]
theorem zqr:∀(f:Nat)(v:q04)(w:Nat),w≤16→17≤f+w→zam v w=0→7*v.sz<80000000000→M.q4m f v=some (unb (prJ v)):=by intro f;induction f with|zero=>intro v w e h2;omega|succ f A=>
  intro v w D hf u C;obtain⟨c1,p,q⟩:=zbm u;obtain⟨r,t,B⟩:=zlb p;have y:=q04.zal v;rw[M.q4m,zyu];have ap:∀l:Z,l.length<80000000000→app 1 ([]:List Int) (unb l)=some (unb l):=fun l hl=>by rw[z15 (by simp[unb];omega)];rfl
  by_cases i:v.zh=0;·have a:=ap (B20:Z) (by simp);simp[i,a]
  by_cases e:v.zh=1;·have a:=ap (B15:Z) (by simp);simp[e,a]
  by_cases h2:v.zh=2;·have a:=ap (B21:Z) (by simp);simp[h2,a]
  by_cases j:v.zh=3;·have a:=ap v.zq (by omega);simp[j,a]
  by_cases k:v.zh=4;·have a:=zig (s:=v.zq) (by omega);simp[k,a]
  have hl:v.zg=[]∨w<16:=by
   by_cases m:v.zh=5∨v.zh=6;·exact .inr (by omega)
   ·exact .inl (yae (t m))
  have o:=ziw v.zg;have d:=fun(acc:List Int)(n:acc.length≤1)=>zz057 (v:=v) (self:=M.q4m f) (by omega) r (fun x g=>by
   have z:=zix g;rcases hl with h|h;·rw[h]at g;cases g
   ·exact A x (w+1) (by omega) (by omega) (zgc q x g) (by omega)) _ 0 acc rfl (ybb _) (by simp only[yad];omega);have b:=zly (decide (v.zh=6)) v.zg v.zn true;rw[if_neg (by simpa using i),if_neg (by simpa using e),if_neg (by simpa using h2),if_neg (by simpa using j),if_neg (by simpa using k),if_neg i,if_neg e,if_neg h2,if_neg j,if_neg k];by_cases c:v.zh=6;·simp only[c,decide_true,if_true,ya,yc];rw[z15 (by simp)];simp only[yc];have a:=d ([]++[123]) (by simp);have a:M.z4k v (M.q4m f) ([]++[123]) 0=_:=a;simp only[yad,decide_true,c]at a;rw[a];simp only[yc];simp only[c,decide_true]at b;rw[z15 (by simp[unb];omega)];simp[unb]
  ·simp only[c,decide_false,if_false,ya,yc,yk];rw[z15 (by simp)];simp only[yc];have a:=d ([]++[91]) (by simp);have a:M.z4k v (M.q4m f) ([]++[91]) 0=_:=a;simp only[yad,decide_true,decide_false,c]at a;rw[a];simp only[yc];simp only[c,decide_false]at b;rw[z15 (by simp[unb];omega)];simp[unb]
def print(v:q04):Z×Int:=if zam v 0=0 then if 16384<(prJ v).length then([],22)else(prJ v,0)else([],zam v 0)
theorem zdv{v:q04}{f:Nat}(hf:17≤f)(h:Small v):M.q3d f v=some (print v):=by
 unfold M.q3d print;rw[zln hf h];simp only[ya,yc];by_cases a:zam v 0=0
 ·unfold Small at h;have hl:=zno f v 0 (by omega) (by omega) a [] (by simp;omega);rw[yav]at hl;simp only[a,decide_true,yo,yk,if_false,if_true,hl,yc,builderLen_eq,z0s];by_cases h2:16384<(prJ v).length
  ·have:(16384:Int)<((prJ v).length:Int):=by omega
   simp[h2,this]
  ·have:¬(16384:Int)<((prJ v).length:Int):=by omega
   simp[h2,this,z39]
 ·simp[a]
theorem zod{v:q04}{f:Nat}(hf:17≤f)(h:Small v):M.q4q f v=some (print v):=by
 unfold M.q4q print;rw[zob hf h];simp only[ya,yc];by_cases a:zam v 0=0
 ·unfold Small at h;have hl:=zqr f v 0 (by omega) (by omega) a (by omega);simp only[a,decide_true,yo,yk,if_false,if_true,hl,yc,zei];by_cases h2:16384<(prJ v).length
  ·have:(16384:Int)<((prJ v).length:Int):=by omega
   simp[h2,this]
  ·have:¬(16384:Int)<((prJ v).length:Int):=by omega
   simp[h2,this]
 ·simp[a]
end
section
open Go.Lk Go.Pe
def bl(b:UInt8):Bool:=([32,9,10,13]:Z).contains b
def z0q(s:Z):Z:=s.dropWhile bl
theorem z2u(s:Z):(z0q s).length≤s.length:=(yx _).length_le
theorem zce(s:Z):M.q3m ⟨s⟩=some ⟨z0q s⟩:=by rfl
def take(s p:Z):Option Z:=if p.isPrefixOf s=true then some (z0q (s.drop p.length))else none
theorem z2h(s p:Z):M.q3p ⟨s⟩ p=some (match take s p with|some r=>(true,⟨r⟩)|none=>(false,⟨s⟩)):=by grind[M.q3p,take,z6w,zce]
theorem take_one(c:UInt8)(s:Z):take s [c]=match s with|[]=>none|d::r=>if d=c then some (z0q r)else none:=by grind[take]
theorem take_len{s p r:Z}(h:take s p=some r):r.length+p.length≤s.length:=by grind[take,z2u]
def z74(c:UInt8):Option Nat:=if isD c=true then some (c.toNat-48)else if 97≤c.toNat∧c.toNat≤102 then some (c.toNat-87)else if 65≤c.toNat∧c.toNat≤70 then some (c.toNat-55)else none
def zz04a:Z:=[48,49,50,51,52,53,54,55,56,57,97,98,99,100,101,102,65,66,67,68,69,70]
theorem zuk:∀c:UInt8,zz04a.contains c=(z74 c).isSome:=z6a (by decide+kernel)
theorem z5s:∀c:UInt8,∀d,z74 c=some d→d<16:=by intro c d h;unfold z74 isD at h;grind
theorem dropWhile_nil{α:Type}(p:α→Bool):∀l:List α,l.dropWhile p=[]↔∀b∈l,p b=true|[]=>by simp|a::l=>by rw[yw];cases h:p a with|false=>simp[h]|true=>simp[h,dropWhile_nil p l]
theorem zp3(l cs:Z):Lib.trimS l cs=[]↔∀b∈l,cs.contains b=true:=by
 unfold Lib.trimS Lib.trimLeftS Lib.trimRightS;rw[dropWhile_nil];constructor
 ·intro h;have h2:l.reverse.dropWhile (cs.contains ·)=[]:=by cases hd:l.reverse.dropWhile (cs.contains ·)with|nil=>rfl|cons a r=>grind[List.head?_dropWhile_not]
  grind[dropWhile_nil]
 grind[yx]
def pstep(x:Int):Option Int:=if(decide (48≤x)&&decide (x≤57))=true then some (ybd .u8 (x-48))else if(decide (97≤orI .u8 x 32)&&decide (orI .u8 x 32≤122))=true then some (ybd .u8 (ybd .u8 (orI .u8 x 32-97)+10))else none
theorem zyw:∀c:UInt8,∀d,z74 c=some d→pstep (c.toNat:Int)=some (d:Int):=by have:∀c:UInt8,(match z74 c with|some d=>decide (pstep (c.toNat:Int)=some (d:Int))|none=>true)=true:=z6a (by decide+kernel);intro c d h;have h2:=this c;grind
theorem zbx{s:Z}{i n d:Nat}{c:UInt8}(l:s[i]?=some c)(hl:s.length<1000000)(hd:z74 c=some d)(hn:n<4096):M.zl (s,16) 16 1152921504606846976 16 false (n:Int) (i:Int)=M.zl (s,16) 16 1152921504606846976 16 false ((16*n+d:Nat):Int) ((i+1:Nat):Int):=by
 have m:i<s.length:=by
  rcases ya7 i s.length with h|h;·exact h
  ·grind
 have f:=z5s c d hd;conv=>lhs;rw[M.zl.eq_1]
 have j:(i:Int)<((unb s).length:Int):=by rw[z0s];omega
 have k:¬(16:Int)=0:=by decide
 have a:(decide ((c.toNat:Int)=95)&&decide ((16:Int)=0))=false:=by simp
 simp only[j,decide_true,if_true,z3u,zj5,l,yf,ya,yc,a,yk,if_false];have g:M.q33 (c.toNat:Int)=some (orI .u8 (c.toNat:Int) 32):=rfl;simp only[g,yc];have o:=zyw c d hd;unfold pstep at o;have fin:∀q:Option (Jn (Jn (Int×Bool) (Bool×Int)) Int),q=some (.go (d:Int))→(q.bind fun q_381=>match q_381 with|.done r=>some r|.go j_381=>if decide (ybd .u8 16≤j_381)=true then some (.done (0,false))else if decide (1152921504606846976≤(n:Int))=true then some (.done (ybd .u64 (z7r .u64 1 (ybd .u64 16)-1),false))else if(decide (ybd .u64 (ybd .u64 ((n:Int)*ybd .u64 16)+ybd .u64 j_381)<ybd .u64 ((n:Int)*ybd .u64 16))||decide (ybd .u64 (z7r .u64 1 (ybd .u64 16)-1)<ybd .u64 (ybd .u64 ((n:Int)*ybd .u64 16)+ybd .u64 j_381)))=true then some (.done (ybd .u64 (z7r .u64 1 (ybd .u64 16)-1),false))else M.zl (s,16) 16 1152921504606846976 16 false (ybd .u64 (ybd .u64 ((n:Int)*ybd .u64 16)+ybd .u64 j_381)) (ybd .i64 ((i:Int)+1)))=M.zl (s,16) 16 1152921504606846976 16 false ((16*n+d:Nat):Int) ((i+1:Nat):Int):=by
  rintro q rfl;simp only[yc];have u16:ybd .u8 16=16:=by decide
  have e:ybd .u64 16=16:=by decide
  have b:ybd .u64 (z7r .u64 1 16-1)=65535:=by decide
  rw[u16,e,b,wu64 (x:=(n:Int)*16) (by omega) (by omega),wu64 (x:=(d:Int)) (by omega) (by omega),wu64 (x:=(n:Int)*16+(d:Int)) (by omega) (by omega),w1 (by omega)];rw[if_neg (by simp;omega),if_neg (by simp;omega),if_neg (by simp;omega)];congr 1;omega
 grind
theorem zv2{a b c d:UInt8}{e f g hd:Nat}(h:z74 a=some e)(h2:z74 b=some f)(j:z74 c=some g)(k:z74 d=some hd):M.q75 [a,b,c,d] 16 16=some (((16*(16*(16*e+f)+g)+hd:Nat):Int),true):=by
 have u:=z5s a e h;have l2:=z5s b f h2;have v:=z5s c g j;have w:=z5s d hd k;have m:=zbx (s:=[a,b,c,d]) (i:=0) (n:=0) (d:=e) (c:=a) rfl (by simp) h (by omega);have o:=zbx (s:=[a,b,c,d]) (i:=1) (n:=16*0+e) (d:=f) (c:=b) rfl (by simp) h2 (by omega);have p:=zbx (s:=[a,b,c,d]) (i:=2) (n:=16*(16*0+e)+f) (d:=g) (c:=c) rfl (by simp) j (by omega);have q:=zbx (s:=[a,b,c,d]) (i:=3) (n:=16*(16*(16*0+e)+f)+g) (d:=hd) (c:=d) rfl (by simp) k (by omega);have r:M.zl ([a,b,c,d],16) 16 1152921504606846976 16 false ((16*(16*(16*(16*0+e)+f)+g)+hd:Nat):Int) ((3+1:Nat):Int)=some (.go (false,((16*(16*(16*(16*0+e)+f)+g)+hd:Nat):Int))):=by rw[M.zl.eq_1];simp[unb]
 have t:M.zl ([a,b,c,d],16) 16 1152921504606846976 16 false 0 0=_:=m.trans (o.trans (p.trans (q.trans r)));unfold M.q75 M.q32;have l:ybd .u64 16=16:=by decide
 simp[l,z3a,t]
def unit(s:Z):Option (Nat×Z):=match s with|x::y::a::b::c::d::r=>if x=92∧y=117 then(z74 a).bind fun e=>(z74 b).bind fun f=>(z74 c).bind fun g=>(z74 d).bind fun hd=>some (16*(16*(16*e+f)+g)+hd,r)else none|_=>none
def oRs{α β:Type}(f:α→β):Option α→Rs β|some a=>.ok (f a)|none=>.pan 20
theorem zbl{s r:Z}{n:Nat}(h:unit s=some (n,r)):n<65536∧r.length+6=s.length:=by
 unfold unit at h;split at h
 ·rename_i x y a b c d p;split at h;·obtain⟨i,e,h⟩:=yb.1 h;obtain⟨j,h2,h⟩:=yb.1 h;obtain⟨k,f,h⟩:=yb.1 h;obtain⟨hd,g,h⟩:=yb.1 h;have l:=z5s _ _ e;have l2:=z5s _ _ h2;have m:=z5s _ _ f;have o:=z5s _ _ g;grind
  ·cases h
 ·cases h
theorem zfn(s:Z)(p:s.length<1000000000):M.q3r ⟨s⟩=some (oRs (fun x=>(((x.1:Nat):Int),(⟨x.2⟩:q0c))) (unit s)):=by
 unfold M.q3r;rw[z6w];have shp:(∃t,s=92::117::t)∨([92,117]:Z).isPrefixOf s=false∧unit s=none:=by match s with
  |[]=>exact .inr ⟨rfl,rfl⟩|[x]=>exact .inr ⟨by grind,rfl⟩|x::y::t=>
   by_cases u:x=92∧y=117;·grind
   ·refine .inr ⟨?_,?_⟩;·grind
    ·unfold unit;grind
 rcases shp with⟨t,rfl⟩|⟨e,h2⟩
 ·have o:([92,117]:Z).isPrefixOf (92::117::t)=true:=by simp[yam]
  simp only[o,if_true,yao,yar,yab,yad,ya,yc,yq];match t with
  |a::b::c::d::r=>
   have hl:(4:Int)≤(((a::b::c::d::r).length:Nat):Int):=by simp only[yao];omega
   have i:sub (a::b::c::d::r) 0 4=some [a,b,c,d]:=ze9 (a:=4) (by simp);have j:sub (a::b::c::d::r) 4 (((a::b::c::d::r).length:Nat):Int)=some r:=zcb (a:=4) (by simp);simp only[hl,decide_true,if_true,i,j,yc];unfold M.trim;rw[z3a (by simp)];have l:decide (Lib.trimS [a,b,c,d] [48,49,50,51,52,53,54,55,56,57,97,98,99,100,101,102,65,66,67,68,69,70]=([]:Z))=((z74 a).isSome&&((z74 b).isSome&&((z74 c).isSome&&(z74 d).isSome))):=by rw[yj,decide_eq_true_iff,zp3];have k:=zuk;unfold zz04a at k;simp only[k,yau,List.not_mem_nil,or_false,forall_eq_or_imp,forall_eq,yh]
   simp only[ya,yc,l,z5v];unfold unit;cases e:z74 a with|none=>simp[oRs,e]|some f=>cases h2:z74 b with|none=>grind[oRs]|some g=>cases m:z74 c with|none=>grind[oRs]|some h=>cases n:z74 d with|none=>grind[oRs]|some hd=>have v:=z5s a f e;have l2:=z5s b g h2;have w:=z5s c h m;have z:=z5s d hd n;have q:ybd .i32 ((16*(16*(16*f+g)+h)+hd:Nat):Int)=((16*(16*(16*f+g)+h)+hd:Nat):Int):=w32 (by omega) (by omega);simp_all[zv2,oRs]
  |[]=>rfl|[_]=>rfl|[_,_]=>rfl|[_,_,_]=>rfl
 simp_all[oRs,z5v]
def esc1(c:UInt8):Option UInt8:=if c=34 then some 34 else if c=92 then some 92 else if c=47 then some 47 else if c=98 then some 8 else if c=102 then some 12 else if c=110 then some 10 else if c=114 then some 13 else if c=116 then some 9 else none
def zt0(n:Nat):Bool:=decide (56320≤n)&&decide (n≤57343)
def zlf(n:Nat):Bool:=decide (55296≤n)&&decide (n≤57343)
def zh6(s:Z):Option (Z×Z):=match s with
 |a::c::r=>match esc1 c with|some x=>some ([x],r)|none=>match unit (a::c::r)with|none=>none|some (n,b)=>if zt0 n=true then none else if zlf n=false then some (encS (n:Int),b)else match unit b with|none=>none|some (m,d)=>if zt0 m=true then some (encS (65536+((n:Int)-55296)*1024+(m:Int)-56320),d)else none
 |_=>none
theorem zz01a:∀c:UInt8,(match esc1 c with|some x=>decide (0≤Lib.indexByte B25 (c.toNat:Int).toNat.toUInt8∧sub ([34,92,47,8,12,10,13,9]:Z) (Lib.indexByte B25 (c.toNat:Int).toNat.toUInt8) (ybd .i64 (Lib.indexByte B25 (c.toNat:Int).toNat.toUInt8+1))=some [x])|none=>decide ¬0≤Lib.indexByte B25 (c.toNat:Int).toNat.toUInt8)=true:=z6a (by decide+kernel)
theorem zsf(n:Int):(encS n).length≤4:=by grind[encS,Utf8.encode]
theorem zge{s t r:Z}(h:zh6 s=some (t,r)):t.length≤4∧r.length+2≤s.length:=by
 unfold zh6 at h;split at h
 ·rename_i a c e;split at h;·cases h;simp
  ·split at h;·cases h
   ·rename_i n f d;have:=zbl d;split at h;·cases h
    ·split at h;·simp only[Option.some.injEq,Prod.mk.injEq]at h;obtain⟨rfl,rfl⟩:=h;grind[zsf]
     ·split at h;·cases h
      ·rename_i m g b;have:=zbl b;split at h;·simp only[Option.some.injEq,Prod.mk.injEq]at h;obtain⟨rfl,rfl⟩:=h;grind[zsf]
       ·cases h
 ·cases h
theorem zz083{n m:Int}(b:55296≤n)(h2:n≤57343)(c:56320≤m)(d:m≤57343):ybd .i32 (ybd .i32 (ybd .i32 (65536+z7r .i32 (ybd .i32 (n-55296)) 10)+m)-56320)=65536+(n-55296)*1024+m-56320:=by
 have e:z7r .i32 (n-55296) 10=(n-55296)*1024:=by
  unfold z7r;have:min (10:Int).toNat IntKind.i32.bits=10:=by decide
  have a:(2:Int)^10=1024:=by decide
  rw[this,a,w32 (by omega) (by omega)]
 grind[w32]
theorem rng1(n:Nat):(decide ((n:Int)<56320)||decide (57343<(n:Int)))=!zt0 n:=by unfold zt0;grind
theorem rng2(n:Nat):(decide ((n:Int)<55296)||decide (57343<(n:Int)))=!zlf n:=by unfold zlf;grind
theorem rng3(m:Nat):(decide (56320≤(m:Int))&&decide ((m:Int)≤57343))=zt0 m:=by unfold zt0;grind
theorem zxj{n:Nat}(h:zlf n=true):55296≤(n:Int)∧(n:Int)≤57343:=by unfold zlf at h;grind
theorem zz04n{n:Nat}(h:zt0 n=true):56320≤(n:Int)∧(n:Int)≤57343:=by unfold zt0 at h;grind
theorem zhx(s:Z)(g:s.length<1000000000):M.q3n ⟨s⟩=some (oRs (fun x=>(x.1,(⟨x.2⟩:q0c))) (zh6 s)):=by unfold M.q3n;match s with
 |[]=>rfl|[_]=>rfl|a::c::r=>
  have hl:(2:Int)≤(((a::c::r).length:Nat):Int):=by simp only[yao];omega
  have d:sub (a::c::r) 2 (((a::c::r).length:Nat):Int)=some r:=zcb (a:=2) (by simp);simp only[hl,decide_true,znz,if_true,ya,yc,ix_1,yag,yah];unfold zh6;have e:=zz01a c;unfold M.indexByte;simp only[yc];cases f:esc1 c with|some x=>simp_all[oRs]|none=>rw[f]at e;simp only[decide_eq_true_eq]at e;rw[if_neg (by grind),zfn _ g];simp only[yc];cases h:unit (a::c::r)with|none=>simp[oRs]|some p=>obtain⟨n,j⟩:=p;obtain⟨q,t⟩:=zbl h;simp only[oRs];rw[rng1,z5v,rng2];simp only[yc];cases c1:zt0 n with|true=>simp|false=>simp only[yn,if_true,yk,if_false];cases k:zlf n with|false=>simp|true=>simp only[yo,yk,if_false,yr];rw[zfn _ (by omega)];simp only[yc];cases b:unit j with|none=>simp[oRs]|some i=>obtain⟨m,o⟩:=i;obtain⟨u,v⟩:=zbl b;simp only[oRs];rw[rng3,z5v];simp only[yc];cases l:zt0 m with|true=>simp_all[zxj,zz04n,zz083]|false=>simp
def txt:Nat→Z→Z→Option (Z×Z)|0,_,_=>none|_+1,[],_=>none|f+1,c::r,acc=>if c.toNat<32 then none else if c=34 then if Lib.validD acc=true then some (acc,r)else none else if c=92 then match zh6 (c::r)with|none=>none|some (t,a)=>txt f a (acc++t)else txt f r (acc++[c])
def text(s:Z):Option (Z×Z):=match s with|c::r=>if c=34 then txt (r.length+1) r []else none|[]=>none
theorem zrj:∀(f:Nat)(s acc t r:Z),txt f s acc=some (t,r)→r.length+1≤s.length∧t.length≤acc.length+4*s.length
 |0,_,_,_,_,h=>by simp[txt]at h|_+1,[],_,_,_,h=>by simp[txt]at h|f+1,c::s,acc,t,r,h=>by
  rw[txt]at h;split at h;·cases h
  ·split at h;·grind
   ·split at h
    ·split at h;·cases h
     ·rename_i e d a;have b:=zge a;have h2:=zrj f _ _ _ _ h;grind
    ·have h2:=zrj f _ _ _ _ h;grind
theorem zea{s t r:Z}(h:text s=some (t,r)):r.length+2≤s.length∧t.length≤4*s.length:=by
 unfold text at h;split at h
 ·split at h;·have:=zrj _ _ _ _ _ h;grind
  ·cases h
 ·cases h
theorem znp:∀(f:Nat)(s acc:Z),s.length<f→acc.length+4*s.length<4000000000→s.length<1000000000→M.z1l s (unb acc)=some (oRs (fun x=>(x.1,(⟨z0q x.2⟩:q0c))) (txt f s acc)):=by intro f;induction f with|zero=>omega|succ f q=>intro s acc hf j m;rw[M.z1l.eq_1];cases s with|nil=>rfl|cons c r=>
   simp only[yao]at hf j m;have h:decide (c::r=([]:Z))=false:=by simp
   have i:decide (32≤(c.toNat:Int))=decide ¬c.toNat<32:=decide_eq_decide.2 (by omega);have e:(c.toNat:Int)=34↔c=34:=toNat_eq (n:=34) (by omega);have g:(c.toNat:Int)=92↔c=92:=toNat_eq (n:=92) (by omega);simp only[h,yn,if_true,zuo,yah,ya,yc,i,z5v,e,g];rw[txt];by_cases a:c.toNat<32;·simp[a,oRs]
   ·simp only[a,not_false_eq_true,decide_true,if_true,if_false];by_cases b:c=34
    ·subst b;have l:M.zt (unb acc)=some acc:=z39 acc;simp only[decide_true,if_true,l,yc];rw[z3q (by omega)];simp only[yc];by_cases o:Lib.validD acc=true;·simp_all[z2h,take_one,oRs]
     grind[oRs]
    ·simp only[b,decide_false,yk,if_false];by_cases d:c=92;·simp only[d,decide_true,if_true];rw[zhx _ (by omega)];simp only[yc];cases k:zh6 (92::r)with|none=>rfl|some p=>obtain⟨t,u⟩:=p;have hl:=zge k;grind[oRs,z2t,unb]
     ·simp only[d,decide_false,yk,if_false];rw[z1z (by grind[unb])];simp only[yc];grind[sub,unb]
theorem zfm(s:Z)(a:s.length<900000000):M.q3q ⟨s⟩=some (oRs (fun x=>(x.1,(⟨z0q x.2⟩:q0c))) (text s)):=by unfold M.q3q;rw[z6w,z6u];cases s with|nil=>rfl|cons c r=>
  by_cases h:c=34;·subst h;simp only[yal,decide_true,if_true,yao,yar,yab,yad,ya,yc,z5v];simp only[yao]at a;exact znp (r.length+1) r [] (by omega) (by simp;omega) (by omega)
  ·simp[h,z5v,oRs,text]
end
section
open Go.Lk Go.Pe
theorem zz023{ks:List Z}{k:Z}(hl:ks.length<1152921504606846976):∀(n i:Nat),ks.length-i=n→i≤ks.length→M.zf ks k (i:Int)=some (match(ks.drop i).findIdx? fun x=>decide (k=x)with|some j=>.done ((i+j:Nat):Int)|none=>.go ()):=by
 intro n;induction n with|zero=>
  intro i hn c;rw[M.zf.eq_1];have:¬(i:Int)<(ks.length:Int):=by omega
  rw[if_neg (by simpa using this),yaa (by omega)];rfl|succ n d=>
  intro i hn c;have a:i<ks.length:=by omega
  rw[M.zf.eq_1];have b:(i:Int)<(ks.length:Int):=by omega
  simp only[b,decide_true,if_true,z3u,yai a,ya,yc];rw[w1 (by omega),d (i+1) (by omega) (by omega),yz a,yaf];by_cases h:k=ks[i];·simp[h]
  ·simp only[h,decide_false,yk,if_false];cases(ks.drop (i+1)).findIdx? fun x=>decide (k=x)with|none=>rfl|some j=>simp only[yf];congr 3;omega
theorem zsr{ks:List Z}{k:Z}(hl:ks.length<1152921504606846976):M.q74 ks k=some (match ks.findIdx? fun x=>decide (k=x)with|some j=>(j:Int)|none=>-1):=by unfold M.q74;have h:=zz023 (k:=k) hl _ 0 rfl (ybb _);have h:M.zf ks k 0=_:=h;rw[h,yad];cases ks.findIdx? fun x=>decide (k=x)with|none=>rfl|some j=>simp
theorem contains_eq{ks:List Z}{k:Z}(hl:ks.length<1152921504606846976):M.q6z ks k=some (decide (k∈ks)):=by unfold M.q6z;rw[zsr hl];simp only[ya,yc,Option.some.injEq];cases h:ks.findIdx? fun x=>decide (k=x)with
 |none=>
  rw[List.findIdx?_eq_none_iff]at h;have:¬k∈ks:=fun c=>by simpa using h k c
  simp[this]|some j=>
  have h2:=List.findIdx?_eq_some_iff_getElem.1 h;obtain⟨b,a,_⟩:=h2;have:k∈ks:=by simp at a;rw[a];exact yak b
  simp[this]
abbrev J:=q04
abbrev Rd:=Rs (J×Z)
def zvr(s:Z)(ks:List Z):Rs (Z×List Z):=match text s with|none=>.pan 20|some (k,r)=>if k∈ks then .pan 20 else match take (z0q r) [58]with|none=>.pan 20|some a=>.ok (a,ks++[k])
def items(vf:Z→Rd)(o:Bool)(e:UInt8):Nat→Z→List J→List Z→Rd|0,_,_,_=>.pan 20|f+1,s,l,ks=>match if o=true then zvr s ks else .ok (s,ks)with|.pan c=>.pan c|.ok (d,a)=>match vf d with|.pan c=>.pan c|.ok (x,b)=>match take b [e]with|some r=>.ok (⟨if o=true then 6 else 5,[],l++[x],a⟩,r)|none=>match take b [44]with|none=>.pan 20|some r=>items vf o e f r (l++[x]) a
def nest(vf:Z→Rd)(o:Bool)(w:Nat)(s:Z):Rd:=if 16≤w then .pan 21 else match take s [if o=true then 125 else 93]with|some r=>.ok (⟨if o=true then 6 else 5,[],[],[]⟩,r)|none=>items vf o (if o=true then 125 else 93) (s.length+1) s [] []
def word(s:Z):Rd:=match take s B20 with|some r=>.ok (⟨0,[],[],[]⟩,r)|none=>match take s B15 with|some r=>.ok (⟨1,[],[],[]⟩,r)|none=>match take s B21 with|some r=>.ok (⟨2,[],[],[]⟩,r)|none=>if num s=0 then .pan 20 else .ok (⟨3,s.take (num s),[],[]⟩,z0q (s.drop (num s)))
def val:Nat→Z→Nat→Rd|0,_,_=>.pan 20|f+1,s,w=>match text s with|some (t,r)=>.ok (⟨4,t,[],[]⟩,z0q r)|none=>if s.head?=some 34 then .pan 20 else match take s [91]with|some r=>nest (fun s=>val f s (w+1)) false w r|none=>match take s [123]with|some r=>nest (fun s=>val f s (w+1)) true w r|none=>word s
def cv(x:J×Z):J×q0c:=(x.1,⟨x.2⟩)
def mRs{α β:Type}(f:α→β):Rs α→Rs β|.ok a=>.ok (f a)|.pan c=>.pan c
theorem zsv{s:Z}{ks:List Z}{r:Z}{a:List Z}(h:zvr s ks=.ok (r,a)):r.length+3≤s.length∧a.length=ks.length+1:=by
 unfold zvr at h;split at h;·cases h
 ·rename_i k d c;have e:=zea c;split at h;·cases h
  ·split at h;·cases h
   ·rename_i g b;have h2:=take_len b;have f:=z2u d;cases h;simp only[yao,yar]at h2;exact⟨by omega,by simp⟩
theorem zxm{vf:Z→Rd}{o:Bool}{e:UInt8}(d:∀s x r,vf s=.ok (x,r)→r.length+1≤s.length):∀(f:Nat)(s:Z)(l:List J)(ks:List Z)(x:J)(r:Z),items vf o e f s l ks=.ok (x,r)→r.length+1≤s.length:=by intro f;induction f with|zero=>intro s l ks x r h;simp[items]at h|succ f i=>
  intro s l ks x r h;rw[items]at h;split at h;·cases h
  ·rename_i m j a;have n:m.length≤s.length:=by
    split at a;·have:=zsv a;omega
    ·cases a;omega
   split at h;·cases h
   ·rename_i t q g;have h2:=d _ _ _ g;split at h;·rename_i k b;have c:=take_len b;cases h;omega
    ·split at h;·cases h
     ·rename_i k b;have c:=take_len b;have p:=i _ _ _ _ _ h;omega
theorem zt4{vf:Z→Rd}{o:Bool}{w:Nat}(b:∀s x r,vf s=.ok (x,r)→r.length+1≤s.length){s r:Z}{x:J}(h:nest vf o w s=.ok (x,r)):r.length+1≤s.length:=by
 unfold nest at h;split at h;·cases h
 ·split at h;·rename_i c a;have:=take_len a;cases h;simp only[yao,yar]at this;omega
  ·exact zxm b _ _ _ _ _ _ h
theorem zts{s r:Z}{x:J}(h:word s=.ok (x,r)):r.length+1≤s.length:=by
 unfold word at h;split at h;·rename_i b a;have:=take_len a;cases h;simp only[yao,yar]at this;omega
 ·split at h;·rename_i b a;have:=take_len a;cases h;simp only[yao,yar]at this;omega
  ·split at h;·rename_i b a;have:=take_len a;cases h;simp only[yao,yar]at this;omega
   ·split at h;·cases h
    ·rename_i hn;cases h;have c:=z2u (s.drop (num s));have h2:=zo0 s;rw[yap]at c;omega
theorem zz00c:∀(f:Nat)(s:Z)(w:Nat)(x:J)(r:Z),val f s w=.ok (x,r)→r.length+1≤s.length:=by intro f;induction f with|zero=>intro s w x r h;simp[val]at h|succ f d=>
  intro s w x r h;rw[val]at h;split at h;·rename_i t b a;have c:=zea a;have h2:=z2u b;cases h;omega
  ·split at h;·cases h
   ·split at h;·rename_i b a;have c:=take_len a;have h2:=zt4 (fun s x r=>d s (w+1) x r) h;omega
    ·split at h;·rename_i b a;have c:=take_len a;have h2:=zt4 (fun s x r=>d s (w+1) x r) h;omega
     ·exact zts h
theorem zz08k(s:Z):M.z0r 0 s=some (match take s B20 with|some r=>.done (.ok (⟨0,[],[],[]⟩,⟨r⟩))|none=>match take s B15 with|some r=>.done (.ok (⟨1,[],[],[]⟩,⟨r⟩))|none=>match take s B21 with|some r=>.done (.ok (⟨2,[],[],[]⟩,⟨r⟩))|none=>.go s):=by
 have a:ybd .i64 (0+1)=1:=by decide
 have b:ybd .i64 (1+1)=2:=by decide
 have c:ybd .i64 (2+1)=3:=by decide
 have d:∀{α:Type}(l:List α),ix l 2=l[2]?:=fun l=>by simp[ix]
 rw[M.z0r.eq_1];have e:(0:Int)<3:=by decide
 have f:(1:Int)<3:=by decide
 have h2:(2:Int)<3:=by decide
 simp only[yao,yar,zuo,yah,ya,yc,z2h,a];rw[if_pos (by decide)];cases take s B20 with|some r=>rfl|none=>simp only[yk,if_false];rw[M.z0r.eq_1];simp only[yao,yar,ix_1,yah,yag,ya,yc,z2h,b];rw[if_pos (by decide)];cases take s B15 with|some r=>rfl|none=>simp only[yk,if_false];rw[M.z0r.eq_1];simp only[yao,yar,d,yah,yag,ya,yc,z2h,c];rw[if_pos (by decide)];cases take s B21 with|some r=>rfl|none=>simp only[yk,if_false];rw[M.z0r.eq_1];rw[if_neg (by decide)]
theorem zyh{o:Bool}{w:Nat}(E:w≤16){self:q0c→Int→Option (Rs (J×q0c))}{vf:Z→Rd}{N:Nat}(D:N<900000000)(u:∀s:Z,s.length≤N→self ⟨s⟩ ((w+1:Nat):Int)=some (mRs cv (vf s)))(v:∀s x r,vf s=.ok (x,r)→r.length+1≤s.length):∀(f:Nat)(s:Z)(l:List J)(ks:List Z),s.length<f→s.length≤N→l.length+s.length≤N→ks.length+s.length≤N→M.z19 (if o=true then 6 else 5) self (w:Int) [if o=true then 125 else 93] s l ks=some (mRs cv (items vf o (if o=true then 125 else 93) f s l ks)):=by intro f;induction f with|zero=>intro s l ks h;omega|succ f A=>
  intro s l ks hf hn hl t;rw[M.z19.eq_1,items];have step:∀(d:Z)(a:List Z),d.length≤s.length→a.length+d.length≤N→(do let a_209←self (q0c.mk d) (ybd .i64 ((w:Int)+1))match a_209 with|.pan e_212=>some (.pan e_212)|.ok a_211=>let l_213←app 72 l [q04.mk a_211.1.zh a_211.1.zq a_211.1.zg a_211.1.zn]let a_214←M.q3p a_211.2 [if o=true then 125 else 93]if a_214.1 then some (.ok (q04.mk (if o=true then 6 else 5) ([]:Z) l_213 a,a_214.2))else let a_216←M.q3p a_214.2 ([44]:Z)let a_218←M.q3j a_216.1 20;match a_218 with|.pan e_221=>some (.pan e_221)|.ok a_220=>M.z19 (if o=true then 6 else 5) self (w:Int) [if o=true then 125 else 93] a_216.2.gs l_213 a:Option (Rs (J×q0c)))=some (mRs cv (match vf d with|.pan c=>.pan c|.ok (x,e)=>match take e [if o=true then 125 else 93]with|some r=>.ok (⟨if o=true then 6 else 5,[],l++[x],a⟩,r)|none=>match take e [44]with|none=>.pan 20|some r=>items vf o (if o=true then 125 else 93) f r (l++[x]) a)):=by intro d a n h2;rw[w1 (by omega),u d (by omega)];simp only[ya,yc];cases z:vf d with|pan c=>rfl|ok p=>
    obtain⟨x,e⟩:=p;have g:=v _ _ _ z;have B:∀y:J,q04.mk y.zh y.zq y.zg y.zn=y:=fun y=>by cases y;rfl
    simp only[mRs,cv,B];rw[z15 (by simp only[yao,yar];omega),z2h];simp only[yc];cases j:take e [if o=true then 125 else 93]with|some r=>simp|none=>simp only[yk,if_false];rw[z2h];simp only[yc];cases b:take e [44]with|none=>simp[z5v]|some r=>have q:=take_len b;simp only[yao,yar]at q;simp only[znz,yc];rw[A r _ a (by omega) (by omega) (by simp;omega) (by omega)];rfl
  cases o with|false=>
   have st:=step s ks (ya5 _) t;simp only[yk,if_false,ya]at st⊢;have m:decide ((5:Int)=6)=false:=by decide
   simp only[m,yk,if_false,yc];exact st|true=>simp only[if_true,ya]at step⊢;simp only[decide_true,if_true];rw[zfm _ (by omega)];simp only[yc];unfold zvr;cases j:text s with|none=>rfl|some p=>
    obtain⟨k,r⟩:=p;have n:=zea j;have h2:=z2u r;simp only[oRs];rw[contains_eq (by omega)];simp only[yc];by_cases i:k∈ks;·simp[i,z5v,mRs]
    ·simp only[i,decide_false,yn,if_true,if_false];rw[z2h];simp only[yc];cases b:take (z0q r) [58]with|none=>simp[z5v,mRs]|some C=>have g:=take_len b;simp only[yao,yar]at g;simp only[znz,yc];rw[z15 (by simp only[yao,yar];omega)];simp only[yc];exact step C (ks++[k]) (by omega) (by simp;omega)
theorem zlp{N:Nat}(l:N<900000000):∀(f F:Nat)(s:Z)(w:Nat),w≤16→17≤f+w→2*f≤F→s.length≤N→M.q3s F ⟨s⟩ (w:Int)=some (mRs cv (val f s w)):=by intro f;induction f with|zero=>intro F s w y h2;omega|succ f v=>
  intro F s w u hf hF hn;obtain⟨i,rfl⟩:∃i,F=i+2:=⟨F-2,by omega⟩;rw[M.q3s,val];rw[z5y,z6u];simp only[ya,yc];by_cases a:s.head?=some 34;·simp only[a,decide_true,if_true];rw[zfm _ (by omega)];simp only[yc];cases text s with|none=>rfl|some p=>rfl
  ·have t:text s=none:=by unfold text;cases s with|nil=>rfl|cons c r=>simp at a;simp[a]
   simp only[a,decide_false,yk,if_false,t];have nes:∀(o:Bool)(r:Z),r.length≤N→M.q3o (i+1) ⟨r⟩ (if o=true then 6 else 5) (w:Int) [if o=true then 125 else 93]=some (mRs cv (nest (fun s=>val f s (w+1)) o w r)):=by
    intro o r n;rw[M.q3o];unfold nest;by_cases d:16≤w
    ·have:¬(w:Int)<16:=by omega
     simp[this,d,z5v,mRs]
    ·have:(w:Int)<16:=by omega
     simp only[this,decide_true,znz,ya,yc,d,if_false,z2h];cases z:take r [if o=true then 125 else 93]with|some A=>rfl|none=>simp only[yk,if_false];exact zyh (o:=o) (w:=w) u l (fun s q=>v i s (w+1) (by omega) (by omega) (by omega) q) (fun s x r=>zz00c f s (w+1) x r) (r.length+1) r [] [] (by omega) n (by simp;omega) (by simp;omega)
   rw[z2h];simp only[yc];cases j:take s [91]with
   |some r=>have hl:=take_len j;have h:=nes false r (by simp at hl;omega);simp only[yk,if_false]at h;simp only[if_true,h,yc];cases nest (fun s=>val f s (w+1)) false w r with|ok p=>rfl|pan c=>rfl
   |none=>simp only[yk,if_false,z2h,yc];cases b:take s [123]with
    |some r=>have hl:=take_len b;have h:=nes true r (by simp at hl;omega);simp only[if_true]at h;simp only[if_true,h,yc];cases nest (fun s=>val f s (w+1)) true w r with|ok p=>rfl|pan c=>rfl
    |none=>simp only[yk,if_false,zz08k,yc];unfold word;cases take s B20 with|some r=>rfl|none=>simp only;cases take s B15 with|some r=>rfl|none=>simp only;cases take s B21 with|some r=>rfl|none=>
        simp only;rw[zcf (by omega)];simp only[yc];by_cases k:num s=0;·simp[k,z5v,mRs]
        ·have m:(0:Int)<(num s:Int):=by omega
         have hl:=zo0 s;have hd:take s (s.take (num s))=some (z0q (s.drop (num s))):=by
          unfold take;have g:(s.take (num s)).isPrefixOf s=true:=by rw[List.isPrefixOf_iff_prefix];exact List.take_prefix _ _
          have e:(s.take (num s)).length=num s:=by rw[yas];omega
          rw[if_pos g,e]
         simp only[m,decide_true,znz,yc,ze9 hl,z2h,hd,k,if_false];rfl
def parse(s:Z):J×Int:=if 16384<s.length then(⟨0,[],[],[]⟩,22)else match val 17 (z0q s) 0 with|.pan c=>(⟨0,[],[],[]⟩,c)|.ok (x,r)=>if r=[]then(x,0)else(⟨0,[],[],[]⟩,20)
theorem z9u(s:Z){f:Nat}(hf:34≤f):M.q3c f s=some (parse s):=by
 unfold M.q3c parse;by_cases hl:16384<s.length
 ·have:(16384:Int)<(s.length:Int):=by omega
  simp[hl,this]
 ·have:¬(16384:Int)<(s.length:Int):=by omega
  have d:=z2u s;have a:=zlp (N:=16384) (by omega) 17 f (z0q s) 0 (by omega) (by omega) (by omega) (by omega);have a:M.q3s f ⟨z0q s⟩ 0=_:=a;simp only[this,decide_false,yk,if_false,hl,zce,ya,yc,a];cases val 17 (z0q s) 0 with|pan c=>rfl|ok p=>
   obtain⟨x,r⟩:=p;simp only[mRs,cv];by_cases b:r=[];·simp[b,z5v]
   ·simp[b,z5v]
end
section
open Go.Lk Go.Pe
def nch(c:UInt8):Bool:=isD c||decide (c=46)||decide (c=101)||decide (c=69)||decide (c=43)||decide (c=45)
def stop(r:Z):Prop:=∀c,r.head?=some c→nch c=false
theorem zz01s(s r:Z):(s++r).head?=if s=[]then r.head? else s.head?:=by cases s<;>simp
theorem zhg(c:UInt8)(s:Z):zc9 (c::s)=if c=46 then if 0<z7p s then 1+z7p s else 0 else 0:=by
 by_cases h:c=46;·grind[zc9]
 simp_all[zc9]
theorem frac_nil:zc9 []=0:=rfl
theorem zz09p:∀c:UInt8,bl c=(decide (c=32)||decide (c=9)||decide (c=10)||decide (c=13)):=z6a (by decide+kernel)
theorem zgv{c:UInt8}{r:Z}(h:bl c=false):z0q (c::r)=c::r:=by grind[z0q,yw]
theorem zz000{c:UInt8}{r:Z}(h:¬c=34):text (c::r)=none:=by simp[text,h]
theorem zlo(v:J):(⟨v.zh,v.zq,v.zg,v.zn⟩:J)=v:=by cases v;rfl
end
section
open Go.Lk Go.Pe
theorem zck{α:Type}(p:α→Bool):∀(l:List α)(m:Nat),((l.take m).takeWhile p).length=min m (l.takeWhile p).length|[],m=>by simp|a::l,0=>by simp|a::l,m+1=>by rw[ya1,yaz,yaz];cases p a with|false=>simp|true=>simp only[if_true,yao,zck p l m];omega
theorem zh4(s:Z)(m:Nat):z7p (s.take m)=min m (z7p s):=zck isD s m
theorem head_take{s:Z}{m:Nat}(h:0<m):(s.take m).head?=s.head?:=by cases s with|nil=>simp|cons c r=>obtain⟨m,rfl⟩:∃k,m=k+1:=⟨m-1,by omega⟩;simp
theorem zxk{s:Z}{m:Nat}(h:0<m)(h2:z8t s≤m):z8t (s.take m)=z8t s:=by
 unfold z8t at*;rw[head_take h,zh4];split at h2;·rename_i a;rw[if_pos a,if_pos a]
 ·rename_i a;rw[if_neg a,if_neg a];omega
theorem zx3{s:Z}{m:Nat}(h:zc9 s≤m):zc9 (s.take m)=zc9 s:=by cases s with|nil=>simp|cons c r=>cases m with|zero=>simp only[List.take_zero,frac_nil];omega|succ m=>
   rw[ya1,zhg,zhg,zh4];rw[zhg]at h;by_cases a:c=46
   ·simp only[a,if_true]at h⊢;by_cases hd:0<z7p r
    ·rw[if_pos hd]at h⊢;have:min m (z7p r)=z7p r:=by omega
     rw[this,if_pos hd]
    ·rw[if_neg hd,if_neg (by omega)]
   ·simp[a]
theorem zzo{s:Z}{m:Nat}(h:0<m):zag (s.take m)=zag s:=by unfold zag;rw[head_take h]
theorem zz038{s:Z}{m:Nat}(h:0<m):sgn (s.take m)=sgn s:=by unfold sgn;rw[head_take h]
theorem zwu(s:Z):zjc (s.take (zjc s))=zjc s:=by cases s with|nil=>rfl|cons c r=>
  by_cases a:c=101∨c=69
  ·by_cases hd:0<z7p (r.drop (zag r))
   ·have e:zjc (c::r)=1+zag r+z7p (r.drop (zag r)):=by simp[zjc,a,hd]
    rw[e];have b:(c::r).take (1+zag r+z7p (r.drop (zag r)))=c::r.take (zag r+z7p (r.drop (zag r))):=by rw[show 1+zag r+z7p (r.drop (zag r))=zag r+z7p (r.drop (zag r))+1 by omega,ya1]
    rw[b];have d:zag (r.take (zag r+z7p (r.drop (zag r))))=zag r:=zzo (by omega);have f:z7p ((r.take (zag r+z7p (r.drop (zag r)))).drop (zag r))=z7p (r.drop (zag r)):=by rw[yac,zh4];omega
    unfold zjc;simp only[a,if_true,d,f,hd]
   ·have e:zjc (c::r)=0:=by simp[zjc,hd]
    rw[e];rfl
  ·have e:zjc (c::r)=0:=by simp[zjc,a]
   rw[e];rfl
theorem zz02p(s:Z):num (s.take (num s))=num s:=by
 by_cases a:z8t (s.drop (sgn s))=0
 ·have:num s=0:=by unfold num;simp[a]
  rw[this];rfl
 have e:num s=sgn s+z8t (s.drop (sgn s))+zc9 (s.drop (sgn s+z8t (s.drop (sgn s))))+zjc (s.drop (sgn s+z8t (s.drop (sgn s))+zc9 (s.drop (sgn s+z8t (s.drop (sgn s)))))):=by
  conv=>lhs;unfold num
  simp only[a,if_false]
 generalize hn:num s=n at e⊢;have d:sgn (s.take n)=sgn s:=zz038 (by omega);have b:z8t ((s.take n).drop (sgn s))=z8t (s.drop (sgn s)):=by rw[yac,zxk (by omega) (by omega)]
 have h2:zc9 ((s.take n).drop (sgn s+z8t (s.drop (sgn s))))=zc9 (s.drop (sgn s+z8t (s.drop (sgn s)))):=by rw[yac,zx3 (by omega)]
 have c:zjc ((s.take n).drop (sgn s+z8t (s.drop (sgn s))+zc9 (s.drop (sgn s+z8t (s.drop (sgn s))))))=zjc (s.drop (sgn s+z8t (s.drop (sgn s))+zc9 (s.drop (sgn s+z8t (s.drop (sgn s)))))):=by
  rw[yac];have:n-(sgn s+z8t (s.drop (sgn s))+zc9 (s.drop (sgn s+z8t (s.drop (sgn s)))))=zjc (s.drop (sgn s+z8t (s.drop (sgn s))+zc9 (s.drop (sgn s+z8t (s.drop (sgn s)))))):=by omega
  rw[this,zwu]
 unfold num;simp only[d,b,a,if_false,h2,c];exact e.symm
theorem zj4:∀(f:Nat)(s acc t r:Z),txt f s acc=some (t,r)→Lib.validD t=true
 |0,_,_,_,_,h=>by simp[txt]at h|_+1,[],_,_,_,h=>by simp[txt]at h|f+1,c::s,acc,t,r,h=>by
  rw[txt]at h;split at h;·cases h
  ·split at h
   ·split at h;·rename_i a;cases h;exact a
    ·cases h
   ·split at h
    ·split at h;·cases h
     ·exact zj4 f _ _ _ _ h
    ·exact zj4 f _ _ _ _ h
theorem zkr{s t r:Z}(h:text s=some (t,r)):Lib.validD t=true:=by
 unfold text at h;split at h
 ·split at h;·exact zj4 _ _ _ _ _ h
  ·cases h
 ·cases h
theorem zxx{s:Z}{ks:List Z}{r:Z}{a:List Z}(h:zvr s ks=.ok (r,a)):∃k,a=ks++[k]∧¬k∈ks∧Lib.validD k=true:=by
 unfold zvr at h;split at h;·cases h
 ·rename_i k d c;split at h;·cases h
  ·rename_i b;split at h;·cases h
   ·cases h;exact⟨k,rfl,b,zkr c⟩
theorem zs5:∀{l:List J}{w:Nat},zgb l w=0↔∀x∈l,zam x w=0
 |[],w=>by simp[zgb]|x::l,w=>by
  rw[zdb];by_cases a:zam x w=0;·simp[a,zs5 (l:=l)]
  ·simp[a]
theorem zuf{n:Nat}{ks:List Z}(a:ks.length=n)(h2:ks.Nodup)(b:∀k∈ks,Lib.validD k=true):frm 6 [] n ks=true:=by unfold frm;simp[a,h2];exact b
theorem zxn{vf:Z→Rd}{o:Bool}{e:UInt8}{w:Nat}(M:w<16)(H:∀s x r,vf s=.ok (x,r)→zam x (w+1)=0):∀(f:Nat)(s:Z)(l:List J)(ks:List Z)(x:J)(r:Z),zgb l (w+1)=0→(o=true→ks.length=l.length)→(o=false→ks=[])→ks.Nodup→(∀k∈ks,Lib.validD k=true)→items vf o e f s l ks=.ok (x,r)→zam x w=0:=by intro f;induction f with|zero=>intro s l ks x r _ _ _ _ _ h;simp[items]at h|succ f K=>
  intro s l ks x r hl G q n p h;rw[items]at h;split at h;·cases h
  ·rename_i N c d;have E:(o=true→c.length=l.length+1)∧(o=false→c=[])∧c.Nodup∧∀k∈c,Lib.validD k=true:=by
    split at d
    ·rename_i ho;obtain⟨k,rfl,k1,L⟩:=zxx d;refine⟨fun _=>by simp[G ho],fun h=>absurd (ho.symm.trans h) (by decide),?_,?_⟩;·rw[yaw];exact⟨n,by simp,fun a F b D=>by simp at D;subst D;intro e;subst e;exact k1 F⟩
     ·intro z j;rcases yat.1 j with j|j;·exact p z j
      ·simp at j;subst j;exact L
    ·rename_i ho;cases d;exact⟨fun h=>absurd h ho,q,n,p⟩
   obtain⟨v,A,B,C⟩:=E;split at h;·cases h
   ·rename_i u O I;have t:=H _ _ _ I;have g:zgb (l++[u]) (w+1)=0:=by
     rw[zs5]at hl⊢;intro y i;rcases yat.1 i with i|i;·exact hl y i
     ·simp at i;subst i;exact t
    split at h
    ·cases h;rw[z8l];simp only;have m:¬16≤w:=by omega
     cases o with|false=>
      have:=A rfl;subst this;have hf:frm 5 [] (l++[u]).length []=true:=by simp[frm]
      simp only[yk,if_false];rw[if_neg fun h=>m h.2,hf];simpa using g|true=>have hf:frm 6 [] (l++[u]).length c=true:=zuf (by simpa using v rfl) B C;simp only[if_true];rw[if_neg fun h=>m h.2,hf];simpa using g
    ·split at h;·cases h
     ·exact K _ _ _ _ _ g (fun h=>by simpa using v h) A B C h
theorem zt5{vf:Z→Rd}{o:Bool}{w:Nat}(c:w<16→∀s x r,vf s=.ok (x,r)→zam x (w+1)=0){s r:Z}{x:J}(h:nest vf o w s=.ok (x,r)):zam x w=0:=by
 unfold nest at h;split at h;·cases h
 ·rename_i a;split at h;·cases h;rw[z8l];cases o with|false=>simp[frm,a,zgb]|true=>simp[frm,a,zgb]
  ·exact zxn (by omega) (c (by omega)) _ _ _ _ _ _ rfl (fun _=>rfl) (fun _=>rfl) (by simp) (fun k b=>by cases b) h
theorem zz03u{s r:Z}{x:J}{w:Nat}(h:word s=.ok (x,r)):zam x w=0:=by
 unfold word at h;split at h;·cases h;rw[z8l];simp[frm,zgb]
 ·split at h;·cases h;rw[z8l];simp[frm,zgb]
  ·split at h;·cases h;rw[z8l];simp[frm,zgb]
   ·split at h;·cases h
    ·rename_i hn;cases h;have b:=zz02p s;have h2:=zo0 s;have a:(s.take (num s)).length=num s:=by rw[yas];omega
     have c:¬s.take (num s)=[]:=fun e=>by rw[e]at a;simp at a;omega
     have hf:frm 3 (s.take (num s)) 0 []=true:=by unfold frm;rw[if_neg (by decide),if_pos rfl,b,a];simp[c]
     rw[z8l];simp[hf,zgb]
theorem zz08h:∀(f:Nat)(s:Z)(w:Nat)(x:J)(r:Z),val f s w=.ok (x,r)→zam x w=0:=by intro f;induction f with|zero=>intro s w x r h;simp[val]at h|succ f a=>
  intro s w x r h;rw[val]at h;split at h;·rename_i t d b;have c:=zkr b;cases h;rw[z8l];simp[frm,zgb,c]
  ·split at h;·cases h
   ·split at h;·exact zt5 (fun _ s x r=>a s (w+1) x r) h
    ·split at h;·exact zt5 (fun _ s x r=>a s (w+1) x r) h
     ·exact zz03u h
theorem zz02b{s:Z}{ks:List Z}{c:Int}(h:zvr s ks=.pan c):c=20:=by
 unfold zvr at h;split at h;·injection h with h;exact h.symm
 ·split at h;·injection h with h;exact h.symm
  ·split at h;·injection h with h;exact h.symm
   ·cases h
theorem zxo{vf:Z→Rd}{o:Bool}{e:UInt8}(b:∀s c,vf s=.pan c→c=20∨c=21):∀(f:Nat)(s:Z)(l:List J)(ks:List Z)(c:Int),items vf o e f s l ks=.pan c→c=20∨c=21:=by intro f;induction f with|zero=>intro s l ks c h;simp only[items]at h;injection h with h;exact .inl h.symm|succ f g=>
  intro s l ks c h;rw[items]at h;split at h
  ·rename_i a;split at a;·injection h with h;subst h;exact .inl (zz02b a)
   ·cases a
  ·split at h;·rename_i d;injection h with h;subst h;exact b _ _ d
   ·split at h;·cases h
    ·split at h;·injection h with h;exact .inl h.symm
     ·exact g _ _ _ _ h
theorem zt6{vf:Z→Rd}{o:Bool}{w:Nat}(a:∀s c,vf s=.pan c→c=20∨c=21){s:Z}{c:Int}(h:nest vf o w s=.pan c):c=20∨c=21:=by
 unfold nest at h;split at h;·injection h with h;exact .inr h.symm
 ·split at h;·cases h
  ·exact zxo a _ _ _ _ _ h
theorem zz08i:∀(f:Nat)(s:Z)(w:Nat)(c:Int),val f s w=.pan c→c=20∨c=21:=by intro f;induction f with|zero=>intro s w c h;simp only[val]at h;injection h with h;exact .inl h.symm|succ f a=>
  intro s w c h;rw[val]at h;split at h;·cases h
  ·split at h;·injection h with h;exact .inl h.symm
   ·split at h;·exact zt6 (fun s c=>a s (w+1) c) h
    ·split at h;·exact zt6 (fun s c=>a s (w+1) c) h
     ·unfold word at h;split at h;·cases h
      ·split at h;·cases h
       ·split at h;·cases h
        ·split at h;·injection h with h;exact .inl h.symm
         ·cases h
theorem zcy(s:Z):(∃x,parse s=(x,0)∧zam x 0=0)∨∃c,parse s=(⟨0,[],[],[]⟩,c)∧(c=20∨c=21∨c=22):=by
 unfold parse;split;·exact .inr ⟨22,rfl,by simp⟩
 ·split
  ·rename_i c a;rcases zz08i _ _ _ _ a with h|h;·exact .inr ⟨c,rfl,.inl h⟩
   ·exact .inr ⟨c,rfl,.inr (.inl h)⟩
  ·rename_i y r b;split;·exact .inl ⟨y,rfl,zz08h _ _ _ _ _ b⟩
   ·exact .inr ⟨20,rfl,.inl rfl⟩
end
section
open Go.Lk Go.Pe Go.RowKit
theorem zz001{s t r:Z}(a:text s=some (t,r)):t.length+4*r.length+4≤4*s.length:=by
 unfold text at a;split at a
 ·split at a
  ·have e:∀(f:Nat)(s acc t r:Z),txt f s acc=some (t,r)→t.length+4*r.length≤acc.length+4*s.length:=by intro f;induction f with|zero=>intro s acc t r h;simp[txt]at h|succ f b=>intro s acc t r h;cases s with|nil=>simp[txt]at h|cons c s=>
      rw[txt]at h;split at h;·cases h
      ·split at h
       ·split at h;·cases h;simp;omega
        ·cases h
       ·split at h
        ·split at h;·cases h
         ·rename_i j i d;have g:=zge d;have h2:=b _ _ _ _ h;simp only[yan,yao]at*;omega
        ·have h2:=b _ _ _ _ h;simp only[yan,yao,yar]at*;omega
   have:=e _ _ _ _ _ a;simp only[yao,yar]at*;omega
  ·cases a
 ·cases a
theorem zz025{vf:Z→Rd}{o:Bool}{e:UInt8}(p:∀s x r,vf s=.ok (x,r)→x.sz+8*r.length≤8*s.length):∀(f:Nat)(s:Z)(l:List J)(ks:List Z)(x:J)(r:Z),items vf o e f s l ks=.ok (x,r)→x.sz+8*r.length≤8*s.length+szs l+kys ks:=by intro f;induction f with|zero=>intro s l ks x r h;simp[items]at h|succ f c=>
  intro s l ks x r h;rw[items]at h;have app1:∀(l:List J)(x:J),szs (l++[x])=szs l+x.sz+1:=fun l x=>by induction l with|nil=>simp[szs]|cons y l c=>simp only[yv,szs,c];omega
  have app2:∀(l:List Z)(x:Z),kys (l++[x])=kys l+x.length+1:=fun l x=>by induction l with|nil=>simp[kys]|cons y l c=>rw[yv,z6c,z6c,c];omega
  split at h;·cases h
  ·rename_i u i a;have A:kys i+8*u.length≤8*s.length+kys ks:=by
    split at a
    ·unfold zvr at a;split at a;·cases a
     ·rename_i k t b;have v:=zea b;have w:=z2u t;have z:=zz001 b;split at a;·cases a
      ·split at a;·cases a
       ·rename_i j g;have m:=take_len g;simp only[yao,yar]at m;simp only[Rs.ok.injEq,Prod.mk.injEq]at a;obtain⟨rfl,rfl⟩:=a;rw[app2];omega
    ·simp only[Rs.ok.injEq,Prod.mk.injEq]at a;obtain⟨rfl,rfl⟩:=a;omega
   split at h;·cases h
   ·rename_i C B q;have h2:=p _ _ _ q;split at h;·rename_i j b;have d:=take_len b;simp only[yao,yar]at d;simp only[Rs.ok.injEq,Prod.mk.injEq]at h;obtain⟨rfl,rfl⟩:=h;rw[q04.zal];simp only[app1,yar];omega
    ·split at h;·cases h
     ·rename_i j b;have d:=take_len b;simp only[yao,yar]at d;have n:=c _ _ _ _ _ h;rw[app1]at n;omega
theorem zyg{vf:Z→Rd}{o:Bool}{w:Nat}(b:∀s x r,vf s=.ok (x,r)→x.sz+8*r.length≤8*s.length){s r:Z}{x:J}(h:nest vf o w s=.ok (x,r)):x.sz+8*r.length≤8*s.length:=by
 unfold nest at h;split at h;·cases h
 ·split at h;·rename_i c a;have:=take_len a;simp only[Rs.ok.injEq,Prod.mk.injEq]at h;obtain⟨rfl,rfl⟩:=h;simp only[yao,yar]at this;simp only[q04.sz,szs,kys_nil,yar];omega
  ·exact zz025 b _ _ _ _ _ _ h
theorem zz08l{s r:Z}{x:J}(h:word s=.ok (x,r)):x.sz+8*r.length≤8*s.length:=by
 have hl:=zts h;unfold word at h;split at h;·simp only[Rs.ok.injEq,Prod.mk.injEq]at h;obtain⟨rfl,rfl⟩:=h;simp only[q04.sz,szs,kys_nil,yar];omega
 ·split at h;·simp only[Rs.ok.injEq,Prod.mk.injEq]at h;obtain⟨rfl,rfl⟩:=h;simp only[q04.sz,szs,kys_nil,yar];omega
  ·split at h;·simp only[Rs.ok.injEq,Prod.mk.injEq]at h;obtain⟨rfl,rfl⟩:=h;simp only[q04.sz,szs,kys_nil,yar];omega
   ·split at h;·cases h
    ·simp only[Rs.ok.injEq,Prod.mk.injEq]at h;obtain⟨rfl,rfl⟩:=h;have a:=z2u (s.drop (num s));have h2:=zo0 s;rw[yap]at a;simp only[q04.sz,szs,kys_nil,yar,yas];omega
theorem zz0bh:∀(f:Nat)(s:Z)(w:Nat)(x:J)(r:Z),val f s w=.ok (x,r)→x.sz+8*r.length≤8*s.length:=by intro f;induction f with|zero=>intro s w x r h;simp[val]at h|succ f d=>
  intro s w x r h;rw[val]at h;split at h;·rename_i t b a;have c:=zea a;have h2:=z2u b;have e:=zz001 a;simp only[Rs.ok.injEq,Prod.mk.injEq]at h;obtain⟨rfl,rfl⟩:=h;simp only[q04.sz,szs,kys_nil];omega
  ·split at h;·cases h
   ·split at h;·rename_i b a;have c:=take_len a;have h2:=zyg (fun s x r=>d s (w+1) x r) h;omega
    ·split at h;·rename_i b a;have c:=take_len a;have h2:=zyg (fun s x r=>d s (w+1) x r) h;omega
     ·exact zz08l h
theorem zgk(s:Z):(parse s).1.sz≤131072:=by
 unfold parse;have a:(⟨0,[],[],[]⟩:J).sz≤131072:=by decide
 split;·exact a
 ·rename_i hl;split;·exact a
  ·rename_i y r b;have c:=zz0bh _ _ _ _ _ b;have h2:=z2u s;split;·simp only;omega
   ·exact a
end
section
open Go.Lk Go.Pe
def zuv:J:=⟨0,[],[],[]⟩
def z56(v:J)(k:Z):J×Bool:=if v.zh=6 then match v.zn.findIdx? fun x=>decide (k=x)with|some j=>(match v.zg[j]? with|some x=>(x,true)|none=>(zuv,false))|none=>(zuv,false)else(zuv,false)
theorem z8p{v:J}{k:Z}(h:v.zn.length<1000000000):M.q3b v k=some (z56 v k):=by
 unfold M.q3b z56;rw[zsr (by omega)];simp only[ya,yc];by_cases a:v.zh=6;·simp only[a,decide_true,yq,if_true];grind[z3u,zuv]
 grind[zuv]
theorem zyd{v:J}{k:Z}(hl:v.zn.length<1000000000):∀(n i:Nat),v.zn.length-i=n→i≤v.zn.length→M.z3g v k (i:Int)=some (match(v.zn.drop i).findIdx? fun x=>decide (k=x)with|some j=>(match v.zg[i+j]? with|some x=>.done (x,true)|none=>.go ())|none=>.go ()):=by intro n;induction n with
 |zero=>
  intro i hn g;rw[M.z3g.eq_1];have:¬(i:Int)<(v.zn.length:Int):=by omega
  grind|succ n h=>
  intro i hn g;have b:i<v.zn.length:=by omega
  rw[M.z3g.eq_1];have f:(i:Int)<(v.zn.length:Int):=by omega
  rw[yz b,yaf];by_cases h2:i<v.zg.length
  ·have a:(i:Int)<(v.zg.length:Int):=by omega
   simp only[f,a,decide_true,Bool.and_true,if_true,z3u,yai b,yai h2,ya,yc];rw[w1 (by omega),h (i+1) (by omega) (by omega)];by_cases d:k=v.zn[i];·grind
   ·have c:¬v.zn[i]=k:=fun e=>d e.symm;simp only[d,c,decide_false,yk,if_false];cases(v.zn.drop (i+1)).findIdx? fun x=>decide (k=x)with|none=>rfl|some j=>grind
  ·have a:¬(i:Int)<(v.zg.length:Int):=by omega
   have nn:∀j,v.zg[i+j]?=none:=fun j=>yaj (by omega);rw[if_neg (by simp[a])];split;·grind
   ·rfl
theorem z4l{v:J}{k:Z}(h:v.zn.length<1000000000):M.q4o v k=some (z56 v k):=by
 unfold M.q4o z56;by_cases b:v.zh=6;·have a:=zyd (v:=v) (k:=k) h _ 0 rfl (ybb _);have a:M.z3g v k 0=_:=a;simp only[b,decide_true,yo,yk,if_false,if_true,a,yad,yba,ya,yc];cases v.zn.findIdx? fun x=>decide (k=x)with|none=>rfl|some j=>simp only;cases v.zg[j]? with|none=>rfl|some x=>rfl
 grind[zuv]
theorem zew(v:J)(k:Z):(z56 v k).1.sz≤v.sz:=by
 have c:=q04.zal v;have b:zuv.sz=1:=by decide
 unfold z56;split
 ·split
  ·split;·rename_i x a;have:=zix (List.mem_of_getElem? a);grind
   grind
  grind
 grind
def texts:List J→Option (List Z)|[]=>some []|x::l=>if x.zh=4 then(texts l).map (x.zq::·)else none
theorem znn{v:J}(hl:v.zg.length<1000000000):∀(n i:Nat)(acc:List Z),v.zg.length-i=n→i≤v.zg.length→acc.length+n<1000000000→M.z4e v acc (i:Int)=some (match texts (v.zg.drop i)with|some l=>.go (acc++l)|none=>.done ([],false)):=by
 intro n;induction n with|zero=>
  intro i acc hn e d;rw[M.z4e.eq_1];have:¬(i:Int)<(v.zg.length:Int):=by omega
  simp_all[if_neg,yaa,texts]|succ n f=>
  intro i acc hn e d;have a:i<v.zg.length:=by omega
  rw[M.z4e.eq_1];have c:(i:Int)<(v.zg.length:Int):=by omega
  simp only[c,decide_true,if_true,z3u,yai a,ya,yc];rw[yz a,texts];by_cases b:v.zg[i].zh=4;·simp only[b,decide_true,yo,yk,if_false,if_true];rw[z15 (by grind),w1 (by omega)];simp only[yc];rw[f (i+1) _ (by omega) (by omega) (by simp;omega)];grind
  ·simp[b]
theorem zqs{v:J}(hl:v.zg.length<1000000000):∀(n i:Nat)(acc:List Z),v.zg.length-i=n→i≤v.zg.length→acc.length+n<1000000000→M.z4y v acc (i:Int)=some (match texts (v.zg.drop i)with|some l=>.go (acc++l)|none=>.done ([],false)):=by
 intro n;induction n with|zero=>
  intro i acc hn e d;rw[M.z4y.eq_1];have:¬(i:Int)<(v.zg.length:Int):=by omega
  simp_all[if_neg,yaa,texts]|succ n f=>
  intro i acc hn e d;have a:i<v.zg.length:=by omega
  rw[M.z4y.eq_1];have c:(i:Int)<(v.zg.length:Int):=by omega
  simp only[c,decide_true,if_true,z3u,yai a,ya,yc];rw[yz a,texts];by_cases b:v.zg[i].zh=4;·simp only[b,decide_true,yo,yk,if_false,if_true];rw[z15 (by grind),w1 (by omega)];simp only[yc];rw[f (i+1) _ (by omega) (by omega) (by simp;omega)];grind
  ·simp[b]
def z8a(v:J):List Z×Bool:=if v.zh=5 then match texts v.zg with|some l=>(l,true)|none=>([],false)else([],false)
theorem z9v{v:J}(hl:v.zg.length<100000000):M.q3e v=some (z8a v):=by
 unfold M.q3e z8a;by_cases a:v.zh=5;·have b:=znn (v:=v) (by omega) _ 0 [] rfl (ybb _) (by simp;omega);grind
 ·simp[a]
theorem zfs{v:J}(hl:v.zg.length<100000000):M.q4t v=some (z8a v):=by
 unfold M.q4t z8a;by_cases a:v.zh=5;·have b:=zqs (v:=v) (by omega) _ 0 [] rfl (ybb _) (by simp;omega);grind
 ·simp[a]
theorem zrb(l:List Z)(hl:l.length<1000000000):∀(n i:Nat),l.length-i=n→i≤l.length→M.z1x l l (i:Int)=some (.go ()):=by intro n;induction n with|zero=>intro i hn c;rw[M.z1x.eq_1];grind|succ n d=>
  intro i hn c;have a:i<l.length:=by omega
  rw[M.z1x.eq_1];have b:(i:Int)<(l.length:Int):=by omega
  simp only[b,decide_true,if_true,z3u,yai a,ya,yc,yo,yk,if_false];grind[w1]
theorem z8j{l:List Z}(hl:l.length<1000000000):M.q4r l l=some true:=by unfold M.q4r;have:M.z1x l l 0=some (.go ()):=zrb l hl _ 0 rfl (ybb _);simp[this]
def zl4(a:Nat)(c:UInt8):Nat:=10*a+(c.toNat-48)
def z7w(a:Nat)(l:Z):Nat:=l.foldl zl4 a
theorem z6s(a:Nat)(c:UInt8):zl4 a c=10*a+(c.toNat-48):=rfl
theorem zgd(a:Nat):z7w a []=a:=rfl
theorem z8z(a:Nat)(c:UInt8)(r:Z):z7w a (c::r)=z7w (zl4 a c) r:=by rfl
theorem zsb(l:Z)(a:Nat)(c:UInt8):z7w a (l++[c])=zl4 (z7w a l) c:=by grind[z7w]
theorem zg4{c:UInt8}(h:isD c=true):48≤c.toNat∧c.toNat≤57:=by grind[isD]
theorem zel:∀(l:Z)(a k:Nat),(∀c∈l,isD c=true)→a<10^k→z7w a l<10^(k+l.length)
 |[],a,k,_,h=>by grind[zgd]|c::l,a,k,hd,h=>by
  have d:=zg4 (hd c (by simp));have h2:zl4 a c<10^(k+1):=by rw[z6s,ya9];omega
  have:=zel l _ (k+1) (fun x b=>hd x (by simp[b])) h2;grind[z8z]
theorem zz07p{a:Nat}{c:UInt8}{l:Z}(hd:isD c=true)(d:a<1000000000000000):Lib.parseUint10 a (c::l)=Lib.parseUint10 (zl4 a c) l:=by
 have b:=zg4 hd;have e:a*10+(c.toNat-48)=zl4 a c:=by rw[z6s];omega
 rw[Lib.parseUint10,e,if_pos b,if_neg (by omega),if_neg (by omega)]
@[reducible]def noN:Lib.NumEnd Nat:=Lib.parseMag []
theorem zz07q{a:Nat}{c:UInt8}{l:Z}(hd:isD c=false):Lib.parseUint10 a (c::l)=noN:=by
 have b:¬(48≤c.toNat∧c.toNat≤57):=fun x=>by grind[isD]
 rw[Lib.parseUint10,if_neg b];rfl
theorem zz07l{N:Nat}(i:N≤1000000000000000)(l:Z):∀a:Nat,(a+1)*10^l.length≤N→Lib.parseUint10 a l=if l.all isD=true then .ok (z7w a l)else noN:=by induction l with|nil=>intro a _;rfl|cons c l f=>
  intro a d;have b:0<10^l.length:=Nat.pow_pos (by decide)
  rw[yao,ya9]at d;cases hd:isD c with|true=>
   have g:=zg4 hd;have e:(a+1)*(10^l.length*10)=(10*a+10)*10^l.length:=by rw[Nat.mul_comm (10^l.length) 10,←Nat.mul_assoc];congr 1;omega
   rw[e]at d;have h:a+1≤(10*a+10)*10^l.length:=by have:=Nat.le_mul_of_pos_right (10*a+10) b;omega
   have h2:(zl4 a c+1)*10^l.length≤N:=by refine ya6 (Nat.mul_le_mul_right _ ?_) d;rw[z6s];omega
   rw[zz07p hd (by omega),f _ h2,ys,hd,z8z,yq]|false=>grind[zz07q]
theorem zcx{l:Z}(hl:l.length≤15):Lib.parseMag l=if l=[]then noN else if l.all isD=true then .ok (z7w 0 l)else noN:=by unfold Lib.parseMag;rw[zz07l (N:=10^15) (by decide) l 0 (by rw[yba,Nat.one_mul];exact ya8 (by decide) hl)];rfl
theorem zo1{c:UInt8}(h:isD c=true):ybe (48+(c.toNat-48))=c:=by simp_all[zg4]
theorem zpo{n:Nat}(h:n<10):isD (ybe (48+n))=true∧(ybe (48+n)=48→n=0):=by
 have tab:∀n:Fin 10,isD (ybe (48+n.val))=true∧(ybe (48+n.val)=48→n.val=0):=by decide
 exact tab ⟨n,h⟩
theorem z3n:∀(n u:Nat),u≤n→(∀c∈Lib.decDigits u,isD c=true)∧¬Lib.decDigits u=[]∧((Lib.decDigits u).head?=some 48→u=0)
 |n,u,a=>by
  rw[Lib.decDigits];by_cases h:u<10
  ·rw[dif_pos h];refine⟨fun c d=>?_,List.cons_ne_nil _ _,fun b=>?_⟩;·grind[zpo]
   grind[zpo]
  ·rw[dif_neg h];match n,a with
   |n+1,a=>
    obtain⟨e,h2,f⟩:=z3n n (u/10) (by omega);refine⟨fun c d=>?_,by simp,fun b=>?_⟩;·grind[zpo]
    ·rw[zz01s,if_neg h2]at b;grind|0,a=>omega
theorem zsc:∀(l:Z)(a:Nat),0<a→0<z7w a l|[],a,h=>h|c::l,a,h=>zsc l _ (by rw[z6s];omega)
theorem z9j:∀(n:Nat)(l:Z),l.length=n→(∀c∈l,isD c=true)→¬l=[]→(l.head?=some 48→l.length=1)→Lib.decDigits (z7w 0 l)=l:=by intro n;induction n with|zero=>simp|succ n j=>
  intro g hn hd b s;obtain⟨l,c,rfl⟩:∃l c,g=l++[c]:=⟨g.dropLast,g.getLast b,(List.dropLast_concat_getLast b).symm⟩;have f:l.length=n:=by simpa using hn
  rw[zsb,z6s];have h:=hd c (by simp);have hn:=zg4 h;by_cases hl:l=[];·subst hl;rw[zgd,Lib.decDigits,dif_pos (by omega)];grind[zo1]
  ·have a:¬l.head?=some 48:=fun e=>by grind
   have k:=j l f (fun x i=>hd x (by simp[i])) hl fun e=>absurd e a;have t:0<z7w 0 l:=by cases l with|nil=>grind|cons d r=>have p:=zg4 (hd d (by simp));have h2:¬d=48:=fun e=>a (by rw[e];rfl);have q:¬d.toNat=48:=fun e=>h2 (by rw[show(48:UInt8)=ybe 48 from rfl,←e];simp);grind[z8z,zsc,z6s]
   rw[Lib.decDigits,dif_neg (by omega)];have m:(10*z7w 0 l+(c.toNat-48))/10=z7w 0 l:=by omega
   have o:(10*z7w 0 l+(c.toNat-48))%10=c.toNat-48:=by omega
   grind[zo1]
def mag(t:Z):Z:=if t.head?=some 45 then t.drop 1 else t
def way(t:Z):Int:=if t.head?=some 45 then-1 else 1
def canon(t:Z):Bool:=!decide (mag t=[])&&(mag t).all isD&&decide ((mag t).length≤15)&&!(decide ((mag t).head?=some 48)&&(decide (1<(mag t).length)||decide (way t<0)))
def intOf(v:J):Int×Bool:=if v.zh=3∧canon v.zq=true then(way v.zq*(z7w 0 (mag v.zq):Int),true)else(0,false)
theorem zya(t:Z):(mag t).length≤t.length:=by grind[mag]
theorem zq5{v:J}(h:v.zq.length<1000000000):M.q3a v=some (intOf v):=by
 unfold M.q3a intOf;rw[za6,z6u];have G:(if decide (v.zq.head?=some 45)=true then v.zq.drop ([45]:Z).length else v.zq)=mag v.zq:=by unfold mag;by_cases K:v.zq.head?=some 45<;>simp[K]
 rw[G];simp only[ya,yc];generalize P:v.zq=t at*;have N:=zya t;by_cases H:v.zh=3
 ·simp only[H,decide_true,yo,yk,if_false,true_and];by_cases hl:(mag t).length≤15
  ·have l:¬(15:Int)<((mag t).length:Int):=by omega
   simp only[l,decide_false,yk,if_false];unfold M.atoi;rw[z3a (by simp;omega)];simp only[ya,yc];have j:(10:Nat)^(0+(mag t).length)≤10^15:=ya8 (by decide) (by omega);have D:(10:Nat)^15=1000000000000000:=by decide
   have itoa_ok:∀n:Int,-1000000000000000≤n→n≤1000000000000000→M.itoa n=some (Lib.itoa n):=fun n O h2=>by unfold M.itoa;rw[z3a (by grind)];rfl
   have u:=zcx hl;cases t with|nil=>rfl|cons c r=>
    unfold Lib.atoiAll;have A:c.toNat=43↔c=43:=by have:=toNat_eq (b:=c) (n:=43) (by omega);rw[show ybe 43=43 from rfl]at this;rw[←this];omega
    have B:c.toNat=45↔c=45:=by have:=toNat_eq (b:=c) (n:=45) (by omega);rw[show ybe 45=45 from rfl]at this;rw[←this];omega
    simp only[A,B];by_cases d:c=45
    ·subst d;have f:mag (45::r)=r:=by simp[mag]
     have s:way (45::r)=-1:=by simp[way]
     rw[f]at u j hl;simp only[or_true,if_true];rw[u];by_cases m:r=[];·simp[m,canon,mag,noN,Lib.parseMag]
     ·rw[if_neg m];by_cases hd:r.all isD=true
      ·rw[if_pos hd];have a:∀c∈r,isD c=true:=by simpa using hd
       have q:=zel r 0 0 a (by decide);simp only[not_true_eq_false,false_and,if_false,true_and];rw[if_neg (by omega)];simp only[if_true,yc,yo,yk,if_false];rw[itoa_ok _ (by omega) (by omega)];simp only[yc];have i:canon (45::r)=!decide (r.head?=some 48):=by unfold canon;rw[f,s,hd];simp[m,hl]
       rw[i,f,s];by_cases g:r.head?=some 48
       ·have:¬Lib.itoa (-(z7w 0 r:Int))=45::r:=by
         intro e;unfold Lib.itoa at e;split at e;·rename_i C;injection e with _ e;have k:=(z3n _ _ (ya5 (-(z7w 0 r:Int)).natAbs)).2.2;grind
         ·have k:=(z3n _ _ (ya5 (-(z7w 0 r:Int)).toNat)).1 45 (by rw[e];simp);simp[isD]at k
        grind
       ·have F:Lib.decDigits (z7w 0 r)=r:=z9j _ r rfl a m fun e=>absurd e g;have E:0<z7w 0 r:=by
         rcases Nat.eq_zero_or_pos (z7w 0 r)with w|w;·exfalso;rw[w]at F;grind[Lib.decDigits]
         ·exact w
        simp_all[Lib.itoa]
      ·have i:canon (45::r)=false:=by unfold canon;rw[f];simp[hd]
       simp_all[if_neg,Lib.parseMag]
    ·have f:mag (c::r)=c::r:=by simp[mag,d]
     have s:way (c::r)=1:=by simp[way,d]
     rw[f]at u j hl;by_cases o:c=43
     ·subst o;have i:canon (43::r)=false:=by unfold canon;rw[f];simp[isD]
      simp only[d,or_false,if_true,i,yk,if_false];have z:r.length≤15:=by simp at hl;omega
      rw[zcx z];by_cases m:r=[];·simp[m,noN,Lib.parseMag]
      ·rw[if_neg m];by_cases hd:r.all isD=true
       ·rw[if_pos hd];have a:∀c∈r,isD c=true:=by simpa using hd
        have q:=zel r 0 0 a (by decide);have y:(10:Nat)^(0+r.length)≤10^15:=ya8 (by decide) (by omega);simp only[not_false_eq_true,true_and,if_false,false_and];rw[if_neg (by omega)];simp only[yc,yo,yk,if_false];rw[itoa_ok _ (by omega) (by omega)];have:¬Lib.itoa (z7w 0 r:Int)=43::r:=by intro e;unfold Lib.itoa at e;rw[if_neg (by omega)]at e;have k:=(z3n _ _ (ya5 (z7w 0 r:Int).toNat)).1 43 (by rw[e];simp);simp[isD]at k
        simp[this]
       simp_all[if_neg,Lib.parseMag]
     ·simp only[d,o,or_self,if_false];rw[u,if_neg (by simp)];by_cases hd:(c::r).all isD=true
      ·rw[if_pos hd];have a:∀x∈c::r,isD x=true:=by simpa using hd
       have q:=zel (c::r) 0 0 a (by decide);simp only[not_false_eq_true,true_and,if_false,false_and];rw[if_neg (by omega)];simp only[yc,yo,yk,if_false];rw[itoa_ok _ (by omega) (by omega)];have i:canon (c::r)=!(decide (c=48)&&decide (1<(c::r).length)):=by unfold canon;rw[f,s,hd];simp at hl;simp[hl]
       have L:Lib.itoa (z7w 0 (c::r):Int)=Lib.decDigits (z7w 0 (c::r)):=by unfold Lib.itoa;rw[if_neg (by omega)];rfl
       rw[i,f,s,L];simp only[yc];by_cases g:c=48∧1<(c::r).length
       ·have:¬Lib.decDigits (z7w 0 (c::r))=c::r:=by intro e;have k:=(z3n _ _ (ya5 (z7w 0 (c::r)))).2.2;rw[e]at k;have I:=k (by grind);rw[I,Lib.decDigits]at e;rw[←e]at g;simp at g
        grind
       ·have F:Lib.decDigits (z7w 0 (c::r))=c::r:=z9j _ _ rfl a (by simp) (fun e=>by grind);grind
      ·have i:canon (c::r)=false:=by unfold canon;rw[f];simp only[yl]at hd;rw[hd];simp
       simp_all[if_neg,Lib.parseMag]
  ·have l:(15:Int)<((mag t).length:Int):=by omega
   have i:canon t=false:=by unfold canon;simp[hl]
   simp only[l,decide_true,if_true,i];grind[M.atoi,z3a]
 ·have:∃p,M.atoi t=some p:=by unfold M.atoi;rw[z3a (by simp;omega)];simp only[ya,yc];rcases Lib.atoiAll t with n|_|_<;>exact⟨_,rfl⟩
  grind
theorem zz0{s:Z}{w:Int}(d:w=1∨w=-1)(t:s.length<1000000000):∀(n i a:Nat),s.length-i=n→i≤s.length→a<10^i→i≤15→M.z61 (s,w) (w*(a:Int)) (i:Int)=some (if((s.drop i).all isD&&decide (s.length≤15))=true then .go (w*(z7w a (s.drop i):Int))else .done (0,false)):=by
 intro n;induction n with|zero=>
  intro i a hn q p c;rw[M.z61.eq_1];have:¬(i:Int)<(s.length:Int):=by omega
  have h2:s.length≤15:=by omega
  simp_all[if_neg,yaa,zgd]|succ n r=>
  intro i a hn q p c;have b:i<s.length:=by omega
  rw[M.z61.eq_1];have o:(i:Int)<(s.length:Int):=by omega
  simp only[o,decide_true,if_true,z3u,yai b,ya,yc,z43];rw[yz b,ys,z8z];by_cases hd:isD s[i]=true
  ·by_cases e:15≤i;·grind
   ·have h2:¬(15:Int)≤(i:Int):=by omega
    have hn:=zg4 hd;have g:10^i≤10^14:=ya8 (by decide) (by omega);have f:(10:Nat)^14=100000000000000:=by decide
    simp only[hd,yo,h2,decide_false,Bool.or_false,yk,if_false,yq];have h:ybd .u8 ((s[i].toNat:Int)-48)=((s[i].toNat-48:Nat):Int):=by rw[wu8];omega
    have j:ybd .i64 ((s[i].toNat-48:Nat):Int)=((s[i].toNat-48:Nat):Int):=w64 (by omega) (by omega);have k:ybd .i64 (w*((s[i].toNat-48:Nat):Int))=w*((s[i].toNat-48:Nat):Int):=by rcases d with rfl|rfl<;>(grind[w64])
    have l:ybd .i64 (10*(w*(a:Int)))=10*(w*(a:Int)):=by rcases d with rfl|rfl<;>(grind[w64])
    have m:ybd .i64 (10*(w*(a:Int))+w*((s[i].toNat-48:Nat):Int))=w*((zl4 a s[i]:Nat):Int):=by rw[z6s];rcases d with rfl|rfl<;>(grind[w64])
    rw[h,j,k,l,m,w1 (by omega)];exact r (i+1) _ (by omega) (by omega) (by rw[z6s,ya9];omega) (by omega)
  ·simp[hd]
theorem zv5{v:J}(h:v.zq.length<1000000000):M.q4n v=some (intOf v):=by
 unfold M.q4n intOf;by_cases k:v.zh=3
 ·simp only[k,decide_true,yo,yk,if_false,true_and];generalize v.zq=t at*;have u:(if(!decide (t=([]:Z)))=true then(ix t 0).bind fun c_17=>some (decide ((c_17.toNat:Int)=45))else some false)=some (decide (t.head?=some 45)):=by cases t with|nil=>rfl|cons c r=>have j:(c.toNat:Int)=45↔c=45:=toNat_eq (n:=45) (by omega);simp[zuo,j]
  simp only[ya];rw[u];simp only[yc];have g:(if decide (t.head?=some 45)=true then(sub t 1 (t.length:Int)).bind fun s_18=>some (s_18,(-1:Int))else some (t,1))=some (mag t,way t):=by
   unfold mag way;by_cases q:t.head?=some 45;·have:sub t 1 (t.length:Int)=some (t.drop 1):=zcb (a:=1) (by grind);grind
   ·simp[q]
  rw[g];simp only[yc];have x:=zya t;have y:way t=1∨way t=-1:=by unfold way;split<;>simp
  have e:=zz0 (s:=mag t) y (by omega) _ 0 0 rfl (ybb _) (by decide) (by omega);have z:way t*((0:Nat):Int)=0:=by simp
  rw[z]at e;have e:M.z61 (mag t,way t) 0 0=_:=e;rw[e];simp only[yad,yc];unfold canon;generalize mag t=m at*;generalize way t=w at*;by_cases f:(m.all isD&&decide (m.length≤15))=true;·rw[if_pos f];simp only;rw[yh]at f;obtain⟨l,o⟩:=f;rw[l,o];cases m with|nil=>simp|cons c r=>
    have j:(c.toNat:Int)=48↔c=48:=toNat_eq (n:=48) (by omega);have p:c::r=([]:Z)↔False:=by simp
    have A:(1:Int)<(((c::r).length:Nat):Int)↔1<(c::r).length:=by omega
    simp only[p,decide_false,yk,if_false,zuo,yah,yc,j,A,yn,yq,yal,Option.some.injEq];by_cases b:c=48;·cases r with|nil=>by_cases i:w<0<;>simp[b,i]|cons d r=>simp[b]
    ·simp[b]
  grind
 ·simp[k]
end
section
open Go.Lk Go.Pe
theorem seek{α R X:Type}{l:List α}{p:α→Bool}{F:Int→Option (Jn R X)}(d:Nat→R)(a:X)(hl:l.length<1152921504606846976)(hF:∀(i:Nat)(h:i<l.length),F (i:Int)=if p l[i]=true then some (.done (d i))else F (ybd .i64 ((i:Int)+1)))(e:F (l.length:Int)=some (.go a)):F 0=some (match l.findIdx? p with|some i=>.done (d i)|none=>.go a):=by
 have key:∀(n i:Nat),l.length-i=n→i≤l.length→F (i:Int)=some (match(l.drop i).findIdx? p with|some k=>.done (d (i+k))|none=>.go a):=by
  intro n
  induction n with|zero=>
   intro i c h2;have:i=l.length:=by omega
   subst this;simp[e]|succ n f=>
   intro i c h2;have b:i<l.length:=by omega
   rw[hF i b,zsa b,yaf];cases g:p l[i]with|true=>simp|false=>rw[w1 (by omega),f (i+1) (by omega) (by omega)];simp only[yk,if_false];cases(l.drop (i+1)).findIdx? p with|none=>rfl|some k=>simp[ya2,Nat.add_comm 1 k]
 have:=key _ 0 rfl (ybb _);simpa using this
theorem zsl{α:Type}(l:List α)(p:α→Bool):l.findIdx? (fun x=>!p x)=none∧l.all p=true∨∃i,l.findIdx? (fun x=>!p x)=some i∧l.all p=false:=by
 have e:l.all p=! l.any fun x=>!p x:=by rw[List.all_eq_not_any_not]
 have:=List.findIdx?_isSome (xs:=l) (p:=fun x=>!p x);cases h:l.findIdx? fun x=>!p x with|none=>rw[h]at this;exact .inl ⟨rfl,by rw[e,←this];rfl⟩|some i=>rw[h]at this;exact .inr ⟨i,rfl,by rw[e,←this];rfl⟩
theorem zj2{l cs:Z}:decide (Lib.trimS l cs=[])=l.all cs.contains:=by rw[yj,decide_eq_true_iff,zp3,yt]
theorem zjq{l cs:Z}(hl:l.length≤9223372036854775807)(a:(decide (cs.length<4294967281)&&cs.all fun b=>decide (b.toNat<128))=true):M.trim l cs=some (Lib.trimS l cs):=by
 unfold M.trim;rw[z3a];·rfl
 ·simp only[yh]at a⊢;exact⟨by simpa using hl,a⟩
def zb8(c a:Nat)(s:Z):Bool:=s.all fun b=>decide (c≤b.toNat)&&decide (b.toNat≤a)
theorem z8h{s:Z}(d c:Nat)(k:s.length<1152921504606846976):M.q22 s (d:Int) (c:Int)=some (zb8 d c s):=by
 unfold M.q22;have j:M.z4x s (d:Int) (c:Int) 0=some (match s.findIdx? fun b=>!(decide (d≤b.toNat)&&decide (b.toNat≤c))with|some i=>.done false|none=>.go ()):=by
  refine seek (fun _=>false) () k (fun i h=>?_) ?_
  ·rw[M.z4x];have e:(i:Int)<(s.length:Int):=by omega
   simp only[e,decide_true,if_true,z3u,yai h,ya,yc];by_cases a:d≤s[i].toNat
   ·have f:¬(s[i].toNat:Int)<(d:Int):=by omega
    by_cases b:s[i].toNat≤c
    ·have g:¬(c:Int)<(s[i].toNat:Int):=by omega
     simp[a,f,b,g]
    ·have g:(c:Int)<(s[i].toNat:Int):=by omega
     simp[a,f,b,g]
   ·have f:(s[i].toNat:Int)<(d:Int):=by omega
    simp[a,f]
  ·rw[M.z4x];simp
 simp only[ya,j,yc];unfold zb8;rcases zsl s fun b=>decide (d≤b.toNat)&&decide (b.toNat≤c)with⟨e,h2⟩|⟨i,e,h2⟩;·rw[e,h2]
 ·rw[e,h2]
def isA(b:UInt8):Bool:=decide (65≤b.toNat)&&decide (b.toNat≤90)
def zds(s:Z):Bool:=!decide (s=[])&&decide (s.length≤8)&&s.all isA
def z9i:Z:=[65,66,67,68,69,70,71,72,73,74,75,76,77,78,79,80,81,82,83,84,85,86,87,88,89,90]
theorem zz013:∀b:UInt8,z9i.contains b=isA b:=z6a (by decide+kernel)
theorem zcd(s:Z):M.q1r s=some (zds s):=by
 unfold M.q1r zds;by_cases h:s=[];·subst h;simp
 ·by_cases d:s.length≤8
  ·have e:M.trim s z9i=some (Lib.trimS s z9i):=zjq (by omega) (by decide);have c:decide (Lib.trimS s z9i=[])=s.all isA:=by rw[zj2];congr 1;funext b;exact zz013 b
   have a:(s.length:Int)≤8:=by omega
   unfold z9i at e c;simp[h,a,d,e];simpa using c
  ·have a:¬(s.length:Int)≤8:=by omega
   simp[a,d]
def isN(b:UInt8):Bool:=decide (97≤b.toNat)&&decide (b.toNat≤122)||isD b||decide (b=45)
def zss(s:Z):Bool:=!decide (s=[])&&decide (s.length≤32)&&s.all isN
def smls:Z:=[97,98,99,100,101,102,103,104,105,106,107,108,109,110,111,112,113,114,115,116,117,118,119,120,121,122,48,49,50,51,52,53,54,55,56,57,45]
theorem zz03a:∀b:UInt8,smls.contains b=isN b:=z6a (by decide+kernel)
theorem zfk(s:Z):M.q1t s=some (zss s):=by
 unfold M.q1t zss;by_cases h:s=[];·subst h;simp
 ·by_cases d:s.length≤32
  ·have e:M.trim s smls=some (Lib.trimS s smls):=zjq (by omega) (by decide);have c:decide (Lib.trimS s smls=[])=s.all isN:=by rw[zj2];congr 1;funext b;exact zz03a b
   have a:(s.length:Int)≤32:=by omega
   unfold smls at e c;simp[h,a,d,e];simpa using c
  ·have a:¬(s.length:Int)≤32:=by omega
   simp[a,d]
def bare(s:Z):Z:=Lib.trimS s [32]
def isVal(s:Z):Bool:=zb8 32 126 s&&decide (bare s=s)
theorem zdr{s:Z}(b:s.length<1152921504606846976):M.q2x s=some (isVal s):=by
 unfold M.q2x isVal;have a:M.q22 s 32 126=some (zb8 32 126 s):=z8h 32 126 b;have h2:M.trim s [32]=some (Lib.trimS s [32]):=zjq (by omega) (by decide);rw[a];cases h:zb8 32 126 s;·simp
 ·simp only[ya,yc,if_true,h2,yq,bare];exact congrArg some (decide_eq_decide.2 Iff.rfl)
def isNum(k:Nat)(s:Z):Bool:=!decide (s=[])&&s.all isD&&decide (s.length≤k)&&(!decide (s.head?=some 48)||decide (s.length=1))
def numV(s:Z):Int:=match Lib.atoiAll s with|.ok v=>v|.range=>Lib.atoiSat s|_=>0
theorem z5p(n:Nat):Lib.itoa (n:Int)=Lib.decDigits n:=by unfold Lib.itoa;rw[if_neg (by omega)];simp
theorem zru{n:Nat}(h:n<1000000000000000000):M.itoa (n:Int)=some (Lib.decDigits n):=by unfold M.itoa;rw[z3a (by simp;omega),z5p];rfl
theorem pow15{n:Nat}(h:n≤15):10^n≤1000000000000000:=by have:=ya8 (n:=10) (by decide) h;omega
theorem zhu{k:Nat}{s:Z}(h:isNum k s=true)(i:k≤15):Lib.atoiAll s=.ok ((z7w 0 s:Nat):Int)∧z7w 0 s<10^s.length∧Lib.decDigits (z7w 0 s)=s:=by
 unfold isNum at h;simp only[yh,ym,decide_eq_false_iff_not,decide_eq_true_eq,yp]at h;obtain⟨⟨⟨d,h2⟩,f⟩,a⟩:=h;have hd:∀c∈s,isD c=true:=yt.1 h2;have b:=zel s 0 0 hd (by decide);rw[yba]at b;have j:=pow15 (n:=s.length) (by omega);refine⟨?_,b,z9j _ s rfl hd d fun e=>?_⟩;·cases s with|nil=>exact absurd rfl d|cons c r=>have g:=zg4 (hd c (by simp));unfold Lib.atoiAll;simp only;rw[if_neg (by omega),zcx (by omega),if_neg d,if_pos h2];simp only;rw[if_neg (by omega),if_neg (by omega),if_neg (by omega)]
 ·rcases a with a|a;·exact absurd e a
  ·exact a
theorem zz07i{k:Nat}{s:Z}(h:isNum k s=false)(l:k≤15)(hl:s.length≤k):∀v,Lib.atoiAll s=.ok v→0≤v→Lib.itoa v≠s:=by
 intro v m j a;obtain⟨n,rfl⟩:∃n:Nat,v=n:=⟨v.toNat,by omega⟩;rw[z5p]at a;obtain⟨c,d,e⟩:=z3n n n (ya5 _);rw[a]at c d e;have f:s.all isD=true:=yt.2 c;unfold isNum at h;have b:¬(¬s.head?=some 48∨s.length=1):=fun b=>by
  have:(!decide (s.head?=some 48)||decide (s.length=1))=true:=by simpa using b
  rw[f,this]at h;simp[d,hl]at h
 have g:=e (Classical.byContradiction fun q=>b (.inl q));subst g;have:Lib.decDigits 0=[48]:=Lib.decDigits_one (i:=0) (by decide);rw[this]at a;exact b (.inr (by rw[←a];rfl))
theorem z6t{s:Z}(k:Nat)(d:k≤15)(i:s.length≤281474976710656):∃v,M.q1w s (k:Int)=some (v,isNum k s)∧(isNum k s=true→v=((z7w 0 s:Nat):Int)):=by
 unfold M.q1w;have h:M.atoi s=match Lib.atoiAll s with|.ok v=>some (v,true)|.range=>some (Lib.atoiSat s,false)|_=>some (0,false):=by unfold M.atoi;rw[z3a (by simpa using i)];rfl
 rw[h];cases hn:isNum k s with|true=>
  obtain⟨f,h2,g⟩:=zhu hn d;have l:=pow15 (n:=s.length) (by unfold isNum at hn;simp at hn;omega);have hl:(s.length:Int)≤(k:Int):=by unfold isNum at hn;simp at hn;omega
  refine⟨((z7w 0 s:Nat):Int),?_,fun _=>rfl⟩;rw[f];have a:(0:Int)≤((z7w 0 s:Nat):Int):=by omega
  simp only[ya,yc,yq,hl,a,decide_true,if_true,Bool.and_self];rw[zru (by omega)];simp[g]|false=>
  have c:=zz07i hn d;rcases e:Lib.atoiAll s with v|_|_
  ·refine⟨v,?_,fun q=>by cases q⟩;simp only[ya,yc,yq];by_cases hl:(s.length:Int)≤(k:Int)
   ·by_cases a:(0:Int)≤v;·have b:=c (by omega) v e a;obtain⟨n,rfl⟩:∃n:Nat,v=n:=⟨v.toNat,by omega⟩;have j:=Lib.atoiAll_bounds e;simp only[hl,a,decide_true,Bool.and_self,if_true];unfold M.itoa;rw[z3a (by simp;omega)];simp[b]
    ·simp[a]
   ·simp[hl]
  ·exact⟨_,rfl,fun q=>by cases q⟩
  ·exact⟨_,rfl,fun q=>by cases q⟩
end
section
open Go.Lk Go.Pe
def z22:Z→Option Z|[]=>some []|c::r=>if c=37 then(match r with
  |x::y::t=>match z74 x,z74 y with|some a,some b=>(z22 t).map (ybe (16*a+b)::·)|_,_=>none
  |_=>none)else(z22 r).map (c::·)
theorem zk8{c:UInt8}(h:¬c=37)(r:Z):z22 (c::r)=(z22 r).map (c::·):=by
 conv=>lhs;unfold z22
 rw[if_neg h]
theorem zhk(x y:UInt8)(t:Z):z22 (37::x::y::t)=match z74 x,z74 y with|some a,some b=>(z22 t).map (ybe (16*a+b)::·)|_,_=>none:=by
 conv=>lhs;unfold z22
 rw[if_pos rfl]
theorem znc:z22 [37]=none:=by unfold z22;rfl
theorem znd(x:UInt8):z22 [37,x]=none:=by unfold z22;rfl
theorem zhj:∀(n:Nat)(s t:Z),s.length≤n→z22 s=some t→t.length≤s.length:=by intro n;induction n with|zero=>intro s t hn h;have:s=[]:=yae (by omega);subst this;cases h;simp|succ n i=>intro s t hn h;cases s with|nil=>cases h;simp|cons c r=>
   simp only[yao]at hn;by_cases f:c=37;·subst f;match r,hn,h with|[],_,h=>rw[znc]at h;cases h|[x],_,h=>rw[znd]at h;cases h|x::y::q,hn,h=>rw[zhk]at h;cases e:z74 x with|none=>rw[e]at h;simp at h|some a=>cases g:z74 y with|none=>rw[e,g]at h;simp at h|some b=>rw[e,g]at h;simp only[ye]at h;obtain⟨u,d,rfl⟩:=h;simp only[yao]at hn⊢;have:=i q u (by omega) d;omega
   ·rw[zk8 f]at h;simp only[ye]at h;obtain⟨u,d,rfl⟩:=h;have:=i r u (by omega) d;simp;omega
theorem zhi:∀s:Z,((z2j 37 s).2.2=false→z22 s=some s∧(z2j 37 s).1=s)∧((z2j 37 s).2.2=true→z22 s=(z22 (37::(z2j 37 s).2.1)).map ((z2j 37 s).1++·))
 |[]=>by simp[z2j,z22]|c::r=>by
  have b:=zhi r;rw[z5m];by_cases a:c=37;·subst a;simp
  ·rw[if_neg a,zk8 a];refine⟨fun h=>?_,fun h=>?_⟩;·obtain⟨d,h2⟩:=b.1 h;rw[d];simp[h2]
   ·rw[b.2 h,Option.map_map];rfl
def zd3:Z:=[48,49,50,51,52,53,54,55,56,57,97,98,99,100,101,102,95,95,95,95,95,95,95,95,95,95,65,66,67,68,69,70]
def ixS(c:UInt8):Int:=Lib.idxFunc (fun r=>decide ((r:Int)%256=(c.toNat:Int))) true ⟨zd3.toArray⟩
theorem zxr:∀c:UInt8,(match z74 c with|some d=>decide (0≤ixS c)&&decide (ybc (ixS c) 16=(d:Int))&&decide (c.toNat<128)&&!decide (c=95)|none=>decide (ixS c<0)||decide (c=95))=true:=z6a (by decide+kernel)
theorem zz08b:∀a b:Fin 16,ybd .u8 (orI .i64 (z7r .i64 ((a.val:Nat):Int) 4) ((b.val:Nat):Int))=((16*a.val+b.val:Nat):Int):=by decide+kernel
theorem zdt{c:UInt8}{d:Nat}(h:z74 c=some d):0≤ixS c∧ybc (ixS c) 16=(d:Int)∧c.toNat<128∧¬c=95:=by have:=zxr c;rw[h]at this;simp only[yh,decide_eq_true_eq,ym,decide_eq_false_iff_not]at this;exact⟨this.1.1.1,this.1.1.2,this.1.2,this.2⟩
theorem zlm{c:UInt8}(h:z74 c=none):ixS c<0∨c=95:=by have:=zxr c;rw[h]at this;simpa using this
theorem zxq{c:UInt8}(h:0≤ixS c):c.toNat<128:=by cases b:z74 c with|some d=>exact(zdt b).2.2.1|none=>
  rcases zlm b with a|a;·omega
  ·subst a;decide
theorem M_ixS(c:UInt8):M.z16 zd3 (c.toNat:Int)=some (ixS c):=by unfold M.z16 ixS;rfl
theorem zz00r(x y:UInt8)(t:Z):M.q0o (x::y::t) zd3=some (ybd .u8 (orI .i64 (z7r .i64 (ybc (ixS x) 16) 4) (ybc (ixS y) 16)),decide (0≤ixS x)&&decide (0≤ixS y)):=by
 unfold M.q0o;have h:¬((x::y::t).length:Int)<2:=by simp;omega
 simp only[h,decide_false,yk,if_false,zuo,ix_1,yah,yag,ya,yc,M_ixS]
theorem zgy(s cs:Z):Lib.containsAny s cs=s.any cs.contains:=by unfold Lib.containsAny;induction s with|nil=>simp[Lib.indexAny]|cons b l d=>have c:=Lib.indexAny_ge cs l;rw[Lib.indexAny,List.any_cons,←d];cases h:cs.contains b with|true=>simp|false=>
   simp only[yk,if_false,Bool.false_or];by_cases a:Lib.indexAny l cs=-1;·simp[a]
   ·rw[if_neg (by simpa using a),yj,decide_eq_true_iff,decide_eq_true_iff];omega
theorem M_two{x y:UInt8}(a:x.toNat<128)(b:y.toNat<128):M.containsAny [x,y] [95]=some (decide (x=95)||decide (y=95)):=by unfold M.containsAny;rw[z3a (by simp[a,b]),zgy];simp[yj,eq_comm]
theorem z1a{a b:Z}(h:a.length+b.length<1000000000000):M.q78 (unb a) b=some ((b.length:Int),unb (a++b)):=by rw[z2t (by rw[z0s];omega),z29]
theorem zjd:∀(n:Nat)(s a:Z),s.length≤n→a.length+s.length<4294967281→M.z1f s (unb a)=some (match z22 s with|some t=>(a++t,0)|none=>([],12)):=by intro n;induction n with|zero=>intro s a hn hl;have:s=[]:=yae (by omega);subst this;rw[M.z1f,ztu 37 (by simp)];simp only[cutb_nil,ya,yc];rw[z1a (by simp at hl⊢;omega)];simp[z39,z22]|succ n A=>intro s a hn hl;have o:=z8f 37 s;have hf:=zhi s;rw[M.z1f,ztu 37 (by omega)];simp only[ya,yc];rw[z1a (by omega)];simp only[yc];cases m:(z2j 37 s).2.2 with|false=>obtain⟨j,h2⟩:=hf.1 m;simp only[yn,if_true];rw[z39,j,h2];rfl|true=>have j:=hf.2 m;have b:=o.2 m;simp only[yo,yk,if_false];obtain⟨p,v⟩:∃p,(z2j 37 s).1=p:=⟨_,rfl⟩;obtain⟨r,w⟩:∃r,(z2j 37 s).2.1=r:=⟨_,rfl⟩;rw[v,w]at j b;rw[v,w,j];have G:([48,49,50,51,52,53,54,55,56,57,97,98,99,100,101,102,95,95,95,95,95,95,95,95,95,95,65,66,67,68,69,70]:Z)=zd3:=rfl;rw[G];match r,b with
   |[],_=>
    have:M.q0o [] zd3=some (0,false):=by simp[M.q0o]
    simp[this,znc]|[x],_=>
    have:M.q0o [x] zd3=some (0,false):=by simp[M.q0o]
    simp[this,znd]|x::y::t,b=>
    simp only[yao]at b;rw[zz00r,zhk];simp only[yc];have g:sub (x::y::t) 0 2=some [x,y]:=by have:=ze9 (l:=x::y::t) (a:=2) (by simp);simpa using this
    have c:sub (x::y::t) 2 ((x::y::t).length:Int)=some t:=by have:=zcb (l:=x::y::t) (a:=2) (by simp);simpa using this
    by_cases f:0≤ixS x∧0≤ixS y
    ·have k:(decide (0≤ixS x)&&decide (0≤ixS y))=true:=by simp[f]
     simp only[k,yo,yk,if_false,g,yc];rw[M_two (zxq f.1) (zxq f.2)];simp only[yc];cases h:z74 x with|none=>have:x=95:=(zlm h).resolve_left (by omega);simp[this]|some d=>cases i:z74 y with|none=>have:y=95:=(zlm i).resolve_left (by omega);simp[this]|some e=>
       obtain⟨_,C,_,u⟩:=zdt h;obtain⟨_,D,_,E⟩:=zdt i;have B:=z5s x d h;have l2:=z5s y e i;have z:=zz08b ⟨d,B⟩ ⟨e,l2⟩;simp only[u,E,decide_false,Bool.or_self,yk,if_false,C,D];simp only at z;rw[z];have F:((16*d+e:Nat):Int)=((ybe (16*d+e)).toNat:Int):=by simp;omega
       rw[F,z1z (by rw[z0s,yan];omega)];simp only[yc,c];rw[zrk,←z29,A t _ (by omega) (by simp;omega)];cases z22 t<;>simp
    ·have k:(decide (0≤ixS x)&&decide (0≤ixS y))=false:=by
      rw[yg];simp only[decide_eq_false_iff_not];by_cases q:0≤ixS x;·exact .inr fun u=>f ⟨q,u⟩
      ·exact .inl q
     simp only[k,yn,if_true,yc];cases h:z74 x with|none=>simp|some d=>cases i:z74 y with|none=>simp|some e=>exact(f ⟨(zdt h).1,(zdt i).1⟩).elim
theorem z5h{s:Z}(h:s.length<4294967281):M.q0l s=some (match z22 s with|some t=>(t,0)|none=>([],12)):=by unfold M.q0l;have:=zjd _ s [] (ya5 _) (by simpa using h);simpa[unb]using this
def swp(s:Z):Z:=s.map fun b=>if b=43 then 32 else b
theorem zok(c d:UInt8):∀(n:Nat)(s:Z),s.length≤n→Lib.replaceK [c] [d] (s.count c) s=s.map fun b=>if b=c then d else b:=by intro n;induction n with|zero=>intro s hn;have:s=[]:=yae (by omega);subst this;rfl|succ n o=>intro s hn;cases s with|nil=>rfl|cons x r=>
   simp only[yao]at hn;have h:=o r (by omega);by_cases a:x=c;·subst a;rw[List.count_cons_self,Lib.replaceK_hit [x] [d] _ _ 0 (by rw[z4o];simp)];simp[h]
   ·rw[List.count_cons_of_ne (by simpa using a),List.map_cons,if_neg a,←h];obtain⟨k,g⟩:∃k,r.count c=k:=⟨_,rfl⟩;rw[g];cases k with|zero=>rfl|succ k=>
     have l:=Lib.index_ge r [c];have m:¬Lib.index r [c]=-1:=fun e=>by have j:=Lib.count_one c r;rw[Lib.count_miss e,g]at j;omega
     obtain⟨i,f⟩:∃i:Nat,Lib.index r [c]=i:=⟨(Lib.index r [c]).toNat,by omega⟩;rw[Lib.replaceK_hit [c] [d] k r i f,Lib.replaceK_hit [c] [d] k (x::r) (i+1) (by rw[z4o,if_neg a,if_neg m,f];omega)];simp[ya3]
theorem M_swp{s:Z}(h:s.length<4294967281):M.replaceAll s [43] [32]=some (swp s):=by
 unfold M.replaceAll;rw[z3a (by simpa using h)];have e:Lib.replaceAll s [43] [32]=swp s:=by unfold Lib.replaceAll Lib.replace Lib.replaceNum swp;rw[if_neg (by decide),if_pos (.inl (by decide)),Lib.count_one,zok 43 32 _ s (ya5 _)]
 rw[←e];rfl
def zg8:List Z→List q05→List q05×Int|[],a=>(a,0)|p::r,a=>if p=[]then([],13)else match z22 (z2j 61 (swp p)).1,z22 (z2j 61 (swp p)).2.1 with|some x,some y=>zg8 r (a++[⟨x,y⟩])|_,_=>([],12)
def z2y(s:Z):List q05×Int:=if 8192<s.length∨64<(z0u 38 s).length then([],14)else if s=[]then([],0)else zg8 (z0u 38 s) []
theorem z62(c:UInt8):∀(s x:Z),x∈z0u c s→x.length≤s.length
 |[],x,h=>by simp[z0u]at h;simp[h]|y::r,x,h=>by
  have b:=z62 c r;unfold z0u at h;split at h
  ·rcases yau.1 h with rfl|h;·simp
   ·have:=b x h;simp;omega
  ·obtain⟨a,t,e⟩:=zou c r;rw[e]at h b;simp only at h;rcases yau.1 h with rfl|h;·have:=b a (by simp);simp;omega
   ·have:=b x (by simp[h]);simp;omega
theorem zc3(c:UInt8):∀s:Z,(z0u c s).length≤s.length+1
 |[]=>by simp[z0u]|y::r=>by
  have b:=zc3 c r;unfold z0u;split;·simp;omega
  ·obtain⟨a,t,e⟩:=zou c r;rw[e]at b⊢;simp at b⊢;omega
theorem zrh(s:Z):(swp s).length=s.length:=by simp[swp]
theorem zpv{l:List Z}(hl:l.length<1000000)(j:∀x∈l,x.length<1000000):∀(n i:Nat)(a:List q05),l.length-i=n→i≤l.length→a.length≤i→M.z1m l a (i:Int)=some (match zg8 (l.drop i) a with|(r,e)=>if e=0 then .go r else .done (r,e)):=by intro n;induction n with
 |zero=>
  intro i a hn h f;rw[M.z1m,yaa (by omega)];have:¬(i:Int)<(l.length:Int):=by omega
  simp[this,zg8]|succ n k=>
  intro i a hn h f;have b:i<l.length:=by omega
  have d:(i:Int)<(l.length:Int):=by omega
  have o:=j l[i] (by simp);rw[M.z1m,yz b];simp only[d,decide_true,if_true,z3u,yai b,ya,yc];unfold zg8;by_cases c:l[i]=[];·simp[c]
  ·have g:=z8f 61 (swp l[i]);rw[zrh]at g;simp only[c,decide_false,yk,if_false];rw[M_swp (by omega)];simp only[yc];rw[ztu 61 (by rw[zrh];omega)];simp only[yc];rw[z5h (by omega),z5h (by omega)];simp only[yc];cases h2:z22 (z2j 61 (swp l[i])).1 with|none=>simp|some x=>cases m:z22 (z2j 61 (swp l[i])).2.1 with|none=>simp|some y=>simp only[decide_true,yo,Bool.or_self,yk,if_false];rw[z15 (by simp;omega),w1 (by omega)];simp only[yc];rw[k (i+1) _ (by omega) (by omega) (by simp;omega)]
theorem z8w{s:Z}(h:s.length<1000000):M.q0k s=some (z2y s):=by
 unfold M.q0k z2y;rw[zeg 38 (by omega)];simp only[ya,yc];by_cases c:8192<s.length∨64<(z0u 38 s).length
 ·have:(decide (8192<(s.length:Int))||decide (64<((z0u 38 s).length:Int)))=true:=by rw[yp,decide_eq_true_iff,decide_eq_true_iff];omega
  simp[this,c]
 ·have:(decide (8192<(s.length:Int))||decide (64<((z0u 38 s).length:Int)))=false:=by rw[Bool.or_eq_false_iff,decide_eq_false_iff_not,decide_eq_false_iff_not];omega
  simp only[this,yk,if_false,c];by_cases d:s=[];·simp[d]
  ·have a:=zpv (l:=z0u 38 s) (by omega) fun x f=>by have:=z62 38 s x f;omega _ 0 [] rfl (ybb _) (by simp);have a:M.z1m (z0u 38 s) [] 0=_:=a;rw[a,yad];simp only[d,decide_false,yk,if_false,yc];rcases g:zg8 (z0u 38 s) []with⟨r,e⟩;simp only;by_cases b:e=0;·subst b;simp
   ·simp[b]
def z7b(l:List q05)(k v:Z):Z:=match l.find? fun p=>decide (p.z05=k)with|some p=>p.z2f|none=>v
def zml(l:List q05)(k:Z):Nat:=l.countP fun p=>decide (p.z05=k)
theorem zng(p:q05)(l:List q05)(k v:Z):z7b (p::l) k v=if p.z05=k then p.z2f else z7b l k v:=by unfold z7b;rw[List.find?_cons];by_cases h:p.z05=k<;>simp[h]
theorem znf(p:q05)(l:List q05)(k:Z):zml (l++[p]) k=zml l k+if p.z05=k then 1 else 0:=by unfold zml;rw[List.countP_append];by_cases h:p.z05=k<;>simp[h]
theorem zmx{l:List q05}{k:Z}(hl:l.length<1000000000):∀(m:Nat)(v:Z)(n:Nat),m≤l.length→n+m≤l.length→M.z3b l k (z7b (l.drop m) k v) ((n:Nat):Int) ((m:Int)-1)=some (z7b l k v,((n+zml (l.take m) k:Nat):Int)):=by intro m;induction m with|zero=>intro v n j hn;rw[M.z3b];simp[zml]|succ m g=>
  intro v n j hn;have a:m<l.length:=by omega
  rw[M.z3b];have h:((m+1:Nat):Int)-1=(m:Int):=by omega
  have i:(0:Int)≤(m:Int):=by omega
  rw[h];simp only[i,decide_true,if_true,z3u,yai a,ya,yc];have e:ybd .i64 ((m:Int)-1)=(m:Int)-1:=w64 (by omega) (by omega);have hd:l.drop m=l[m]::l.drop (m+1):=yz a;have f:l.take (m+1)=l.take m++[l[m]]:=by rw[List.take_succ,yai a];rfl
  by_cases b:l[m].z05=k
  ·have c:z7b (l.drop m) k v=l[m].z2f:=by rw[hd,zng,if_pos b]
   have d:zml (l.take (m+1)) k=zml (l.take m) k+1:=by rw[f,znf,if_pos b]
   simp only[b,decide_true,if_true,e];rw[w1 (by omega),←c,g v (n+1) (by omega) (by omega),d];congr 3;omega
  ·have c:z7b (l.drop m) k v=z7b (l.drop (m+1)) k v:=by rw[hd,zng,if_neg b]
   have d:zml (l.take (m+1)) k=zml (l.take m) k:=by rw[f,znf,if_neg b];rfl
   simp only[b,decide_false,yk,if_false,e];rw[←c,g v n (by omega) (by omega),d]
theorem zf9{l:List q05}(k:Z)(hl:l.length<1000000000):M.q0m l k=some (z7b l k [],((zml l k:Nat):Int)):=by unfold M.q0m;have h:=zmx (k:=k) hl l.length [] 0 (ya5 _) (by omega);rw[List.drop_length,ya0,yba]at h;rw[w64 (by omega) (by omega)];simp only[ya];have e:z7b [] k []=[]:=rfl;rw[e]at h;have h:M.z3b l k [] 0 ((l.length:Int)-1)=_:=h;rw[h];rfl
def zld(l:List q05)(k:Z):Bool:=l.any fun p=>decide (p.z05=k)
theorem zz01q(l:List q05)(k:Z):decide (0<zml l k)=zld l k:=by unfold zml zld;rw[yj,decide_eq_true_iff,List.countP_pos_iff,List.any_eq_true]
theorem z7m{l:List q05}(k:Z)(hl:l.length<1000000000):M.q1k l k=some (z7b l k [],zld l k):=by
 unfold M.q1k;rw[zf9 k hl];simp only[ya,yc];have:decide (0<((zml l k:Nat):Int))=zld l k:=by rw[←zz01q];exact decide_eq_decide.2 (by omega)
 exact congrArg (fun b=>some (z7b l k [],b)) this
end
section
open Go.Lk Go.Pe
def zcp:Z:=[13,10,13,10]
def z3m(s:Z):Nat:=if 0≤Lib.index (s.take 8192) zcp then(Lib.index (s.take 8192) zcp).toNat+4 else 0
theorem zh5(s:Z):z3m s≤s.length∧z3m s≤8192:=by
 unfold z3m;split
 ·rename_i h;have:=Lib.index_room (s.take 8192) zcp h;have h2:(s.take 8192).length=min 8192 s.length:=yas;simp only[zcp,yao,yar]at this;rw[h2]at this;have e:((Lib.index (s.take 8192) [13,10,13,10]).toNat:Int)=Lib.index (s.take 8192) [13,10,13,10]:=by unfold zcp at h;omega
  unfold zcp;omega
 ·omega
theorem zz042{s:Z}(h:0<z3m s):4≤z3m s:=by
 unfold z3m at h⊢;split at h;·rw[if_pos ‹_›];omega
 ·omega
theorem zhr{s:Z}(h:s.length<1000000000):M.q1h s=some ((z3m s:Nat):Int):=by
 unfold M.q1h z3m;have e:minI (s.length:Int) 8192=((min s.length 8192:Nat):Int):=by unfold minI;split<;>omega
 rw[e,ze9 (Nat.min_le_left _ _)];have d:s.take (min s.length 8192)=s.take 8192:=by rw[List.take_eq_take_iff];omega
 have b:M.z6h (s.take 8192) zcp=some (Lib.index (s.take 8192) zcp):=by unfold M.z6h;rw[z3a (by simp;omega)];rfl
 rw[d];unfold zcp at b⊢;simp only[ya,yc,b];by_cases a:0≤Lib.index (s.take 8192) [13,10,13,10];·have c:=Lib.index_room (s.take 8192) [13,10,13,10] a;have h2:(s.take 8192).length=min 8192 s.length:=yas;rw[h2]at c;simp only[yao,yar]at c;simp only[a,decide_true,if_true];rw[w64 (by omega) (by omega)];congr 1;omega
 ·simp[a]
def pcts:List Z→Option (List Z)|[]=>some []|p::r=>match z22 p,pcts r with|some x,some l=>some (x::l)|_,_=>none
theorem zyt(p:Z)(r:List Z):pcts (p::r)=match z22 p,pcts r with|some x,some l=>some (x::l)|_,_=>none:=rfl
def zsp:Z:=[72,84,84,80,47,49,46,49]
def topOk(a b c:Z):Bool:=zds a&&decide (c=zsp)&&decide (b.head?=some 47)&&zb8 33 126 b
def topH(s:Z):Option q03:=match z0u 32 s with|[a,b,c]=>if topOk a b c=true then match pcts (z0u 47 ((z2j 63 b).1.drop 1))with|some l=>if(z2y (z2j 63 b).2.1).2=0∧l.length≤64 then some ⟨a,l,(z2y (z2j 63 b).2.1).1,[],[]⟩else none|none=>none else none|_=>none
theorem zv(e:Int):M.q1s true e=some (.ok ()):=by simp[M.q1s]
theorem zo(e:Int):M.q1s false e=some (.pan e):=by simp[M.q1s]
theorem z3o{l:List Z}(hl:l.length<2000000)(f:∀x∈l,x.length<1000000):∀(n i:Nat)(a:List Z),l.length-i=n→i≤l.length→a.length≤i→M.z3o l (i:Int) a=some (match pcts (l.drop i)with|some r=>.go (a++r)|none=>.done (.pan 220)):=by
 intro n
 induction n with|zero=>
  intro i a hn e d;rw[M.z3o,yaa (by omega)];have:¬(i:Int)<(l.length:Int):=by omega
  simp[this,pcts]|succ n g=>
  intro i a hn e d;have b:i<l.length:=by omega
  have c:(i:Int)<(l.length:Int):=by omega
  have h:=f l[i] (by simp);rw[M.z3o,yz b];simp only[c,decide_true,if_true,z3u,yai b,ya,yc];rw[z5h (by omega)];simp only[yc];rw[zyt]
  cases h2:z22 l[i]with|none=>
   have:decide ((12:Int)=0)=false:=by decide
   simp only[this,zo,yc]|some x=>
   have:decide ((0:Int)=0)=true:=by decide
   rw[this,zv];simp only[yc];rw[z15 (by simp;omega),w1 (by omega)];simp only[yc];rw[g (i+1) _ (by omega) (by omega) (by simp;omega)];cases pcts (l.drop (i+1))<;>simp
theorem headH(b:Z):M.q7a b [47]=some (decide (b.head?=some 47)):=by rw[z5y,z6u]
theorem zq0{s:Z}(h:s.length<1000000):M.q2v s=some (match topH s with|some q=>.ok q|none=>.pan 220):=by unfold M.q2v topH;rw[zeg 32 (by omega)];have e:=z62 32 s;obtain⟨l,hl⟩:∃l,z0u 32 s=l:=⟨_,rfl⟩;rw[hl]at e⊢;simp only[ya,yc];match l,e with
 |[],_=>simp[zo]|[a],_=>simp[zo]|[a,b],_=>simp[zo]|a::b::c::d::t,_=>
  have:¬((a::b::c::d::t).length:Int)=3:=by simp;omega
  simp only[this,decide_false,yk,if_false,yc,zo]|[a,b,c],e=>
  have D:=e b (by simp);have j:M.q22 b 33 126=some (zb8 33 126 b):=z8h 33 126 (by omega);have v:(([a,b,c]:List Z).length:Int)=3:=by simp
  have z:ix [a,b,c] 0=some a:=by simp[zuo]
  have A:ix [a,b,c] 1=some b:=by simp[ix_1]
  have B:ix [a,b,c] 2=some c:=by simp[ix]
  simp only[v,decide_true,if_true,z,A,B,yc,zcd,headH,j];have key:∀k:Bool→Option (Rs q03),k (topOk a b c)=(if zds a=true then some (decide (c=zsp))else some false).bind fun p=>(if p=true then some (decide (b.head?=some 47))else some false).bind fun u=>(if u=true then some (zb8 33 126 b)else some false).bind k:=by intro k;unfold topOk;cases zds a<;>cases decide (c=zsp)<;>cases decide (b.head?=some 47)<;>simp
  unfold zsp at key;rw[←key fun C=>_];cases n:topOk a b c with|false=>simp[zo]|true=>
   have f:b.head?=some 47:=by unfold topOk at n;simp at n;exact n.1.2
   have w:=z8f 63 b;have g:1≤(z2j 63 b).1.length:=by cases b with|nil=>cases f|cons x r=>cases f;rw[z5m,if_neg (by decide)];simp
   simp only[zv,yc,if_true];rw[ztu 63 (by omega)];simp only[yc];have m:=zcb (l:=(z2j 63 b).1) (a:=1) g;have m:sub (z2j 63 b).1 1 ((z2j 63 b).1.length:Int)=some ((z2j 63 b).1.drop 1):=m;rw[m];simp only[yc];rw[zeg 47 (by simp;omega)];simp only[yc];have i:=z3o (l:=z0u 47 ((z2j 63 b).1.drop 1)) (by have:=zc3 47 ((z2j 63 b).1.drop 1);rw[yap]at this;omega) fun x y=>by have:=z62 47 _ x y;rw[yap]at this;omega _ 0 [] rfl (ybb _) (by simp);have i:M.z3o (z0u 47 ((z2j 63 b).1.drop 1)) 0 []=_:=i;rw[i,yad];cases pcts (z0u 47 ((z2j 63 b).1.drop 1))with|none=>simp|some l=>
    simp only[yc,yav];rw[z8w (by omega)];simp only[yc];by_cases o:(z2y (z2j 63 b).2.1).2=0∧l.length≤64
    ·have:(decide ((z2y (z2j 63 b).2.1).2=0)&&decide ((l.length:Int)≤64))=true:=by rw[yh,decide_eq_true_iff,decide_eq_true_iff];omega
     rw[this,zv];simp[o]
    ·have:(decide ((z2y (z2j 63 b).2.1).2=0)&&decide ((l.length:Int)≤64))=false:=by
      rw[yg,decide_eq_false_iff_not,decide_eq_false_iff_not];by_cases q:(z2y (z2j 63 b).2.1).2=0;·exact .inr fun E=>o ⟨q,by omega⟩
      ·exact .inl q
     rw[this,zo];simp only[yc];rw[if_neg o]
def lowB(b:UInt8):UInt8:=if isA b=true then b+32 else b
def low(s:Z):Z:=s.map lowB
theorem zz07a:∀b:UInt8,(!decide (b.toNat<128)||decide (Lib.encodeRune (zqi (b.toNat:Int))=[lowB b]))=true:=z6a (by decide+kernel)
theorem zz0af(x:Nat):0≤zqi (x:Int):=by unfold zqi;split<;>omega
theorem zkj:∀s:Z,(∀b∈s,b.toNat<128)→Lib.mapD zqi s=low s|[],_=>rfl|b::r,h=>by have a:=h b (by simp);rw[Lib.mapD_step _ _ (by simp),Lib.decodeL_ascii b r a];simp only[List.drop_one,yay];rw[if_pos (zz0af _),zkj r fun x c=>h x (by simp[c])];have:=zz07a b;simp only[a,decide_true,yo,Bool.false_or,decide_eq_true_eq]at this;rw[this];rfl
theorem zpq{x:Int}(h:128≤x):∃b∈Lib.encodeRune x,128≤b.toNat:=by
 unfold Lib.encodeRune Lib.encodeRuneZ;rw[if_neg (by omega)];split;·refine⟨(192+x/64).toNat.toUInt8,by simp,?_⟩;simp;omega
 ·split;·refine⟨(224+x/4096).toNat.toUInt8,by simp,?_⟩;simp;omega
  ·split;·refine⟨(240+x/262144).toNat.toUInt8,by simp,?_⟩;simp;omega
   ·exact⟨239,by simp,by decide⟩
theorem decode_high(b:UInt8)(r:Z)(h:¬b.toNat<128):128≤(Lib.decodeL (b::r)).1:=by
 have e:(⟨(b::r).toArray⟩:ByteArray).get! 0=b:=by simp[ByteArray.get!]
 unfold Lib.decodeL Utf8.decode;simp only[Nat.add_zero,e,yba];rw[if_neg (by omega)];split
 ·split;·rename_i a;simpa using a
  ·simp[Utf8.runeError]
 ·split
  ·split;·rename_i a;simp only[yh,decide_eq_true_eq]at a;simp only;omega
   ·simp[Utf8.runeError]
  ·split
   ·split;·rename_i a;simp only[yh,decide_eq_true_eq]at a;simp only;omega
    ·simp[Utf8.runeError]
   ·simp[Utf8.runeError]
theorem zyb:∀(n:Nat)(s:Z),s.length≤n→(∃b∈s,¬b.toNat<128)→∃b∈Lib.mapD zqi s,¬b.toNat<128:=by intro n;induction n with|zero=>intro s hn h;have:s=[]:=yae (by omega);subst this;obtain⟨b,a,_⟩:=h;cases a|succ n f=>intro s hn h;cases s with|nil=>obtain⟨b,a,_⟩:=h;cases a|cons c r=>
   rw[Lib.mapD_step _ _ (by simp)];by_cases d:c.toNat<128
   ·rw[Lib.decodeL_ascii c r d];simp only[List.drop_one,yay];obtain⟨b,a,h2⟩:=f r (by simp at hn;omega) (by
     obtain⟨b,a,h2⟩:=h;rcases yau.1 a with rfl|a;·exact(h2 d).elim
     ·exact⟨b,a,h2⟩);exact⟨b,yat.2 (.inr a),h2⟩
   ·have g:=decode_high c r d;have e:zqi ((Lib.decodeL (c::r)).1:Int)=((Lib.decodeL (c::r)).1:Int):=by unfold zqi;rw[if_neg (by omega)]
    rw[e,if_pos (by omega)];obtain⟨b,a,h2⟩:=zpq (x:=((Lib.decodeL (c::r)).1:Int)) (by omega);exact⟨b,yat.2 (.inl a),by omega⟩
theorem zz06j{b:UInt8}(h:isN b=true):b.toNat<128:=by
 unfold isN isD at h;simp at h;rcases h with(h|h)|h;·omega
 ·omega
 ·subst h;decide
theorem zyf(s:Z):zss (Lib.mapD zqi s)=zss (low s)∧(zss (low s)=true→Lib.mapD zqi s=low s):=by
 by_cases h:∀b∈s,b.toNat<128;·rw[zkj s h];exact⟨rfl,fun _=>rfl⟩
 ·have h:∃b∈s,¬b.toNat<128:=by simpa using h
  have no:∀t:Z,(∃b∈t,¬b.toNat<128)→zss t=false:=fun t⟨b,a,h2⟩=>by
   have:t.all isN=false:=by rw[List.all_eq_false];exact⟨b,a,fun q=>h2 (zz06j q)⟩
   unfold zss;rw[this,yi]
  have c:=no _ (zyb _ s (ya5 _) h);have h2:zss (low s)=false:=no _ (by obtain⟨b,a,h2⟩:=h;refine⟨lowB b,List.mem_map.2 ⟨b,a,rfl⟩,?_⟩;unfold lowB;rw[if_neg (by unfold isA;simp;omega)];exact h2);rw[c,h2];exact⟨rfl,fun q=>by cases q⟩
theorem ztv{s:Z}(h:s.length<1000000000):M.z6d s=some (Lib.mapD zqi s):=by unfold M.z6d;rw[z3a (by simp;omega)];rfl
end
section
open Go.Lk Go.Pe
theorem zt1{K:Type}[DecidableEq K](k c:K):∀l:List (K×Bool),z6r (z3p l k true) c false=if c=k then true else z6r l c false
 |[]=>by unfold z3p z6r z6r;rfl|(a,b)::r=>by
  have d:=zt1 k c r;unfold z3p;by_cases h:k=a;·subst h;rw[if_pos rfl];unfold z6r;by_cases h2:c=k<;>simp[h2]
  ·rw[if_neg h];unfold z6r;by_cases h2:c=a;·subst h2;rw[if_pos rfl,if_pos rfl,if_neg (Ne.symm h)]
   ·rw[if_neg h2,if_neg h2,d]
def z8k:Z:=[116,114,97,110,115,102,101,114,45,101,110,99,111,100,105,110,103]
def zf8:Z:=[99,111,110,116,101,110,116,45,108,101,110,103,116,104]
def zdp:Z:=[104,111,115,116]
def rowF(row:Z)(a:List Z):Option (Z×Z):=if((z2j 58 row).2.2&&zss (low (z2j 58 row).1)&&isVal (bare (z2j 58 row).2.1)&&!a.contains (low (z2j 58 row).1))=true then some (low (z2j 58 row).1,bare (z2j 58 row).2.1)else none
def zvd:List Z→Nat→Nat→List q05→List Z→Except Int (Nat×List q05×List Z)|[],_,b,hd,a=>.ok (b,hd,a)|row::r,i,b,hd,a=>if 32≤i then .error 222 else match rowF row a with|none=>.error 220|some (k,v)=>if k=zf8 then if isNum 9 v=true then zvd r (i+1) (z7w 0 v) hd (k::a)else .error 220 else zvd r (i+1) b (hd++[⟨k,v⟩]) (k::a)
def zH:q03:=⟨[],[],[],[],[]⟩
def SN(m:List (Z×Bool))(a:List Z):Prop:=∀k,z6r m k false=a.contains k
theorem SN.put{m:List (Z×Bool)}{b:List Z}(h:SN m b)(k:Z):SN (z3p m k true) (k::b):=fun a=>by rw[zt1,List.contains_cons,h a];by_cases e:a=k<;>simp[e]
def zz09b(z:Option (Jn (q03×Int×Int) (Int×List q05×List (Z×Bool)))):Except Int (Nat×List q05×List Z)→Prop|.error e=>z=some (.done (zH,0,e))|.ok (b,hd,a)=>∃m,z=some (.go ((b:Int),hd,m))∧SN m a
theorem zkw(s:Z):(bare s).length≤s.length:=by unfold bare Lib.trimS Lib.trimLeftS Lib.trimRightS;refine ya6 (yx _).length_le ?_;rw[List.length_reverse];exact ya6 (yx _).length_le (by simp)
theorem zz02u{l:List Z}(hl:l.length<1000000)(D:∀x∈l,x.length<1000000):∀(n i b:Nat)(hd:List q05)(m:List (Z×Bool))(p:List Z),l.length-i=n→i≤l.length→hd.length≤i→SN m p→zz09b (M.z2a l (b:Int) (i:Int) hd m) (zvd (l.drop i) i b hd p):=by
 intro n;induction n with|zero=>
  intro i b hd m p hn C A o;rw[M.z2a,yaa (by omega)];have:¬(i:Int)<(l.length:Int):=by omega
  simp only[this,decide_false,yk,if_false];exact⟨m,rfl,o⟩|succ n t=>
  intro i b hd m p hn C A o;have g:i<l.length:=by omega
  have y:(i:Int)<(l.length:Int):=by omega
  have G:=D l[i] (by simp);have F:=(z8f 58 l[i]).1;rw[M.z2a,yz g];simp only[y,decide_true,if_true,z3u,yai g,ya,yc];unfold zvd;by_cases f:32≤i
  ·have:¬(i:Int)<32:=by omega
   rw[if_pos f];simp only[this,decide_false,zo,yc];rfl
  ·have:(i:Int)<32:=by omega
   rw[if_neg f];simp only[this,decide_true,zv,yc];rw[ztu 58 (by omega)];simp only[yc];rw[ztv (by omega)];simp only[yc];rw[zjq (by omega) (by decide)];simp only[yc,zfk];obtain⟨u,w⟩:=zyf (z2j 58 l[i]).1;have E:M.q2x (Lib.trimS (z2j 58 l[i]).2.1 [32])=some (isVal (bare (z2j 58 l[i]).2.1)):=zdr (by have:=zkw (z2j 58 l[i]).2.1;unfold bare at this;omega);rw[E,u]--what must hold,as_ one
   have key:∀(a b c d:Bool)(k:Bool→Option (Jn (q03×Int×Int) (Int×List q05×List (Z×Bool)))),((if a=true then some b else some false).bind fun j=>(if j=true then some c else some false).bind fun j=>(if j=true then some d else some false).bind k)=k (a&&b&&c&&d):=by intro a b c d k;cases a<;>cases b<;>cases c<;>cases d<;>rfl
   simp only[yc];rw[key];unfold rowF;by_cases hn:zss (low (z2j 58 l[i]).1)=true;·rw[w hn,o];cases r:(z2j 58 l[i]).2.2&&zss (low (z2j 58 l[i]).1)&&isVal (bare (z2j 58 l[i]).2.1)&&!p.contains (low (z2j 58 l[i]).1)with|false=>simp only[zo,yc,yk,if_false];rfl|true=>
     simp only[zv,yc,if_true];have B:Lib.trimS (z2j 58 l[i]).2.1 [32]=bare (z2j 58 l[i]).2.1:=rfl;rw[B];by_cases q:low (z2j 58 l[i]).1=zf8;·have e:low (z2j 58 l[i]).1=B23:=q;rw[if_pos q];obtain⟨v,h2,z⟩:=z6t (s:=bare (z2j 58 l[i]).2.1) 9 (by decide) (by have:=zkw (z2j 58 l[i]).2.1;omega);have h2:M.q1w (bare (z2j 58 l[i]).2.1) 9=some (v,isNum 9 (bare (z2j 58 l[i]).2.1)):=h2;simp only[e,decide_true,yo,yk,if_false,h2,yc];cases h:isNum 9 (bare (z2j 58 l[i]).2.1)with|false=>simp only[zo,yc,yk,if_false];rfl|true=>simp only[zv,yc,if_true];rw[z h,w1 (by omega)];have:=t (i+1) (z7w 0 (bare (z2j 58 l[i]).2.1)) hd _ _ (by omega) (by omega) (by omega) (o.put (low (z2j 58 l[i]).1));rw[e]at this;exact this
     ·have e:¬low (z2j 58 l[i]).1=B23:=q;rw[if_neg q];simp only[e,decide_false,yn,if_true];rw[z15 (by simp;omega),w1 (by omega)];simp only[yc];exact t (i+1) b _ _ _ (by omega) (by omega) (by simp;omega) (o.put (low (z2j 58 l[i]).1))
   ·have hn:zss (low (z2j 58 l[i]).1)=false:=by simpa using hn
    simp only[hn,yi,Bool.false_and,zo,yc,yk,if_false];rfl
def zz04s(s:Z)(n:Nat)(q:q03):Except Int (Nat×List q05×List Z)→q03×Nat×Int|.error e=>(zH,0,e)|.ok (b,hd,a)=>if a.contains zdp=false then(zH,0,220)else if 16384<b then(zH,0,221)else if s.length<n+b then(zH,0,223)else(⟨q.z0k,q.z0o,q.z1o,hd,(s.drop n).take b⟩,n+b,0)
def zz04t(s:Z)(n:Nat)(l:List Z):q03×Nat×Int:=match topH (l.head?.getD [])with|none=>(zH,0,220)|some q=>zz04s s n q (zvd (l.drop 1) 0 0 [] [z8k])
def zib(s:Z):q03×Nat×Int:=if z3m s=0 then(zH,0,if s.length<8192 then 223 else 222)else zz04t s (z3m s) (z3x (s.take (z3m s-4)))
theorem zkp:∀(n:Nat)(s:Z),s.length≤n→(z3x s).length≤s.length+1∧∀x∈z3x s,x.length≤s.length:=by intro n;induction n with|zero=>intro s hn;have:s=[]:=yae (by omega);subst this;unfold z3x;simp|succ n d=>intro s hn;cases s with|nil=>unfold z3x;simp|cons x r=>
   simp only[yao]at hn;unfold z3x;split
   ·obtain⟨c,h2⟩:=d (r.drop 1) (by rw[yap];omega);rw[yap]at c h2;refine⟨by rw[yao,yao];omega,fun y b=>?_⟩;rcases yau.1 b with rfl|b;·simp
    ·have:=h2 y b;rw[yao];omega
   ·obtain⟨c,h2⟩:=d r (by omega);obtain⟨a,t,e⟩:=zox r;rw[e]at c h2;rw[e];simp only[yao]at c⊢;refine⟨by omega,fun y b=>?_⟩;rcases yau.1 b with rfl|b;·have:=h2 a (by simp);rw[yao];omega
    ·have:=h2 y (by simp[b]);omega
theorem zvk{s:Z}{q:q03}(h:topH s=some q):q.z1r=[]∧q.z0l=[]:=by
 unfold topH at h;split at h
 ·split at h
  ·split at h
   ·split at h;·cases h;exact⟨rfl,rfl⟩
    ·cases h
   ·cases h
  ·cases h
 ·cases h
theorem zlg{s:Z}(h:s.length<1000000000):M.q0s s=some ((zib s).1,(((zib s).2.1:Nat):Int),(zib s).2.2):=by
 unfold M.q0s zib;rw[zhr h];have L:∀e:Int,(q03.mk ([]:Z) [] [] [] ([]:Z),(0:Int),e)=(zH,((0:Nat):Int),e):=fun e=>rfl;simp only[ya,yc];by_cases n:z3m s=0
 ·rw[if_pos n,n];by_cases p:s.length<8192
  ·have:(s.length:Int)<8192:=by omega
   simp[this,p,zv,zo,zH]
  ·have:¬(s.length:Int)<8192:=by omega
   simp[this,p,zo,zH]
 ·rw[if_neg n];have E:(0:Int)<((z3m s:Nat):Int):=by omega
  have J:=zz042 (s:=s) (by omega);have C:=zh5 s;simp only[E,decide_true,Bool.true_or,zv,yc];have A:ybd .i64 (((z3m s:Nat):Int)-4)=((z3m s-4:Nat):Int):=by rw[w64 (by omega) (by omega)];omega
  rw[A,ze9 (by omega)];simp only[yc];have D:(s.take (z3m s-4)).length≤8192:=by rw[yas];omega
  rw[zrv (by omega)];obtain⟨g,d⟩:=zkp _ (s.take (z3m s-4)) (ya5 _);obtain⟨a,t,e⟩:=zox (s.take (z3m s-4));rw[e]at g d⊢;have H:ix (a::t) 0=some a:=by simp[zuo]
  simp only[yc,H];have K:=d a (by simp);rw[zq0 (by omega)];unfold zz04t;simp only[yal,yd,yc];cases F:topH a with|none=>simp[zH]|some q=>
   obtain⟨I,N⟩:=zvk F;have i:sub (a::t) 1 ((a::t).length:Int)=some t:=by have:=zcb (l:=a::t) (a:=1) (by simp);simpa using this
   simp only[yao]at g;have c:=zz02u (l:=t) (by omega) fun x G=>by have:=d x (by simp[G]);omega _ 0 0 [] (z3p [] z8k true) [z8k] rfl (ybb _) (by simp) (fun k=>by unfold z3p z6r z6r;by_cases q:k=z8k<;>simp[q]);rw[yad]at c;have w:(a::t).drop 1=t:=rfl;rw[w];simp only[yc,i,I];have y:z3p ([]:List (Z×Bool)) (B24:Z) true=z3p [] z8k true:=rfl;rw[y];unfold zz04s;cases u:zvd t 0 0 [] [z8k]with|error z=>rw[u]at c;have c:M.z2a t 0 0 [] (z3p [] z8k true)=some (.done (zH,0,z)):=c;rw[c];rfl|ok x=>obtain⟨b,hd,v⟩:=x;rw[u]at c;obtain⟨m,c,o⟩:=c;have c:M.z2a t 0 0 [] (z3p [] z8k true)=some (.go ((b:Int),hd,m)):=c;rw[c];simp only[yc];have B:z6r m B47 false=v.contains zdp:=o _;rw[B];cases v.contains zdp with|false=>simp[zo,zH]|true=>
     simp only[zv,yc,yr,if_false];by_cases r:16384<b
     ·have:¬(b:Int)≤16384:=by omega
      simp[this,r,zo,zH]
     ·have:(b:Int)≤16384:=by omega
      simp only[this,decide_true,zv,yc,r,if_false];have j:ybd .i64 ((s.length:Int)-((z3m s:Nat):Int))=((s.length-z3m s:Nat):Int):=by rw[w64 (by omega) (by omega)];omega
      rw[j];by_cases f:s.length<z3m s+b
      ·have:¬(b:Int)≤((s.length-z3m s:Nat):Int):=by omega
       simp[this,f,zo,zH]
      ·have:(b:Int)≤((s.length-z3m s:Nat):Int):=by omega
       simp only[this,decide_true,zv,yc,f,if_false];rw[wadd (by omega),zbj (by omega) (by omega)];simp only[yc];rw[yac];have:z3m s+b-z3m s=b:=by omega
       rw[this]
end
section
open Go.Lk Go.Pe
theorem zo6:∀(l:List Z)(a:List q05),(zg8 l a).1.length≤a.length+l.length
 |[],a=>by simp[zg8]|p::r,a=>by
  unfold zg8;split;·simp
  ·split;·rename_i x y _ _;have:=zo6 r (a++[⟨x,y⟩]);simp at this⊢;omega
   ·simp
theorem znb(s:Z):(z2y s).1.length≤64:=by
 unfold z2y;split;·simp
 ·rename_i h;split;·simp
  ·have:=zo6 (z0u 38 s) [];simp only[yar,yba]at this;omega
end
end Go.Sen
