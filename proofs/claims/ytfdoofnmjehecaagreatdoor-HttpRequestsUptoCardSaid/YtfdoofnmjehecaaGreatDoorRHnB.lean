import Derived.Test.YtfdoofnmjehecaaGreatDoorRHtM
import Derived.Test.YtfdoofnmjehecaaGreatDoorRShL
import Derived.Lib.SplitLaws
import Derived.Lib.AtoiAllCases
import Derived.Lib.MapLaws
import Derived.Lib.TrimAscii
import Derived.Lib.TrimU
set_option linter.all false
namespace Go.Sen
open _root_.Option renaming bind_eq_bind → ya, bind_eq_some_iff → yb, bind_some → yc, getD_some → yd, map_eq_some_iff → ye, map_some → yf
open _root_.Bool renaming and_eq_false_iff → yg, and_eq_true → yh, and_false → yi, and_self → yj, eq_iff_iff → yk, false_eq_true → yl, not_eq_true → ym, not_eq_true' → yn, not_false → yo, not_true → yp, or_eq_true → yq, true_and → yr, true_eq_false → ys
open _root_.List renaming all_eq_true → yt, append_assoc → yu, cons_append → yv, dropWhile_cons → yw, dropWhile_sublist → yx, drop_drop → yy, drop_eq_getElem_cons → yz, drop_eq_nil_of_le → yaa, drop_succ_cons → yab, drop_take → yac, drop_zero → yad, eq_nil_of_length_eq_zero → yae, findIdx?_cons → yaf, getElem?_cons_succ → yag, getElem?_cons_zero → yah, getElem?_eq_getElem → yai, getElem?_eq_none → yaj, getElem_mem → yak, head?_cons → yal, isPrefixOf → yam, length_append → yan, length_cons → yao, length_drop → yap, length_eq_zero_iff → yaq, length_nil → yar, length_take → yas, map_cons → yat, mem_append → yau, mem_cons → yav, nil_append → yaw, nodup_append → yax, pairwise_iff_getElem → yay, tail_cons → yaz, takeWhile_cons → ya0, take_length → ya1, take_succ_cons → ya2
open _root_.Nat renaming add_assoc → ya3, add_right_comm → ya4, le_of_not_lt → ya5, le_refl → ya6, le_trans → ya7, lt_or_ge → ya8, pow_le_pow_right → ya9, zero_add → yba, zero_le → ybb
open _root_.Int renaming tmod → ybc
open IntKind renaming wrap → ybd
open _root_.UInt8 renaming ofNat → ybe
section
open Go.Lk Go.Pe
theorem z7k(s p:Z):M.q7f s p=some (p.isPrefixOf s):=by
 unfold M.q7f M.q3a;by_cases h:p.length≤s.length
 ·have a:(p.length:Int)≤(s.length:Int):=by omega
  simp only[a,decide_true,if_true,zkc h,ya,yc,zuj]
 ·have a:¬(p.length:Int)≤(s.length:Int):=by omega
  have:p.isPrefixOf s=false:=by cases b:p.isPrefixOf s with|false=>rfl|true=>exact absurd (ziu b) h
  simp[a,this]
theorem z7i(s p:Z):M.q7e s p=some (if p.isPrefixOf s then(s.drop p.length,true)else(s,false)):=by have h:=z7k s p;unfold M.q7f at h;simp only[ya]at h;unfold M.q7e M.q37;cases a:M.q3a s p with|none=>rw[a]at h;cases h|some b=>rw[a]at h;simp only[yc,Option.some.injEq]at h;subst h;cases c:p.isPrefixOf s with|false=>simp|true=>simp[zan (ziu c)]
def isD(b:UInt8):Bool:=decide (48≤b.toNat)&&decide (b.toNat≤57)
theorem zz07z:∀b:UInt8,([48,49,50,51,52,53,54,55,56,57]:Z).contains b=isD b:=by
 intro b;have h:∀n:Fin 256,([48,49,50,51,52,53,54,55,56,57]:Z).contains (ybe n.val)=isD (ybe n.val):=by decide+kernel
 have:=h ⟨b.toNat,zg4⟩;simpa using this
def z83(s:Z):Nat:=(s.takeWhile isD).length
theorem zhl(s:Z):z83 s≤s.length:=by unfold z83;exact(List.takeWhile_sublist _).length_le
theorem zny(c:UInt8)(s:Z):z83 (c::s)=if isD c then z83 s+1 else 0:=by unfold z83;rw[ya0];split<;>simp
theorem z8z{s:Z}(h:s.length<4611686018427387904):M.q3k s=some (z83 s:Int):=by
 unfold M.q3k M.trimLeft;have e:(decide (([48,49,50,51,52,53,54,55,56,57]:Z).length<4294967281)&&([48,49,50,51,52,53,54,55,56,57]:Z).all fun b=>decide (b.toNat<128))=true:=by decide
 rw[z3k e];simp only[ya,yc];have a:Lib.trimLeftS s [48,49,50,51,52,53,54,55,56,57]=s.dropWhile isD:=by unfold Lib.trimLeftS;congr 1;funext b;exact zz07z b
 rw[a];have c:z83 s+(s.dropWhile isD).length=s.length:=by unfold z83;rw[←yan,List.takeWhile_append_dropWhile]
 rw[w64 (by omega) (by omega)];congr 1;omega
def sgn(s:Z):Nat:=if s.head?=some 45 then 1 else 0
def z96(s:Z):Nat:=if s.head?=some 48 then 1 else z83 s
def zcf:Z→Nat|46::r=>if 0<z83 r then 1+z83 r else 0|_=>0
def zai(s:Z):Nat:=if s.head?=some 43∨s.head?=some 45 then 1 else 0
def zju:Z→Nat|c::r=>if c=101∨c=69 then if 0<z83 (r.drop (zai r))then 1+zai r+z83 (r.drop (zai r))else 0 else 0|[]=>0
def num(s:Z):Nat:=let i:=sgn s
 if z96 (s.drop i)=0 then 0 else let i:=i+z96 (s.drop i)
 let i:=i+zcf (s.drop i)
 i+zju (s.drop i)
theorem zz016(s:Z):sgn s≤s.length:=by unfold sgn;cases s<;>simp;split<;>omega
theorem zsm(s:Z):zai s≤s.length:=by unfold zai;cases s<;>simp;split<;>omega
theorem zr8(s:Z):z96 s≤s.length:=by unfold z96;have:=zhl s;cases s with|nil=>simp[z83]|cons c r=>split<;>simp_all
theorem zr0(s:Z):zcf s≤s.length:=by
 unfold zcf;split;·rename_i r;have:=zhl r;split<;>simp<;>omega
 ·simp
theorem zz07h(s:Z):zju s≤s.length:=by
 unfold zju;split
 ·rename_i c r;have a:=zsm r;have h2:=zhl (r.drop (zai r));rw[yap]at h2;repeat' split
  all_goals simp only[yao]
  all_goals omega
 ·simp
theorem zp1(s:Z):num s≤s.length:=by
 unfold num;simp only;split;·simp
 ·have c:=zz016 s;have h2:=zr8 (s.drop (sgn s));have a:=zr0 (s.drop (sgn s+z96 (s.drop (sgn s))));have b:=zz07h (s.drop (sgn s+z96 (s.drop (sgn s))+zcf (s.drop (sgn s+z96 (s.drop (sgn s))))));simp only[yap]at h2 a b;omega
theorem zcg(s:Z):z83 s=0↔z96 s=0:=by unfold z96;cases s with|nil=>simp[z83]|cons c r=>
  by_cases h:c=48;·subst h;simp[zny,isD]
  ·simp[h]
theorem zz03g(s:Z):s.head?=s[0]?:=by cases s<;>rfl
theorem getD{s:Z}{i:Nat}:(s.drop i).head?=s[i]?:=by rw[zz03g];simp
theorem zcn{s:Z}(h:s.length<1152921504606846976):M.q3n s=some (num s:Int):=by
 unfold M.q3n;have A:(do let a_7←M.q7f s ([45]:Z)if a_7 then some 1;else some 0:Option Int)=some ((sgn s:Nat):Int):=by rw[z7k];unfold sgn;cases s with|nil=>rfl|cons c r=>
   by_cases a:c=45;·subst a;simp
   ·have:¬(45:UInt8)=c:=fun e=>a e.symm;simp[a,this]
 rw[A];simp only[ya,yc];have J:=zz016 s;rw[zan J];simp only[yc];rw[z8z (by simp;omega)];simp only[yc];unfold num;simp only;by_cases d:z83 (s.drop (sgn s))=0;·rw[if_pos (by simpa using d),if_pos ((zcg _).1 d)];rfl
 rw[if_neg (by simpa using d),if_neg fun e=>d ((zcg _).2 e)];generalize Q:sgn s=i at*;have m:i<s.length:=by
  rcases ya8 i s.length with u|u;·exact u
  ·rw[yaa u]at d;exact absurd rfl d
 rw[z3f,yai m];simp only[yc];have B:(if decide ((s[i].toNat:Int)=48)=true then some 1 else some ((z83 (s.drop i):Nat):Int))=some ((z96 (s.drop i):Nat):Int):=by
  unfold z96;rw[getD,yai m];by_cases a:s[i]=48
  ·have:(s[i].toNat:Int)=48:=by rw[a];rfl
   simp[a]
  ·have:¬(s[i].toNat:Int)=48:=fun e=>a ((toNat_eq (n:=48) (by omega)).1 e);simp[a,this]
 rw[B];simp only[yc];have l2:=zr8 (s.drop i);generalize hn:z96 (s.drop i)=n at*;rw[yap]at l2;have f:ybd .i64 ((i:Int)+(n:Int))=((i+n:Nat):Int):=wadd (by omega);rw[f];have G:i+n≤s.length:=by omega
 generalize R:i+n=j at*;have p:(do let s_31←sub s (j:Int) (s.length:Int)let a_32←M.q7f s_31 ([46]:Z)if a_32 then let s_34←sub s (ybd .i64 ((j:Int)+1)) (s.length:Int)let a_35←M.q3k s_34;if decide (0<a_35)then some (ybd .i64 ((j:Int)+ybd .i64 (1+a_35)))else some (j:Int)else some (j:Int):Option Int)=some ((j+zcf (s.drop j):Nat):Int):=by
  rw[zan G];simp only[ya,yc,z7k];have ex:(∃r,s.drop j=46::r)∨([46]:Z).isPrefixOf (s.drop j)=false∧zcf (s.drop j)=0:=by cases hd:s.drop j with|nil=>exact .inr ⟨rfl,rfl⟩|cons c r=>
    by_cases a:c=46;·subst a;exact .inl ⟨r,rfl⟩
    ·have v:¬(46:UInt8)=c:=fun e=>a e.symm;refine .inr ⟨by simp[yam,v],?_⟩;unfold zcf;split;·rename_i S o;injection o with f C;exact absurd f a
     ·rfl
  rcases ex with⟨r,o⟩|⟨f,C⟩
  ·obtain⟨O,t,P⟩:=zma o;have:([46]:Z).isPrefixOf (s.drop j)=true:=by rw[o];rfl
   rw[this,if_pos rfl,w1 (by omega),zan (by omega),o];simp only[yc,zcf];rw[t,z8z (by rw[←t];simp;omega)];simp only[yc];have:=zhl r;have I:r.length+(j+1)=s.length:=by rw[←t];simp;omega
   by_cases hd:0<z83 r;·rw[if_pos (by simpa using hd),if_pos hd];rw[show(1:Int)+(z83 r:Int)=((1+z83 r:Nat):Int)by omega,w64 (x:=((1+z83 r:Nat):Int)) (by omega) (by omega),wadd (by omega)]
   ·rw[if_neg (by simpa using hd),if_neg hd];rfl
  ·rw[f,C];simp
 simp only[ya]at p;rw[p];simp only[yc];have K:=zr0 (s.drop j);rw[yap]at K;have H:j+zcf (s.drop j)≤s.length:=by omega
 generalize j+zcf (s.drop j)=k at*;clear A B p;by_cases l:k<s.length
 ·have b:(k:Int)<(s.length:Int):=by omega
  have w:s.drop k=s[k]::s.drop (k+1):=by simp
  simp only[b,decide_true,if_true,z3f,yai l,yc];have F:(if decide ((s[k].toNat:Int)=101)=true then some true else some (decide ((s[k].toNat:Int)=69)))=some (decide (s[k]=101∨s[k]=69)):=by have y:(s[k].toNat:Int)=101↔s[k]=101:=toNat_eq (n:=101) (by omega);have z:(s[k].toNat:Int)=69↔s[k]=69:=toNat_eq (n:=69) (by omega);simp only[y,z];by_cases q:s[k]=101<;>simp[q]
  rw[F];simp only[yc];rw[w];unfold zju;simp only;by_cases a:s[k]=101∨s[k]=69
  ·rw[if_pos (by simpa using a),if_pos a,w1 (by omega)];have D:(do let j_60←(if decide (((k+1:Nat):Int)<(s.length:Int))=true then do let c_61←ix s ((k+1:Nat):Int)if decide ((c_61.toNat:Int)=43)=true then some true;else do let c_62←ix s ((k+1:Nat):Int)some (decide ((c_62.toNat:Int)=45))else some false)if j_60=true then some (ybd .i64 (((k+1:Nat):Int)+1))else some ((k+1:Nat):Int))=some ((k+1+zai (s.drop (k+1)):Nat):Int):=by
    unfold zai;rw[getD];by_cases g:k+1<s.length
    ·have:((k+1:Nat):Int)<(s.length:Int):=by omega
     simp only[this,decide_true,if_true,z3f,yai g,ya,yc];have y:(s[k+1].toNat:Int)=43↔s[k+1]=43:=toNat_eq (n:=43) (by omega);have z:(s[k+1].toNat:Int)=45↔s[k+1]=45:=toNat_eq (n:=45) (by omega);simp only[y,z,Option.some.injEq];have N:ybd .i64 (((k+1:Nat):Int)+1)=((k+1+1:Nat):Int):=w1 (by omega);rw[N];by_cases q:s[k+1]=43;·simp[q]
     ·by_cases E:s[k+1]=45;·simp[E]
      ·simp[q,E]
    ·have:¬(k:Int)+1<(s.length:Int):=by omega
     simp[this,yaj (ya5 g)]
   simp only[ya]at D;rw[D];simp only[yc];have L:=zsm (s.drop (k+1));rw[yap]at L;rw[zan (by omega)];simp only[yc];rw[z8z (by simp;omega),←yy];simp only[yc];have l5:=zhl ((s.drop (k+1)).drop (zai (s.drop (k+1))));rw[yap,yap]at l5;by_cases hd:0<z83 ((s.drop (k+1)).drop (zai (s.drop (k+1))));·rw[if_pos (by simpa using hd),if_pos hd,wadd (by omega)];congr 2;omega
   ·rw[if_neg (by simpa using hd),if_neg hd];rfl
  ·rw[if_neg (by simpa using a),if_neg a];rfl
 ·have b:¬(k:Int)<(s.length:Int):=by omega
  rw[yaa (ya5 l)];simp[b,zju]
end
section
open Go.Lk Go.Pe
theorem z5w(b:UInt8):M.q4y (b.toNat:Int)=some (isD b):=by
 unfold M.q4y isD;congr 2;·exact decide_eq_decide.2 (by omega)
 ·exact decide_eq_decide.2 (by omega)
theorem z8m{s:Z}{i:Nat}(h:i<s.length):z83 (s.drop i)=if isD s[i]then z83 (s.drop (i+1))+1 else 0:=by rw[yz h,zny]
theorem z9s{s:Z}{i:Nat}(h:s.length≤i):z83 (s.drop i)=0:=by rw[yaa h];rfl
theorem zz0cr{s:Z}(d:s.length<1152921504606846976):∀(n i:Nat),s.length-i=n→i≤s.length→M.z4e s (i:Int)=some ((i+z83 (s.drop i):Nat):Int):=by
 intro n;induction n with|zero=>
  intro i hn b;rw[M.z4e.eq_1];have:¬(i:Int)<(s.length:Int):=by omega
  simp[this,z9s (show s.length≤i by omega)]|succ n c=>
  intro i hn b;have a:i<s.length:=by omega
  rw[M.z4e.eq_1];have:(i:Int)<(s.length:Int):=by omega
  simp only[this,decide_true,if_true,z3f,yai a,ya,yc,z5w];rw[z8m a];cases hd:isD s[i]with|false=>simp|true=>simp only[if_true];rw[w1 (by omega),c (i+1) (by omega) (by omega)];congr 2;omega
theorem zz0cs{s:Z}(d:s.length<1152921504606846976):∀(n i:Nat),s.length-i=n→i≤s.length→M.z5f s (i:Int)=some ((i+z83 (s.drop i):Nat):Int):=by
 intro n;induction n with|zero=>
  intro i hn b;rw[M.z5f.eq_1];have:¬(i:Int)<(s.length:Int):=by omega
  simp[this,z9s (show s.length≤i by omega)]|succ n c=>
  intro i hn b;have a:i<s.length:=by omega
  rw[M.z5f.eq_1];have:(i:Int)<(s.length:Int):=by omega
  simp only[this,decide_true,if_true,z3f,yai a,ya,yc,z5w];rw[z8m a];cases hd:isD s[i]with|false=>simp|true=>simp only[if_true];rw[w1 (by omega),c (i+1) (by omega) (by omega)];congr 2;omega
theorem zz0cq{s:Z}(h:s.length<1152921504606846976){b:Nat}(c:b<s.length)(f:¬s[b]=48):∀(n i:Nat),s.length-i=n→i≤s.length→M.z2m s (b:Int) (i:Int)=some ((i+z83 (s.drop i):Nat):Int):=by
 intro n;induction n with|zero=>
  intro i hn d;rw[M.z2m.eq_1];have:¬(i:Int)<(s.length:Int):=by omega
  simp[this,z9s (show s.length≤i by omega)]|succ n g=>
  intro i hn d;have a:i<s.length:=by omega
  rw[M.z2m.eq_1];have:(i:Int)<(s.length:Int):=by omega
  have t:¬(s[b].toNat:Int)=48:=fun e=>f ((toNat_eq (n:=48) (by omega)).1 e);simp only[this,decide_true,if_true,z3f,yai a,yai c,ya,yc,z5w,t,decide_false,yo];rw[z8m a];cases hd:isD s[i]with|false=>simp|true=>
   have:(if decide ((i:Int)=(b:Int))=true then some true else some true)=some true:=by split<;>rfl
   simp only[if_true,this,yc];rw[w1 (by omega),g (i+1) (by omega) (by omega)];congr 2;omega
theorem zz04h{s:Z}(j:s.length<1152921504606846976){b:Nat}(i:b≤s.length):M.z2m s (b:Int) (b:Int)=some ((b+z96 (s.drop b):Nat):Int):=by
 rcases ya8 b s.length with h|h
 ·by_cases c:s[b]=48
  ·rw[M.z2m.eq_1];have e:(b:Int)<(s.length:Int):=by omega
   have h2:isD 48=true:=by decide
   simp only[e,decide_true,if_true,z3f,yai h,ya,yc,z5w,c,h2];rw[w1 (by omega),M.z2m.eq_1];have a:z96 (s.drop b)=1:=by unfold z96;rw[getD,yai h,c];rfl
   rw[a];by_cases f:b+1<s.length
   ·have d:((b+1:Nat):Int)<(s.length:Int):=by omega
    have g:¬((b+1:Nat):Int)=(b:Int):=by omega
    simp only[d,decide_true,if_true,z3f,yai f,yai h,ya,yc,z5w,g,decide_false,c];cases isD s[b+1]<;>simp
   ·have d:¬(b:Int)+1<(s.length:Int):=by omega
    simp[d]
  ·rw[zz0cq j h c _ b rfl i];have a:z96 (s.drop b)=z83 (s.drop b):=by unfold z96;rw[getD,yai h];simp[c]
   rw[a]
 ·rw[M.z2m.eq_1];have:¬(b:Int)<(s.length:Int):=by omega
  have a:z96 (s.drop b)=0:=by rw[yaa h];rfl
  simp[this,a]
theorem zeo{s:Z}(h:s.length<1152921504606846976):M.q50 s=some (num s:Int):=by
 unfold M.q50;have w:(do let j_13←(do if decide (0<(s.length:Int))then let c_14←ix s 0;some (decide ((c_14.toNat:Int)=45))else some false:Option Bool)if j_13 then some (ybd .i64 (0+1))else some 0:Option Int)=some ((sgn s:Nat):Int):=by unfold sgn;cases s with|nil=>rfl|cons c r=>
   have l:(0:Int)<((c::r).length:Int):=by simp only[yao];omega
   have e:(c.toNat:Int)=45↔c=45:=toNat_eq (n:=45) (by omega);simp only[l,decide_true,if_true,ztx,yah,ya,yc,e,yal,Option.some.injEq];by_cases b:c=45<;>simp[b];rfl
 rw[w];simp only[ya,yc];have F:=zz016 s;rw[zz04h h F];simp only[yc];unfold num;simp only;generalize K:sgn s=i at*;have l2:=zr8 (s.drop i);rw[yap]at l2;by_cases u:z96 (s.drop i)=0;·rw[if_pos (by simp[u]),if_pos u];rfl
 rw[if_neg (by simp;omega),if_neg u];have L:i+z96 (s.drop i)≤s.length:=by omega
 generalize i+z96 (s.drop i)=j at*;clear w;have m:(do let j_132←(do if decide (ybd .i64 ((j:Int)+1)<(s.length:Int))then let c_133←ix s (j:Int)some (decide ((c_133.toNat:Int)=46))else some false:Option Bool)let j_138←(do if j_132 then let c_139←ix s (ybd .i64 ((j:Int)+1))let a_140←M.q4y (c_139.toNat:Int)some a_140;else some false:Option Bool)if j_138 then M.z4e s (ybd .i64 ((j:Int)+1))else some (j:Int):Option Int)=some ((j+zcf (s.drop j):Nat):Int):=by
  rw[w1 (by omega)];by_cases l:j+1<s.length
  ·have d:((j+1:Nat):Int)<(s.length:Int):=by omega
   have h2:j<s.length:=by omega
   have e:(s[j].toNat:Int)=46↔s[j]=46:=toNat_eq (n:=46) (by omega);simp only[d,decide_true,if_true,z3f,yai l,yai h2,ya,yc,e,z5w];rw[yz h2];by_cases b:s[j]=46;·rw[b];unfold zcf;simp only[decide_true,if_true,yc];have hd:=z8m l;cases A:isD s[j+1]with|false=>rw[A]at hd;simp at hd;simp[hd]|true=>rw[A]at hd;simp only[if_true]at hd⊢;rw[zz0cr h _ (j+1) rfl (by omega),if_pos (by omega)];congr 2;omega
   ·have:zcf (s[j]::s.drop (j+1))=0:=by
     unfold zcf;split;·rename_i r t;injection t with e1 e2;exact absurd e1 b
     ·rfl
    rw[this];simp[b]
  ·have d:¬(j:Int)+1<(s.length:Int):=by omega
   have:zcf (s.drop j)=0:=by
    unfold zcf;split
    ·rename_i r t;obtain⟨_,D,J⟩:=zma t;have:r=[]:=by rw[←D];exact yaa (by omega)
     rw[this];rfl
    ·rfl
   rw[this];simp[d]
 simp only[ya]at m;rw[m];simp only[yc];have G:=zr0 (s.drop j);rw[yap]at G;have E:j+zcf (s.drop j)≤s.length:=by omega
 generalize j+zcf (s.drop j)=k at*;clear m;by_cases g:k<s.length
 ·have a:(k:Int)<(s.length:Int):=by omega
  have p:s.drop k=s[k]::s.drop (k+1):=by simp
  simp only[a,decide_true,if_true,z3f,yai g,yc];have C:(if decide ((s[k].toNat:Int)=101)=true then some true else some (decide ((s[k].toNat:Int)=69)))=some (decide (s[k]=101∨s[k]=69)):=by have e:(s[k].toNat:Int)=101↔s[k]=101:=toNat_eq (n:=101) (by omega);have v:(s[k].toNat:Int)=69↔s[k]=69:=toNat_eq (n:=69) (by omega);simp only[e,v];by_cases q:s[k]=101<;>simp[q]
  rw[C];simp only[yc];rw[p];unfold zju;simp only;by_cases b:s[k]=101∨s[k]=69
  ·rw[if_pos (by simpa using b),if_pos b,w1 (by omega)];have x:(do let j_60←(if decide (((k+1:Nat):Int)<(s.length:Int))=true then do let c_61←ix s ((k+1:Nat):Int)if decide ((c_61.toNat:Int)=43)=true then some true;else do let c_62←ix s ((k+1:Nat):Int)some (decide ((c_62.toNat:Int)=45))else some false)if j_60=true then some (ybd .i64 (((k+1:Nat):Int)+1))else some ((k+1:Nat):Int))=some ((k+1+zai (s.drop (k+1)):Nat):Int):=by
    unfold zai;rw[getD];by_cases f:k+1<s.length
    ·have:((k+1:Nat):Int)<(s.length:Int):=by omega
     simp only[this,decide_true,if_true,z3f,yai f,ya,yc];have e:(s[k+1].toNat:Int)=43↔s[k+1]=43:=toNat_eq (n:=43) (by omega);have v:(s[k+1].toNat:Int)=45↔s[k+1]=45:=toNat_eq (n:=45) (by omega);simp only[e,v,Option.some.injEq];have I:ybd .i64 (((k+1:Nat):Int)+1)=((k+1+1:Nat):Int):=w1 (by omega);rw[I];by_cases q:s[k+1]=43;·simp[q]
     ·by_cases B:s[k+1]=45;·simp[B]
      ·simp[q,B]
    ·have:¬(k:Int)+1<(s.length:Int):=by omega
     simp[this,yaj (ya5 f)]
   simp only[ya]at x;rw[x];simp only[yc];have H:=zsm (s.drop (k+1));rw[yap]at H;have o:s.drop (k+1+zai (s.drop (k+1)))=(s.drop (k+1)).drop (zai (s.drop (k+1))):=by rw[yy]
   rw[zz0cs h _ _ rfl (by omega),o];simp only[yc];generalize z83 ((s.drop (k+1)).drop (zai (s.drop (k+1))))=y at*;generalize zai (s.drop (k+1))=z at*;by_cases hd:0<y;·rw[if_pos (by simp only[decide_eq_true_eq];omega),if_pos hd];simp only[yc];congr 2;omega
   ·rw[if_neg (by simp only[decide_eq_true_eq];omega),if_neg hd];rfl
  ·rw[if_neg (by simpa using b),if_neg b];rfl
 ·have a:¬(k:Int)<(s.length:Int):=by omega
  rw[yaa (ya5 g)];simp[a,zju]
end
section
open Go.Lk Go.Pe
theorem z6f{P:UInt8→Prop}(h:∀n:Fin 256,P (ybe n.val))(b:UInt8):P b:=by have:=h ⟨b.toNat,zg4⟩;simp_all
theorem z8y(c:UInt8)(s:Z):[c].isPrefixOf s=decide (s.head?=some c):=by cases s with|nil=>rfl|cons d r=>grind
def kys(a:List Z):Nat:=(a.map fun k=>k.length+1).sum
mutual
def q04.sz:q04→Nat
 | ⟨_,t,l,a⟩=>szs l+t.length+kys a+1
def szs:List q04→Nat
 | []=>0
 | x::xs=>x.sz+szs xs+1
end
theorem q04.zji(v:q04):v.sz=szs v.zi+v.z09.length+kys v.zv+1:=by cases v;rfl
theorem kys_nil:kys []=0:=rfl
theorem z7g(k:Z)(a:List Z):kys (k::a)=k.length+1+kys a:=by simp[kys]
theorem zb5:∀a:List Z,a.length≤kys a|[]=>by simp|k::a=>by have:=zb5 a;rw[z7g,yao];omega
theorem zz7:∀{b:List Z}{k:Z},k∈b→k.length<kys b
 |a::b,k,h=>by
  rw[z7g];rcases yav.1 h with rfl|h;·omega
  ·have:=zz7 h;omega
theorem zjk:∀{l:List q04}{x:q04},x∈l→x.sz<szs l
 |y::l,x,a=>by
  simp only[szs];rcases yav.1 a with rfl|a;·omega
  ·have:=zjk a;omega
theorem zjj:∀l:List q04,l.length≤szs l|[]=>by simp|y::l=>by have:=zjj l;grind[szs]
def frm(k:Int)(t:Z)(n:Nat)(a:List Z):Bool:=a.all Lib.validD&&if k=0∨k=1∨k=2 then decide (t=[])&&decide (n=0)&&decide (a=[])else if k=3 then !decide (t=[])&&decide (num t=t.length)&&decide (n=0)&&decide (a=[])else if k=4 then Lib.validD t&&decide (n=0)&&decide (a=[])else if k=5 then decide (t=[])&&decide (a=[])else if k=6 then decide (t=[])&&decide (a.length=n)&&decide a.Nodup else false
mutual
def zao:q04→Nat→Int
 | ⟨k,t,l,a⟩,w=>if (k=5∨k=6)∧16≤w then 21 else if frm k t l.length a=false then 23 else zgw l (w+1)
def zgw:List q04→Nat→Int
 | [],_=>0
 | x::xs,w=>if zao x w=0 then zgw xs w else zao x w
end
theorem z8v(v:q04)(w:Nat):zao v w=if(v.zf=5∨v.zf=6)∧16≤w then 21 else if frm v.zf v.z09 v.zi.length v.zv=false then 23 else zgw v.zi (w+1):=by cases v;rfl
def rsOf(e:Int):Rs Unit:=if e=0 then .ok ()else .pan e
theorem zp0(e:Int):M.q3m true e=some (.ok ()):=by rfl
instance:Std.Antisymm (α:=Z) (·≤·):=⟨fun _ _ h1 h2=>List.le_antisymm h1 h2⟩
theorem zz01b(l:List Z):(l.mergeSort fun x y=>decide (x≤y)).Pairwise (·≤·):=by have:=List.pairwise_mergeSort (le:=fun x y:Z=>decide (x≤y)) (by grind) (by grind) l;grind
theorem zpx{m:List Z}(e:m.Pairwise (·≤·)):(∀j,j<m.length→Lib.keeps m.toArray j=true)↔m.Nodup:=by
 rw[yay]at e;constructor;·intro d;rw[List.nodup_iff_pairwise_ne,yay];intro i j g c b f;have a:=d j c;unfold Lib.keeps at a;grind
 ·unfold Lib.keeps;grind[yay]
theorem zqo(m:List Z):(Lib.compact m).length=m.length↔∀j,j<m.length→Lib.keeps m.toArray j=true:=by grind[Lib.compact,Lib.compactUpTo,List.length_filter_eq_length_iff]
theorem zz019{l:List Z}(h:l.length*16≤140737488355328):M.single l=some (decide l.Nodup):=by unfold M.single;rw[z3k (by simpa using h)];simp only[ya,yc,Option.some.injEq];grind[List.mergeSort_perm,zpx,zz01b,zqo,List.length_mergeSort]
theorem z6g{s:Z}(h:s.length≤9223372036854775807):M.z0y s=some (Lib.validD s):=by grind[M.z0y,z3k]
theorem zom{a:List Z}(e:∀k∈a,k.length<1152921504606846976)(hl:a.length<1152921504606846976):∀(n i:Nat),a.length-i=n→i≤a.length→∃r,M.zn a (i:Int)=some r∧((a.drop i).all Lib.validD=true∧r=.go ()∨(a.drop i).all Lib.validD=false∧∃j:Nat,r=.done (j:Int)):=by intro n;induction n with
 |zero=>
  intro i hn d;rw[M.zn.eq_1];have:¬(i:Int)<(a.length:Int):=by omega
  grind|succ n g=>
  intro i hn d;have b:i<a.length:=by omega
  rw[M.zn.eq_1];have c:(i:Int)<(a.length:Int):=by omega
  have h2:=e a[i] (yak b);unfold M.q3j;simp only[c,decide_true,if_true,z3f,yai b,ya,yc];rw[z6g (by omega),yz b];cases f:Lib.validD a[i]with|false=>grind|true=>grind[w1]
theorem zhh{a:List Z}(c:∀k∈a,k.length<1152921504606846976)(hl:a.length<1152921504606846976):M.q72 a=some !a.all Lib.validD:=by
 unfold M.q72 M.q78;obtain⟨r,d,h2⟩:=zom c hl _ 0 rfl (ybb _);rcases h2 with⟨b,rfl⟩|⟨b,j,rfl⟩;·grind
 simp_all
theorem zie{k:Int}{t:Z}{n:Nat}{a:List Z}(e:¬(k=5∨k=6)∨True):frm k t n a=(decide (0≤k)&&decide (k<7)&&((decide (k=5)||decide (k=6)||decide ((n:Int)=0))&&((decide (k=6)&&decide ((a.length:Int)=(n:Int))||decide ((a.length:Int)=0)&&!decide (k=6))&&(a.all Lib.validD&&decide a.Nodup&&if k=3 then !decide (t=[])&&decide (num t=t.length)else if k=4 then Lib.validD t else decide (t=[]))))):=by
 have k0:(a.length:Int)=0↔a=[]:=by rw[←yaq];omega
 unfold frm;by_cases b:k=0;·grind
 by_cases c:k=1;·grind
 by_cases h2:k=2;·grind
 by_cases d:k=3;·grind
 grind
end
section
open Go.Lk Go.Pe
def z1q(c:UInt8):Z→Z×Z×Bool|[]=>([],[],false)|x::r=>if x=c then([],r,true)else(x::(z1q c r).1,(z1q c r).2.1,(z1q c r).2.2)
theorem cutb_nil(c:UInt8):z1q c []=([],[],false):=rfl
theorem z42(c x:UInt8)(r:Z):z1q c (x::r)=if x=c then([],r,true)else(x::(z1q c r).1,(z1q c r).2.1,(z1q c r).2.2):=rfl
theorem z5j(c x:UInt8)(r:Z):Lib.index (x::r) [c]=if x=c then 0 else if Lib.index r [c]=-1 then-1 else Lib.index r [c]+1:=by
 rw[Lib.index];by_cases h:x=c;·subst h;simp[yam]
 ·have:([c]:Z).isPrefixOf (x::r)=false:=by simp[yam,Ne.symm h]
  rw[this];simp[h]
theorem cut_b(c:UInt8):∀s:Z,Lib.cut s [c]=z1q c s
 |[]=>by simp[Lib.cut,Lib.index,z1q]|x::r=>by
  have g:=cut_b c r;have d:=Lib.index_ge r [c];have a:=z5j c x r;by_cases h:x=c;·rw[if_pos h]at a;unfold Lib.cut;rw[a,z42,if_pos h];simp
  ·rw[if_neg h]at a;rw[z42,if_neg h,←g];by_cases b:Lib.index r [c]=-1;·rw[if_pos b]at a;unfold Lib.cut;rw[a,b];simp
   ·rw[if_neg b]at a;obtain⟨k,f⟩:∃k:Nat,Lib.index r [c]=k:=⟨(Lib.index r [c]).toNat,by omega⟩;unfold Lib.cut;rw[a,f,if_pos (by omega),if_pos (by omega)];have e:((k:Int)+1).toNat=k+1:=by omega
    simp[e,ya3]
theorem z8l(c:UInt8):∀s:Z,(z1q c s).1.length+(z1q c s).2.1.length≤s.length∧((z1q c s).2.2=true→(z1q c s).1.length+(z1q c s).2.1.length+1=s.length)
 |[]=>by simp[z1q]|x::r=>by
  have a:=z8l c r;rw[z42];split;·simp
  ·simp only[yao];refine⟨by omega,fun h=>?_⟩;have:=a.2 h;omega
theorem zx1{s:Z}(c:UInt8)(h:s.length<4294967281):M.cut s [c]=some (z1q c s):=by unfold M.cut;rw[z3k (by simpa using h),←cut_b];rfl
def z0u(c:UInt8):Z→List Z|[]=>[[]]|x::r=>if x=c then[]::z0u c r else match z0u c r with|[]=>[[x]]|h::t=>(x::h)::t
theorem zpz(c:UInt8):∀s:Z,∃h t,z0u c s=h::t
 |[]=>⟨_,_,rfl⟩|x::r=>by
  unfold z0u;split;·exact⟨_,_,rfl⟩
  ·split<;>exact⟨_,_,rfl⟩
def z6w(sep:Z):Nat→Z→List Z|0,s=>[s]|k+1,s=>if Lib.index s sep=-1 then[s]else s.take (Lib.index s sep).toNat::z6w sep k (s.drop ((Lib.index s sep).toNat+sep.length))
theorem za3(s sub:Z):Lib.indexB ⟨s.toArray⟩ ⟨sub.toArray⟩=Lib.index s sub:=by unfold Lib.indexB;simp
theorem zax(s:Z)(a b:Nat):(⟨s.toArray⟩:ByteArray).extract a b=⟨((s.take b).drop a).toArray⟩:=by apply ByteArray.ext;rw[ByteArray.data_extract];simp[yac]
theorem zjd(sep:Z):∀(k:Nat)(s:Z),(Lib.splitB ⟨sep.toArray⟩ 0 k ⟨s.toArray⟩).map (·.data.toList)=z6w sep k s
 |0,s=>by simp[Lib.splitB,z6w]|k+1,s=>by
  have a:∀l:Z,(⟨l.toArray⟩:ByteArray).size=l.length:=fun l=>by simp[ByteArray.size]
  unfold Lib.splitB z6w;rw[za3];by_cases h:Lib.index s sep=-1;·rw[if_pos (by simpa using h),if_pos h];simp
  ·rw[if_neg (by simpa using h),if_neg h,zax,zax,yat,zjd sep k];simp[a]
theorem zso{sep:Z}(g:1≤sep.length):∀(n:Nat)(s:Z),s.length≤n→∀k,s.length≤k→z6w sep (Lib.countB ⟨s.toArray⟩ ⟨sep.toArray⟩) s=z6w sep k s:=by
 intro n;have b:∀l:Z,(⟨l.toArray⟩:ByteArray).size=l.length:=fun l=>by simp[ByteArray.size]
 induction n with
 |zero=>
  intro s hn k m;have:s=[]:=yae (by omega);subst this;have a:Lib.index [] sep=-1:=by rw[Lib.index,if_neg];cases sep<;>simp_all
  rw[Lib.countB_miss _ _ (by rw[za3];exact a)];cases k with|zero=>rfl|succ k=>unfold z6w;rw[if_pos a]
 |succ n o=>
  intro s hn k m;have h:=Lib.index_ge s sep;by_cases a:Lib.index s sep=-1;·rw[Lib.countB_miss _ _ (by rw[za3];exact a)];cases k with|zero=>rfl|succ k=>
    conv=>rhs;unfold z6w;rw[if_pos a]
    rfl
  ·obtain⟨i,c⟩:∃i:Nat,Lib.index s sep=i:=⟨(Lib.index s sep).toNat,by omega⟩;have d:=Lib.index_room s sep (by omega);have f:=Lib.countB_hit ⟨s.toArray⟩ ⟨sep.toArray⟩ i (by rw[b];exact g) (by rw[za3];exact c);rw[zax,b,b,ya1]at f;have hd:(s.drop (i+sep.length)).length≤n:=by rw[yap];omega
   obtain⟨k,rfl⟩:∃j,k=j+1:=⟨k-1,by omega⟩;rw[f,Nat.add_comm 1];unfold z6w;rw[if_neg a,if_neg a,c];have e:(i:Int).toNat=i:=by omega
   rw[e,o _ hd k (by rw[yap];omega)]
theorem zuu{sep:Z}(a:1≤sep.length)(s:Z):zje s sep=z6w sep s.length s:=by unfold zje;rw[zjd];exact zso a _ s (ya6 _) _ (ya6 _)
theorem zn6(c:UInt8):∀(s:Z)(k:Nat),s.length≤k→z6w [c] k s=z0u c s
 |[],k,_=>by cases k with|zero=>rfl|succ k=>unfold z6w;rw[if_pos (by simp[Lib.index])];rfl
 |x::r,k,b=>by
  obtain⟨k,rfl⟩:∃j,k=j+1:=⟨k-1,by simp at b;omega⟩;simp only[yao]at b;have l:=zn6 c r k (by omega);have g:=Lib.index_ge r [c];unfold z0u;by_cases a:x=c;·rw[if_pos a];unfold z6w;rw[z5j,if_pos a,if_neg (by decide)];simp[l]
  ·rw[if_neg a,←zn6 c r (k+1) (by omega)];unfold z6w;rw[z5j,if_neg a];by_cases d:Lib.index r [c]=-1;·simp[d]
   ·obtain⟨i,h⟩:∃i:Nat,Lib.index r [c]=i:=⟨(Lib.index r [c]).toNat,by omega⟩;rw[if_neg d,h,if_neg (by omega),if_neg (by omega)];have e:((i:Int)+1).toNat=i+1:=by omega
    have f:(i:Int).toNat=i:=by omega
    simp[e,f,ya3]
theorem zcv{s:Z}(c:UInt8)(h:s.length<4294967281):M.split s [c]=some (z0u c s):=by unfold M.split;rw[z3k (by simpa using h),zuu (by simp),zn6 c s _ (ya6 _)];rfl
def z7v:Z→List Z|[]=>[[]]|x::r=>if x=13∧r.head?=some 10 then[]::z7v (r.drop 1)else match z7v r with|[]=>[[x]]|h::t=>(x::h)::t
termination_by s=>s.length
theorem zq1:∀s:Z,∃h t,z7v s=h::t
 |[]=>⟨_,_,by unfold z7v;rfl⟩|x::r=>by
  unfold z7v;split;·exact⟨_,_,rfl⟩
  ·split<;>exact⟨_,_,rfl⟩
theorem zz02p(x:UInt8)(r:Z):([13,10]:Z).isPrefixOf (x::r)=decide (x=13∧r.head?=some 10):=by cases r with|nil=>simp[yam]|cons y r=>
  simp only[yam,yal,Option.some.injEq];by_cases a:x=13<;>by_cases h2:y=10<;>simp[a,h2];·exact fun h=>h2 h.symm
  ·exact fun h=>(a h.symm).elim
  ·exact fun h=>(a h.symm).elim
theorem zb0(x:UInt8)(r:Z):Lib.index (x::r) [13,10]=if x=13∧r.head?=some 10 then 0 else if Lib.index r [13,10]=-1 then-1 else Lib.index r [13,10]+1:=by
 rw[Lib.index,zz02p];by_cases h:x=13∧r.head?=some 10;·simp[h]
 ·simp[h]
theorem zz04x:∀(n:Nat)(s:Z)(k:Nat),s.length≤n→s.length≤k→z6w [13,10] k s=z7v s:=by intro n;induction n with
 |zero=>intro s k hn b;have:s=[]:=yae (by omega);subst this;unfold z7v;cases k with|zero=>rfl|succ k=>unfold z6w;rw[if_pos (by simp[Lib.index])]
 |succ n d=>intro s k hn b;cases s with
  |nil=>unfold z7v;cases k with|zero=>rfl|succ k=>unfold z6w;rw[if_pos (by simp[Lib.index])]
  |cons x r=>
   simp only[yao]at hn b;obtain⟨k,rfl⟩:∃j,k=j+1:=⟨k-1,by omega⟩;have g:=Lib.index_ge r [13,10];unfold z7v;by_cases a:x=13∧r.head?=some 10
   ·rw[if_pos a];unfold z6w;rw[zb0,if_pos a,if_neg (by decide)];have hd:(r.drop 1).length≤n:=by rw[yap];omega
    have q:=d (r.drop 1) k hd (by rw[yap];omega);simpa using q
   ·rw[if_neg a,←d r (k+1) (by omega) (by omega)];unfold z6w;rw[zb0,if_neg a];by_cases c:Lib.index r [13,10]=-1;·simp[c]
    ·obtain⟨i,h⟩:∃i:Nat,Lib.index r [13,10]=i:=⟨(Lib.index r [13,10]).toNat,by omega⟩;rw[if_neg c,h,if_neg (by omega),if_neg (by omega)];have e:((i:Int)+1).toNat=i+1:=by omega
     have f:(i:Int).toNat=i:=by omega
     simp[e,f,ya4]
theorem zz029{s:Z}(h:s.length<4294967281):M.split s [13,10]=some (z7v s):=by unfold M.split;rw[z3k (by simpa using h),zuu (by simp),zz04x _ s _ (ya6 _) (ya6 _)];rfl
end
section
open Go.Lk Go.Pe
theorem z6j(b:Bool)(e:Int):M.q3m b e=some (if b=true then .ok ()else .pan e):=by cases b<;>simp[M.q3m]
theorem zdq(x:q04)(xs:List q04)(w:Nat):zgw (x::xs) w=if zao x w=0 then zgw xs w else zao x w:=by simp only[zgw]
theorem zvb{v:q04}{self:q04→Int→Option (Rs Unit)}{w:Nat}(g:w≤16)(hl:v.zi.length<1152921504606846976)(e:∀x∈v.zi,self x ((w+1:Nat):Int)=some (rsOf (zao x (w+1)))):∀(n i:Nat),v.zi.length-i=n→i≤v.zi.length→M.z39 v self (w:Int) (i:Int)=some (rsOf (zgw (v.zi.drop i) (w+1))):=by
 intro n;induction n with|zero=>
  intro i hn d;rw[M.z39.eq_1];have:¬(i:Int)<(v.zi.length:Int):=by omega
  rw[if_neg (by simpa using this),yaa (by omega)];rfl|succ n f=>
  intro i hn d;have a:i<v.zi.length:=by omega
  rw[M.z39.eq_1];have c:(i:Int)<(v.zi.length:Int):=by omega
  simp only[c,decide_true,if_true,z3f,yai a,ya,yc];rw[w1 (n:=w) (by omega),e _ (yak a),w1 (by omega),f (i+1) (by omega) (by omega),yz a,zdq];simp only[yc];unfold rsOf;by_cases b:zao v.zi[i] (w+1)=0;·simp[b]
  ·simp[b]
def Small(v:q04):Prop:=v.sz<1000000000
theorem Small.mem{v x:q04}(h:Small v)(a:x∈v.zi):Small x:=by unfold Small at*;have:=zjk a;rw[q04.zji v]at h;omega
theorem Small.parts{v:q04}(h:Small v):v.z09.length<1000000000∧v.zi.length<1000000000∧v.zv.length<1000000000∧∀k∈v.zv,k.length<1000000000:=by unfold Small at h;rw[q04.zji]at h;have b:=zjj v.zi;have h2:=zb5 v.zv;exact⟨by omega,by omega,by omega,fun k a=>by have:=zz7 a;omega⟩
theorem zic:∀(f:Nat)(v:q04)(w:Nat),w≤16→17≤f+w→Small v→M.q3i f v (w:Int)=some (rsOf (zao v w)):=by intro f;induction f with|zero=>intro v w l h2;omega|succ f C=>
  intro v w B hf c;obtain⟨E,F,G,D⟩:=c.parts;have g:v.zi=[]∨w<16→M.z39 v (M.q3i f) (w:Int) 0=some (rsOf (zgw v.zi (w+1))):=by
   intro h;refine zvb B (by omega) (fun x j=>?_) _ 0 rfl (ybb _);rcases h with h|h;·rw[h]at j;cases j
   ·exact C x (w+1) (by omega) (by omega) (c.mem j)
  rw[M.q3i,z8v,zie (.inr trivial)];simp only[z6j,zhh fun k a=>by have:=D k a;omega (show v.zv.length<1152921504606846976 by omega),zz019 (show v.zv.length*16≤140737488355328 by omega),ya,yc];have z:(if(! !v.zv.all Lib.validD)=true then some (decide v.zv.Nodup)else some false)=some (v.zv.all Lib.validD&&decide v.zv.Nodup):=by cases v.zv.all Lib.validD<;>simp
  rw[z];simp only[yc];have b:=zcn (s:=v.z09) (by omega);have i:=z6g (s:=v.z09) (by omega);generalize y:(v.zv.all Lib.validD&&decide v.zv.Nodup)=q;generalize u:(decide (v.zf=6)&&decide ((v.zv.length:Int)=(v.zi.length:Int))||decide ((v.zv.length:Int)=0)&&!decide (v.zf=6))=p;generalize t:(decide (0≤v.zf)&&decide (v.zf<7))=n;by_cases hd:(v.zf=5∨v.zf=6)∧16≤w
  ·have:(!(decide (v.zf=5)||decide (v.zf=6))||decide ((w:Int)<16))=false:=by rw[←ym,yq,yn,←ym,yq];simp only[decide_eq_true_eq];omega
   rw[this,if_pos hd];rfl
  ·have l:(!(decide (v.zf=5)||decide (v.zf=6))||decide ((w:Int)<16))=true:=by rw[yq,yn,←ym,yq];simp only[decide_eq_true_eq];omega
   rw[l,if_neg hd];have r:(decide (v.zf=5)||decide (v.zf=6)||decide ((v.zi.length:Int)=0))=true→v.zi=[]∨w<16:=by
    rw[yq,yq];simp only[decide_eq_true_eq];intro h;rcases h with h|h;·exact .inr (by omega)
    ·exact .inl (yae (by omega))
   generalize(decide (v.zf=5)||decide (v.zf=6)||decide ((v.zi.length:Int)=0))=o at*;cases n with|false=>rfl|true=>cases o with|false=>rfl|true=>cases p with|false=>rfl|true=>cases q with|false=>rfl|true=>
       have a:=g (r rfl);have e:((num v.z09:Nat):Int)=(v.z09.length:Int)↔num v.z09=v.z09.length:=by omega
       simp only[if_true,yr];by_cases k3:v.zf=3
       ·by_cases d:v.z09=[];·simp[k3,d,rsOf]
        ·by_cases hn:num v.z09=v.z09.length;·simp[k3,d,hn,b,a]
         ·have:¬((num v.z09:Nat):Int)=(v.z09.length:Int):=fun x=>hn (e.1 x);simp[k3,d,hn,b,this,rsOf]
       ·by_cases m:v.zf=4;·cases A:Lib.validD v.z09<;>simp[m,A,i,a,rsOf]
        ·by_cases d:v.z09=[]<;>simp[k3,m,d,a,rsOf]
theorem zmi{v:q04}{f:Nat}(hf:17≤f)(h:Small v):M.q3c f v=some (zao v 0):=by unfold M.q3c;have a:=zic f v 0 (by omega) (by omega) h;have a:M.q3i f v 0=some (rsOf (zao v 0)):=a;rw[a];simp only[ya,yc];unfold rsOf;by_cases b:zao v 0=0<;>simp[b]
theorem zz07n{v:q04}(d:∀k∈v.zv,k.length<1152921504606846976)(hl:v.zv.length<1152921504606846976):∀(n i:Nat),v.zv.length-i=n→i≤v.zv.length→M.z5x v (i:Int)=some (if(v.zv.drop i).all Lib.validD=true then .go ()else .done false):=by
 intro n;induction n with|zero=>
  intro i hn c;rw[M.z5x.eq_1];have:¬(i:Int)<(v.zv.length:Int):=by omega
  rw[if_neg (by simpa using this),yaa (by omega)];rfl|succ n f=>
  intro i hn c;have a:i<v.zv.length:=by omega
  rw[M.z5x.eq_1];have b:(i:Int)<(v.zv.length:Int):=by omega
  have h2:=d v.zv[i] (yak a);simp only[b,decide_true,if_true,z3f,yai a,ya,yc];rw[z6g (by omega),yz a,w1 (by omega),f (i+1) (by omega) (by omega)];simp only[yc,List.all_cons];by_cases e:Lib.validD v.zv[i]=true<;>simp[e]
theorem zz054{l:List Z}(hl:l.length<1152921504606846976){i:Nat}(c:i<l.length):∀(n k:Nat),i-k=n→k≤i→M.z4x (i:Int) l (k:Int)=some (if l[i]∈(l.take i).drop k then .done (.done true)else .go ()):=by
 intro n;induction n with|zero=>
  intro k hn d;rw[M.z4x.eq_1];have:¬(k:Int)<(i:Int):=by omega
  rw[if_neg (by simpa using this),yaa (by simp;omega)];simp|succ n f=>
  intro k hn d;rw[M.z4x.eq_1];have b:(k:Int)<(i:Int):=by omega
  have a:k<l.length:=by omega
  simp only[b,decide_true,if_true,z3f,yai c,yai a,ya,yc];rw[w1 (by omega),f (k+1) (by omega) (by omega)];have e:(l.take i).drop k=l[k]::(l.take i).drop (k+1):=by rw[yz (by simp;omega)];simp
  rw[e];by_cases h:l[i]=l[k];·simp[h]
  ·simp[h]
theorem zz053{l:List Z}(hl:l.length<1152921504606846976):∀(n i:Nat),l.length-i=n→i≤l.length→(l.take i).Nodup→M.z4w l (i:Int)=some (if l.Nodup then .go ()else .done true):=by
 intro n;induction n with|zero=>
  intro i hn m hd;rw[M.z4w.eq_1];have:¬(i:Int)<(l.length:Int):=by omega
  rw[List.take_of_length_le (by omega)]at hd;rw[if_neg (by simpa using this),if_pos hd]|succ n o=>
  intro i hn m hd;have d:i<l.length:=by omega
  rw[M.z4w.eq_1];have j:(i:Int)<(l.length:Int):=by omega
  have h2:=zz054 hl d _ 0 rfl (ybb _);simp only[j,decide_true,if_true,ya];have h2:M.z4x (i:Int) l 0=_:=h2;rw[h2];simp only[yc,yad];have e:l.take (i+1)=l.take i++[l[i]]:=by simp
  by_cases c:l[i]∈l.take i
  ·rw[if_pos c];have:¬l.Nodup:=fun h=>by have f:=(List.take_sublist (i+1) l).nodup h;rw[e,yax]at f;exact f.2.2 _ c _ (by simp) rfl
   simp[this]
  ·rw[if_neg c];simp only;rw[w1 (by omega)];refine o (i+1) (by omega) (by omega) ?_;rw[e,yax];exact⟨hd,by simp,fun a k b g=>by simp at g;subst g;intro h;subst h;exact c k⟩
theorem zuv{l:List Z}(hl:l.length<1152921504606846976):M.q5c l=some !decide l.Nodup:=by unfold M.q5c;have h:=zz053 hl _ 0 rfl (ybb _) (by simp);have h:M.z4w l 0=_:=h;rw[h];by_cases hn:l.Nodup<;>simp[hn]
theorem zrx{v:q04}(h:Small v):M.q4z v=some (frm v.zf v.z09 v.zi.length v.zv):=by obtain⟨o,p,q,m⟩:=h.parts;unfold M.q4z;have a:=zz07n (v:=v) fun k i=>by have:=m k i;omega (by omega) _ 0 rfl (ybb _);have a:M.z5x v 0=_:=a;rw[a];simp only[yad,ya,yc];unfold frm;cases n:v.zv.all Lib.validD with|false=>simp|true=>
  simp only[if_true,yr];have k0:(v.zv.length:Int)=0↔v.zv=[]:=by rw[←yaq];omega
  have l:(v.zi.length:Int)=0↔v.zi.length=0:=by omega
  have j:(v.zv.length:Int)=(v.zi.length:Int)↔v.zv.length=v.zi.length:=by omega
  have nn:((num v.z09:Nat):Int)=(v.z09.length:Int)↔num v.z09=v.z09.length:=by omega
  rw[zeo (by omega),z6g (by omega),zuv (by omega)];simp only[yc,k0,l,j,nn];by_cases d:v.zf=0;·simp[d]
  by_cases a:v.zf=1;·simp[a]
  by_cases h2:v.zf=2;·simp[h2]
  by_cases c:v.zf=3
  ·by_cases b:v.z09=[];·simp[c,b]
   ·by_cases hn:num v.z09=v.z09.length
    ·by_cases hl:v.zi.length=0;·simp[c,b,hn,hl]
     ·simp[c,b,hn,hl]
    ·simp[c,b,hn]
  by_cases e:v.zf=4;·simp[e]
  by_cases f:v.zf=5;·simp[f]
  by_cases g:v.zf=6;·by_cases b:v.z09=[]<;>by_cases hn:v.zv.length=v.zi.length<;>simp[g,b,hn]
  simp[d,a,h2,c,e,f,g]
theorem zz02n{v:q04}{self:q04→Int→Option Int}{w:Nat}(g:w≤16)(hl:v.zi.length<1152921504606846976)(e:∀x∈v.zi,self x ((w+1:Nat):Int)=some (zao x (w+1))):∀(n i:Nat),v.zi.length-i=n→i≤v.zi.length→M.z4v v self (w:Int) (i:Int)=some (if zgw (v.zi.drop i) (w+1)=0 then .go ()else .done (zgw (v.zi.drop i) (w+1))):=by
 intro n;induction n with|zero=>
  intro i hn d;rw[M.z4v.eq_1];have:¬(i:Int)<(v.zi.length:Int):=by omega
  rw[if_neg (by simpa using this),yaa (by omega)];rfl|succ n f=>
  intro i hn d;have a:i<v.zi.length:=by omega
  rw[M.z4v.eq_1];have c:(i:Int)<(v.zi.length:Int):=by omega
  simp only[c,decide_true,if_true,z3f,yai a,ya,yc];rw[w1 (n:=w) (by omega),e _ (yak a),w1 (by omega),f (i+1) (by omega) (by omega),yz a,zdq];simp only[yc];by_cases b:zao v.zi[i] (w+1)=0;·simp[b]
  ·simp[b]
theorem zpg:∀(f:Nat)(v:q04)(w:Nat),w≤16→17≤f+w→Small v→M.q4x f v (w:Int)=some (zao v w):=by intro f;induction f with|zero=>intro v w k h2;omega|succ f j=>
  intro v w i hf c;obtain⟨l,m,n,o⟩:=c.parts;rw[M.q4x,z8v,zrx c];have e:((decide (v.zf=5)||decide (v.zf=6))&&decide (16≤(w:Int)))=decide ((v.zf=5∨v.zf=6)∧16≤w):=by rw[yk,yh,yq];simp only[decide_eq_true_eq];omega
  rw[e];by_cases hd:(v.zf=5∨v.zf=6)∧16≤w;·simp[hd]
  ·rw[if_neg (by simpa using hd),if_neg hd];simp only[ya,yc];cases a:frm v.zf v.z09 v.zi.length v.zv with|false=>simp|true=>
    have hl:v.zi=[]∨w<16:=by
     rw[zie (.inr trivial)]at a;simp only[yh,yq,decide_eq_true_eq]at a;rcases a.2.1 with h|h;·exact .inr (by omega)
     ·exact .inl (yae (by omega))
    have b:=zz02n (v:=v) (self:=M.q4x f) i (by omega) (fun x d=>by
     rcases hl with h|h;·rw[h]at d;cases d
     ·exact j x (w+1) (by omega) (by omega) (c.mem d)) _ 0 rfl (ybb _);have b:M.z4v v (M.q4x f) (w:Int) 0=_:=b;rw[b];simp only[yad];by_cases g:zgw v.zi (w+1)=0<;>simp[g]
theorem zpc{v:q04}{f:Nat}(hf:17≤f)(h:Small v):M.q4o f v=some (zao v 0):=by unfold M.q4o;have a:M.q4x f v 0=some (zao v 0):=zpg f v 0 (by omega) (by omega) h;rw[a];rfl
end
section
open Go.Lk Go.Pe
theorem z1z{a:List Int}{b:Int}(h:a.length<1099511627776):M.q7c a b=some (a++[b]):=by unfold M.q7c M.z5g;simp only[ya,yc];rw[z0h (by simp;omega)];rfl
theorem z3q{a:List Int}{b:Z}(h:a.length+b.length<1099511627776):M.q7d a b=some ((b.length:Int),a++unb b):=by unfold M.q7d M.z5g;simp only[ya,yc];rw[z0h (by simp[unb];omega)];rfl
theorem builderLen_eq(a:List Int):M.q7b a=some (a.length:Int):=rfl
theorem z2p(s:Z):M.zy (unb s)=some s:=by unfold M.zy;rw[z3k (by simp[z74])];simp[z74]
def hexd(n:Nat):UInt8:=ybe (if n<10 then 48+n else 87+n)
def qb(c:UInt8):Z:=if c=34∨c=92 then[92,c]else if c=8 then[92,98]else if c=9 then[92,116]else if c=10 then[92,110]else if c=12 then[92,102]else if c=13 then[92,114]else if c.toNat<32 then[92,117,48,48,hexd (c.toNat/16),hexd (c.toNat%16)]else[c]
def qbs(s:Z):Z:=s.flatMap qb
def qt(s:Z):Z:=34::qbs s++[34]
theorem zz00d(c:UInt8):(qb c).length≤6:=by
 unfold qb;repeat' split
 all_goals simp
theorem zmv:∀s:Z,(qbs s).length≤6*s.length|[]=>by simp[qbs]|c::s=>by have a:=zz00d c;have h2:=zmv s;simp only[qbs,List.flatMap_cons,yan,yao]at*;omega
theorem zup(s:Z):(qt s).length≤6*s.length+2:=by have:=zmv s;simp only[qt,yan,yao,yar];omega
theorem zun(c:UInt8)(s:Z):qbs (c::s)=qb c++qbs s:=by simp[qbs]
def jstep(x:Int):Option Z:=do let a←M.indexByte ([34,92,8,9,10,12,13]:Z) x;if decide (0≤a)then let s_87←sub ([34,92,98,116,110,102,114]:Z) a (ybd .i64 (a+1))cat ([92]:Z) s_87;else
  if decide (x<32)then let s_91←sub ([48,49]:Z) (zez .u8 x 4) (ybd .u8 (zez .u8 x 4+1))let s_92←cat ([92,117,48,48]:Z) s_91;let s_93←sub ([48,49,50,51,52,53,54,55,56,57,97,98,99,100,101,102]:Z) (z7s .u8 x 15) (ybd .u8 (z7s .u8 x 15+1))cat s_92 s_93;else some [ybe x.toNat]
theorem zz03t:∀c:UInt8,jstep (c.toNat:Int)=some (qb c):=z6f (by decide+kernel)
theorem zz00e{s:Z}(q:s.length<100000000000):∀(n i:Nat)(acc:List Int),s.length-i=n→i≤s.length→acc.length+6*n<1099511627776→M.z22 s (i:Int) acc=some (acc++unb (qbs (s.drop i))):=by
 intro n;induction n with|zero=>
  intro i acc hn m l;rw[M.z22.eq_1];have:¬(i:Int)<((unb s).length:Int):=by rw[zl];omega
  rw[if_neg (by simpa using this),yaa (by omega)];simp[qbs,unb]|succ n o=>
  intro i acc hn m l;have c:i<s.length:=by omega
  have k:(i:Int)<((unb s).length:Int):=by rw[zl];omega
  have b:=zz03t s[i];have p:=zz00d s[i];rw[M.z22.eq_1];simp only[k,decide_true,if_true,z3f,zfi,yai c,yf,ya,yc];rw[w1 (by omega)];have next:∀a:List Int,a=acc++unb (qb s[i])→M.z22 s ((i+1:Nat):Int) a=some (acc++unb (qbs (s.drop i))):=by rintro a rfl;rw[o (i+1) _ (by omega) (by omega) (by simp[unb];omega),yz c,zun,z0j,yu]
  unfold jstep at b;simp only[ya]at b;cases h:M.indexByte ([34,92,8,9,10,12,13]:Z) (s[i].toNat:Int)with|none=>rw[h]at b;cases b|some a=>
   rw[h]at b;simp only[yc]at b⊢;by_cases e:0≤a;·rw[if_pos (by simpa using e)]at b⊢;cases d:sub ([34,92,98,116,110,102,114]:Z) a (ybd .i64 (a+1))with|none=>rw[d]at b;cases b|some y=>rw[d]at b;simp only[yc]at b⊢;rw[b];simp only[yc];rw[z3q (by omega)];exact next _ rfl
   ·rw[if_neg (by simpa using e)]at b⊢;by_cases f:(s[i].toNat:Int)<32;·rw[if_pos (by simpa using f)]at b⊢;cases d:sub ([48,49]:Z) (zez .u8 (s[i].toNat:Int) 4) (ybd .u8 (zez .u8 (s[i].toNat:Int) 4+1))with|none=>rw[d]at b;cases b|some y=>rw[d]at b;simp only[yc]at b⊢;cases j:cat ([92,117,48,48]:Z) y with|none=>rw[j]at b;cases b|some z=>rw[j]at b;simp only[yc]at b⊢;cases g:sub ([48,49,50,51,52,53,54,55,56,57,97,98,99,100,101,102]:Z) (z7s .u8 (s[i].toNat:Int) 15) (ybd .u8 (z7s .u8 (s[i].toNat:Int) 15+1))with|none=>rw[g]at b;cases b|some u=>rw[g]at b;simp only[yc]at b⊢;rw[b];simp only[yc];rw[z3q (by omega)];exact next _ rfl
    ·rw[if_neg (by simpa using f)]at b⊢;rw[z1z (by omega)];simp only[Option.some.injEq]at b;refine next _ ?_;rw[←b];simp[unb]
theorem zco{s:Z}{acc:List Int}(h:acc.length+6*s.length+2<100000000000):M.q3o acc s=some (acc++unb (qt s)):=by unfold M.q3o;rw[z1z (by omega),z3k (by simp;omega)];simp only[ya,yc];have a:=zz00e (s:=s) (by omega) _ 0 (acc++[34]) rfl (ybb _) (by simp;omega);have a:M.z22 s 0 (acc++[34])=_:=a;rw[a];simp only[yc,yad];have:=zmv s;rw[z1z (by simp[unb];omega)];simp[qt,unb]
theorem zz04p:∀c:UInt8,∀acc:List Int,acc.length<1000000000000→∀k:List Int→Option (List Int),(if decide ((c.toNat:Int)=34)||decide ((c.toNat:Int)=92)then(app 1 acc [92,(c.toNat:Int)]).bind k else if decide ((c.toNat:Int)=8)then(app 1 acc (unb ([92,98]:Z))).bind k else if decide ((c.toNat:Int)=9)then(app 1 acc (unb ([92,116]:Z))).bind k else if decide ((c.toNat:Int)=10)then(app 1 acc (unb ([92,110]:Z))).bind k else if decide ((c.toNat:Int)=12)then(app 1 acc (unb ([92,102]:Z))).bind k else if decide ((c.toNat:Int)=13)then(app 1 acc (unb ([92,114]:Z))).bind k else if decide ((c.toNat:Int)<32)then(ix ([48,49,50,51,52,53,54,55,56,57,97,98,99,100,101,102]:Z) (ybd .u8 (Int.tdiv (c.toNat:Int) 16))).bind fun c_81=>(ix ([48,49,50,51,52,53,54,55,56,57,97,98,99,100,101,102]:Z) (ybc (c.toNat:Int) 16)).bind fun c_82=>(app 1 acc [92,117,48,48,(c_81.toNat:Int),(c_82.toNat:Int)]).bind k else(app 1 acc [(c.toNat:Int)]).bind k:Option (List Int))=k (acc++unb (qb c)):=by
 intro c acc q k;have ap:∀l:List Int,l.length≤6→app 1 acc l=some (acc++l):=fun l hl=>z0h (by omega);have t:∀n:Nat,n<256→((c.toNat:Int)=(n:Int)↔c=ybe n):=fun n hn=>toNat_eq hn;by_cases f:c=34;·subst f;rw[if_pos (by decide),ap _ (by simp)];rfl
 by_cases g:c=92;·subst g;rw[if_pos (by decide),ap _ (by simp)];rfl
 have m:¬(c.toNat:Int)=34:=fun e=>f ((t 34 (by omega)).1 e);have o:¬(c.toNat:Int)=92:=fun e=>g ((t 92 (by omega)).1 e);rw[if_neg (by simp[m,o])];by_cases i:c=8;·subst i;rw[if_pos (by decide),ap _ (by decide)];rfl
 rw[if_neg (by simpa using fun e=>i ((t 8 (by omega)).1 e))];by_cases j:c=9;·subst j;rw[if_pos (by decide),ap _ (by decide)];rfl
 rw[if_neg (by simpa using fun e=>j ((t 9 (by omega)).1 e))];by_cases a:c=10;·subst a;rw[if_pos (by decide),ap _ (by decide)];rfl
 rw[if_neg (by simpa using fun e=>a ((t 10 (by omega)).1 e))];by_cases b:c=12;·subst b;rw[if_pos (by decide),ap _ (by decide)];rfl
 rw[if_neg (by simpa using fun e=>b ((t 12 (by omega)).1 e))];by_cases d:c=13;·subst d;rw[if_pos (by decide),ap _ (by decide)];rfl
 rw[if_neg (by simpa using fun e=>d ((t 13 (by omega)).1 e))];have eq:qb c=if c.toNat<32 then[92,117,48,48,hexd (c.toNat/16),hexd (c.toNat%16)]else[c]:=by unfold qb;simp[f,g,i,j,a,b,d]
 rw[eq];by_cases cl:c.toNat<32
 ·have h:(c.toNat:Int)<32:=by omega
  rw[if_pos (by simpa using h),if_pos cl];have tab:∀n:Fin 32,ix ([48,49,50,51,52,53,54,55,56,57,97,98,99,100,101,102]:Z) (ybd .u8 (Int.tdiv (n.val:Int) 16))=some (hexd (n.val/16))∧ix ([48,49,50,51,52,53,54,55,56,57,97,98,99,100,101,102]:Z) (ybc (n.val:Int) 16)=some (hexd (n.val%16)):=by decide+kernel
  obtain⟨p,h2⟩:=tab ⟨c.toNat,cl⟩;simp only at p h2;rw[p,h2];simp only[yc];rw[ap _ (by simp)];rfl
 ·have h:¬(c.toNat:Int)<32:=by omega
  rw[if_neg (by simpa using h),if_neg cl,ap _ (by simp)];rfl
theorem zz09y{s:Z}(g:s.length<100000000000):∀(n i:Nat)(acc:List Int),s.length-i=n→i≤s.length→acc.length+6*n<1000000000000→M.z1w s acc (i:Int)=some (acc++unb (qbs (s.drop i))):=by
 intro n;induction n with|zero=>
  intro i acc hn d c;rw[M.z1w.eq_1];have:¬(i:Int)<(s.length:Int):=by omega
  rw[if_neg (by simpa using this),yaa (by omega)];simp[qbs,unb]|succ n e=>
  intro i acc hn d c;have a:i<s.length:=by omega
  have b:(i:Int)<(s.length:Int):=by omega
  have f:=zz00d s[i];rw[M.z1w.eq_1];simp only[b,decide_true,if_true,z3f,yai a,ya,yc];rw[w1 (by omega)];rw[zz04p s[i] acc (by omega) fun l=>M.z1w s l ((i+1:Nat):Int)];rw[e (i+1) _ (by omega) (by omega) (by simp[unb];omega),yz a,zun,z0j,yu]
theorem zj2{s:Z}(h:s.length<100000000000):M.q4v s=some (unb (qt s)):=by unfold M.q4v;have a:=zz09y (s:=s) (by omega) _ 0 [34] rfl (ybb _) (by simp;omega);have a:M.z1w s [34] 0=_:=a;rw[a];have:=zmv s;simp only[ya,yc,yad];rw[z0h (by simp[unb];omega)];simp[qt,unb]
end
section
open Go.Lk Go.Pe
mutual
def prJ:q04→Z
 | ⟨k,t,l,a⟩=>if k=0 then B30 else if k=1 then B22 else if k=2 then B31 else if k=3 then t else if k=4 then qt t
  else (if k=6 then 123 else 91)::prL (decide (k=6)) l a true++[if k=6 then 125 else 93]
def prL (o:Bool):List q04→List Z→Bool→Z
 | [],_,_=>[]
 | x::xs,a,f=>(if f=true then [] else [44])++((if o=true then qt (a.head?.getD [])++[58] else [])++(prJ x++prL o xs a.tail false))
end
theorem zz009(v:q04):prJ v=if v.zf=0 then B30 else if v.zf=1 then B22 else if v.zf=2 then B31 else if v.zf=3 then v.z09 else if v.zf=4 then qt v.z09 else(if v.zf=6 then 123 else 91)::prL (decide (v.zf=6)) v.zi v.zv true++[if v.zf=6 then 125 else 93]:=by cases v;simp only[prJ]
theorem zh3(o:Bool)(x:q04)(xs:List q04)(a:List Z)(f:Bool):prL o (x::xs) a f=(if f=true then[]else[44])++((if o=true then qt (a.head?.getD [])++[58]else[])++(prJ x++prL o xs a.tail false)):=by simp only[prL]
theorem zrb(a:List Z):(qt (a.head?.getD [])).length≤2+6*(kys a-kys a.tail)∧kys a.tail≤kys a:=by cases a with|nil=>simp[qt,qbs]|cons k a=>have:=zup k;rw[z7g];simp only[yal,yd,yaz];omega
mutual
theorem zmt:∀ v:q04,(prJ v).length≤7*v.sz
 | ⟨k,t,l,a⟩=>by
  have b:=zmu (decide (k=6)) l a true
  have h2:=zup t
  simp only [prJ,q04.sz]
  repeat' split
  all_goals try simp only [yan,yao,yar]
  all_goals omega
theorem zmu:∀ (o:Bool) (l:List q04) (a:List Z) (f:Bool),(prL o l a f).length≤7*szs l+7*kys a
 | _,[],_,_=>by simp [prL]
 | o,x::xs,a,f=>by
  have b:=zmt x
  have h2:=zmu o xs a.tail false
  obtain ⟨c,d⟩:=zrb a
  simp only [prL,szs]
  repeat' split
  all_goals simp only [yan,yao,yar]
  all_goals omega
end
theorem tail_drop{α:Type}(l:List α)(i:Nat):(l.drop i).tail=l.drop (i+1):=by simp
theorem zz08a{v:q04}{self:List Int→q04→Option (List Int)}(hl:v.zi.length<1152921504606846976)(s:v.zf=6→v.zv.length=v.zi.length)(z:∀x∈v.zi,∀a:List Int,a.length+7*x.sz<90000000000→self a x=some (a++unb (prJ x))):∀(n i:Nat)(acc:List Int),v.zi.length-i=n→i≤v.zi.length→acc.length+7*szs (v.zi.drop i)+7*kys (v.zv.drop i)<90000000000→M.z3n v self (i:Int) acc=some (acc++unb (prL (decide (v.zf=6)) (v.zi.drop i) (v.zv.drop i) (decide (i=0)))):=by
 intro n;induction n with|zero=>
  intro i acc hn r p;rw[M.z3n.eq_1];have:¬(i:Int)<(v.zi.length:Int):=by omega
  rw[if_neg (by simpa using this),(yaa (by omega):v.zi.drop i=[])];simp[prL,unb]|succ n m=>
  intro i acc hn r p;have b:i<v.zi.length:=by omega
  have o:(i:Int)<(v.zi.length:Int):=by omega
  rw[M.z3n.eq_1];simp only[o,decide_true,if_true,z3f,yai b,ya,yc];rw[w1 (by omega)];have f:v.zi.drop i=v.zi[i]::v.zi.drop (i+1):=yz b;have A:szs (v.zi.drop i)=v.zi[i].sz+szs (v.zi.drop (i+1))+1:=by rw[f];simp only[szs]
  have t:kys (v.zv.drop (i+1))≤kys (v.zv.drop i):=by rw[←tail_drop];exact(zrb _).2
  have j:(if decide (0<(i:Int))=true then(M.q7c acc 44).bind fun a_119=>some a_119 else some acc)=some (acc++unb (if decide (i=0)=true then[]else[44])):=by
   by_cases l:i=0;·simp[l,unb]
   ·have:0<(i:Int):=by omega
    rw[z1z (by omega)];simp[l,this,unb]
  rw[j];simp only[yc];have q:(if decide (i=0)=true then([]:Z)else[44]).length≤1:=by split<;>simp
  generalize e:(if decide (i=0)=true then([]:Z)else[44])=B at j q;have k:=z _ (yak b);have w:=zmt v.zi[i];by_cases d:v.zf=6
  ·have c:i<v.zv.length:=by rw[s d];exact b
   have h:v.zv.drop i=v.zv[i]::v.zv.drop (i+1):=yz c;have u:kys (v.zv.drop i)=v.zv[i].length+1+kys (v.zv.drop (i+1)):=by rw[h,z7g]
   have y:=zup v.zv[i];simp only[d,decide_true,if_true,yai c,yc];rw[zco (by simp[unb];omega)];simp only[yc];rw[z1z (by simp[unb];omega)];simp only[yc];rw[k _ (by simp[unb];omega)];simp only[yc];rw[m (i+1) _ (by omega) (by omega) (by simp[unb];omega),f,zh3,e,h];have g:([58]:List Int)=unb [58]:=rfl;rw[g];simp[d,z0j,yai c];rw[←z0j,←z0j];rfl
  ·rw[if_neg (by simpa using d)];rw[k _ (by simp[unb];omega)];simp only[yc];rw[m (i+1) _ (by omega) (by omega) (by simp[unb];omega),f,zh3,e,tail_drop];simp[d,z0j]
theorem zgx:∀{l:List q04}{w:Nat},zgw l w=0→∀x∈l,zao x w=0
 |y::l,w,h,x,b=>by
  rw[zdq]at h;by_cases a:zao y w=0
  ·rw[if_pos a]at h;rcases yav.1 b with rfl|b;·exact a
   ·exact zgx h x b
  ·rw[if_neg a]at h;exact absurd h a
theorem zbo{v:q04}{w:Nat}(h:zao v w=0):¬((v.zf=5∨v.zf=6)∧16≤w)∧frm v.zf v.z09 v.zi.length v.zv=true∧zgw v.zi (w+1)=0:=by
 rw[z8v]at h;split at h;·cases h
 ·rename_i a;split at h;·cases h
  ·rename_i h2;exact⟨a,by simpa using h2,h⟩
theorem zm7{k:Int}{t:Z}{n:Nat}{b:List Z}(h:frm k t n b=true):(k=6→b.length=n)∧(¬(k=5∨k=6)→n=0)∧0≤k∧k<7:=by
 rw[zie (.inr trivial)]at h;simp only[yh,yq,decide_eq_true_eq]at h;obtain⟨c,h2,a,_⟩:=h;refine⟨fun e=>?_,fun e=>?_,c⟩
 ·rcases a with a|a;·omega
  ·simp[e]at a
 ·rcases h2 with h2|h2;·exact absurd h2 e
  ·omega
theorem zop:∀(f:Nat)(v:q04)(w:Nat),w≤16→17≤f+w→zao v w=0→∀a:List Int,a.length+7*v.sz<90000000000→M.q3l f a v=some (a++unb (prJ v)):=by intro f;induction f with|zero=>intro v w j h2;omega|succ f D=>
  intro v w G hf B a F;obtain⟨c1,t,u⟩:=zbo B;obtain⟨y,z,E⟩:=zm7 t;have C:=q04.zji v;have o:=zmt v;rw[M.q3l,zz009];rw[zz009]at o;by_cases k:v.zf=0;·have c:M.q7d a (B30:Z)=_:=z3q (by simp;omega);simp[k,c]
  by_cases j:v.zf=1;·have c:M.q7d a (B22:Z)=_:=z3q (by simp;omega);simp[j,c]
  by_cases h2:v.zf=2;·have c:M.q7d a (B31:Z)=_:=z3q (by simp;omega);simp[h2,c]
  by_cases l:v.zf=3;·have c:=z3q (a:=a) (b:=v.z09) (by omega);simp[l,c]
  by_cases m:v.zf=4;·have c:=zco (s:=v.z09) (acc:=a) (by omega);simp[m,c]
  have hl:v.zi=[]∨w<16:=by
   by_cases n:v.zf=5∨v.zf=6;·exact .inr (by omega)
   ·exact .inl (yae (z n))
  have r:=zjj v.zi;have i:=fun(acc:List Int)(q:acc.length≤a.length+1)=>zz08a (v:=v) (self:=M.q3l f) (by omega) y (fun x p b A=>by
   rcases hl with h|h;·rw[h]at p;cases p
   ·exact D x (w+1) (by omega) (by omega) (zgx u x p) b A) _ 0 acc rfl (ybb _) (by simp only[yad];omega);have d:=zmu (decide (v.zf=6)) v.zi v.zv true;rw[if_neg (by simpa using k),if_neg (by simpa using j),if_neg (by simpa using h2),if_neg (by simpa using l),if_neg (by simpa using m),if_neg k,if_neg j,if_neg h2,if_neg l,if_neg m];by_cases g:v.zf=6;·simp only[g,decide_true,if_true,ya,yc,ztx,ix_1,yah,yag];rw[z1z (by omega)];simp only[yc];have c:=i (a++[123]) (by simp);have c:M.z3n v (M.q3l f) 0 (a++[123])=_:=c;simp only[yad,decide_true,g]at c;have e:(((123:UInt8).toNat:Nat):Int)=123:=rfl;rw[e,c];simp only[yc];simp only[g,decide_true]at d;rw[z1z (by simp[unb];omega)];simp[unb]
  ·simp only[g,decide_false,if_false,ya,yc,ztx,ix_1,yah,yag,yl];rw[z1z (by omega)];simp only[yc];have c:=i (a++[91]) (by simp);have c:M.z3n v (M.q3l f) 0 (a++[91])=_:=c;simp only[yad,decide_true,decide_false,g]at c;have e:(((91:UInt8).toNat:Nat):Int)=91:=rfl;rw[e,c];simp only[yc];simp only[g,decide_false]at d;rw[z1z (by simp[unb];omega)];simp[unb]
theorem zz06u{v:q04}{self:q04→Option (List Int)}(hl:v.zi.length<1152921504606846976)(r:v.zf=6→v.zv.length=v.zi.length)(z:∀x∈v.zi,self x=some (unb (prJ x))):∀(n i:Nat)(acc:List Int),v.zi.length-i=n→i≤v.zi.length→acc.length+7*szs (v.zi.drop i)+7*kys (v.zv.drop i)<90000000000→M.z5e v self acc (i:Int)=some (acc++unb (prL (decide (v.zf=6)) (v.zi.drop i) (v.zv.drop i) (decide (i=0)))):=by
 intro n;induction n with|zero=>
  intro i acc hn q o;rw[M.z5e.eq_1];have:¬(i:Int)<(v.zi.length:Int):=by omega
  rw[if_neg (by simpa using this),(yaa (by omega):v.zi.drop i=[])];simp[prL,unb]|succ n l=>
  intro i acc hn q o;have a:i<v.zi.length:=by omega
  have m:(i:Int)<(v.zi.length:Int):=by omega
  rw[M.z5e.eq_1];simp only[m,decide_true,if_true,z3f,yai a,ya,yc];rw[w1 (by omega)];have e:v.zi.drop i=v.zi[i]::v.zi.drop (i+1):=yz a;have A:szs (v.zi.drop i)=v.zi[i].sz+szs (v.zi.drop (i+1))+1:=by rw[e];simp only[szs]
  have s:kys (v.zv.drop (i+1))≤kys (v.zv.drop i):=by rw[←tail_drop];exact(zrb _).2
  have h:(if decide (0<(i:Int))=true then(app 1 acc [44]).bind fun a_119=>some a_119 else some acc)=some (acc++unb (if decide (i=0)=true then[]else[44])):=by
   by_cases k:i=0;·simp[k,unb]
   ·have:0<(i:Int):=by omega
    rw[z0h (by simp;omega)];simp[k,this,unb]
  rw[h];simp only[yc];have p:(if decide (i=0)=true then([]:Z)else[44]).length≤1:=by split<;>simp
  generalize d:(if decide (i=0)=true then([]:Z)else[44])=B at h p;have j:=z _ (yak a);have w:=zmt v.zi[i];by_cases c:v.zf=6
  ·have b:i<v.zv.length:=by rw[r c];exact a
   have g:v.zv.drop i=v.zv[i]::v.zv.drop (i+1):=yz b;have u:kys (v.zv.drop i)=v.zv[i].length+1+kys (v.zv.drop (i+1)):=by rw[g,z7g]
   have y:=zup v.zv[i];have t:=zb5 (v.zv.drop i);simp only[c,decide_true,if_true,yai b,yc];rw[zj2 (by omega)];simp only[yc];rw[z0h (by simp[unb];omega)];simp only[yc];rw[z0h (by simp[unb];omega)];simp only[yc];rw[j];simp only[yc];rw[z0h (by simp[unb];omega)];simp only[yc];rw[l (i+1) _ (by omega) (by omega) (by simp[unb];omega),e,zh3,d,g];have f:([58]:List Int)=unb [58]:=rfl;rw[f];simp[c,z0j,yai b];rw[←z0j,←z0j];rfl
  ·rw[if_neg (by simpa using c)];simp only[yc];rw[j];simp only[yc];rw[z0h (by simp[unb];omega)];simp only[yc];rw[l (i+1) _ (by omega) (by omega) (by simp[unb];omega),e,zh3,d,tail_drop];simp[c,z0j]
theorem zrv:∀(f:Nat)(v:q04)(w:Nat),w≤16→17≤f+w→zao v w=0→7*v.sz<80000000000→M.q4p f v=some (unb (prJ v)):=by intro f;induction f with|zero=>intro v w e h2;omega|succ f A=>
  intro v w D hf u C;obtain⟨c1,p,q⟩:=zbo u;obtain⟨r,t,B⟩:=zm7 p;have y:=q04.zji v;rw[M.q4p,zz009];have ap:∀l:Z,l.length<80000000000→app 1 ([]:List Int) (unb l)=some (unb l):=fun l hl=>by rw[z0h (by simp[unb];omega)];rfl
  by_cases i:v.zf=0;·have a:=ap (B30:Z) (by simp);simp[i,a]
  by_cases e:v.zf=1;·have a:=ap (B22:Z) (by simp);simp[e,a]
  by_cases h2:v.zf=2;·have a:=ap (B31:Z) (by simp);simp[h2,a]
  by_cases j:v.zf=3;·have a:=ap v.z09 (by omega);simp[j,a]
  by_cases k:v.zf=4;·have a:=zj2 (s:=v.z09) (by omega);simp[k,a]
  have hl:v.zi=[]∨w<16:=by
   by_cases m:v.zf=5∨v.zf=6;·exact .inr (by omega)
   ·exact .inl (yae (t m))
  have o:=zjj v.zi;have d:=fun(acc:List Int)(n:acc.length≤1)=>zz06u (v:=v) (self:=M.q4p f) (by omega) r (fun x g=>by
   have z:=zjk g;rcases hl with h|h;·rw[h]at g;cases g
   ·exact A x (w+1) (by omega) (by omega) (zgx q x g) (by omega)) _ 0 acc rfl (ybb _) (by simp only[yad];omega);have b:=zmu (decide (v.zf=6)) v.zi v.zv true;rw[if_neg (by simpa using i),if_neg (by simpa using e),if_neg (by simpa using h2),if_neg (by simpa using j),if_neg (by simpa using k),if_neg i,if_neg e,if_neg h2,if_neg j,if_neg k];by_cases c:v.zf=6;·simp only[c,decide_true,if_true,ya,yc];rw[z0h (by simp)];simp only[yc];have a:=d ([]++[123]) (by simp);have a:M.z5e v (M.q4p f) ([]++[123]) 0=_:=a;simp only[yad,decide_true,c]at a;rw[a];simp only[yc];simp only[c,decide_true]at b;rw[z0h (by simp[unb];omega)];simp[unb]
  ·simp only[c,decide_false,if_false,ya,yc,yl];rw[z0h (by simp)];simp only[yc];have a:=d ([]++[91]) (by simp);have a:M.z5e v (M.q4p f) ([]++[91]) 0=_:=a;simp only[yad,decide_true,decide_false,c]at a;rw[a];simp only[yc];simp only[c,decide_false]at b;rw[z0h (by simp[unb];omega)];simp[unb]
def print(v:q04):Z×Int:=if zao v 0=0 then if 16384<(prJ v).length then([],22)else(prJ v,0)else([],zao v 0)
theorem zec{v:q04}{f:Nat}(hf:17≤f)(h:Small v):M.q3g f v=some (print v):=by
 unfold M.q3g print;rw[zmi hf h];simp only[ya,yc];by_cases a:zao v 0=0
 ·unfold Small at h;have hl:=zop f v 0 (by omega) (by omega) a [] (by simp;omega);rw[yaw]at hl;simp only[a,decide_true,yp,yl,if_false,if_true,hl,yc,builderLen_eq,zl];by_cases h2:16384<(prJ v).length
  ·have:(16384:Int)<((prJ v).length:Int):=by omega
   simp[h2,this]
  ·have:¬(16384:Int)<((prJ v).length:Int):=by omega
   simp[h2,this,z2p]
 ·simp[a]
theorem zpe{v:q04}{f:Nat}(hf:17≤f)(h:Small v):M.q4t f v=some (print v):=by
 unfold M.q4t print;rw[zpc hf h];simp only[ya,yc];by_cases a:zao v 0=0
 ·unfold Small at h;have hl:=zrv f v 0 (by omega) (by omega) a (by omega);simp only[a,decide_true,yp,yl,if_false,if_true,hl,yc,z74];by_cases h2:16384<(prJ v).length
  ·have:(16384:Int)<((prJ v).length:Int):=by omega
   simp[h2,this]
  ·have:¬(16384:Int)<((prJ v).length:Int):=by omega
   simp[h2,this]
 ·simp[a]
end
section
open Go.Lk Go.Pe
def bl(b:UInt8):Bool:=([32,9,10,13]:Z).contains b
def z10(s:Z):Z:=s.dropWhile bl
theorem z3r(s:Z):(z10 s).length≤s.length:=(yx _).length_le
theorem zcm(s:Z):M.q3p ⟨s⟩=some ⟨z10 s⟩:=by rfl
def take(s p:Z):Option Z:=if p.isPrefixOf s=true then some (z10 (s.drop p.length))else none
theorem z3a(s p:Z):M.q3s ⟨s⟩ p=some (match take s p with|some r=>(true,⟨r⟩)|none=>(false,⟨s⟩)):=by grind[M.q3s,take,z7i,zcm]
theorem take_one(c:UInt8)(s:Z):take s [c]=match s with|[]=>none|d::r=>if d=c then some (z10 r)else none:=by grind[take]
theorem take_len{s p r:Z}(h:take s p=some r):r.length+p.length≤s.length:=by grind[take,z3r]
def z7b(c:UInt8):Option Nat:=if isD c=true then some (c.toNat-48)else if 97≤c.toNat∧c.toNat≤102 then some (c.toNat-87)else if 65≤c.toNat∧c.toNat≤70 then some (c.toNat-55)else none
def zz05y:Z:=[48,49,50,51,52,53,54,55,56,57,97,98,99,100,101,102,65,66,67,68,69,70]
theorem zvn:∀c:UInt8,zz05y.contains c=(z7b c).isSome:=z6f (by decide+kernel)
theorem z5s:∀c:UInt8,∀d,z7b c=some d→d<16:=by intro c d h;unfold z7b isD at h;grind
theorem dropWhile_nil{α:Type}(p:α→Bool):∀l:List α,l.dropWhile p=[]↔∀b∈l,p b=true|[]=>by simp|a::l=>by rw[yw];cases h:p a with|false=>simp[h]|true=>simp[h,dropWhile_nil p l]
theorem zq5(l cs:Z):Lib.trimS l cs=[]↔∀b∈l,cs.contains b=true:=by
 unfold Lib.trimS Lib.trimLeftS Lib.trimRightS;rw[dropWhile_nil];constructor
 ·intro h;have h2:l.reverse.dropWhile (cs.contains ·)=[]:=by cases hd:l.reverse.dropWhile (cs.contains ·)with|nil=>rfl|cons a r=>grind[List.head?_dropWhile_not]
  grind[dropWhile_nil]
 grind[yx]
def pstep(x:Int):Option Int:=if(decide (48≤x)&&decide (x≤57))=true then some (ybd .u8 (x-48))else if(decide (97≤orI .u8 x 32)&&decide (orI .u8 x 32≤122))=true then some (ybd .u8 (ybd .u8 (orI .u8 x 32-97)+10))else none
theorem zz00b:∀c:UInt8,∀d,z7b c=some d→pstep (c.toNat:Int)=some (d:Int):=by have:∀c:UInt8,(match z7b c with|some d=>decide (pstep (c.toNat:Int)=some (d:Int))|none=>true)=true:=z6f (by decide+kernel);intro c d h;have h2:=this c;grind
theorem zc0{s:Z}{i n d:Nat}{c:UInt8}(l:s[i]?=some c)(hl:s.length<1000000)(hd:z7b c=some d)(hn:n<4096):M.zm (s,16) 16 1152921504606846976 16 false (n:Int) (i:Int)=M.zm (s,16) 16 1152921504606846976 16 false ((16*n+d:Nat):Int) ((i+1:Nat):Int):=by
 have m:i<s.length:=by
  rcases ya8 i s.length with h|h;·exact h
  ·grind
 have f:=z5s c d hd;conv=>lhs;rw[M.zm.eq_1]
 have j:(i:Int)<((unb s).length:Int):=by rw[zl];omega
 have k:¬(16:Int)=0:=by decide
 have a:(decide ((c.toNat:Int)=95)&&decide ((16:Int)=0))=false:=by simp
 simp only[j,decide_true,if_true,z3f,zfi,l,yf,ya,yc,a,yl,if_false];have g:M.q36 (c.toNat:Int)=some (orI .u8 (c.toNat:Int) 32):=rfl;simp only[g,yc];have o:=zz00b c d hd;unfold pstep at o;have fin:∀q:Option (Jn (Jn (Int×Bool) (Bool×Int)) Int),q=some (.go (d:Int))→(q.bind fun q_381=>match q_381 with|.done r=>some r|.go j_381=>if decide (ybd .u8 16≤j_381)=true then some (.done (0,false))else if decide (1152921504606846976≤(n:Int))=true then some (.done (ybd .u64 (z7r .u64 1 (ybd .u64 16)-1),false))else if(decide (ybd .u64 (ybd .u64 ((n:Int)*ybd .u64 16)+ybd .u64 j_381)<ybd .u64 ((n:Int)*ybd .u64 16))||decide (ybd .u64 (z7r .u64 1 (ybd .u64 16)-1)<ybd .u64 (ybd .u64 ((n:Int)*ybd .u64 16)+ybd .u64 j_381)))=true then some (.done (ybd .u64 (z7r .u64 1 (ybd .u64 16)-1),false))else M.zm (s,16) 16 1152921504606846976 16 false (ybd .u64 (ybd .u64 ((n:Int)*ybd .u64 16)+ybd .u64 j_381)) (ybd .i64 ((i:Int)+1)))=M.zm (s,16) 16 1152921504606846976 16 false ((16*n+d:Nat):Int) ((i+1:Nat):Int):=by
  rintro q rfl;simp only[yc];have u16:ybd .u8 16=16:=by decide
  have e:ybd .u64 16=16:=by decide
  have b:ybd .u64 (z7r .u64 1 16-1)=65535:=by decide
  rw[u16,e,b,wu64 (x:=(n:Int)*16) (by omega) (by omega),wu64 (x:=(d:Int)) (by omega) (by omega),wu64 (x:=(n:Int)*16+(d:Int)) (by omega) (by omega),w1 (by omega)];rw[if_neg (by simp;omega),if_neg (by simp;omega),if_neg (by simp;omega)];congr 1;omega
 grind
theorem zw0{a b c d:UInt8}{e f g hd:Nat}(h:z7b a=some e)(h2:z7b b=some f)(j:z7b c=some g)(k:z7b d=some hd):M.q7a [a,b,c,d] 16 16=some (((16*(16*(16*e+f)+g)+hd:Nat):Int),true):=by
 have u:=z5s a e h;have l2:=z5s b f h2;have v:=z5s c g j;have w:=z5s d hd k;have m:=zc0 (s:=[a,b,c,d]) (i:=0) (n:=0) (d:=e) (c:=a) rfl (by simp) h (by omega);have o:=zc0 (s:=[a,b,c,d]) (i:=1) (n:=16*0+e) (d:=f) (c:=b) rfl (by simp) h2 (by omega);have p:=zc0 (s:=[a,b,c,d]) (i:=2) (n:=16*(16*0+e)+f) (d:=g) (c:=c) rfl (by simp) j (by omega);have q:=zc0 (s:=[a,b,c,d]) (i:=3) (n:=16*(16*(16*0+e)+f)+g) (d:=hd) (c:=d) rfl (by simp) k (by omega);have r:M.zm ([a,b,c,d],16) 16 1152921504606846976 16 false ((16*(16*(16*(16*0+e)+f)+g)+hd:Nat):Int) ((3+1:Nat):Int)=some (.go (false,((16*(16*(16*(16*0+e)+f)+g)+hd:Nat):Int))):=by rw[M.zm.eq_1];simp[unb]
 have t:M.zm ([a,b,c,d],16) 16 1152921504606846976 16 false 0 0=_:=m.trans (o.trans (p.trans (q.trans r)));unfold M.q7a M.q35;have l:ybd .u64 16=16:=by decide
 simp[l,z3k,t]
def unit(s:Z):Option (Nat×Z):=match s with|x::y::a::b::c::d::r=>if x=92∧y=117 then(z7b a).bind fun e=>(z7b b).bind fun f=>(z7b c).bind fun g=>(z7b d).bind fun hd=>some (16*(16*(16*e+f)+g)+hd,r)else none|_=>none
def oRs{α β:Type}(f:α→β):Option α→Rs β|some a=>.ok (f a)|none=>.pan 20
theorem zbl{s r:Z}{n:Nat}(h:unit s=some (n,r)):n<65536∧r.length+6=s.length:=by
 unfold unit at h;split at h
 ·rename_i x y a b c d p;split at h;·obtain⟨i,e,h⟩:=yb.1 h;obtain⟨j,h2,h⟩:=yb.1 h;obtain⟨k,f,h⟩:=yb.1 h;obtain⟨hd,g,h⟩:=yb.1 h;have l:=z5s _ _ e;have l2:=z5s _ _ h2;have m:=z5s _ _ f;have o:=z5s _ _ g;grind
  ·cases h
 ·cases h
theorem zg1(s:Z)(p:s.length<1000000000):M.q3u ⟨s⟩=some (oRs (fun x=>(((x.1:Nat):Int),(⟨x.2⟩:q0c))) (unit s)):=by
 unfold M.q3u;rw[z7i];have shp:(∃t,s=92::117::t)∨([92,117]:Z).isPrefixOf s=false∧unit s=none:=by match s with
  |[]=>exact .inr ⟨rfl,rfl⟩|[x]=>exact .inr ⟨by grind,rfl⟩|x::y::t=>
   by_cases u:x=92∧y=117;·grind
   ·refine .inr ⟨?_,?_⟩;·grind
    ·unfold unit;grind
 rcases shp with⟨t,rfl⟩|⟨e,h2⟩
 ·have o:([92,117]:Z).isPrefixOf (92::117::t)=true:=by simp[yam]
  simp only[o,if_true,yao,yar,yab,yad,ya,yc,yr];match t with
  |a::b::c::d::r=>
   have hl:(4:Int)≤(((a::b::c::d::r).length:Nat):Int):=by simp only[yao];omega
   have i:sub (a::b::c::d::r) 0 4=some [a,b,c,d]:=zkc (a:=4) (by simp);have j:sub (a::b::c::d::r) 4 (((a::b::c::d::r).length:Nat):Int)=some r:=zan (a:=4) (by simp);simp only[hl,decide_true,if_true,i,j,yc];unfold M.trim;rw[z3k (by simp)];have l:decide (Lib.trimS [a,b,c,d] [48,49,50,51,52,53,54,55,56,57,97,98,99,100,101,102,65,66,67,68,69,70]=([]:Z))=((z7b a).isSome&&((z7b b).isSome&&((z7b c).isSome&&(z7b d).isSome))):=by rw[yk,decide_eq_true_iff,zq5];have k:=zvn;unfold zz05y at k;simp only[k,yav,List.not_mem_nil,or_false,forall_eq_or_imp,forall_eq,yh]
   simp only[ya,yc,l,z6j];unfold unit;cases e:z7b a with|none=>simp[oRs,e]|some f=>cases h2:z7b b with|none=>grind[oRs]|some g=>cases m:z7b c with|none=>grind[oRs]|some h=>cases n:z7b d with|none=>grind[oRs]|some hd=>have v:=z5s a f e;have l2:=z5s b g h2;have w:=z5s c h m;have z:=z5s d hd n;have q:ybd .i32 ((16*(16*(16*f+g)+h)+hd:Nat):Int)=((16*(16*(16*f+g)+h)+hd:Nat):Int):=w32 (by omega) (by omega);simp_all[zw0,oRs]
  |[]=>rfl|[_]=>rfl|[_,_]=>rfl|[_,_,_]=>rfl
 simp_all[oRs,z6j]
def esc1(c:UInt8):Option UInt8:=if c=34 then some 34 else if c=92 then some 92 else if c=47 then some 47 else if c=98 then some 8 else if c=102 then some 12 else if c=110 then some 10 else if c=114 then some 13 else if c=116 then some 9 else none
def zu3(n:Nat):Bool:=decide (56320≤n)&&decide (n≤57343)
def zmc(n:Nat):Bool:=decide (55296≤n)&&decide (n≤57343)
def zho(s:Z):Option (Z×Z):=match s with
 |a::c::r=>match esc1 c with|some x=>some ([x],r)|none=>match unit (a::c::r)with|none=>none|some (n,b)=>if zu3 n=true then none else if zmc n=false then some (encS (n:Int),b)else match unit b with|none=>none|some (m,d)=>if zu3 m=true then some (encS (65536+((n:Int)-55296)*1024+(m:Int)-56320),d)else none
 |_=>none
theorem zz02t:∀c:UInt8,(match esc1 c with|some x=>decide (0≤Lib.indexByte B35 (c.toNat:Int).toNat.toUInt8∧sub ([34,92,47,8,12,10,13,9]:Z) (Lib.indexByte B35 (c.toNat:Int).toNat.toUInt8) (ybd .i64 (Lib.indexByte B35 (c.toNat:Int).toNat.toUInt8+1))=some [x])|none=>decide ¬0≤Lib.indexByte B35 (c.toNat:Int).toNat.toUInt8)=true:=z6f (by decide+kernel)
theorem ztk(n:Int):(encS n).length≤4:=by grind[encS,Utf8.encode]
theorem zgy{s t r:Z}(h:zho s=some (t,r)):t.length≤4∧r.length+2≤s.length:=by
 unfold zho at h;split at h
 ·rename_i a c e;split at h;·cases h;simp
  ·split at h;·cases h
   ·rename_i n f d;have:=zbl d;split at h;·cases h
    ·split at h;·simp only[Option.some.injEq,Prod.mk.injEq]at h;obtain⟨rfl,rfl⟩:=h;grind[ztk]
     ·split at h;·cases h
      ·rename_i m g b;have:=zbl b;split at h;·simp only[Option.some.injEq,Prod.mk.injEq]at h;obtain⟨rfl,rfl⟩:=h;grind[ztk]
       ·cases h
 ·cases h
theorem zz09u{n m:Int}(b:55296≤n)(h2:n≤57343)(c:56320≤m)(d:m≤57343):ybd .i32 (ybd .i32 (ybd .i32 (65536+z7r .i32 (ybd .i32 (n-55296)) 10)+m)-56320)=65536+(n-55296)*1024+m-56320:=by
 have e:z7r .i32 (n-55296) 10=(n-55296)*1024:=by
  unfold z7r;have:min (10:Int).toNat IntKind.i32.bits=10:=by decide
  have a:(2:Int)^10=1024:=by decide
  rw[this,a,w32 (by omega) (by omega)]
 grind[w32]
theorem rng1(n:Nat):(decide ((n:Int)<56320)||decide (57343<(n:Int)))=!zu3 n:=by unfold zu3;grind
theorem rng2(n:Nat):(decide ((n:Int)<55296)||decide (57343<(n:Int)))=!zmc n:=by unfold zmc;grind
theorem rng3(m:Nat):(decide (56320≤(m:Int))&&decide ((m:Int)≤57343))=zu3 m:=by unfold zu3;grind
theorem zyr{n:Nat}(h:zmc n=true):55296≤(n:Int)∧(n:Int)≤57343:=by unfold zmc at h;grind
theorem zz068{n:Nat}(h:zu3 n=true):56320≤(n:Int)∧(n:Int)≤57343:=by unfold zu3 at h;grind
theorem zid(s:Z)(g:s.length<1000000000):M.q3q ⟨s⟩=some (oRs (fun x=>(x.1,(⟨x.2⟩:q0c))) (zho s)):=by unfold M.q3q;match s with
 |[]=>rfl|[_]=>rfl|a::c::r=>
  have hl:(2:Int)≤(((a::c::r).length:Nat):Int):=by simp only[yao];omega
  have d:sub (a::c::r) 2 (((a::c::r).length:Nat):Int)=some r:=zan (a:=2) (by simp);simp only[hl,decide_true,zp0,if_true,ya,yc,ix_1,yag,yah];unfold zho;have e:=zz02t c;unfold M.indexByte;simp only[yc];cases f:esc1 c with|some x=>simp_all[oRs]|none=>rw[f]at e;simp only[decide_eq_true_eq]at e;rw[if_neg (by grind),zg1 _ g];simp only[yc];cases h:unit (a::c::r)with|none=>simp[oRs]|some p=>obtain⟨n,j⟩:=p;obtain⟨q,t⟩:=zbl h;simp only[oRs];rw[rng1,z6j,rng2];simp only[yc];cases c1:zu3 n with|true=>simp|false=>simp only[yo,if_true,yl,if_false];cases k:zmc n with|false=>simp|true=>simp only[yp,yl,if_false,ys];rw[zg1 _ (by omega)];simp only[yc];cases b:unit j with|none=>simp[oRs]|some i=>obtain⟨m,o⟩:=i;obtain⟨u,v⟩:=zbl b;simp only[oRs];rw[rng3,z6j];simp only[yc];cases l:zu3 m with|true=>simp_all[zyr,zz068,zz09u]|false=>simp
def txt:Nat→Z→Z→Option (Z×Z)|0,_,_=>none|_+1,[],_=>none|f+1,c::r,acc=>if c.toNat<32 then none else if c=34 then if Lib.validD acc=true then some (acc,r)else none else if c=92 then match zho (c::r)with|none=>none|some (t,a)=>txt f a (acc++t)else txt f r (acc++[c])
def text(s:Z):Option (Z×Z):=match s with|c::r=>if c=34 then txt (r.length+1) r []else none|[]=>none
theorem zsq:∀(f:Nat)(s acc t r:Z),txt f s acc=some (t,r)→r.length+1≤s.length∧t.length≤acc.length+4*s.length
 |0,_,_,_,_,h=>by simp[txt]at h|_+1,[],_,_,_,h=>by simp[txt]at h|f+1,c::s,acc,t,r,h=>by
  rw[txt]at h;split at h;·cases h
  ·split at h;·grind
   ·split at h
    ·split at h;·cases h
     ·rename_i e d a;have b:=zgy a;have h2:=zsq f _ _ _ _ h;grind
    ·have h2:=zsq f _ _ _ _ h;grind
theorem zev{s t r:Z}(h:text s=some (t,r)):r.length+2≤s.length∧t.length≤4*s.length:=by
 unfold text at h;split at h
 ·split at h;·have:=zsq _ _ _ _ _ h;grind
  ·cases h
 ·cases h
theorem zoq:∀(f:Nat)(s acc:Z),s.length<f→acc.length+4*s.length<4000000000→s.length<1000000000→M.z2a s (unb acc)=some (oRs (fun x=>(x.1,(⟨z10 x.2⟩:q0c))) (txt f s acc)):=by intro f;induction f with|zero=>omega|succ f q=>intro s acc hf j m;rw[M.z2a.eq_1];cases s with|nil=>rfl|cons c r=>
   simp only[yao]at hf j m;have h:decide (c::r=([]:Z))=false:=by simp
   have i:decide (32≤(c.toNat:Int))=decide ¬c.toNat<32:=decide_eq_decide.2 (by omega);have e:(c.toNat:Int)=34↔c=34:=toNat_eq (n:=34) (by omega);have g:(c.toNat:Int)=92↔c=92:=toNat_eq (n:=92) (by omega);simp only[h,yo,if_true,ztx,yah,ya,yc,i,z6j,e,g];rw[txt];by_cases a:c.toNat<32;·simp[a,oRs]
   ·simp only[a,not_false_eq_true,decide_true,if_true,if_false];by_cases b:c=34
    ·subst b;have l:M.zy (unb acc)=some acc:=z2p acc;simp only[decide_true,if_true,l,yc];rw[z6g (by omega)];simp only[yc];by_cases o:Lib.validD acc=true;·simp_all[z3a,take_one,oRs]
     grind[oRs]
    ·simp only[b,decide_false,yl,if_false];by_cases d:c=92;·simp only[d,decide_true,if_true];rw[zid _ (by omega)];simp only[yc];cases k:zho (92::r)with|none=>rfl|some p=>obtain⟨t,u⟩:=p;have hl:=zgy k;grind[oRs,z3q,unb]
     ·simp only[d,decide_false,yl,if_false];rw[z1z (by grind[unb])];simp only[yc];grind[sub,unb]
theorem zg0(s:Z)(a:s.length<900000000):M.q3t ⟨s⟩=some (oRs (fun x=>(x.1,(⟨z10 x.2⟩:q0c))) (text s)):=by unfold M.q3t;rw[z7i,z8y];cases s with|nil=>rfl|cons c r=>
  by_cases h:c=34;·subst h;simp only[yal,decide_true,if_true,yao,yar,yab,yad,ya,yc,z6j];simp only[yao]at a;exact zoq (r.length+1) r [] (by omega) (by simp;omega) (by omega)
  ·simp[h,z6j,oRs,text]
end
section
open Go.Lk Go.Pe
theorem zz03o{a:List Z}{k:Z}(hl:a.length<1152921504606846976):∀(n i:Nat),a.length-i=n→i≤a.length→M.zg a k (i:Int)=some (match(a.drop i).findIdx? fun x=>decide (k=x)with|some j=>.done ((i+j:Nat):Int)|none=>.go ()):=by
 intro n;induction n with|zero=>
  intro i hn d;rw[M.zg.eq_1];have:¬(i:Int)<(a.length:Int):=by omega
  rw[if_neg (by simpa using this),yaa (by omega)];rfl|succ n e=>
  intro i hn d;have b:i<a.length:=by omega
  rw[M.zg.eq_1];have c:(i:Int)<(a.length:Int):=by omega
  simp only[c,decide_true,if_true,z3f,yai b,ya,yc];rw[w1 (by omega),e (i+1) (by omega) (by omega),yz b,yaf];by_cases h:k=a[i];·simp[h]
  ·simp only[h,decide_false,yl,if_false];cases(a.drop (i+1)).findIdx? fun x=>decide (k=x)with|none=>rfl|some j=>simp only[yf];congr 3;omega
theorem ztw{a:List Z}{k:Z}(hl:a.length<1152921504606846976):M.q79 a k=some (match a.findIdx? fun x=>decide (k=x)with|some j=>(j:Int)|none=>-1):=by unfold M.q79;have h:=zz03o (k:=k) hl _ 0 rfl (ybb _);have h:M.zg a k 0=_:=h;rw[h,yad];cases a.findIdx? fun x=>decide (k=x)with|none=>rfl|some j=>simp
theorem contains_eq{a:List Z}{k:Z}(hl:a.length<1152921504606846976):M.q73 a k=some (decide (k∈a)):=by unfold M.q73;rw[ztw hl];simp only[ya,yc,Option.some.injEq];cases h:a.findIdx? fun x=>decide (k=x)with
 |none=>
  rw[List.findIdx?_eq_none_iff]at h;have:¬k∈a:=fun d=>by simpa using h k d
  simp[this]|some j=>
  have h2:=List.findIdx?_eq_some_iff_getElem.1 h;obtain⟨c,b,_⟩:=h2;have:k∈a:=by simp at b;rw[b];exact yak c
  simp[this]
abbrev J:=q04
abbrev Rd:=Rs (J×Z)
def zwu(s:Z)(a:List Z):Rs (Z×List Z):=match text s with|none=>.pan 20|some (k,r)=>if k∈a then .pan 20 else match take (z10 r) [58]with|none=>.pan 20|some b=>.ok (b,a++[k])
def items(vf:Z→Rd)(o:Bool)(e:UInt8):Nat→Z→List J→List Z→Rd|0,_,_,_=>.pan 20|f+1,s,l,b=>match if o=true then zwu s b else .ok (s,b)with|.pan c=>.pan c|.ok (g,a)=>match vf g with|.pan c=>.pan c|.ok (x,d)=>match take d [e]with|some r=>.ok (⟨if o=true then 6 else 5,[],l++[x],a⟩,r)|none=>match take d [44]with|none=>.pan 20|some r=>items vf o e f r (l++[x]) a
def nest(vf:Z→Rd)(o:Bool)(w:Nat)(s:Z):Rd:=if 16≤w then .pan 21 else match take s [if o=true then 125 else 93]with|some r=>.ok (⟨if o=true then 6 else 5,[],[],[]⟩,r)|none=>items vf o (if o=true then 125 else 93) (s.length+1) s [] []
def word(s:Z):Rd:=match take s B30 with|some r=>.ok (⟨0,[],[],[]⟩,r)|none=>match take s B22 with|some r=>.ok (⟨1,[],[],[]⟩,r)|none=>match take s B31 with|some r=>.ok (⟨2,[],[],[]⟩,r)|none=>if num s=0 then .pan 20 else .ok (⟨3,s.take (num s),[],[]⟩,z10 (s.drop (num s)))
def val:Nat→Z→Nat→Rd|0,_,_=>.pan 20|f+1,s,w=>match text s with|some (t,r)=>.ok (⟨4,t,[],[]⟩,z10 r)|none=>if s.head?=some 34 then .pan 20 else match take s [91]with|some r=>nest (fun s=>val f s (w+1)) false w r|none=>match take s [123]with|some r=>nest (fun s=>val f s (w+1)) true w r|none=>word s
def cv(x:J×Z):J×q0c:=(x.1,⟨x.2⟩)
def mRs{α β:Type}(f:α→β):Rs α→Rs β|.ok a=>.ok (f a)|.pan c=>.pan c
theorem ztz{s:Z}{c:List Z}{r:Z}{a:List Z}(h:zwu s c=.ok (r,a)):r.length+3≤s.length∧a.length=c.length+1:=by
 unfold zwu at h;split at h;·cases h
 ·rename_i k e d;have f:=zev d;split at h;·cases h
  ·split at h;·cases h
   ·rename_i i b;have h2:=take_len b;have g:=z3r e;cases h;simp only[yao,yar]at h2;exact⟨by omega,by simp⟩
theorem zyv{vf:Z→Rd}{o:Bool}{e:UInt8}(g:∀s x r,vf s=.ok (x,r)→r.length+1≤s.length):∀(f:Nat)(s:Z)(l:List J)(c:List Z)(x:J)(r:Z),items vf o e f s l c=.ok (x,r)→r.length+1≤s.length:=by intro f;induction f with|zero=>intro s l c x r h;simp[items]at h|succ f j=>
  intro s l c x r h;rw[items]at h;split at h;·cases h
  ·rename_i n k a;have p:n.length≤s.length:=by
    split at a;·have:=ztz a;omega
    ·cases a;omega
   split at h;·cases h
   ·rename_i u t i;have h2:=g _ _ _ i;split at h;·rename_i m b;have d:=take_len b;cases h;omega
    ·split at h;·cases h
     ·rename_i m b;have d:=take_len b;have q:=j _ _ _ _ _ h;omega
theorem zua{vf:Z→Rd}{o:Bool}{w:Nat}(b:∀s x r,vf s=.ok (x,r)→r.length+1≤s.length){s r:Z}{x:J}(h:nest vf o w s=.ok (x,r)):r.length+1≤s.length:=by
 unfold nest at h;split at h;·cases h
 ·split at h;·rename_i c a;have:=take_len a;cases h;simp only[yao,yar]at this;omega
  ·exact zyv b _ _ _ _ _ _ h
theorem zuw{s r:Z}{x:J}(h:word s=.ok (x,r)):r.length+1≤s.length:=by
 unfold word at h;split at h;·rename_i b a;have:=take_len a;cases h;simp only[yao,yar]at this;omega
 ·split at h;·rename_i b a;have:=take_len a;cases h;simp only[yao,yar]at this;omega
  ·split at h;·rename_i b a;have:=take_len a;cases h;simp only[yao,yar]at this;omega
   ·split at h;·cases h
    ·rename_i hn;cases h;have c:=z3r (s.drop (num s));have h2:=zp1 s;rw[yap]at c;omega
theorem zz01u:∀(f:Nat)(s:Z)(w:Nat)(x:J)(r:Z),val f s w=.ok (x,r)→r.length+1≤s.length:=by intro f;induction f with|zero=>intro s w x r h;simp[val]at h|succ f d=>
  intro s w x r h;rw[val]at h;split at h;·rename_i t b a;have c:=zev a;have h2:=z3r b;cases h;omega
  ·split at h;·cases h
   ·split at h;·rename_i b a;have c:=take_len a;have h2:=zua (fun s x r=>d s (w+1) x r) h;omega
    ·split at h;·rename_i b a;have c:=take_len a;have h2:=zua (fun s x r=>d s (w+1) x r) h;omega
     ·exact zuw h
theorem zz0a6(s:Z):M.z15 0 s=some (match take s B30 with|some r=>.done (.ok (⟨0,[],[],[]⟩,⟨r⟩))|none=>match take s B22 with|some r=>.done (.ok (⟨1,[],[],[]⟩,⟨r⟩))|none=>match take s B31 with|some r=>.done (.ok (⟨2,[],[],[]⟩,⟨r⟩))|none=>.go s):=by
 have a:ybd .i64 (0+1)=1:=by decide
 have b:ybd .i64 (1+1)=2:=by decide
 have c:ybd .i64 (2+1)=3:=by decide
 have d:∀{α:Type}(l:List α),ix l 2=l[2]?:=fun l=>by simp[ix]
 rw[M.z15.eq_1];have e:(0:Int)<3:=by decide
 have f:(1:Int)<3:=by decide
 have h2:(2:Int)<3:=by decide
 simp only[yao,yar,ztx,yah,ya,yc,z3a,a];rw[if_pos (by decide)];cases take s B30 with|some r=>rfl|none=>simp only[yl,if_false];rw[M.z15.eq_1];simp only[yao,yar,ix_1,yah,yag,ya,yc,z3a,b];rw[if_pos (by decide)];cases take s B22 with|some r=>rfl|none=>simp only[yl,if_false];rw[M.z15.eq_1];simp only[yao,yar,d,yah,yag,ya,yc,z3a,c];rw[if_pos (by decide)];cases take s B31 with|some r=>rfl|none=>simp only[yl,if_false];rw[M.z15.eq_1];rw[if_neg (by decide)]
theorem zzs{o:Bool}{w:Nat}(F:w≤16){self:q0c→Int→Option (Rs (J×q0c))}{vf:Z→Rd}{N:Nat}(E:N<900000000)(v:∀s:Z,s.length≤N→self ⟨s⟩ ((w+1:Nat):Int)=some (mRs cv (vf s)))(z:∀s x r,vf s=.ok (x,r)→r.length+1≤s.length):∀(f:Nat)(s:Z)(l:List J)(b:List Z),s.length<f→s.length≤N→l.length+s.length≤N→b.length+s.length≤N→M.z1o (if o=true then 6 else 5) self (w:Int) [if o=true then 125 else 93] s l b=some (mRs cv (items vf o (if o=true then 125 else 93) f s l b)):=by intro f;induction f with|zero=>intro s l b h;omega|succ f B=>
  intro s l b hf hn hl u;rw[M.z1o.eq_1,items];have step:∀(e:Z)(a:List Z),e.length≤s.length→a.length+e.length≤N→(do let a_209←self (q0c.mk e) (ybd .i64 ((w:Int)+1))match a_209 with|.pan e_212=>some (.pan e_212)|.ok a_211=>let l_213←app 72 l [q04.mk a_211.1.zf a_211.1.z09 a_211.1.zi a_211.1.zv]let a_214←M.q3s a_211.2 [if o=true then 125 else 93]if a_214.1 then some (.ok (q04.mk (if o=true then 6 else 5) ([]:Z) l_213 a,a_214.2))else let a_216←M.q3s a_214.2 ([44]:Z)let a_218←M.q3m a_216.1 20;match a_218 with|.pan e_221=>some (.pan e_221)|.ok a_220=>M.z1o (if o=true then 6 else 5) self (w:Int) [if o=true then 125 else 93] a_216.2.gs l_213 a:Option (Rs (J×q0c)))=some (mRs cv (match vf e with|.pan c=>.pan c|.ok (x,g)=>match take g [if o=true then 125 else 93]with|some r=>.ok (⟨if o=true then 6 else 5,[],l++[x],a⟩,r)|none=>match take g [44]with|none=>.pan 20|some r=>items vf o (if o=true then 125 else 93) f r (l++[x]) a)):=by intro e a q h2;rw[w1 (by omega),v e (by omega)];simp only[ya,yc];cases A:vf e with|pan c=>rfl|ok p=>
    obtain⟨x,g⟩:=p;have i:=z _ _ _ A;have C:∀y:J,q04.mk y.zf y.z09 y.zi y.zv=y:=fun y=>by cases y;rfl
    simp only[mRs,cv,C];rw[z0h (by simp only[yao,yar];omega),z3a];simp only[yc];cases m:take g [if o=true then 125 else 93]with|some r=>simp|none=>simp only[yl,if_false];rw[z3a];simp only[yc];cases d:take g [44]with|none=>simp[z6j]|some r=>have t:=take_len d;simp only[yao,yar]at t;simp only[zp0,yc];rw[B r _ a (by omega) (by omega) (by simp;omega) (by omega)];rfl
  cases o with|false=>
   have st:=step s b (ya6 _) u;simp only[yl,if_false,ya]at st⊢;have n:decide ((5:Int)=6)=false:=by decide
   simp only[n,yl,if_false,yc];exact st|true=>simp only[if_true,ya]at step⊢;simp only[decide_true,if_true];rw[zg0 _ (by omega)];simp only[yc];unfold zwu;cases m:text s with|none=>rfl|some p=>
    obtain⟨k,r⟩:=p;have q:=zev m;have h2:=z3r r;simp only[oRs];rw[contains_eq (by omega)];simp only[yc];by_cases j:k∈b;·simp[j,z6j,mRs]
    ·simp only[j,decide_false,yo,if_true,if_false];rw[z3a];simp only[yc];cases d:take (z10 r) [58]with|none=>simp[z6j,mRs]|some D=>have i:=take_len d;simp only[yao,yar]at i;simp only[zp0,yc];rw[z0h (by simp only[yao,yar];omega)];simp only[yc];exact step D (b++[k]) (by omega) (by simp;omega)
theorem zmk{N:Nat}(l:N<900000000):∀(f F:Nat)(s:Z)(w:Nat),w≤16→17≤f+w→2*f≤F→s.length≤N→M.q3v F ⟨s⟩ (w:Int)=some (mRs cv (val f s w)):=by intro f;induction f with|zero=>intro F s w y h2;omega|succ f v=>
  intro F s w u hf hF hn;obtain⟨i,rfl⟩:∃i,F=i+2:=⟨F-2,by omega⟩;rw[M.q3v,val];rw[z7k,z8y];simp only[ya,yc];by_cases a:s.head?=some 34;·simp only[a,decide_true,if_true];rw[zg0 _ (by omega)];simp only[yc];cases text s with|none=>rfl|some p=>rfl
  ·have t:text s=none:=by unfold text;cases s with|nil=>rfl|cons c r=>simp at a;simp[a]
   simp only[a,decide_false,yl,if_false,t];have nes:∀(o:Bool)(r:Z),r.length≤N→M.q3r (i+1) ⟨r⟩ (if o=true then 6 else 5) (w:Int) [if o=true then 125 else 93]=some (mRs cv (nest (fun s=>val f s (w+1)) o w r)):=by
    intro o r n;rw[M.q3r];unfold nest;by_cases d:16≤w
    ·have:¬(w:Int)<16:=by omega
     simp[this,d,z6j,mRs]
    ·have:(w:Int)<16:=by omega
     simp only[this,decide_true,zp0,ya,yc,d,if_false,z3a];cases z:take r [if o=true then 125 else 93]with|some A=>rfl|none=>simp only[yl,if_false];exact zzs (o:=o) (w:=w) u l (fun s q=>v i s (w+1) (by omega) (by omega) (by omega) q) (fun s x r=>zz01u f s (w+1) x r) (r.length+1) r [] [] (by omega) n (by simp;omega) (by simp;omega)
   rw[z3a];simp only[yc];cases j:take s [91]with
   |some r=>have hl:=take_len j;have h:=nes false r (by simp at hl;omega);simp only[yl,if_false]at h;simp only[if_true,h,yc];cases nest (fun s=>val f s (w+1)) false w r with|ok p=>rfl|pan c=>rfl
   |none=>simp only[yl,if_false,z3a,yc];cases b:take s [123]with
    |some r=>have hl:=take_len b;have h:=nes true r (by simp at hl;omega);simp only[if_true]at h;simp only[if_true,h,yc];cases nest (fun s=>val f s (w+1)) true w r with|ok p=>rfl|pan c=>rfl
    |none=>simp only[yl,if_false,zz0a6,yc];unfold word;cases take s B30 with|some r=>rfl|none=>simp only;cases take s B22 with|some r=>rfl|none=>simp only;cases take s B31 with|some r=>rfl|none=>
        simp only;rw[zcn (by omega)];simp only[yc];by_cases k:num s=0;·simp[k,z6j,mRs]
        ·have m:(0:Int)<(num s:Int):=by omega
         have hl:=zp1 s;have hd:take s (s.take (num s))=some (z10 (s.drop (num s))):=by
          unfold take;have g:(s.take (num s)).isPrefixOf s=true:=by rw[List.isPrefixOf_iff_prefix];exact List.take_prefix _ _
          have e:(s.take (num s)).length=num s:=by rw[yas];omega
          rw[if_pos g,e]
         simp only[m,decide_true,zp0,yc,zkc hl,z3a,hd,k,if_false];rfl
def parse(s:Z):J×Int:=if 16384<s.length then(⟨0,[],[],[]⟩,22)else match val 17 (z10 s) 0 with|.pan c=>(⟨0,[],[],[]⟩,c)|.ok (x,r)=>if r=[]then(x,0)else(⟨0,[],[],[]⟩,20)
theorem zeb(s:Z){f:Nat}(hf:34≤f):M.q3f f s=some (parse s):=by
 unfold M.q3f parse;by_cases hl:16384<s.length
 ·have:(16384:Int)<(s.length:Int):=by omega
  simp[hl,this]
 ·have:¬(16384:Int)<(s.length:Int):=by omega
  have d:=z3r s;have a:=zmk (N:=16384) (by omega) 17 f (z10 s) 0 (by omega) (by omega) (by omega) (by omega);have a:M.q3v f ⟨z10 s⟩ 0=_:=a;simp only[this,decide_false,yl,if_false,hl,zcm,ya,yc,a];cases val 17 (z10 s) 0 with|pan c=>rfl|ok p=>
   obtain⟨x,r⟩:=p;simp only[mRs,cv];by_cases b:r=[];·simp[b,z6j]
   ·simp[b,z6j]
end
section
open Go.Lk Go.Pe
def nch(c:UInt8):Bool:=isD c||decide (c=46)||decide (c=101)||decide (c=69)||decide (c=43)||decide (c=45)
def stop(r:Z):Prop:=∀c,r.head?=some c→nch c=false
theorem zz03f(s r:Z):(s++r).head?=if s=[]then r.head? else s.head?:=by cases s<;>simp
theorem zhx(c:UInt8)(s:Z):zcf (c::s)=if c=46 then if 0<z83 s then 1+z83 s else 0 else 0:=by
 by_cases h:c=46;·grind[zcf]
 simp_all[zcf]
theorem frac_nil:zcf []=0:=rfl
theorem zz0be:∀c:UInt8,bl c=(decide (c=32)||decide (c=9)||decide (c=10)||decide (c=13)):=z6f (by decide+kernel)
theorem zha{c:UInt8}{r:Z}(h:bl c=false):z10 (c::r)=c::r:=by grind[z10,yw]
theorem zz01h{c:UInt8}{r:Z}(h:¬c=34):text (c::r)=none:=by simp[text,h]
theorem zmj(v:J):(⟨v.zf,v.z09,v.zi,v.zv⟩:J)=v:=by cases v;rfl
end
section
open Go.Lk Go.Pe
theorem zcu{α:Type}(p:α→Bool):∀(l:List α)(m:Nat),((l.take m).takeWhile p).length=min m (l.takeWhile p).length|[],m=>by simp|a::l,0=>by simp|a::l,m+1=>by rw[ya2,ya0,ya0];cases p a with|false=>simp|true=>simp only[if_true,yao,zcu p l m];omega
theorem zhm(s:Z)(m:Nat):z83 (s.take m)=min m (z83 s):=zcu isD s m
theorem head_take{s:Z}{m:Nat}(h:0<m):(s.take m).head?=s.head?:=by cases s with|nil=>simp|cons c r=>obtain⟨m,rfl⟩:∃k,m=k+1:=⟨m-1,by omega⟩;simp
theorem zyt{s:Z}{m:Nat}(h:0<m)(h2:z96 s≤m):z96 (s.take m)=z96 s:=by
 unfold z96 at*;rw[head_take h,zhm];split at h2;·rename_i a;rw[if_pos a,if_pos a]
 ·rename_i a;rw[if_neg a,if_neg a];omega
theorem zyh{s:Z}{m:Nat}(h:zcf s≤m):zcf (s.take m)=zcf s:=by cases s with|nil=>simp|cons c r=>cases m with|zero=>simp only[List.take_zero,frac_nil];omega|succ m=>
   rw[ya2,zhx,zhx,zhm];rw[zhx]at h;by_cases a:c=46
   ·simp only[a,if_true]at h⊢;by_cases hd:0<z83 r
    ·rw[if_pos hd]at h⊢;have:min m (z83 r)=z83 r:=by omega
     rw[this,if_pos hd]
    ·rw[if_neg hd,if_neg (by omega)]
   ·simp[a]
theorem zz015{s:Z}{m:Nat}(h:0<m):zai (s.take m)=zai s:=by unfold zai;rw[head_take h]
theorem zz04u{s:Z}{m:Nat}(h:0<m):sgn (s.take m)=sgn s:=by unfold sgn;rw[head_take h]
theorem zy5(s:Z):zju (s.take (zju s))=zju s:=by cases s with|nil=>rfl|cons c r=>
  by_cases a:c=101∨c=69
  ·by_cases hd:0<z83 (r.drop (zai r))
   ·have e:zju (c::r)=1+zai r+z83 (r.drop (zai r)):=by simp[zju,a,hd]
    rw[e];have b:(c::r).take (1+zai r+z83 (r.drop (zai r)))=c::r.take (zai r+z83 (r.drop (zai r))):=by rw[show 1+zai r+z83 (r.drop (zai r))=zai r+z83 (r.drop (zai r))+1 by omega,ya2]
    rw[b];have d:zai (r.take (zai r+z83 (r.drop (zai r))))=zai r:=zz015 (by omega);have f:z83 ((r.take (zai r+z83 (r.drop (zai r)))).drop (zai r))=z83 (r.drop (zai r)):=by rw[yac,zhm];omega
    unfold zju;simp only[a,if_true,d,f,hd]
   ·have e:zju (c::r)=0:=by simp[zju,hd]
    rw[e];rfl
  ·have e:zju (c::r)=0:=by simp[zju,a]
   rw[e];rfl
theorem zz047(s:Z):num (s.take (num s))=num s:=by
 by_cases a:z96 (s.drop (sgn s))=0
 ·have:num s=0:=by unfold num;simp[a]
  rw[this];rfl
 have e:num s=sgn s+z96 (s.drop (sgn s))+zcf (s.drop (sgn s+z96 (s.drop (sgn s))))+zju (s.drop (sgn s+z96 (s.drop (sgn s))+zcf (s.drop (sgn s+z96 (s.drop (sgn s)))))):=by
  conv=>lhs;unfold num
  simp only[a,if_false]
 generalize hn:num s=n at e⊢;have d:sgn (s.take n)=sgn s:=zz04u (by omega);have b:z96 ((s.take n).drop (sgn s))=z96 (s.drop (sgn s)):=by rw[yac,zyt (by omega) (by omega)]
 have h2:zcf ((s.take n).drop (sgn s+z96 (s.drop (sgn s))))=zcf (s.drop (sgn s+z96 (s.drop (sgn s)))):=by rw[yac,zyh (by omega)]
 have c:zju ((s.take n).drop (sgn s+z96 (s.drop (sgn s))+zcf (s.drop (sgn s+z96 (s.drop (sgn s))))))=zju (s.drop (sgn s+z96 (s.drop (sgn s))+zcf (s.drop (sgn s+z96 (s.drop (sgn s)))))):=by
  rw[yac];have:n-(sgn s+z96 (s.drop (sgn s))+zcf (s.drop (sgn s+z96 (s.drop (sgn s)))))=zju (s.drop (sgn s+z96 (s.drop (sgn s))+zcf (s.drop (sgn s+z96 (s.drop (sgn s)))))):=by omega
  rw[this,zy5]
 unfold num;simp only[d,b,a,if_false,h2,c];exact e.symm
theorem zjo:∀(f:Nat)(s acc t r:Z),txt f s acc=some (t,r)→Lib.validD t=true
 |0,_,_,_,_,h=>by simp[txt]at h|_+1,[],_,_,_,h=>by simp[txt]at h|f+1,c::s,acc,t,r,h=>by
  rw[txt]at h;split at h;·cases h
  ·split at h
   ·split at h;·rename_i a;cases h;exact a
    ·cases h
   ·split at h
    ·split at h;·cases h
     ·exact zjo f _ _ _ _ h
    ·exact zjo f _ _ _ _ h
theorem zlj{s t r:Z}(h:text s=some (t,r)):Lib.validD t=true:=by
 unfold text at h;split at h
 ·split at h;·exact zjo _ _ _ _ _ h
  ·cases h
 ·cases h
theorem zz6{s:Z}{b:List Z}{r:Z}{a:List Z}(h:zwu s b=.ok (r,a)):∃k,a=b++[k]∧¬k∈b∧Lib.validD k=true:=by
 unfold zwu at h;split at h;·cases h
 ·rename_i k e d;split at h;·cases h
  ·rename_i c;split at h;·cases h
   ·cases h;exact⟨k,rfl,c,zlj d⟩
theorem zt9:∀{l:List J}{w:Nat},zgw l w=0↔∀x∈l,zao x w=0
 |[],w=>by simp[zgw]|x::l,w=>by
  rw[zdq];by_cases a:zao x w=0;·simp[a,zt9 (l:=l)]
  ·simp[a]
theorem zvj{n:Nat}{a:List Z}(b:a.length=n)(h2:a.Nodup)(c:∀k∈a,Lib.validD k=true):frm 6 [] n a=true:=by unfold frm;simp[b,h2];exact c
theorem zyw{vf:Z→Rd}{o:Bool}{e:UInt8}{w:Nat}(N:w<16)(I:∀s x r,vf s=.ok (x,r)→zao x (w+1)=0):∀(f:Nat)(s:Z)(l:List J)(i:List Z)(x:J)(r:Z),zgw l (w+1)=0→(o=true→i.length=l.length)→(o=false→i=[])→i.Nodup→(∀k∈i,Lib.validD k=true)→items vf o e f s l i=.ok (x,r)→zao x w=0:=by intro f;induction f with|zero=>intro s l i x r _ _ _ _ _ h;simp[items]at h|succ f L=>
  intro s l i x r hl H t p q h;rw[items]at h;split at h;·cases h
  ·rename_i O c d;have F:(o=true→c.length=l.length+1)∧(o=false→c=[])∧c.Nodup∧∀k∈c,Lib.validD k=true:=by
    split at d
    ·rename_i ho;obtain⟨k,rfl,k1,M⟩:=zz6 d;refine⟨fun _=>by simp[H ho],fun h=>absurd (ho.symm.trans h) (by decide),?_,?_⟩;·rw[yax];exact⟨p,by simp,fun a G b E=>by simp at E;subst E;intro e;subst e;exact k1 G⟩
     ·intro z m;rcases yau.1 m with m|m;·exact q z m
      ·simp at m;subst m;exact M
    ·rename_i ho;cases d;exact⟨fun h=>absurd h ho,t,p,q⟩
   obtain⟨A,B,C,D⟩:=F;split at h;·cases h
   ·rename_i v P K;have u:=I _ _ _ K;have g:zgw (l++[v]) (w+1)=0:=by
     rw[zt9]at hl⊢;intro y j;rcases yau.1 j with j|j;·exact hl y j
     ·simp at j;subst j;exact u
    split at h
    ·cases h;rw[z8v];simp only;have n:¬16≤w:=by omega
     cases o with|false=>
      have:=B rfl;subst this;have hf:frm 5 [] (l++[v]).length []=true:=by simp[frm]
      simp only[yl,if_false];rw[if_neg fun h=>n h.2,hf];simpa using g|true=>have hf:frm 6 [] (l++[v]).length c=true:=zvj (by simpa using A rfl) C D;simp only[if_true];rw[if_neg fun h=>n h.2,hf];simpa using g
    ·split at h;·cases h
     ·exact L _ _ _ _ _ g (fun h=>by simpa using A h) B C D h
theorem zub{vf:Z→Rd}{o:Bool}{w:Nat}(c:w<16→∀s x r,vf s=.ok (x,r)→zao x (w+1)=0){s r:Z}{x:J}(h:nest vf o w s=.ok (x,r)):zao x w=0:=by
 unfold nest at h;split at h;·cases h
 ·rename_i a;split at h;·cases h;rw[z8v];cases o with|false=>simp[frm,a,zgw]|true=>simp[frm,a,zgw]
  ·exact zyw (by omega) (c (by omega)) _ _ _ _ _ _ rfl (fun _=>rfl) (fun _=>rfl) (by simp) (fun k b=>by cases b) h
theorem zz05e{s r:Z}{x:J}{w:Nat}(h:word s=.ok (x,r)):zao x w=0:=by
 unfold word at h;split at h;·cases h;rw[z8v];simp[frm,zgw]
 ·split at h;·cases h;rw[z8v];simp[frm,zgw]
  ·split at h;·cases h;rw[z8v];simp[frm,zgw]
   ·split at h;·cases h
    ·rename_i hn;cases h;have b:=zz047 s;have h2:=zp1 s;have a:(s.take (num s)).length=num s:=by rw[yas];omega
     have c:¬s.take (num s)=[]:=fun e=>by rw[e]at a;simp at a;omega
     have hf:frm 3 (s.take (num s)) 0 []=true:=by unfold frm;rw[if_neg (by decide),if_pos rfl,b,a];simp[c]
     rw[z8v];simp[hf,zgw]
theorem zz0a3:∀(f:Nat)(s:Z)(w:Nat)(x:J)(r:Z),val f s w=.ok (x,r)→zao x w=0:=by intro f;induction f with|zero=>intro s w x r h;simp[val]at h|succ f a=>
  intro s w x r h;rw[val]at h;split at h;·rename_i t d b;have c:=zlj b;cases h;rw[z8v];simp[frm,zgw,c]
  ·split at h;·cases h
   ·split at h;·exact zub (fun _ s x r=>a s (w+1) x r) h
    ·split at h;·exact zub (fun _ s x r=>a s (w+1) x r) h
     ·exact zz05e h
theorem zz03u{s:Z}{a:List Z}{c:Int}(h:zwu s a=.pan c):c=20:=by
 unfold zwu at h;split at h;·injection h with h;exact h.symm
 ·split at h;·injection h with h;exact h.symm
  ·split at h;·injection h with h;exact h.symm
   ·cases h
theorem zyx{vf:Z→Rd}{o:Bool}{e:UInt8}(d:∀s c,vf s=.pan c→c=20∨c=21):∀(f:Nat)(s:Z)(l:List J)(b:List Z)(c:Int),items vf o e f s l b=.pan c→c=20∨c=21:=by intro f;induction f with|zero=>intro s l b c h;simp only[items]at h;injection h with h;exact .inl h.symm|succ f i=>
  intro s l b c h;rw[items]at h;split at h
  ·rename_i a;split at a;·injection h with h;subst h;exact .inl (zz03u a)
   ·cases a
  ·split at h;·rename_i g;injection h with h;subst h;exact d _ _ g
   ·split at h;·cases h
    ·split at h;·injection h with h;exact .inl h.symm
     ·exact i _ _ _ _ h
theorem zuc{vf:Z→Rd}{o:Bool}{w:Nat}(a:∀s c,vf s=.pan c→c=20∨c=21){s:Z}{c:Int}(h:nest vf o w s=.pan c):c=20∨c=21:=by
 unfold nest at h;split at h;·injection h with h;exact .inr h.symm
 ·split at h;·cases h
  ·exact zyx a _ _ _ _ _ h
theorem zz0a4:∀(f:Nat)(s:Z)(w:Nat)(c:Int),val f s w=.pan c→c=20∨c=21:=by intro f;induction f with|zero=>intro s w c h;simp only[val]at h;injection h with h;exact .inl h.symm|succ f a=>
  intro s w c h;rw[val]at h;split at h;·cases h
  ·split at h;·injection h with h;exact .inl h.symm
   ·split at h;·exact zuc (fun s c=>a s (w+1) c) h
    ·split at h;·exact zuc (fun s c=>a s (w+1) c) h
     ·unfold word at h;split at h;·cases h
      ·split at h;·cases h
       ·split at h;·cases h
        ·split at h;·injection h with h;exact .inl h.symm
         ·cases h
theorem zru(s:Z):(∃x,parse s=(x,0)∧zao x 0=0)∨∃c,parse s=(⟨0,[],[],[]⟩,c)∧(c=20∨c=21∨c=22):=by
 unfold parse;split;·exact .inr ⟨22,rfl,by simp⟩
 ·split
  ·rename_i c a;rcases zz0a4 _ _ _ _ a with h|h;·exact .inr ⟨c,rfl,.inl h⟩
   ·exact .inr ⟨c,rfl,.inr (.inl h)⟩
  ·rename_i y r b;split;·exact .inl ⟨y,rfl,zz0a3 _ _ _ _ _ b⟩
   ·exact .inr ⟨20,rfl,.inl rfl⟩
end
section
open Go.Lk Go.Pe Go.RowKit
theorem zsz{v:J}(h:v.sz<1000000000):Small v:=h
theorem zz01i{s t r:Z}(a:text s=some (t,r)):t.length+4*r.length+4≤4*s.length:=by
 unfold text at a;split at a
 ·split at a
  ·have e:∀(f:Nat)(s acc t r:Z),txt f s acc=some (t,r)→t.length+4*r.length≤acc.length+4*s.length:=by intro f;induction f with|zero=>intro s acc t r h;simp[txt]at h|succ f b=>intro s acc t r h;cases s with|nil=>simp[txt]at h|cons c s=>
      rw[txt]at h;split at h;·cases h
      ·split at h
       ·split at h;·cases h;simp;omega
        ·cases h
       ·split at h
        ·split at h;·cases h
         ·rename_i j i d;have g:=zgy d;have h2:=b _ _ _ _ h;simp only[yan,yao]at*;omega
        ·have h2:=b _ _ _ _ h;simp only[yan,yao,yar]at*;omega
   have:=e _ _ _ _ _ a;simp only[yao,yar]at*;omega
  ·cases a
 ·cases a
theorem zz03q{vf:Z→Rd}{o:Bool}{e:UInt8}(q:∀s x r,vf s=.ok (x,r)→x.sz+8*r.length≤8*s.length):∀(f:Nat)(s:Z)(l:List J)(d:List Z)(x:J)(r:Z),items vf o e f s l d=.ok (x,r)→x.sz+8*r.length≤8*s.length+szs l+kys d:=by intro f;induction f with|zero=>intro s l d x r h;simp[items]at h|succ f c=>
  intro s l d x r h;rw[items]at h;have app1:∀(l:List J)(x:J),szs (l++[x])=szs l+x.sz+1:=fun l x=>by induction l with|nil=>simp[szs]|cons y l c=>simp only[yv,szs,c];omega
  have app2:∀(l:List Z)(x:Z),kys (l++[x])=kys l+x.length+1:=fun l x=>by induction l with|nil=>simp[kys]|cons y l c=>rw[yv,z7g,z7g,c];omega
  split at h;·cases h
  ·rename_i v j a;have B:kys j+8*v.length≤8*s.length+kys d:=by
    split at a
    ·unfold zwu at a;split at a;·cases a
     ·rename_i k u b;have w:=zev b;have z:=z3r u;have A:=zz01i b;split at a;·cases a
      ·split at a;·cases a
       ·rename_i m i;have n:=take_len i;simp only[yao,yar]at n;simp only[Rs.ok.injEq,Prod.mk.injEq]at a;obtain⟨rfl,rfl⟩:=a;rw[app2];omega
    ·simp only[Rs.ok.injEq,Prod.mk.injEq]at a;obtain⟨rfl,rfl⟩:=a;omega
   split at h;·cases h
   ·rename_i D C t;have h2:=q _ _ _ t;split at h;·rename_i m b;have g:=take_len b;simp only[yao,yar]at g;simp only[Rs.ok.injEq,Prod.mk.injEq]at h;obtain⟨rfl,rfl⟩:=h;rw[q04.zji];simp only[app1,yar];omega
    ·split at h;·cases h
     ·rename_i m b;have g:=take_len b;simp only[yao,yar]at g;have p:=c _ _ _ _ _ h;rw[app1]at p;omega
theorem zzr{vf:Z→Rd}{o:Bool}{w:Nat}(b:∀s x r,vf s=.ok (x,r)→x.sz+8*r.length≤8*s.length){s r:Z}{x:J}(h:nest vf o w s=.ok (x,r)):x.sz+8*r.length≤8*s.length:=by
 unfold nest at h;split at h;·cases h
 ·split at h;·rename_i c a;have:=take_len a;simp only[Rs.ok.injEq,Prod.mk.injEq]at h;obtain⟨rfl,rfl⟩:=h;simp only[yao,yar]at this;simp only[q04.sz,szs,kys_nil,yar];omega
  ·exact zz03q b _ _ _ _ _ _ h
theorem zz0a7{s r:Z}{x:J}(h:word s=.ok (x,r)):x.sz+8*r.length≤8*s.length:=by
 have hl:=zuw h;unfold word at h;split at h;·simp only[Rs.ok.injEq,Prod.mk.injEq]at h;obtain⟨rfl,rfl⟩:=h;simp only[q04.sz,szs,kys_nil,yar];omega
 ·split at h;·simp only[Rs.ok.injEq,Prod.mk.injEq]at h;obtain⟨rfl,rfl⟩:=h;simp only[q04.sz,szs,kys_nil,yar];omega
  ·split at h;·simp only[Rs.ok.injEq,Prod.mk.injEq]at h;obtain⟨rfl,rfl⟩:=h;simp only[q04.sz,szs,kys_nil,yar];omega
   ·split at h;·cases h
    ·simp only[Rs.ok.injEq,Prod.mk.injEq]at h;obtain⟨rfl,rfl⟩:=h;have a:=z3r (s.drop (num s));have h2:=zp1 s;rw[yap]at a;simp only[q04.sz,szs,kys_nil,yar,yas];omega
theorem zz0dl:∀(f:Nat)(s:Z)(w:Nat)(x:J)(r:Z),val f s w=.ok (x,r)→x.sz+8*r.length≤8*s.length:=by intro f;induction f with|zero=>intro s w x r h;simp[val]at h|succ f d=>
  intro s w x r h;rw[val]at h;split at h;·rename_i t b a;have c:=zev a;have h2:=z3r b;have e:=zz01i a;simp only[Rs.ok.injEq,Prod.mk.injEq]at h;obtain⟨rfl,rfl⟩:=h;simp only[q04.sz,szs,kys_nil];omega
  ·split at h;·cases h
   ·split at h;·rename_i b a;have c:=take_len a;have h2:=zzr (fun s x r=>d s (w+1) x r) h;omega
    ·split at h;·rename_i b a;have c:=take_len a;have h2:=zzr (fun s x r=>d s (w+1) x r) h;omega
     ·exact zz0a7 h
theorem zz04d(s:Z):(parse s).1.sz≤131072:=by
 unfold parse;have a:(⟨0,[],[],[]⟩:J).sz≤131072:=by decide
 split;·exact a
 ·rename_i hl;split;·exact a
  ·rename_i y r b;have c:=zz0dl _ _ _ _ _ b;have h2:=z3r s;split;·simp only;omega
   ·exact a
end
section
open Go.Lk Go.Pe
def nulJ:J:=⟨0,[],[],[]⟩
def za7(v:J)(k:Z):J×Bool:=if v.zf=6 then match v.zv.findIdx? fun x=>decide (k=x)with|some j=>(match v.zi[j]? with|some x=>(x,true)|none=>(nulJ,false))|none=>(nulJ,false)else(nulJ,false)
theorem zcl{v:J}{k:Z}(h:v.zv.length<1000000000):M.q3e v k=some (za7 v k):=by
 unfold M.q3e za7;rw[ztw (by omega)];simp only[ya,yc];by_cases a:v.zf=6;·simp only[a,decide_true,yr,if_true];grind[z3f,nulJ]
 grind[nulJ]
theorem zzo{v:J}{k:Z}(hl:v.zv.length<1000000000):∀(n i:Nat),v.zv.length-i=n→i≤v.zv.length→M.z4d v k (i:Int)=some (match(v.zv.drop i).findIdx? fun x=>decide (k=x)with|some j=>(match v.zi[i+j]? with|some x=>.done (x,true)|none=>.go ())|none=>.go ()):=by intro n;induction n with
 |zero=>
  intro i hn g;rw[M.z4d.eq_1];have:¬(i:Int)<(v.zv.length:Int):=by omega
  grind|succ n h=>
  intro i hn g;have b:i<v.zv.length:=by omega
  rw[M.z4d.eq_1];have f:(i:Int)<(v.zv.length:Int):=by omega
  rw[yz b,yaf];by_cases h2:i<v.zi.length
  ·have a:(i:Int)<(v.zi.length:Int):=by omega
   simp only[f,a,decide_true,Bool.and_true,if_true,z3f,yai b,yai h2,ya,yc];rw[w1 (by omega),h (i+1) (by omega) (by omega)];by_cases d:k=v.zv[i];·grind
   ·have c:¬v.zv[i]=k:=fun e=>d e.symm;simp only[d,c,decide_false,yl,if_false];cases(v.zv.drop (i+1)).findIdx? fun x=>decide (k=x)with|none=>rfl|some j=>grind
  ·have a:¬(i:Int)<(v.zi.length:Int):=by omega
   have nn:∀j,v.zi[i+j]?=none:=fun j=>yaj (by omega);rw[if_neg (by simp[a])];split;·grind
   ·rfl
theorem zen{v:J}{k:Z}(h:v.zv.length<1000000000):M.q4r v k=some (za7 v k):=by
 unfold M.q4r za7;by_cases b:v.zf=6;·have a:=zzo (v:=v) (k:=k) h _ 0 rfl (ybb _);have a:M.z4d v k 0=_:=a;simp only[b,decide_true,yp,yl,if_false,if_true,a,yad,yba,ya,yc];cases v.zv.findIdx? fun x=>decide (k=x)with|none=>rfl|some j=>simp only;cases v.zi[j]? with|none=>rfl|some x=>rfl
 grind[nulJ]
theorem zz08o(v:J)(k:Z):(za7 v k).1.sz≤v.sz:=by
 have c:=q04.zji v;have b:nulJ.sz=1:=by decide
 unfold za7;split
 ·split
  ·split;·rename_i x a;have:=zjk (List.mem_of_getElem? a);grind
   grind
  grind
 grind
def texts:List J→Option (List Z)|[]=>some []|x::l=>if x.zf=4 then(texts l).map (x.z09::·)else none
theorem zoo{v:J}(hl:v.zi.length<1000000000):∀(n i:Nat)(acc:List Z),v.zi.length-i=n→i≤v.zi.length→acc.length+n<1000000000→M.z57 v acc (i:Int)=some (match texts (v.zi.drop i)with|some l=>.go (acc++l)|none=>.done ([],false)):=by
 intro n;induction n with|zero=>
  intro i acc hn e d;rw[M.z57.eq_1];have:¬(i:Int)<(v.zi.length:Int):=by omega
  simp_all[if_neg,yaa,texts]|succ n f=>
  intro i acc hn e d;have a:i<v.zi.length:=by omega
  rw[M.z57.eq_1];have c:(i:Int)<(v.zi.length:Int):=by omega
  simp only[c,decide_true,if_true,z3f,yai a,ya,yc];rw[yz a,texts];by_cases b:v.zi[i].zf=4;·simp only[b,decide_true,yp,yl,if_false,if_true];rw[z0h (by grind),w1 (by omega)];simp only[yc];rw[f (i+1) _ (by omega) (by omega) (by simp;omega)];grind
  ·simp[b]
theorem zrw{v:J}(hl:v.zi.length<1000000000):∀(n i:Nat)(acc:List Z),v.zi.length-i=n→i≤v.zi.length→acc.length+n<1000000000→M.z5v v acc (i:Int)=some (match texts (v.zi.drop i)with|some l=>.go (acc++l)|none=>.done ([],false)):=by
 intro n;induction n with|zero=>
  intro i acc hn e d;rw[M.z5v.eq_1];have:¬(i:Int)<(v.zi.length:Int):=by omega
  simp_all[if_neg,yaa,texts]|succ n f=>
  intro i acc hn e d;have a:i<v.zi.length:=by omega
  rw[M.z5v.eq_1];have c:(i:Int)<(v.zi.length:Int):=by omega
  simp only[c,decide_true,if_true,z3f,yai a,ya,yc];rw[yz a,texts];by_cases b:v.zi[i].zf=4;·simp only[b,decide_true,yp,yl,if_false,if_true];rw[z0h (by grind),w1 (by omega)];simp only[yc];rw[f (i+1) _ (by omega) (by omega) (by simp;omega)];grind
  ·simp[b]
def zbj(v:J):List Z×Bool:=if v.zf=5 then match texts v.zi with|some l=>(l,true)|none=>([],false)else([],false)
theorem zed{v:J}(hl:v.zi.length<100000000):M.q3h v=some (zbj v):=by
 unfold M.q3h zbj;by_cases a:v.zf=5;·have b:=zoo (v:=v) (by omega) _ 0 [] rfl (ybb _) (by simp;omega);grind
 ·simp[a]
theorem zpf{v:J}(hl:v.zi.length<100000000):M.q4w v=some (zbj v):=by
 unfold M.q4w zbj;by_cases a:v.zf=5;·have b:=zrw (v:=v) (by omega) _ 0 [] rfl (ybb _) (by simp;omega);grind
 ·simp[a]
theorem zsi(l:List Z)(hl:l.length<1000000000):∀(n i:Nat),l.length-i=n→i≤l.length→M.z1g l l (i:Int)=some (.go ()):=by intro n;induction n with|zero=>intro i hn c;rw[M.z1g.eq_1];grind|succ n d=>
  intro i hn c;have a:i<l.length:=by omega
  rw[M.z1g.eq_1];have b:(i:Int)<(l.length:Int):=by omega
  simp only[b,decide_true,if_true,z3f,yai a,ya,yc,yp,yl,if_false];grind[w1]
theorem zps{l:List Z}(hl:l.length<1000000000):M.q4u l l=some true:=by unfold M.q4u;have:M.z1g l l 0=some (.go ()):=zsi l hl _ 0 rfl (ybb _);simp[this]
def zo0(a:Nat)(c:UInt8):Nat:=10*a+(c.toNat-48)
def zd0(a:Nat)(l:Z):Nat:=l.foldl zo0 a
theorem zbp(a:Nat)(c:UInt8):zo0 a c=10*a+(c.toNat-48):=rfl
theorem ztf(a:Nat):zd0 a []=a:=rfl
theorem zdu(a:Nat)(c:UInt8)(r:Z):zd0 a (c::r)=zd0 (zo0 a c) r:=by rfl
theorem zz02r(l:Z)(a:Nat)(c:UInt8):zd0 a (l++[c])=zo0 (zd0 a l) c:=by grind[zd0]
theorem zon{c:UInt8}(h:isD c=true):48≤c.toNat∧c.toNat≤57:=by grind[isD]
theorem zxw:∀(l:Z)(a k:Nat),(∀c∈l,isD c=true)→a<10^k→zd0 a l<10^(k+l.length)
 |[],a,k,_,h=>by grind[ztf]|c::l,a,k,hd,h=>by
  have d:=zon (hd c (by simp));have h2:zo0 a c<10^(k+1):=by rw[zbp,Nat.pow_succ];omega
  have:=zxw l _ (k+1) (fun x b=>hd x (by simp[b])) h2;grind[zdu]
theorem zz097{a:Nat}{c:UInt8}{l:Z}(hd:isD c=true)(d:a<1000000000000000):Lib.parseUint10 a (c::l)=Lib.parseUint10 (zo0 a c) l:=by
 have b:=zon hd;have e:a*10+(c.toNat-48)=zo0 a c:=by rw[zbp];omega
 rw[Lib.parseUint10,e,if_pos b,if_neg (by omega),if_neg (by omega)]
@[reducible]def noN:Lib.NumEnd Nat:=Lib.parseMag []
theorem zz098{a:Nat}{c:UInt8}{l:Z}(hd:isD c=false):Lib.parseUint10 a (c::l)=noN:=by
 have b:¬(48≤c.toNat∧c.toNat≤57):=fun x=>by grind[isD]
 rw[Lib.parseUint10,if_neg b];rfl
theorem zz093{N:Nat}(i:N≤1000000000000000)(l:Z):∀a:Nat,(a+1)*10^l.length≤N→Lib.parseUint10 a l=if l.all isD=true then .ok (zd0 a l)else noN:=by induction l with|nil=>intro a _;rfl|cons c l f=>
  intro a d;have b:0<10^l.length:=Nat.pow_pos (by decide)
  rw[yao,Nat.pow_succ]at d;cases hd:isD c with|true=>
   have g:=zon hd;have e:(a+1)*(10^l.length*10)=(10*a+10)*10^l.length:=by rw[Nat.mul_comm (10^l.length) 10,←Nat.mul_assoc];congr 1;omega
   rw[e]at d;have h:a+1≤(10*a+10)*10^l.length:=by have:=Nat.le_mul_of_pos_right (10*a+10) b;omega
   have h2:(zo0 a c+1)*10^l.length≤N:=by refine ya7 (Nat.mul_le_mul_right _ ?_) d;rw[zbp];omega
   rw[zz097 hd (by omega),f _ h2,List.all_cons,hd,zdu,yr]|false=>grind[zz098]
theorem zrt{l:Z}(hl:l.length≤15):Lib.parseMag l=if l=[]then noN else if l.all isD=true then .ok (zd0 0 l)else noN:=by unfold Lib.parseMag;rw[zz093 (N:=10^15) (by decide) l 0 (by rw[yba,Nat.one_mul];exact ya9 (by decide) hl)];rfl
theorem zp2{c:UInt8}(h:isD c=true):ybe (48+(c.toNat-48))=c:=by simp_all[zon]
theorem zqt{n:Nat}(h:n<10):isD (ybe (48+n))=true∧(ybe (48+n)=48→n=0):=by
 have tab:∀n:Fin 10,isD (ybe (48+n.val))=true∧(ybe (48+n.val)=48→n.val=0):=by decide
 exact tab ⟨n,h⟩
theorem zhk:∀(n u:Nat),u≤n→(∀c∈Lib.decDigits u,isD c=true)∧¬Lib.decDigits u=[]∧((Lib.decDigits u).head?=some 48→u=0)
 |n,u,a=>by
  rw[Lib.decDigits];by_cases h:u<10
  ·rw[dif_pos h];refine⟨fun c d=>?_,List.cons_ne_nil _ _,fun b=>?_⟩;·grind[zqt]
   grind[zqt]
  ·rw[dif_neg h];match n,a with
   |n+1,a=>
    obtain⟨e,h2,f⟩:=zhk n (u/10) (by omega);refine⟨fun c d=>?_,by simp,fun b=>?_⟩;·grind[zqt]
    ·rw[zz03f,if_neg h2]at b;grind|0,a=>omega
theorem ztg:∀(l:Z)(a:Nat),0<a→0<zd0 a l|[],a,h=>h|c::l,a,h=>ztg l _ (by rw[zbp];omega)
theorem zlz:∀(n:Nat)(l:Z),l.length=n→(∀c∈l,isD c=true)→¬l=[]→(l.head?=some 48→l.length=1)→Lib.decDigits (zd0 0 l)=l:=by intro n;induction n with|zero=>simp|succ n j=>
  intro g hn hd b s;obtain⟨l,c,rfl⟩:∃l c,g=l++[c]:=⟨g.dropLast,g.getLast b,(List.dropLast_concat_getLast b).symm⟩;have f:l.length=n:=by simpa using hn
  rw[zz02r,zbp];have h:=hd c (by simp);have hn:=zon h;by_cases hl:l=[];·subst hl;rw[ztf,Lib.decDigits,dif_pos (by omega)];grind[zp2]
  ·have a:¬l.head?=some 48:=fun e=>by grind
   have k:=j l f (fun x i=>hd x (by simp[i])) hl fun e=>absurd e a;have t:0<zd0 0 l:=by cases l with|nil=>grind|cons d r=>have p:=zon (hd d (by simp));have h2:¬d=48:=fun e=>a (by rw[e];rfl);have q:¬d.toNat=48:=fun e=>h2 (by rw[show(48:UInt8)=ybe 48 from rfl,←e];simp);grind[zdu,ztg,zbp]
   rw[Lib.decDigits,dif_neg (by omega)];have m:(10*zd0 0 l+(c.toNat-48))/10=zd0 0 l:=by omega
   have o:(10*zd0 0 l+(c.toNat-48))%10=c.toNat-48:=by omega
   grind[zp2]
def mag(t:Z):Z:=if t.head?=some 45 then t.drop 1 else t
def way(t:Z):Int:=if t.head?=some 45 then-1 else 1
def canon(t:Z):Bool:=!decide (mag t=[])&&(mag t).all isD&&decide ((mag t).length≤15)&&!(decide ((mag t).head?=some 48)&&(decide (1<(mag t).length)||decide (way t<0)))
def intOf(v:J):Int×Bool:=if v.zf=3∧canon v.z09=true then(way v.z09*(zd0 0 (mag v.z09):Int),true)else(0,false)
end
section
open Go.Lk Go.Pe
theorem seek{α R X:Type}{l:List α}{p:α→Bool}{F:Int→Option (Jn R X)}(d:Nat→R)(a:X)(hl:l.length<1152921504606846976)(hF:∀(i:Nat)(h:i<l.length),F (i:Int)=if p l[i]=true then some (.done (d i))else F (ybd .i64 ((i:Int)+1)))(e:F (l.length:Int)=some (.go a)):F 0=some (match l.findIdx? p with|some i=>.done (d i)|none=>.go a):=by
 have key:∀(n i:Nat),l.length-i=n→i≤l.length→F (i:Int)=some (match(l.drop i).findIdx? p with|some k=>.done (d (i+k))|none=>.go a):=by
  intro n
  induction n with|zero=>
   intro i c h2;have:i=l.length:=by omega
   subst this;simp[e]|succ n f=>
   intro i c h2;have b:i<l.length:=by omega
   rw[hF i b,zte b,yaf];cases g:p l[i]with|true=>simp|false=>rw[w1 (by omega),f (i+1) (by omega) (by omega)];simp only[yl,if_false];cases(l.drop (i+1)).findIdx? p with|none=>rfl|some k=>simp[ya3,Nat.add_comm 1 k]
 have:=key _ 0 rfl (ybb _);simpa using this
theorem zm2{α:Type}(l:List α)(p:α→Bool):l.findIdx? (fun x=>!p x)=none∧l.all p=true∨∃i,l.findIdx? (fun x=>!p x)=some i∧l.all p=false:=by
 have e:l.all p=! l.any fun x=>!p x:=by rw[List.all_eq_not_any_not]
 have:=List.findIdx?_isSome (xs:=l) (p:=fun x=>!p x);cases h:l.findIdx? fun x=>!p x with|none=>rw[h]at this;exact .inl ⟨rfl,by rw[e,←this];rfl⟩|some i=>rw[h]at this;exact .inr ⟨i,rfl,by rw[e,←this];rfl⟩
theorem zkq{α:Type}(p:α→Bool)(l:List α):l.dropWhile p=[]↔l.all p=true:=by induction l with|nil=>simp|cons a l b=>rw[yw];cases h:p a<;>simp[h,b]
theorem zjn{l cs:Z}:decide (Lib.trimS l cs=[])=l.all cs.contains:=by rw[yk,decide_eq_true_iff,zq5,yt]
theorem zke{l cs:Z}(hl:l.length≤9223372036854775807)(a:(decide (cs.length<4294967281)&&cs.all fun b=>decide (b.toNat<128))=true):M.trim l cs=some (Lib.trimS l cs):=by
 unfold M.trim;rw[z3k];·rfl
 ·simp only[yh]at a⊢;exact⟨by simpa using hl,a⟩
def z7c(c a:Nat)(s:Z):Bool:=s.all fun b=>decide (c≤b.toNat)&&decide (b.toNat≤a)
theorem z8p{s:Z}(d c:Nat)(k:s.length<1152921504606846976):M.q22 s (d:Int) (c:Int)=some (z7c d c s):=by
 unfold M.q22;have j:M.z5t s (d:Int) (c:Int) 0=some (match s.findIdx? fun b=>!(decide (d≤b.toNat)&&decide (b.toNat≤c))with|some i=>.done false|none=>.go ()):=by
  refine seek (fun _=>false) () k (fun i h=>?_) ?_
  ·rw[M.z5t];have e:(i:Int)<(s.length:Int):=by omega
   simp only[e,decide_true,if_true,z3f,yai h,ya,yc];by_cases a:d≤s[i].toNat
   ·have f:¬(s[i].toNat:Int)<(d:Int):=by omega
    by_cases b:s[i].toNat≤c
    ·have g:¬(c:Int)<(s[i].toNat:Int):=by omega
     simp[a,f,b,g]
    ·have g:(c:Int)<(s[i].toNat:Int):=by omega
     simp[a,f,b,g]
   ·have f:(s[i].toNat:Int)<(d:Int):=by omega
    simp[a,f]
  ·rw[M.z5t];simp
 simp only[ya,j,yc];unfold z7c;rcases zm2 s fun b=>decide (d≤b.toNat)&&decide (b.toNat≤c)with⟨e,h2⟩|⟨i,e,h2⟩;·rw[e,h2]
 ·rw[e,h2]
def isA(b:UInt8):Bool:=decide (65≤b.toNat)&&decide (b.toNat≤90)
def z8q(s:Z):Bool:=!decide (s=[])&&decide (s.length≤8)&&s.all isA
def z9r:Z:=[65,66,67,68,69,70,71,72,73,74,75,76,77,78,79,80,81,82,83,84,85,86,87,88,89,90]
theorem zz02l:∀b:UInt8,z9r.contains b=isA b:=z6f (by decide+kernel)
theorem zcj(s:Z):M.q1r s=some (z8q s):=by
 unfold M.q1r z8q;by_cases h:s=[];·subst h;simp
 ·by_cases d:s.length≤8
  ·have e:M.trim s z9r=some (Lib.trimS s z9r):=zke (by omega) (by decide);have c:decide (Lib.trimS s z9r=[])=s.all isA:=by rw[zjn];congr 1;funext b;exact zz02l b
   have a:(s.length:Int)≤8:=by omega
   unfold z9r at e c;simp[h,a,d,e];simpa using c
  ·have a:¬(s.length:Int)≤8:=by omega
   simp[a,d]
def isN(b:UInt8):Bool:=decide (97≤b.toNat)&&decide (b.toNat≤122)||isD b||decide (b=45)
def zh0(s:Z):Bool:=!decide (s=[])&&decide (s.length≤32)&&s.all isN
def smls:Z:=[97,98,99,100,101,102,103,104,105,106,107,108,109,110,111,112,113,114,115,116,117,118,119,120,121,122,48,49,50,51,52,53,54,55,56,57,45]
theorem zz04w:∀b:UInt8,smls.contains b=isN b:=z6f (by decide+kernel)
theorem zfw(s:Z):M.q1t s=some (zh0 s):=by
 unfold M.q1t zh0;by_cases h:s=[];·subst h;simp
 ·by_cases d:s.length≤32
  ·have e:M.trim s smls=some (Lib.trimS s smls):=zke (by omega) (by decide);have c:decide (Lib.trimS s smls=[])=s.all isN:=by rw[zjn];congr 1;funext b;exact zz04w b
   have a:(s.length:Int)≤32:=by omega
   unfold smls at e c;simp[h,a,d,e];simpa using c
  ·have a:¬(s.length:Int)≤32:=by omega
   simp[a,d]
def bare(s:Z):Z:=Lib.trimS s [32]
def isVal(s:Z):Bool:=z7c 32 126 s&&decide (bare s=s)
theorem ze8{s:Z}(b:s.length<1152921504606846976):M.q2z s=some (isVal s):=by
 unfold M.q2z isVal;have a:M.q22 s 32 126=some (z7c 32 126 s):=z8p 32 126 b;have h2:M.trim s [32]=some (Lib.trimS s [32]):=zke (by omega) (by decide);rw[a];cases h:z7c 32 126 s;·simp
 ·simp only[ya,yc,if_true,h2,yr,bare];exact congrArg some (decide_eq_decide.2 Iff.rfl)
def isNum(k:Nat)(s:Z):Bool:=!decide (s=[])&&s.all isD&&decide (s.length≤k)&&(!decide (s.head?=some 48)||decide (s.length=1))
def numV(s:Z):Int:=match Lib.atoiAll s with|.ok v=>v|.range=>Lib.atoiSat s|_=>0
theorem zmg(n:Nat):Lib.itoa (n:Int)=Lib.decDigits n:=by unfold Lib.itoa;rw[if_neg (by omega)];simp
theorem zz05h{n:Nat}(h:n<1000000000000000000):M.itoa (n:Int)=some (Lib.decDigits n):=by unfold M.itoa;rw[z3k (by simp;omega),zmg];rfl
theorem pow15{n:Nat}(h:n≤15):10^n≤1000000000000000:=by have:=ya9 (n:=10) (by decide) h;omega
theorem zyu{k:Nat}{s:Z}(h:isNum k s=true)(i:k≤15):Lib.atoiAll s=.ok ((zd0 0 s:Nat):Int)∧zd0 0 s<10^s.length∧Lib.decDigits (zd0 0 s)=s:=by
 unfold isNum at h;simp only[yh,yn,decide_eq_false_iff_not,decide_eq_true_eq,yq]at h;obtain⟨⟨⟨d,h2⟩,f⟩,a⟩:=h;have hd:∀c∈s,isD c=true:=yt.1 h2;have b:=zxw s 0 0 hd (by decide);rw[yba]at b;have j:=pow15 (n:=s.length) (by omega);refine⟨?_,b,zlz _ s rfl hd d fun e=>?_⟩;·cases s with|nil=>exact absurd rfl d|cons c r=>have g:=zon (hd c (by simp));unfold Lib.atoiAll;simp only;rw[if_neg (by omega),zrt (by omega),if_neg d,if_pos h2];simp only;rw[if_neg (by omega),if_neg (by omega),if_neg (by omega)]
 ·rcases a with a|a;·exact absurd e a
  ·exact a
theorem zz08w{k:Nat}{s:Z}(h:isNum k s=false)(l:k≤15)(hl:s.length≤k):∀v,Lib.atoiAll s=.ok v→0≤v→Lib.itoa v≠s:=by
 intro v m j a;obtain⟨n,rfl⟩:∃n:Nat,v=n:=⟨v.toNat,by omega⟩;rw[zmg]at a;obtain⟨c,d,e⟩:=zhk n n (ya6 _);rw[a]at c d e;have f:s.all isD=true:=yt.2 c;unfold isNum at h;have b:¬(¬s.head?=some 48∨s.length=1):=fun b=>by
  have:(!decide (s.head?=some 48)||decide (s.length=1))=true:=by simpa using b
  rw[f,this]at h;simp[d,hl]at h
 have g:=e (Classical.byContradiction fun q=>b (.inl q));subst g;have:Lib.decDigits 0=[48]:=Lib.decDigits_one (i:=0) (by decide);rw[this]at a;exact b (.inr (by rw[←a];rfl))
theorem zck{s:Z}(k:Nat)(d:k≤15)(i:s.length≤281474976710656):∃v,M.q1w s (k:Int)=some (v,isNum k s)∧(isNum k s=true→v=((zd0 0 s:Nat):Int)):=by
 unfold M.q1w;have h:M.atoi s=match Lib.atoiAll s with|.ok v=>some (v,true)|.range=>some (Lib.atoiSat s,false)|_=>some (0,false):=by unfold M.atoi;rw[z3k (by simpa using i)];rfl
 rw[h];cases hn:isNum k s with|true=>
  obtain⟨f,h2,g⟩:=zyu hn d;have l:=pow15 (n:=s.length) (by unfold isNum at hn;simp at hn;omega);have hl:(s.length:Int)≤(k:Int):=by unfold isNum at hn;simp at hn;omega
  refine⟨((zd0 0 s:Nat):Int),?_,fun _=>rfl⟩;rw[f];have a:(0:Int)≤((zd0 0 s:Nat):Int):=by omega
  simp only[ya,yc,yr,hl,a,decide_true,if_true,yj];rw[zz05h (by omega)];simp[g]|false=>
  have c:=zz08w hn d;rcases e:Lib.atoiAll s with v|_|_
  ·refine⟨v,?_,fun q=>by cases q⟩;simp only[ya,yc,yr];by_cases hl:(s.length:Int)≤(k:Int)
   ·by_cases a:(0:Int)≤v;·have b:=c (by omega) v e a;obtain⟨n,rfl⟩:∃n:Nat,v=n:=⟨v.toNat,by omega⟩;have j:=Lib.atoiAll_bounds e;simp only[hl,a,decide_true,yj,if_true];unfold M.itoa;rw[z3k (by simp;omega)];simp[b]
    ·simp[a]
   ·simp[hl]
  ·exact⟨_,rfl,fun q=>by cases q⟩
  ·exact⟨_,rfl,fun q=>by cases q⟩
end
section
open Go.Lk Go.Pe
def z1k:Z→Option Z|[]=>some []|c::r=>if c=37 then(match r with
  |x::y::t=>match z7b x,z7b y with|some a,some b=>(z1k t).map (ybe (16*a+b)::·)|_,_=>none
  |_=>none)else(z1k r).map (c::·)
theorem zf7{c:UInt8}(h:¬c=37)(r:Z):z1k (c::r)=(z1k r).map (c::·):=by
 conv=>lhs;unfold z1k
 rw[if_neg h]
theorem zd3(x y:UInt8)(t:Z):z1k (37::x::y::t)=match z7b x,z7b y with|some a,some b=>(z1k t).map (ybe (16*a+b)::·)|_,_=>none:=by
 conv=>lhs;unfold z1k
 rw[if_pos rfl]
theorem zhz:z1k [37]=none:=by unfold z1k;rfl
theorem zi0(x:UInt8):z1k [37,x]=none:=by unfold z1k;rfl
theorem zi2:∀(n:Nat)(s t:Z),s.length≤n→z1k s=some t→t.length≤s.length:=by intro n;induction n with|zero=>intro s t hn h;have:s=[]:=yae (by omega);subst this;cases h;simp|succ n i=>intro s t hn h;cases s with|nil=>cases h;simp|cons c r=>
   simp only[yao]at hn;by_cases f:c=37;·subst f;match r,hn,h with|[],_,h=>rw[zhz]at h;cases h|[x],_,h=>rw[zi0]at h;cases h|x::y::q,hn,h=>rw[zd3]at h;cases e:z7b x with|none=>rw[e]at h;simp at h|some a=>cases g:z7b y with|none=>rw[e,g]at h;simp at h|some b=>rw[e,g]at h;simp only[ye]at h;obtain⟨u,d,rfl⟩:=h;simp only[yao]at hn⊢;have:=i q u (by omega) d;omega
   ·rw[zf7 f]at h;simp only[ye]at h;obtain⟨u,d,rfl⟩:=h;have:=i r u (by omega) d;simp;omega
theorem zi1:∀s:Z,((z1q 37 s).2.2=false→z1k s=some s∧(z1q 37 s).1=s)∧((z1q 37 s).2.2=true→z1k s=(z1k (37::(z1q 37 s).2.1)).map ((z1q 37 s).1++·))
 |[]=>by simp[z1q,z1k]|c::r=>by
  have b:=zi1 r;rw[z42];by_cases a:c=37;·subst a;simp
  ·rw[if_neg a,zf7 a];refine⟨fun h=>?_,fun h=>?_⟩;·obtain⟨d,h2⟩:=b.1 h;rw[d];simp[h2]
   ·rw[b.2 h,Option.map_map];rfl
def zde:Z:=[48,49,50,51,52,53,54,55,56,57,97,98,99,100,101,102,95,95,95,95,95,95,95,95,95,95,65,66,67,68,69,70]
def ixS(c:UInt8):Int:=Lib.idxFunc (fun r=>decide ((r:Int)%256=(c.toNat:Int))) true ⟨zde.toArray⟩
theorem zz1:∀c:UInt8,(match z7b c with|some d=>decide (0≤ixS c)&&decide (ybc (ixS c) 16=(d:Int))&&decide (c.toNat<128)&&!decide (c=95)|none=>decide (ixS c<0)||decide (c=95))=true:=z6f (by decide+kernel)
theorem zz09z:∀a b:Fin 16,ybd .u8 (orI .i64 (z7r .i64 ((a.val:Nat):Int) 4) ((b.val:Nat):Int))=((16*a.val+b.val:Nat):Int):=by decide+kernel
theorem ze9{c:UInt8}{d:Nat}(h:z7b c=some d):0≤ixS c∧ybc (ixS c) 16=(d:Int)∧c.toNat<128∧¬c=95:=by have:=zz1 c;rw[h]at this;simp only[yh,decide_eq_true_eq,yn,decide_eq_false_iff_not]at this;exact⟨this.1.1.1,this.1.1.2,this.1.2,this.2⟩
theorem zmh{c:UInt8}(h:z7b c=none):ixS c<0∨c=95:=by have:=zz1 c;rw[h]at this;simpa using this
theorem zz0{c:UInt8}(h:0≤ixS c):c.toNat<128:=by cases b:z7b c with|some d=>exact(ze9 b).2.2.1|none=>
  rcases zmh b with a|a;·omega
  ·subst a;decide
theorem M_ixS(c:UInt8):M.z1l zde (c.toNat:Int)=some (ixS c):=by unfold M.z1l ixS;rfl
theorem zz028(x y:UInt8)(t:Z):M.q0o (x::y::t) zde=some (ybd .u8 (orI .i64 (z7r .i64 (ybc (ixS x) 16) 4) (ybc (ixS y) 16)),decide (0≤ixS x)&&decide (0≤ixS y)):=by
 unfold M.q0o;have h:¬((x::y::t).length:Int)<2:=by simp;omega
 simp only[h,decide_false,yl,if_false,ztx,ix_1,yah,yag,ya,yc,M_ixS]
theorem zhg(s cs:Z):Lib.containsAny s cs=s.any cs.contains:=by unfold Lib.containsAny;induction s with|nil=>simp[Lib.indexAny]|cons b l d=>have c:=Lib.indexAny_ge cs l;rw[Lib.indexAny,List.any_cons,←d];cases h:cs.contains b with|true=>simp|false=>
   simp only[yl,if_false,Bool.false_or];by_cases a:Lib.indexAny l cs=-1;·simp[a]
   ·rw[if_neg (by simpa using a),yk,decide_eq_true_iff,decide_eq_true_iff];omega
theorem M_two{x y:UInt8}(a:x.toNat<128)(b:y.toNat<128):M.containsAny [x,y] [95]=some (decide (x=95)||decide (y=95)):=by unfold M.containsAny;rw[z3k (by simp[a,b]),zhg];simp[yk,eq_comm]
theorem z1p{a b:Z}(h:a.length+b.length<1000000000000):M.q7d (unb a) b=some ((b.length:Int),unb (a++b)):=by rw[z3q (by rw[zl];omega),z0j]
theorem zjv:∀(n:Nat)(s a:Z),s.length≤n→a.length+s.length<4294967281→M.z1u s (unb a)=some (match z1k s with|some t=>(a++t,0)|none=>([],12)):=by intro n;induction n with|zero=>intro s a hn hl;have:s=[]:=yae (by omega);subst this;rw[M.z1u,zx1 37 (by simp)];simp only[cutb_nil,ya,yc];rw[z1p (by simp at hl⊢;omega)];simp[z2p,z1k]|succ n A=>intro s a hn hl;have o:=z8l 37 s;have hf:=zi1 s;rw[M.z1u,zx1 37 (by omega)];simp only[ya,yc];rw[z1p (by omega)];simp only[yc];cases m:(z1q 37 s).2.2 with|false=>obtain⟨j,h2⟩:=hf.1 m;simp only[yo,if_true];rw[z2p,j,h2];rfl|true=>have j:=hf.2 m;have b:=o.2 m;simp only[yp,yl,if_false];obtain⟨p,v⟩:∃p,(z1q 37 s).1=p:=⟨_,rfl⟩;obtain⟨r,w⟩:∃r,(z1q 37 s).2.1=r:=⟨_,rfl⟩;rw[v,w]at j b;rw[v,w,j];have G:([48,49,50,51,52,53,54,55,56,57,97,98,99,100,101,102,95,95,95,95,95,95,95,95,95,95,65,66,67,68,69,70]:Z)=zde:=rfl;rw[G];match r,b with
   |[],_=>
    have:M.q0o [] zde=some (0,false):=by simp[M.q0o]
    simp[this,zhz]|[x],_=>
    have:M.q0o [x] zde=some (0,false):=by simp[M.q0o]
    simp[this,zi0]|x::y::t,b=>
    simp only[yao]at b;rw[zz028,zd3];simp only[yc];have g:sub (x::y::t) 0 2=some [x,y]:=by have:=zkc (l:=x::y::t) (a:=2) (by simp);simpa using this
    have c:sub (x::y::t) 2 ((x::y::t).length:Int)=some t:=by have:=zan (l:=x::y::t) (a:=2) (by simp);simpa using this
    by_cases f:0≤ixS x∧0≤ixS y
    ·have k:(decide (0≤ixS x)&&decide (0≤ixS y))=true:=by simp[f]
     simp only[k,yp,yl,if_false,g,yc];rw[M_two (zz0 f.1) (zz0 f.2)];simp only[yc];cases h:z7b x with|none=>have:x=95:=(zmh h).resolve_left (by omega);simp[this]|some d=>cases i:z7b y with|none=>have:y=95:=(zmh i).resolve_left (by omega);simp[this]|some e=>
       obtain⟨_,C,_,u⟩:=ze9 h;obtain⟨_,D,_,E⟩:=ze9 i;have B:=z5s x d h;have l2:=z5s y e i;have z:=zz09z ⟨d,B⟩ ⟨e,l2⟩;simp only[u,E,decide_false,Bool.or_self,yl,if_false,C,D];simp only at z;rw[z];have F:((16*d+e:Nat):Int)=((ybe (16*d+e)).toNat:Int):=by simp;omega
       rw[F,z1z (by rw[zl,yan];omega)];simp only[yc,c];rw[zdf,←z0j,A t _ (by omega) (by simp;omega)];cases z1k t<;>simp
    ·have k:(decide (0≤ixS x)&&decide (0≤ixS y))=false:=by
      rw[yg];simp only[decide_eq_false_iff_not];by_cases q:0≤ixS x;·exact .inr fun u=>f ⟨q,u⟩
      ·exact .inl q
     simp only[k,yo,if_true,yc];cases h:z7b x with|none=>simp|some d=>cases i:z7b y with|none=>simp|some e=>exact(f ⟨(ze9 h).1,(ze9 i).1⟩).elim
theorem z6a{s:Z}(h:s.length<4294967281):M.q0l s=some (match z1k s with|some t=>(t,0)|none=>([],12)):=by unfold M.q0l;have:=zjv _ s [] (ya6 _) (by simpa using h);simpa[unb]using this
def swp(s:Z):Z:=s.map fun b=>if b=43 then 32 else b
theorem zpn(c d:UInt8):∀(n:Nat)(s:Z),s.length≤n→Lib.replaceK [c] [d] (s.count c) s=s.map fun b=>if b=c then d else b:=by intro n;induction n with|zero=>intro s hn;have:s=[]:=yae (by omega);subst this;rfl|succ n o=>intro s hn;cases s with|nil=>rfl|cons x r=>
   simp only[yao]at hn;have h:=o r (by omega);by_cases a:x=c;·subst a;rw[List.count_cons_self,Lib.replaceK_hit [x] [d] _ _ 0 (by rw[z5j];simp)];simp[h]
   ·rw[List.count_cons_of_ne (by simpa using a),yat,if_neg a,←h];obtain⟨k,g⟩:∃k,r.count c=k:=⟨_,rfl⟩;rw[g];cases k with|zero=>rfl|succ k=>
     have l:=Lib.index_ge r [c];have m:¬Lib.index r [c]=-1:=fun e=>by have j:=Lib.count_one c r;rw[Lib.count_miss e,g]at j;omega
     obtain⟨i,f⟩:∃i:Nat,Lib.index r [c]=i:=⟨(Lib.index r [c]).toNat,by omega⟩;rw[Lib.replaceK_hit [c] [d] k r i f,Lib.replaceK_hit [c] [d] k (x::r) (i+1) (by rw[z5j,if_neg a,if_neg m,f];omega)];simp[ya4]
theorem M_swp{s:Z}(h:s.length<4294967281):M.replaceAll s [43] [32]=some (swp s):=by
 unfold M.replaceAll;rw[z3k (by simpa using h)];have e:Lib.replaceAll s [43] [32]=swp s:=by unfold Lib.replaceAll Lib.replace Lib.replaceNum swp;rw[if_neg (by decide),if_pos (.inl (by decide)),Lib.count_one,zpn 43 32 _ s (ya6 _)]
 rw[←e];rfl
def zal:List Z→List q05→List q05×Int|[],a=>(a,0)|p::r,a=>if p=[]then([],13)else match z1k (z1q 61 (swp p)).1,z1k (z1q 61 (swp p)).2.1 with|some x,some y=>zal r (a++[⟨x,y⟩])|_,_=>([],12)
def z2l(s:Z):List q05×Int:=if 8192<s.length∨64<(z0u 38 s).length then([],14)else if s=[]then([],0)else zal (z0u 38 s) []
theorem z63(c:UInt8):∀(s x:Z),x∈z0u c s→x.length≤s.length
 |[],x,h=>by simp[z0u]at h;simp[h]|y::r,x,h=>by
  have b:=z63 c r;unfold z0u at h;split at h
  ·rcases yav.1 h with rfl|h;·simp
   ·have:=b x h;simp;omega
  ·obtain⟨a,t,e⟩:=zpz c r;rw[e]at h b;simp only at h;rcases yav.1 h with rfl|h;·have:=b a (by simp);simp;omega
   ·have:=b x (by simp[h]);simp;omega
theorem zc8(c:UInt8):∀s:Z,(z0u c s).length≤s.length+1
 |[]=>by simp[z0u]|y::r=>by
  have b:=zc8 c r;unfold z0u;split;·simp;omega
  ·obtain⟨a,t,e⟩:=zpz c r;rw[e]at b⊢;simp at b⊢;omega
theorem zjh(s:Z):(swp s).length=s.length:=by simp[swp]
theorem zr1{l:List Z}(hl:l.length<1000000)(j:∀x∈l,x.length<1000000):∀(n i:Nat)(a:List q05),l.length-i=n→i≤l.length→a.length≤i→M.z2b l a (i:Int)=some (match zal (l.drop i) a with|(r,e)=>if e=0 then .go r else .done (r,e)):=by intro n;induction n with
 |zero=>
  intro i a hn h f;rw[M.z2b,yaa (by omega)];have:¬(i:Int)<(l.length:Int):=by omega
  simp[this,zal]|succ n k=>
  intro i a hn h f;have b:i<l.length:=by omega
  have d:(i:Int)<(l.length:Int):=by omega
  have o:=j l[i] (by simp);rw[M.z2b,yz b];simp only[d,decide_true,if_true,z3f,yai b,ya,yc];unfold zal;by_cases c:l[i]=[];·simp[c]
  ·have g:=z8l 61 (swp l[i]);rw[zjh]at g;simp only[c,decide_false,yl,if_false];rw[M_swp (by omega)];simp only[yc];rw[zx1 61 (by rw[zjh];omega)];simp only[yc];rw[z6a (by omega),z6a (by omega)];simp only[yc];cases h2:z1k (z1q 61 (swp l[i])).1 with|none=>simp|some x=>cases m:z1k (z1q 61 (swp l[i])).2.1 with|none=>simp|some y=>simp only[decide_true,yp,Bool.or_self,yl,if_false];rw[z0h (by simp;omega),w1 (by omega)];simp only[yc];rw[k (i+1) _ (by omega) (by omega) (by simp;omega)]
theorem z9b{s:Z}(h:s.length<1000000):M.q0k s=some (z2l s):=by
 unfold M.q0k z2l;rw[zcv 38 (by omega)];simp only[ya,yc];by_cases c:8192<s.length∨64<(z0u 38 s).length
 ·have:(decide (8192<(s.length:Int))||decide (64<((z0u 38 s).length:Int)))=true:=by rw[yq,decide_eq_true_iff,decide_eq_true_iff];omega
  simp[this,c]
 ·have:(decide (8192<(s.length:Int))||decide (64<((z0u 38 s).length:Int)))=false:=by rw[Bool.or_eq_false_iff,decide_eq_false_iff_not,decide_eq_false_iff_not];omega
  simp only[this,yl,if_false,c];by_cases d:s=[];·simp[d]
  ·have a:=zr1 (l:=z0u 38 s) (by omega) fun x f=>by have:=z63 38 s x f;omega _ 0 [] rfl (ybb _) (by simp);have a:M.z2b (z0u 38 s) [] 0=_:=a;rw[a,yad];simp only[d,decide_false,yl,if_false,yc];rcases g:zal (z0u 38 s) []with⟨r,e⟩;simp only;by_cases b:e=0;·subst b;simp
   ·simp[b]
def z4p(l:List q05)(k v:Z):Z:=match l.find? fun p=>decide (p.zj=k)with|some p=>p.z1y|none=>v
def zak(l:List q05)(k:Z):Nat:=l.countP fun p=>decide (p.zj=k)
theorem zi5(p:q05)(l:List q05)(k v:Z):z4p (p::l) k v=if p.zj=k then p.z1y else z4p l k v:=by unfold z4p;rw[List.find?_cons];by_cases h:p.zj=k<;>simp[h]
theorem zof(p:q05)(l:List q05)(k:Z):zak (l++[p]) k=zak l k+if p.zj=k then 1 else 0:=by unfold zak;rw[List.countP_append];by_cases h:p.zj=k<;>simp[h]
theorem znt{l:List q05}{k:Z}(hl:l.length<1000000000):∀(m:Nat)(v:Z)(n:Nat),m≤l.length→n+m≤l.length→M.z3y l k (z4p (l.drop m) k v) ((n:Nat):Int) ((m:Int)-1)=some (z4p l k v,((n+zak (l.take m) k:Nat):Int)):=by intro m;induction m with|zero=>intro v n j hn;rw[M.z3y];simp[zak]|succ m g=>
  intro v n j hn;have a:m<l.length:=by omega
  rw[M.z3y];have h:((m+1:Nat):Int)-1=(m:Int):=by omega
  have i:(0:Int)≤(m:Int):=by omega
  rw[h];simp only[i,decide_true,if_true,z3f,yai a,ya,yc];have e:ybd .i64 ((m:Int)-1)=(m:Int)-1:=w64 (by omega) (by omega);have hd:l.drop m=l[m]::l.drop (m+1):=yz a;have f:l.take (m+1)=l.take m++[l[m]]:=by rw[List.take_succ,yai a];rfl
  by_cases b:l[m].zj=k
  ·have c:z4p (l.drop m) k v=l[m].z1y:=by rw[hd,zi5,if_pos b]
   have d:zak (l.take (m+1)) k=zak (l.take m) k+1:=by rw[f,zof,if_pos b]
   simp only[b,decide_true,if_true,e];rw[w1 (by omega),←c,g v (n+1) (by omega) (by omega),d];congr 3;omega
  ·have c:z4p (l.drop m) k v=z4p (l.drop (m+1)) k v:=by rw[hd,zi5,if_neg b]
   have d:zak (l.take (m+1)) k=zak (l.take m) k:=by rw[f,zof,if_neg b];rfl
   simp only[b,decide_false,yl,if_false,e];rw[←c,g v n (by omega) (by omega),d]
theorem zfo{l:List q05}(k:Z)(hl:l.length<1000000000):M.q0m l k=some (z4p l k [],((zak l k:Nat):Int)):=by unfold M.q0m;have h:=znt (k:=k) hl l.length [] 0 (ya6 _) (by omega);rw[List.drop_length,ya1,yba]at h;rw[w64 (by omega) (by omega)];simp only[ya];have e:z4p [] k []=[]:=rfl;rw[e]at h;have h:M.z3y l k [] 0 ((l.length:Int)-1)=_:=h;rw[h];rfl
def z95(l:List q05)(k:Z):Bool:=l.any fun p=>decide (p.zj=k)
theorem zm8(l:List q05)(k:Z):decide (0<zak l k)=z95 l k:=by unfold zak z95;rw[yk,decide_eq_true_iff,List.countP_pos_iff,List.any_eq_true]
theorem z7z{l:List q05}(k:Z)(hl:l.length<1000000000):M.q1k l k=some (z4p l k [],z95 l k):=by
 unfold M.q1k;rw[zfo k hl];simp only[ya,yc];have:decide (0<((zak l k:Nat):Int))=z95 l k:=by rw[←zm8];exact decide_eq_decide.2 (by omega)
 exact congrArg (fun b=>some (z4p l k [],b)) this
end
section
open Go.Lk Go.Pe
def zlw:Z:=[13,10,13,10]
def zgj(s:Z):Nat:=if 0≤Lib.index (s.take 8192) zlw then(Lib.index (s.take 8192) zlw).toNat+4 else 0
theorem zz07f(s:Z):zgj s≤s.length∧zgj s≤8192:=by
 unfold zgj;split
 ·rename_i h;have:=Lib.index_room (s.take 8192) zlw h;have h2:(s.take 8192).length=min 8192 s.length:=yas;simp only[zlw,yao,yar]at this;rw[h2]at this;have e:((Lib.index (s.take 8192) [13,10,13,10]).toNat:Int)=Lib.index (s.take 8192) [13,10,13,10]:=by unfold zlw at h;omega
  unfold zlw;omega
 ·omega
theorem zz0bl{s:Z}(h:0<zgj s):4≤zgj s:=by
 unfold zgj at h⊢;split at h;·rw[if_pos ‹_›];omega
 ·omega
theorem zr6{s:Z}(h:s.length<1000000000):M.q1h s=some ((zgj s:Nat):Int):=by
 unfold M.q1h zgj;have e:minI (s.length:Int) 8192=((min s.length 8192:Nat):Int):=by unfold minI;split<;>omega
 rw[e,zkc (Nat.min_le_left _ _)];have d:s.take (min s.length 8192)=s.take 8192:=by rw[List.take_eq_take_iff];omega
 have b:M.z6x (s.take 8192) zlw=some (Lib.index (s.take 8192) zlw):=by unfold M.z6x;rw[z3k (by simp;omega)];rfl
 rw[d];unfold zlw at b⊢;simp only[ya,yc,b];by_cases a:0≤Lib.index (s.take 8192) [13,10,13,10];·have c:=Lib.index_room (s.take 8192) [13,10,13,10] a;have h2:(s.take 8192).length=min 8192 s.length:=yas;rw[h2]at c;simp only[yao,yar]at c;simp only[a,decide_true,if_true];rw[w64 (by omega) (by omega)];congr 1;omega
 ·simp[a]
def pcts:List Z→Option (List Z)|[]=>some []|p::r=>match z1k p,pcts r with|some x,some l=>some (x::l)|_,_=>none
theorem zz007(p:Z)(r:List Z):pcts (p::r)=match z1k p,pcts r with|some x,some l=>some (x::l)|_,_=>none:=rfl
def ztu:Z:=[72,84,84,80,47,49,46,49]
def topOk(a b c:Z):Bool:=z8q a&&decide (c=ztu)&&decide (b.head?=some 47)&&z7c 33 126 b
def topH(s:Z):Option q03:=match z0u 32 s with|[a,b,c]=>if topOk a b c=true then match pcts (z0u 47 ((z1q 63 b).1.drop 1))with|some l=>if(z2l (z1q 63 b).2.1).2=0∧l.length≤64 then some ⟨a,l,(z2l (z1q 63 b).2.1).1,[],[]⟩else none|none=>none else none|_=>none
theorem z0k(e:Int):M.q1s true e=some (.ok ()):=by simp[M.q1s]
theorem z05(e:Int):M.q1s false e=some (.pan e):=by simp[M.q1s]
theorem z4k{l:List Z}(hl:l.length<2000000)(f:∀x∈l,x.length<1000000):∀(n i:Nat)(a:List Z),l.length-i=n→i≤l.length→a.length≤i→M.z4k l (i:Int) a=some (match pcts (l.drop i)with|some r=>.go (a++r)|none=>.done (.pan 220)):=by
 intro n
 induction n with|zero=>
  intro i a hn e d;rw[M.z4k,yaa (by omega)];have:¬(i:Int)<(l.length:Int):=by omega
  simp[this,pcts]|succ n g=>
  intro i a hn e d;have b:i<l.length:=by omega
  have c:(i:Int)<(l.length:Int):=by omega
  have h:=f l[i] (by simp);rw[M.z4k,yz b];simp only[c,decide_true,if_true,z3f,yai b,ya,yc];rw[z6a (by omega)];simp only[yc];rw[zz007]
  cases h2:z1k l[i]with|none=>
   have:decide ((12:Int)=0)=false:=by decide
   simp only[this,z05,yc]|some x=>
   have:decide ((0:Int)=0)=true:=by decide
   rw[this,z0k];simp only[yc];rw[z0h (by simp;omega),w1 (by omega)];simp only[yc];rw[g (i+1) _ (by omega) (by omega) (by simp;omega)];cases pcts (l.drop (i+1))<;>simp
theorem headH(b:Z):M.q7f b [47]=some (decide (b.head?=some 47)):=by rw[z7k,z8y]
theorem zr7{s:Z}(h:s.length<1000000):M.q2x s=some (match topH s with|some q=>.ok q|none=>.pan 220):=by unfold M.q2x topH;rw[zcv 32 (by omega)];have e:=z63 32 s;obtain⟨l,hl⟩:∃l,z0u 32 s=l:=⟨_,rfl⟩;rw[hl]at e⊢;simp only[ya,yc];match l,e with
 |[],_=>simp[z05]|[a],_=>simp[z05]|[a,b],_=>simp[z05]|a::b::c::d::t,_=>
  have:¬((a::b::c::d::t).length:Int)=3:=by simp;omega
  simp only[this,decide_false,yl,if_false,yc,z05]|[a,b,c],e=>
  have D:=e b (by simp);have j:M.q22 b 33 126=some (z7c 33 126 b):=z8p 33 126 (by omega);have v:(([a,b,c]:List Z).length:Int)=3:=by simp
  have z:ix [a,b,c] 0=some a:=by simp[ztx]
  have A:ix [a,b,c] 1=some b:=by simp[ix_1]
  have B:ix [a,b,c] 2=some c:=by simp[ix]
  simp only[v,decide_true,if_true,z,A,B,yc,zcj,headH,j];have key:∀k:Bool→Option (Rs q03),k (topOk a b c)=(if z8q a=true then some (decide (c=ztu))else some false).bind fun p=>(if p=true then some (decide (b.head?=some 47))else some false).bind fun u=>(if u=true then some (z7c 33 126 b)else some false).bind k:=by intro k;unfold topOk;cases z8q a<;>cases decide (c=ztu)<;>cases decide (b.head?=some 47)<;>simp
  unfold ztu at key;rw[←key fun C=>_];cases n:topOk a b c with|false=>simp[z05]|true=>
   have f:b.head?=some 47:=by unfold topOk at n;simp at n;exact n.1.2
   have w:=z8l 63 b;have g:1≤(z1q 63 b).1.length:=by cases b with|nil=>cases f|cons x r=>cases f;rw[z42,if_neg (by decide)];simp
   simp only[z0k,yc,if_true];rw[zx1 63 (by omega)];simp only[yc];have m:=zan (l:=(z1q 63 b).1) (a:=1) g;have m:sub (z1q 63 b).1 1 ((z1q 63 b).1.length:Int)=some ((z1q 63 b).1.drop 1):=m;rw[m];simp only[yc];rw[zcv 47 (by simp;omega)];simp only[yc];have i:=z4k (l:=z0u 47 ((z1q 63 b).1.drop 1)) (by have:=zc8 47 ((z1q 63 b).1.drop 1);rw[yap]at this;omega) fun x y=>by have:=z63 47 _ x y;rw[yap]at this;omega _ 0 [] rfl (ybb _) (by simp);have i:M.z4k (z0u 47 ((z1q 63 b).1.drop 1)) 0 []=_:=i;rw[i,yad];cases pcts (z0u 47 ((z1q 63 b).1.drop 1))with|none=>simp|some l=>
    simp only[yc,yaw];rw[z9b (by omega)];simp only[yc];by_cases o:(z2l (z1q 63 b).2.1).2=0∧l.length≤64
    ·have:(decide ((z2l (z1q 63 b).2.1).2=0)&&decide ((l.length:Int)≤64))=true:=by rw[yh,decide_eq_true_iff,decide_eq_true_iff];omega
     rw[this,z0k];simp[o]
    ·have:(decide ((z2l (z1q 63 b).2.1).2=0)&&decide ((l.length:Int)≤64))=false:=by
      rw[yg,decide_eq_false_iff_not,decide_eq_false_iff_not];by_cases q:(z2l (z1q 63 b).2.1).2=0;·exact .inr fun E=>o ⟨q,by omega⟩
      ·exact .inl q
     rw[this,z05];simp only[yc];rw[if_neg o]
def lowB(b:UInt8):UInt8:=if isA b=true then b+32 else b
def low(s:Z):Z:=s.map lowB
theorem zz08m:∀b:UInt8,(!decide (b.toNat<128)||decide (Lib.encodeRune (zrn (b.toNat:Int))=[lowB b]))=true:=z6f (by decide+kernel)
theorem zz0c7(x:Nat):0≤zrn (x:Int):=by unfold zrn;split<;>omega
theorem zl9:∀s:Z,(∀b∈s,b.toNat<128)→Lib.mapD zrn s=low s|[],_=>rfl|b::r,h=>by have a:=h b (by simp);rw[Lib.mapD_step _ _ (by simp),Lib.decodeL_ascii b r a];simp only[List.drop_one,yaz];rw[if_pos (zz0c7 _),zl9 r fun x c=>h x (by simp[c])];have:=zz08m b;simp only[a,decide_true,yp,Bool.false_or,decide_eq_true_eq]at this;rw[this];rfl
theorem zqv{x:Int}(h:128≤x):∃b∈Lib.encodeRune x,128≤b.toNat:=by
 unfold Lib.encodeRune Lib.encodeRuneZ;rw[if_neg (by omega)];split;·refine⟨(192+x/64).toNat.toUInt8,by simp,?_⟩;simp;omega
 ·split;·refine⟨(224+x/4096).toNat.toUInt8,by simp,?_⟩;simp;omega
  ·split;·refine⟨(240+x/262144).toNat.toUInt8,by simp,?_⟩;simp;omega
   ·exact⟨239,by simp,by decide⟩
theorem decode_high(b:UInt8)(r:Z)(h:¬b.toNat<128):128≤(Lib.decodeL (b::r)).1:=by
 have e:(⟨(b::r).toArray⟩:ByteArray).get! 0=b:=by simp[ByteArray.get!]
 unfold Lib.decodeL Utf8.decode;simp only[Nat.add_zero,e,yba];rw[if_neg (by omega)];split
 ·split;·rename_i a;simpa using a
  ·simp[Utf8.runeError]
 ·split
  ·split;·rename_i a;simp only[yh,decide_eq_true_eq]at a;simp only;omega
   ·simp[Utf8.runeError]
  ·split
   ·split;·rename_i a;simp only[yh,decide_eq_true_eq]at a;simp only;omega
    ·simp[Utf8.runeError]
   ·simp[Utf8.runeError]
theorem zzn:∀(n:Nat)(s:Z),s.length≤n→(∃b∈s,¬b.toNat<128)→∃b∈Lib.mapD zrn s,¬b.toNat<128:=by intro n;induction n with|zero=>intro s hn h;have:s=[]:=yae (by omega);subst this;obtain⟨b,a,_⟩:=h;cases a|succ n f=>intro s hn h;cases s with|nil=>obtain⟨b,a,_⟩:=h;cases a|cons c r=>
   rw[Lib.mapD_step _ _ (by simp)];by_cases d:c.toNat<128
   ·rw[Lib.decodeL_ascii c r d];simp only[List.drop_one,yaz];obtain⟨b,a,h2⟩:=f r (by simp at hn;omega) (by
     obtain⟨b,a,h2⟩:=h;rcases yav.1 a with rfl|a;·exact(h2 d).elim
     ·exact⟨b,a,h2⟩);exact⟨b,yau.2 (.inr a),h2⟩
   ·have g:=decode_high c r d;have e:zrn ((Lib.decodeL (c::r)).1:Int)=((Lib.decodeL (c::r)).1:Int):=by unfold zrn;rw[if_neg (by omega)]
    rw[e,if_pos (by omega)];obtain⟨b,a,h2⟩:=zqv (x:=((Lib.decodeL (c::r)).1:Int)) (by omega);exact⟨b,yau.2 (.inl a),by omega⟩
theorem zz081{b:UInt8}(h:isN b=true):b.toNat<128:=by
 unfold isN isD at h;simp at h;rcases h with(h|h)|h;·omega
 ·omega
 ·subst h;decide
theorem zzq(s:Z):zh0 (Lib.mapD zrn s)=zh0 (low s)∧(zh0 (low s)=true→Lib.mapD zrn s=low s):=by
 by_cases h:∀b∈s,b.toNat<128;·rw[zl9 s h];exact⟨rfl,fun _=>rfl⟩
 ·have h:∃b∈s,¬b.toNat<128:=by simpa using h
  have no:∀t:Z,(∃b∈t,¬b.toNat<128)→zh0 t=false:=fun t⟨b,a,h2⟩=>by
   have:t.all isN=false:=by rw[List.all_eq_false];exact⟨b,a,fun q=>h2 (zz081 q)⟩
   unfold zh0;rw[this,yi]
  have c:=no _ (zzn _ s (ya6 _) h);have h2:zh0 (low s)=false:=no _ (by obtain⟨b,a,h2⟩:=h;refine⟨lowB b,List.mem_map.2 ⟨b,a,rfl⟩,?_⟩;unfold lowB;rw[if_neg (by unfold isA;simp;omega)];exact h2);rw[c,h2];exact⟨rfl,fun q=>by cases q⟩
theorem zuz{s:Z}(h:s.length<1000000000):M.z6t s=some (Lib.mapD zrn s):=by unfold M.z6t;rw[z3k (by simp;omega)];rfl
end
section
open Go.Lk Go.Pe
theorem zu7{K:Type}[DecidableEq K](k c:K):∀l:List (K×Bool),z90 (z4l l k true) c false=if c=k then true else z90 l c false
 |[]=>by unfold z4l z90 z90;rfl|(a,b)::r=>by
  have d:=zu7 k c r;unfold z4l;by_cases h:k=a;·subst h;rw[if_pos rfl];unfold z90;by_cases h2:c=k<;>simp[h2]
  ·rw[if_neg h];unfold z90;by_cases h2:c=a;·subst h2;rw[if_pos rfl,if_pos rfl,if_neg (Ne.symm h)]
   ·rw[if_neg h2,if_neg h2,d]
def z6m:Z:=[116,114,97,110,115,102,101,114,45,101,110,99,111,100,105,110,103]
def z8k:Z:=[99,111,110,116,101,110,116,45,108,101,110,103,116,104]
def z45:Z:=[104,111,115,116]
def rowF(row:Z)(a:List Z):Option (Z×Z):=if((z1q 58 row).2.2&&zh0 (low (z1q 58 row).1)&&isVal (bare (z1q 58 row).2.1)&&!a.contains (low (z1q 58 row).1))=true then some (low (z1q 58 row).1,bare (z1q 58 row).2.1)else none
def zwa:List Z→Nat→Nat→List q05→List Z→Except Int (Nat×List q05×List Z)|[],_,b,hd,a=>.ok (b,hd,a)|row::r,i,b,hd,a=>if 32≤i then .error 222 else match rowF row a with|none=>.error 220|some (k,v)=>if k=z8k then if isNum 9 v=true then zwa r (i+1) (zd0 0 v) hd (k::a)else .error 220 else zwa r (i+1) b (hd++[⟨k,v⟩]) (k::a)
def zH:q03:=⟨[],[],[],[],[]⟩
def SN(m:List (Z×Bool))(a:List Z):Prop:=∀k,z90 m k false=a.contains k
theorem SN.put{m:List (Z×Bool)}{b:List Z}(h:SN m b)(k:Z):SN (z4l m k true) (k::b):=fun a=>by rw[zu7,List.contains_cons,h a];by_cases e:a=k<;>simp[e]
def zz0aw(z:Option (Jn (q03×Int×Int) (Int×List q05×List (Z×Bool)))):Except Int (Nat×List q05×List Z)→Prop|.error e=>z=some (.done (zH,0,e))|.ok (b,hd,a)=>∃m,z=some (.go ((b:Int),hd,m))∧SN m a
theorem zgv(s:Z):(bare s).length≤s.length:=by unfold bare Lib.trimS Lib.trimLeftS Lib.trimRightS;refine ya7 (yx _).length_le ?_;rw[List.length_reverse];exact ya7 (yx _).length_le (by simp)
theorem zz04c{l:List Z}(hl:l.length<1000000)(D:∀x∈l,x.length<1000000):∀(n i b:Nat)(hd:List q05)(m:List (Z×Bool))(p:List Z),l.length-i=n→i≤l.length→hd.length≤i→SN m p→zz0aw (M.z2v l (b:Int) (i:Int) hd m) (zwa (l.drop i) i b hd p):=by
 intro n;induction n with|zero=>
  intro i b hd m p hn C A o;rw[M.z2v,yaa (by omega)];have:¬(i:Int)<(l.length:Int):=by omega
  simp only[this,decide_false,yl,if_false];exact⟨m,rfl,o⟩|succ n t=>
  intro i b hd m p hn C A o;have g:i<l.length:=by omega
  have y:(i:Int)<(l.length:Int):=by omega
  have G:=D l[i] (by simp);have F:=(z8l 58 l[i]).1;rw[M.z2v,yz g];simp only[y,decide_true,if_true,z3f,yai g,ya,yc];unfold zwa;by_cases f:32≤i
  ·have:¬(i:Int)<32:=by omega
   rw[if_pos f];simp only[this,decide_false,z05,yc];rfl
  ·have:(i:Int)<32:=by omega
   rw[if_neg f];simp only[this,decide_true,z0k,yc];rw[zx1 58 (by omega)];simp only[yc];rw[zuz (by omega)];simp only[yc];rw[zke (by omega) (by decide)];simp only[yc,zfw];obtain⟨u,w⟩:=zzq (z1q 58 l[i]).1;have E:M.q2z (Lib.trimS (z1q 58 l[i]).2.1 [32])=some (isVal (bare (z1q 58 l[i]).2.1)):=ze8 (by have:=zgv (z1q 58 l[i]).2.1;unfold bare at this;omega);rw[E,u]--what must hold,as_ one
   have key:∀(a b c d:Bool)(k:Bool→Option (Jn (q03×Int×Int) (Int×List q05×List (Z×Bool)))),((if a=true then some b else some false).bind fun j=>(if j=true then some c else some false).bind fun j=>(if j=true then some d else some false).bind k)=k (a&&b&&c&&d):=by intro a b c d k;cases a<;>cases b<;>cases c<;>cases d<;>rfl
   simp only[yc];rw[key];unfold rowF;by_cases hn:zh0 (low (z1q 58 l[i]).1)=true;·rw[w hn,o];cases r:(z1q 58 l[i]).2.2&&zh0 (low (z1q 58 l[i]).1)&&isVal (bare (z1q 58 l[i]).2.1)&&!p.contains (low (z1q 58 l[i]).1)with|false=>simp only[z05,yc,yl,if_false];rfl|true=>
     simp only[z0k,yc,if_true];have B:Lib.trimS (z1q 58 l[i]).2.1 [32]=bare (z1q 58 l[i]).2.1:=rfl;rw[B];by_cases q:low (z1q 58 l[i]).1=z8k;·have e:low (z1q 58 l[i]).1=B20:=q;rw[if_pos q];obtain⟨v,h2,z⟩:=zck (s:=bare (z1q 58 l[i]).2.1) 9 (by decide) (by have:=zgv (z1q 58 l[i]).2.1;omega);have h2:M.q1w (bare (z1q 58 l[i]).2.1) 9=some (v,isNum 9 (bare (z1q 58 l[i]).2.1)):=h2;simp only[e,decide_true,yp,yl,if_false,h2,yc];cases h:isNum 9 (bare (z1q 58 l[i]).2.1)with|false=>simp only[z05,yc,yl,if_false];rfl|true=>simp only[z0k,yc,if_true];rw[z h,w1 (by omega)];have:=t (i+1) (zd0 0 (bare (z1q 58 l[i]).2.1)) hd _ _ (by omega) (by omega) (by omega) (o.put (low (z1q 58 l[i]).1));rw[e]at this;exact this
     ·have e:¬low (z1q 58 l[i]).1=B20:=q;rw[if_neg q];simp only[e,decide_false,yo,if_true];rw[z0h (by simp;omega),w1 (by omega)];simp only[yc];exact t (i+1) b _ _ _ (by omega) (by omega) (by simp;omega) (o.put (low (z1q 58 l[i]).1))
   ·have hn:zh0 (low (z1q 58 l[i]).1)=false:=by simpa using hn
    simp only[hn,yi,Bool.false_and,z05,yc,yl,if_false];rfl
def zz06g(s:Z)(n:Nat)(q:q03):Except Int (Nat×List q05×List Z)→q03×Nat×Int|.error e=>(zH,0,e)|.ok (b,hd,a)=>if a.contains z45=false then(zH,0,220)else if 16384<b then(zH,0,221)else if s.length<n+b then(zH,0,223)else(⟨q.zt,q.z00,q.z0d,hd,(s.drop n).take b⟩,n+b,0)
def zz06h(s:Z)(n:Nat)(l:List Z):q03×Nat×Int:=match topH (l.head?.getD [])with|none=>(zH,0,220)|some q=>zz06g s n q (zwa (l.drop 1) 0 0 [] [z6m])
def zir(s:Z):q03×Nat×Int:=if zgj s=0 then(zH,0,if s.length<8192 then 223 else 222)else zz06h s (zgj s) (z7v (s.take (zgj s-4)))
theorem zwi:∀(n:Nat)(s:Z),s.length≤n→(z7v s).length≤s.length+1∧∀x∈z7v s,x.length≤s.length:=by intro n;induction n with|zero=>intro s hn;have:s=[]:=yae (by omega);subst this;unfold z7v;simp|succ n d=>intro s hn;cases s with|nil=>unfold z7v;simp|cons x r=>
   simp only[yao]at hn;unfold z7v;split
   ·obtain⟨c,h2⟩:=d (r.drop 1) (by rw[yap];omega);rw[yap]at c h2;refine⟨by rw[yao,yao];omega,fun y b=>?_⟩;rcases yav.1 b with rfl|b;·simp
    ·have:=h2 y b;rw[yao];omega
   ·obtain⟨c,h2⟩:=d r (by omega);obtain⟨a,t,e⟩:=zq1 r;rw[e]at c h2;rw[e];simp only[yao]at c⊢;refine⟨by omega,fun y b=>?_⟩;rcases yav.1 b with rfl|b;·have:=h2 a (by simp);rw[yao];omega
    ·have:=h2 y (by simp[b]);omega
theorem zwm{s:Z}{q:q03}(h:topH s=some q):q.zp=[]∧q.zx=[]:=by
 unfold topH at h;split at h
 ·split at h
  ·split at h
   ·split at h;·cases h;exact⟨rfl,rfl⟩
    ·cases h
   ·cases h
  ·cases h
 ·cases h
theorem zmd{s:Z}(h:s.length<1000000000):M.q0s s=some ((zir s).1,(((zir s).2.1:Nat):Int),(zir s).2.2):=by
 unfold M.q0s zir;rw[zr6 h];have L:∀e:Int,(q03.mk ([]:Z) [] [] [] ([]:Z),(0:Int),e)=(zH,((0:Nat):Int),e):=fun e=>rfl;simp only[ya,yc];by_cases n:zgj s=0
 ·rw[if_pos n,n];by_cases p:s.length<8192
  ·have:(s.length:Int)<8192:=by omega
   simp[this,p,z0k,z05,zH]
  ·have:¬(s.length:Int)<8192:=by omega
   simp[this,p,z05,zH]
 ·rw[if_neg n];have E:(0:Int)<((zgj s:Nat):Int):=by omega
  have J:=zz0bl (s:=s) (by omega);have C:=zz07f s;simp only[E,decide_true,Bool.true_or,z0k,yc];have A:ybd .i64 (((zgj s:Nat):Int)-4)=((zgj s-4:Nat):Int):=by rw[w64 (by omega) (by omega)];omega
  rw[A,zkc (by omega)];simp only[yc];have D:(s.take (zgj s-4)).length≤8192:=by rw[yas];omega
  rw[zz029 (by omega)];obtain⟨g,d⟩:=zwi _ (s.take (zgj s-4)) (ya6 _);obtain⟨a,t,e⟩:=zq1 (s.take (zgj s-4));rw[e]at g d⊢;have H:ix (a::t) 0=some a:=by simp[ztx]
  simp only[yc,H];have K:=d a (by simp);rw[zr7 (by omega)];unfold zz06h;simp only[yal,yd,yc];cases F:topH a with|none=>simp[zH]|some q=>
   obtain⟨I,N⟩:=zwm F;have i:sub (a::t) 1 ((a::t).length:Int)=some t:=by have:=zan (l:=a::t) (a:=1) (by simp);simpa using this
   simp only[yao]at g;have c:=zz04c (l:=t) (by omega) fun x G=>by have:=d x (by simp[G]);omega _ 0 0 [] (z4l [] z6m true) [z6m] rfl (ybb _) (by simp) (fun k=>by unfold z4l z90 z90;by_cases q:k=z6m<;>simp[q]);rw[yad]at c;have w:(a::t).drop 1=t:=rfl;rw[w];simp only[yc,i,I];have y:z4l ([]:List (Z×Bool)) (B18:Z) true=z4l [] z6m true:=rfl;rw[y];unfold zz06g;cases u:zwa t 0 0 [] [z6m]with|error z=>rw[u]at c;have c:M.z2v t 0 0 [] (z4l [] z6m true)=some (.done (zH,0,z)):=c;rw[c];rfl|ok x=>obtain⟨b,hd,v⟩:=x;rw[u]at c;obtain⟨m,c,o⟩:=c;have c:M.z2v t 0 0 [] (z4l [] z6m true)=some (.go ((b:Int),hd,m)):=c;rw[c];simp only[yc];have B:z90 m B29 false=v.contains z45:=o _;rw[B];cases v.contains z45 with|false=>simp[z05,zH]|true=>
     simp only[z0k,yc,ys,if_false];by_cases r:16384<b
     ·have:¬(b:Int)≤16384:=by omega
      simp[this,r,z05,zH]
     ·have:(b:Int)≤16384:=by omega
      simp only[this,decide_true,z0k,yc,r,if_false];have j:ybd .i64 ((s.length:Int)-((zgj s:Nat):Int))=((s.length-zgj s:Nat):Int):=by rw[w64 (by omega) (by omega)];omega
      rw[j];by_cases f:s.length<zgj s+b
      ·have:¬(b:Int)≤((s.length-zgj s:Nat):Int):=by omega
       simp[this,f,z05,zH]
      ·have:(b:Int)≤((s.length-zgj s:Nat):Int):=by omega
       simp only[this,decide_true,z0k,yc,f,if_false];rw[wadd (by omega),zgu (by omega) (by omega)];simp only[yc];rw[yac];have:zgj s+b-zgj s=b:=by omega
       rw[this]
end
section
open Go.Lk Go.Pe
theorem zwf{l:List q05}(hl:l.length<1000000000):∀(n i:Nat),l.length-i=n→i≤l.length→M.z5u l l (i:Int)=some (.go ()):=by intro n;induction n with
 |zero=>
  intro i hn c;rw[M.z5u];have:¬(i:Int)<(l.length:Int):=by omega
  simp[this]|succ n d=>
  intro i hn c;have a:i<l.length:=by omega
  rw[M.z5u];have b:(i:Int)<(l.length:Int):=by omega
  simp only[b,decide_true,if_true,z3f,yai a,ya,yc,yj,yp,yl,if_false];rw[w1 (by omega),d (i+1) (by omega) (by omega)]
theorem zjc{l:List q05}(hl:l.length<1000000000):M.q4i l l=some true:=by unfold M.q4i;have:M.z5u l l 0=some (.go ()):=zwf hl _ 0 rfl (ybb _);simp[this]
def zsy(q:q03):Prop:=q.z00.length<1000000000∧q.z0d.length<1000000000∧q.zp.length<1000000000
theorem zsh{q:q03}(h:zsy q):M.q5t q q=some true:=by unfold M.q5t;simp only[decide_true,if_true,zps h.1,zjc h.2.1,zjc h.2.2,ya,yc,yj]
theorem zp7:∀(l:List Z)(a:List q05),(zal l a).1.length≤a.length+l.length
 |[],a=>by simp[zal]|p::r,a=>by
  unfold zal;split;·simp
  ·split;·rename_i x y _ _;have:=zp7 r (a++[⟨x,y⟩]);simp at this⊢;omega
   ·simp
theorem zod(s:Z):(z2l s).1.length≤64:=by
 unfold z2l;split;·simp
 ·rename_i h;split;·simp
  ·have:=zp7 (z0u 38 s) [];simp only[yar,yba]at this;omega
end
section
open Go.Lk Go.Pe
def I64(n:Int):Prop:=-9223372036854775808≤n∧n≤9223372036854775807
def q02.sz(f:q02):Nat:=f.zj.length+kys f.z38+1
def zgl(l:List q02):Nat:=(l.map (·.sz)).sum
theorem zi3(f:q02)(l:List q02):zgl (f::l)=f.sz+zgl l:=by simp[zgl]
theorem zbw:∀l:List q02,l.length≤zgl l|[]=>by simp|f::l=>by have:=zbw l;rw[zi3,yao];unfold q02.sz;omega
theorem zjg:∀{l:List Nat}{x:Nat},x∈l→x≤l.sum
 |a::l,x,h=>by
  rw[List.sum_cons];rcases yav.1 h with rfl|h;·omega
  ·have:=zjg h;omega
theorem zuy(v:J):q04.mk v.zf v.z09 v.zi v.zv=v:=by cases v;rfl
def jT(s:Z):J:=⟨4,s,[],[]⟩
def jTs(l:List Z):J:=⟨5,[],l.map jT,[]⟩
def jFs(l:List q02):J:=⟨6,[],l.map fun f=>jTs f.z38,l.map (·.zj)⟩
abbrev Mb:=Z×J
def obj(l:List Mb):J:=⟨6,[],l.map (·.2),l.map (·.1)⟩
def opt(b:Bool)(k:Z)(v:J):List Mb:=if b=true then[(k,v)]else[]
theorem zz092(b:Bool)(k:Z)(v:J):(opt b k v).length≤1:=by unfold opt;split<;>simp
theorem objects_eq:M.q1y=some ⟨obj []⟩:=rfl
theorem put_eq{l:List Mb}{b:Bool}{k:Z}{v:J}(h:l.length<1000000):M.q1q ⟨obj l⟩ b k v=some ⟨obj (l++opt b k v)⟩:=by unfold M.q1q;cases b with|false=>simp[opt]|true=>simp only[if_true,zuy,ya];have a:(obj l).zv=l.map (·.1):=rfl;have c:(obj l).zi=l.map (·.2):=rfl;rw[a,c,z0h (by simp;omega)];simp only[yc];rw[z0h (by simp;omega)];simp[opt,obj]
theorem zx2{n:Int}(h:I64 n):M.itoa n=some (Lib.itoa n):=by unfold M.itoa;rw[z3k (by unfold I64 at h;simp;omega)];rfl
theorem text_jT(s:Z):M.q2t s=some (jT s):=rfl
theorem zz052{l:List Z}(hl:l.length<10000000):∀(n i:Nat)(a:List J),l.length-i=n→i≤l.length→a.length≤i→M.z0f l (i:Int) a=some (a++(l.drop i).map jT):=by intro n;induction n with
 |zero=>
  intro i a hn e d;rw[M.z0f,yaa (by omega)];have:¬(i:Int)<(l.length:Int):=by omega
  simp[this]|succ n f=>
  intro i a hn e d;have b:i<l.length:=by omega
  have c:(i:Int)<(l.length:Int):=by omega
  rw[M.z0f,yz b];simp only[c,decide_true,if_true,z3f,yai b,ya,yc,text_jT,zuy];rw[z0h (by simp;omega),w1 (by omega)];simp only[yc];rw[f (i+1) _ (by omega) (by omega) (by simp;omega),yat,yu];rfl
theorem zz01j{l:List Z}(hl:l.length<10000000):M.q2u l=some (jTs l):=by unfold M.q2u;have h:M.z0f l 0 []=some ([]++(l.drop 0).map jT):=zz052 hl _ 0 [] rfl (ybb _) (by simp);rw[h];simp[jTs]
theorem zzw{l:List q02}(hl:zgl l<10000000):∀(n i:Nat)(a:List J)(b:List Z),l.length-i=n→i≤l.length→a.length≤i→b.length≤i→M.z3m l (i:Int) a b=some (a++(l.drop i).map fun f=>jTs f.z38,b++(l.drop i).map (·.zj)):=by
 have g:=zbw l;have d:∀f∈l,f.z38.length<10000000:=fun f hf=>by
  have e:f.sz≤zgl l:=by unfold zgl;exact zjg (List.mem_map.2 ⟨f,hf,rfl⟩)
  have h2:=zb5 f.z38;unfold q02.sz at e;omega
 intro n;induction n with
 |zero=>
  intro i a b hn k h j;rw[M.z3m,yaa (by omega)];have:¬(i:Int)<(l.length:Int):=by omega
  simp[this]|succ n m=>
  intro i a b hn k h j;have c:i<l.length:=by omega
  have e:(i:Int)<(l.length:Int):=by omega
  rw[M.z3m,yz c];simp only[e,decide_true,if_true,z3f,yai c,ya,yc];rw[z0h (by simp;omega),zz01j (d _ (by simp))];simp only[yc,zuy];rw[z0h (by simp;omega),w1 (by omega)];simp only[yc];rw[m (i+1) _ _ (by omega) (by omega) (by simp;omega) (by simp;omega),yat,yat,yu,yu];rfl
theorem zvw{l:List q02}(hl:zgl l<10000000):M.q1x l=some (jFs l):=by unfold M.q1x;have h:M.z3m l 0 [] []=some ([]++(l.drop 0).map fun f=>jTs f.z38,[]++(l.drop 0).map (·.zj)):=zzw hl _ 0 [] [] rfl (ybb _) (by simp) (by simp);rw[h];simp[jFs]
def kId:Z:=[105,100]
def z2s:Z:=[102,105,101,108,100,115]
end
end Go.Sen
