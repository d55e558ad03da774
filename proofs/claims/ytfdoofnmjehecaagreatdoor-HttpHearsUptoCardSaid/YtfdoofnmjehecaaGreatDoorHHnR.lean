import Derived.Test.YtfdoofnmjehecaaGreatDoorHShG
set_option linter.all false
namespace Go.Sen
open _root_.Option renaming bind_eq_bind → ya, bind_some → yb
open _root_.Bool renaming and_eq_false_iff → yc, and_eq_true → yd, false_eq_true → ye, not_eq_true' → yf, not_false → yg, not_true → yh
open _root_.List renaming append_assoc → yi, drop_eq_getElem_cons → yj, drop_eq_nil_of_le → yk, drop_left → yl, drop_take → ym, drop_zero → yn, foldl_cons → yo, getElem?_eq_getElem → yp, getElem_mem → yq, length_append → yr, length_cons → ys, length_nil → yt, length_pos_iff → yu, length_take → yv, mem_singleton → yw, nodup_nil → yx, take_append → yy, take_left → yz, take_take → yaa
open _root_.Nat renaming le_refl → yab, min_eq_left → yac, zero_le → yad
open IntKind renaming wrap → yae
open _root_.UInt8 renaming toNat_inj → yaf
open Go.Lk Go.Pe
section
abbrev RR:=q0d
def At(s r:Z)(i:Nat):Prop:=s.drop i=r∧i≤s.length
section
variable{s r:Z}{c:UInt8}{i:Nat}
theorem At.len(h:At s r i):i+r.length=s.length:=by obtain⟨a,h2⟩:=h;grind
theorem At.nil(h:At s [] i):i=s.length:=by simpa using h.len
theorem At.cons(h:At s (c::r) i):s[i]?=some c∧At s r (i+1)∧i<s.length:=by obtain⟨b,h2,a⟩:=zlc h.1;exact⟨b,⟨h2,a⟩,a⟩
theorem At.drop(h:At s r i){k:Nat}(a:k≤r.length):At s (r.drop k) (i+k):=by have:=h.len;exact⟨by rw[←h.1,List.drop_drop],by omega⟩
theorem At.start:At s s 0:=⟨rfl,yad _⟩
theorem w64s{n:Nat}(h:n<4611686018427387904):yae .i64 ((n:Nat):Int)=(n:Int):=w64 (by omega) (by omega)
theorem wnat{n m:Nat}(h:n+m<4611686018427387904):yae .i64 ((n:Int)+(m:Int))=((n+m:Nat):Int):=wadd h
theorem zm0(t:s.length<1000000)(g e:Int):∀(r:Z)(i:Nat),At s r i→∃j,At s (z0q r) j∧M.z11 ⟨s,g,e⟩ (i:Int)=some ⟨s,(j:Int),e⟩:=by intro r;induction r with|nil=>intro i h;have:=h.nil;refine⟨i,h,?_⟩;grind[M.z11.eq_1]|cons c r k=>
  intro i h;obtain⟨b,h2,q⟩:=h.cons;have d:(i:Int)<(s.length:Int):=by omega
  have l:(c.toNat:Int)=32↔c=32:=toNat_eq (n:=32) (by omega);have m:(c.toNat:Int)=9↔c=9:=toNat_eq (n:=9) (by omega);have o:(c.toNat:Int)=10↔c=10:=toNat_eq (n:=10) (by omega);have p:(c.toNat:Int)=13↔c=13:=toNat_eq (n:=13) (by omega);rw[M.z11.eq_1];simp only[d,decide_true,if_true,z3u,b,ya,yb,l,m,o,p];have a:=zz09p c;cases f:bl c with|true=>obtain⟨j,u,v⟩:=k (i+1) h2;refine⟨j,by simp_all[z0q],?_⟩;rw[f]at a;simp only[Bool.true_eq,Bool.or_eq_true,decide_eq_true_eq]at a;grind[w1]|false=>refine⟨i,by grind[zgv],?_⟩;grind
theorem z5c(a:s.length<1000000)(e:Int)(h:At s r i):∃j,At s (z0q r) j∧M.q4z ⟨s,(i:Int),e⟩=some ⟨s,(j:Int),e⟩:=zm0 a _ e r i h
theorem zjm(b:s.length<1000000)(e:Int)(i:Nat):∃j:Nat,j≤max i s.length∧M.q4z ⟨s,(i:Int),e⟩=some ⟨s,(j:Int),e⟩:=by
 by_cases h:i≤s.length;·obtain⟨j,a,h2⟩:=z5c b e (r:=s.drop i) ⟨rfl,h⟩;exact⟨j,by have:=a.2;omega,h2⟩
 grind[M.q4z,M.z11.eq_1]
def hd:Z→Int|[]=>0|c::_=>(c.toNat:Int)
theorem z6f(e:Int)(h:At s r i):M.q4y ⟨s,(i:Int),e⟩=some (hd r):=by unfold M.q4y;cases r with|nil=>have:=h.nil;grind[hd]|cons c r=>obtain⟨a,h2,b⟩:=h.cons;grind[hd,z3u]
theorem zby(e:Int)(i:Nat):∃c:Int,M.q4y ⟨s,(i:Int),e⟩=some c:=by
 by_cases h:i≤s.length;·exact⟨_,z6f e (r:=s.drop i) ⟨rfl,h⟩⟩
 ·refine⟨0,?_⟩;grind[M.q4y]
theorem z2x(i c:Int):M.q57 ⟨s,i,0⟩ c=some ⟨s,i,c⟩:=by rfl
theorem zcz{i c e:Int}(h:¬e=0):M.q57 ⟨s,i,e⟩ c=some ⟨s,i,e⟩:=by simp[M.q57,h]
def hexs:Z→Nat→Option Nat|[],a=>some a|c::r,a=>match z74 c with|none=>none|some d=>hexs r (16*a+d)
theorem zxi(c:UInt8):isD c=true∧48≤c.toNat∧c.toNat≤57∧z74 c=some (c.toNat-48)∨isD c=false∧97≤c.toNat∧c.toNat≤102∧z74 c=some (c.toNat-87)∨isD c=false∧65≤c.toNat∧c.toNat≤70∧z74 c=some (c.toNat-55)∨isD c=false∧¬(97≤c.toNat∧c.toNat≤102)∧¬(65≤c.toNat∧c.toNat≤70)∧z74 c=none:=by unfold z74;cases h:isD c with|true=>left;simp only[isD,yd,decide_eq_true_eq]at h;grind|false=>grind
theorem zqu(g e:Int)(b:Nat)(z:b+6≤s.length)(B:s.length<1000000):∀(n k acc m:Nat),b+6-k=n→k≤b+6→m+n≤4→acc<16^m→M.z0m (b:Int) ⟨s,g,e⟩ (acc:Int) (k:Int)=some (match hexs ((s.drop k).take n) acc with|some v=>.go (v:Int)|none=>.done (-1)):=by
 intro n
 induction n with|zero=>
  intro k acc m hn t u q;rw[M.z0m.eq_1,show(b:Int)+6=((b+6:Nat):Int)by omega,w64s (by omega)];have p:¬(k:Int)<((b+6:Nat):Int):=by omega
  simp_all[if_neg,hexs]|succ n x=>
  intro k acc m hn t u q;have f:k<s.length:=by omega
  have r:acc<65536:=Nat.lt_of_lt_of_le q (show 16^m≤16^4 from Nat.pow_le_pow_right (by decide) (by omega));rw[M.z0m.eq_1,show(b:Int)+6=((b+6:Nat):Int)by omega,w64s (by omega)];have p:(k:Int)<((b+6:Nat):Int):=by omega
  rw[zsa f,List.take_succ_cons];simp only[p,decide_true,if_true,z3u,yp f,ya,yb,z43];generalize s[k]=c;have A:=zfq (b:=c);have step:∀d:Nat,d<16→z74 c=some d→M.z0m (b:Int) ⟨s,g,e⟩ ((16*acc+d:Nat):Int) ((k+1:Nat):Int)=some (match hexs (c::(s.drop (k+1)).take n) acc with|some v=>.go (v:Int)|none=>.done (-1)):=fun d hd w=>by rw[x (k+1) (16*acc+d) (m+1) (by omega) (by omega) (by omega) (by omega)];rw[hexs,w]
  have l:yae .i64 (16*(acc:Int))=((16*acc:Nat):Int):=by rw[w64]<;>omega
  rw[w1 (by omega),l];rcases zxi c with⟨k1,o,k3,j⟩|⟨k1,o,k3,j⟩|⟨k1,o,k3,j⟩|⟨k1,o,k3,j⟩
  ·have a:yae .u8 ((c.toNat:Int)-48)=((c.toNat-48:Nat):Int):=by rw[wu8];omega
   simp only[k1,if_true];rw[a,w64s (by omega),wnat (by omega)];grind
  ·have a:yae .u8 ((c.toNat:Int)-97)=((c.toNat-97:Nat):Int):=by rw[wu8];omega
   have h:(97:Int)≤(c.toNat:Int):=by omega
   have i:(c.toNat:Int)≤102:=by omega
   simp only[k1,ye,if_false,h,i,decide_true,Bool.and_true,if_true];rw[a,w64s (by omega),wnat (by omega),show((16*acc+(c.toNat-97):Nat):Int)+10=((16*acc+(c.toNat-87):Nat):Int)by omega,w64s (by omega)];grind
  ·have a:yae .u8 ((c.toNat:Int)-65)=((c.toNat-65:Nat):Int):=by rw[wu8];omega
   have y:¬(97:Int)≤(c.toNat:Int):=by omega
   have h:(65:Int)≤(c.toNat:Int):=by omega
   have i:(c.toNat:Int)≤70:=by omega
   simp only[k1,ye,if_false,y,h,i,decide_true,decide_false,Bool.false_and,Bool.and_true,if_true];rw[a,w64s (by omega),wnat (by omega),show((16*acc+(c.toNat-65):Nat):Int)+10=((16*acc+(c.toNat-55):Nat):Int)by omega,w64s (by omega)];grind
  ·have h:(decide ((97:Int)≤(c.toNat:Int))&&decide ((c.toNat:Int)≤102))=false:=by rw[yc,decide_eq_false_iff_not,decide_eq_false_iff_not];omega
   have i:(decide ((65:Int)≤(c.toNat:Int))&&decide ((c.toNat:Int)≤70))=false:=by rw[yc,decide_eq_false_iff_not,decide_eq_false_iff_not];omega
   simp only[k1,ye,if_false,h,i];rw[hexs,j]
theorem hexs4(a b c d:UInt8):hexs [a,b,c,d] 0=(z74 a).bind fun e=>(z74 b).bind fun f=>(z74 c).bind fun g=>(z74 d).bind fun hd=>some (16*(16*(16*e+f)+g)+hd):=by simp only[hexs];grind
def unitN(r:Z):Int:=match unit r with|some (n,_)=>(n:Int)|none=>-1
theorem zvm{r:Z}(h:r.length<6):unit r=none:=by cases a:unit r with|none=>rfl|some p=>obtain⟨n,b⟩:=p;have:=(zbl a).2;omega
theorem zp5{r a:Z}{n:Nat}(h:unit r=some (n,a)):a=r.drop 6∧6≤r.length:=by have hl:=(zbl h).2;refine⟨?_,by omega⟩;unfold unit at h;grind[Option.bind_eq_some_iff]
theorem zih(v:s.length<1000000)(g e:Int)(h:At s r i):M.q51 ⟨s,g,e⟩ (i:Int)=some (unitN r):=by
 have hl:=h.len;unfold M.q51 unitN;rw[show(i:Int)+6=((i+6:Nat):Int)by omega,w64s (by omega)];by_cases f:r.length<6
 ·have k:(s.length:Int)<((i+6:Nat):Int):=by omega
  simp_all[zvm]
 ·have k:¬(s.length:Int)<((i+6:Nat):Int):=by omega
  obtain⟨x,y,a,b,c,d,t,rfl⟩:∃x y a b c d t,r=x::y::a::b::c::d::t:=by match r with|x::y::a::b::c::d::t=>simp|[]=>simp at f|[_]=>simp at f|[_,_]=>simp at f|[_,_,_]=>simp at f|[_,_,_,_]=>simp at f|[_,_,_,_,_]=>simp at f
  obtain⟨o,p,_⟩:=h.cons;obtain⟨q,u,_⟩:=p.cons;have z:(x.toNat:Int)=92↔x=92:=toNat_eq (n:=92) (by omega);have A:(y.toNat:Int)=117↔y=117:=toNat_eq (n:=117) (by omega);rw[w1 (by omega),show(i:Int)+2=((i+2:Nat):Int)by omega,w64s (by omega)];simp only[ys]at hl;have j:=zqu g e i (by omega) v 4 (i+2) 0 0 (by omega) (by omega) (by omega) (by decide);rw[u.1]at j;have m:(a::b::c::d::t).take 4=[a,b,c,d]:=rfl;rw[m,hexs4]at j;have j:M.z0m (i:Int) ⟨s,g,e⟩ 0 ((i+2:Nat):Int)=_:=j;simp only[k,decide_false,ye,if_false,z3u,o,q,ya,yb,z,A,j];unfold unit;by_cases l:x=92
  ·by_cases w:y=117;·simp only[l,w,decide_true,yh,ye,if_false,and_self,if_true];cases z74 a with|none=>rfl|some B=>cases z74 b with|none=>rfl|some C=>cases z74 c with|none=>rfl|some D=>grind[z74]
   grind
  ·simp[l]
theorem zv6(o:s.length<1000000)(e:Int){c:UInt8}(g:s[i+1]?=some c):M.z08 ⟨s,(i:Int),e⟩ 0=some (match esc1 c with|some y=>.done ([y],⟨s,((i+2:Nat):Int),e⟩)|none=>.go ()):=by
 have l:i+1<s.length:=(List.getElem?_eq_some_iff.1 g).1;have st:∀(k:Nat)(x y:UInt8),k<8→(B25:Z)[k]?=some x→([34,92,47,8,12,10,13,9]:Z)[k]?=some y→M.z08 ⟨s,(i:Int),e⟩ (k:Int)=if c=x then some (.done ([y],⟨s,((i+2:Nat):Int),e⟩))else M.z08 ⟨s,(i:Int),e⟩ ((k+1:Nat):Int):=by
  intro k x y n j h2;rw[M.z08.eq_1];have b:(k:Int)<((B25:Z).length:Int):=by simp only[ys,yt];omega
  have h:k<([34,92,47,8,12,10,13,9]:Z).length:=by simp only[ys,yt];omega
  have d:([34,92,47,8,12,10,13,9]:Z)[k]=y:=by have:=yp h;rw[h2]at this;exact(Option.some.inj this).symm
  have m:(c.toNat:Int)=(x.toNat:Int)↔c=x:=by
   constructor;·grind[yaf]
   ·grind
  rw[w1 (by omega),sub_1 h (by simp),d,w1 (by omega),show(i:Int)+2=((i+2:Nat):Int)by omega,w64s (by omega)];simp only[b,decide_true,if_true,z3u,g,j,ya,yb,m];by_cases a:c=x;·simp[a]
  ·simp[a]
 have en:M.z08 ⟨s,(i:Int),e⟩ ((8:Nat):Int)=some (.go ()):=by rw[M.z08.eq_1];simp
 have f:=st 0 34 34 (by omega) rfl rfl;have f:M.z08 ⟨s,(i:Int),e⟩ 0=_:=f;rw[f,st 1 92 92 (by omega) rfl rfl,st 2 47 47 (by omega) rfl rfl,st 3 98 8 (by omega) rfl rfl,st 4 102 12 (by omega) rfl rfl,st 5 110 10 (by omega) rfl rfl,st 6 114 13 (by omega) rfl rfl,st 7 116 9 (by omega) rfl rfl,en];unfold esc1;grind
theorem zz06e{n:Nat}(h:zt0 n=false):(decide ((n:Int)<55296)||decide (56319<(n:Int)))=!zlf n:=by unfold zt0 at h;unfold zlf;grind
def EscOk(s:Z)(z:Option (Z×RR)):Option (Z×Z)→Prop|some (t,a)=>∃j,At s a j∧z=some (t,⟨s,(j:Int),0⟩)|none=>∃j:Nat,j≤s.length∧z=some ([],⟨s,(j:Int),20⟩)
theorem zjn(j:s.length<1000000)(h:At s (92::r) i):EscOk s (M.q50 ⟨s,(i:Int),0⟩) (zh6 (92::r)):=by
 obtain⟨O,w,P⟩:=h.cons;have hl:=h.len
 simp only[ys]at hl;have four:=zih j (i:Int) 0 h;unfold M.q50;rw[w1 (by omega)];cases r with|nil=>
  have hn:¬((i+1:Nat):Int)<(s.length:Int):=by simp only[yt]at hl;omega
  have u:zh6 [92]=none:=rfl;rw[u];refine⟨i,by omega,?_⟩;have k:unitN [92]=-1:=rfl;simp_all[z2x]|cons c r=>
  obtain⟨x,z,Q⟩:=w.cons;have B:((i+1:Nat):Int)<(s.length:Int):=by omega
  simp only[B,decide_true,if_true,zv6 j 0 x,ya,yb];cases A:esc1 c with|some y=>rw[show zh6 (92::c::r)=some ([y],r)by simp[zh6,A]];exact⟨i+2,z,rfl⟩|none=>simp only[four,yb];unfold unitN;cases k:unit (92::c::r)with|none=>rw[show zh6 (92::c::r)=none by grind[zh6]];exact⟨i,by omega,by rfl⟩|some p=>
    obtain⟨n,l⟩:=p;obtain⟨V,W⟩:=zbl k;obtain⟨K,L⟩:=zp5 k;have b:At s l (i+6):=by rw[K];exact h.drop L
    have g:¬(n:Int)<0:=by omega
    have v:yae .i64 ((i:Int)+6)=((i+6:Nat):Int):=by rw[w64]<;>omega
    have f:yae .i32 (n:Int)=(n:Int):=w32 (by omega) (by omega);simp only[g,decide_false,Bool.false_or,rng3,v,f];cases c1:zt0 n with|true=>rw[show zh6 (92::c::r)=none by grind[zh6]];exact⟨i,by omega,by rfl⟩|false=>simp only[ye,if_false,zz06e c1];cases q:zlf n with|false=>rw[show zh6 (92::c::r)=some (encS (n:Int),l)by grind[zh6]];exact⟨i+6,b,by simp⟩|true=>have four2:=zih j ((i+6:Nat):Int) 0 b;simp only[yh,ye,if_false,Bool.true_eq_false,four2,yb];unfold unitN;have a6l:=b.2;cases a:unit l with|none=>rw[show zh6 (92::c::r)=none by grind[zh6]];exact⟨i+6,a6l,by rfl⟩|some J=>
       obtain⟨m,o⟩:=J;obtain⟨X,Y⟩:=zbl a;obtain⟨N,u8⟩:=zp5 a;have d:At s o (i+6+6):=by rw[N];exact b.drop u8
       simp only[rng1];cases t:zt0 m with|false=>rw[show zh6 (92::c::r)=none by grind[zh6]];exact⟨i+6,a6l,by rfl⟩|true=>
        obtain⟨R,S⟩:=zxj q;obtain⟨T,U⟩:=zz04n t;have e:yae .i64 (((i+6:Nat):Int)+6)=((i+6+6:Nat):Int):=by rw[w64]<;>omega
        have C:yae .i64 ((n:Int)-55296)=(n:Int)-55296:=w64 (by omega) (by omega);have D:yae .i64 (1024*((n:Int)-55296))=1024*((n:Int)-55296):=w64 (by omega) (by omega);have E:yae .i64 (65536+1024*((n:Int)-55296))=65536+1024*((n:Int)-55296):=w64 (by omega) (by omega);have F:yae .i64 (65536+1024*((n:Int)-55296)+(m:Int))=65536+1024*((n:Int)-55296)+(m:Int):=w64 (by omega) (by omega);have G:yae .i64 (65536+1024*((n:Int)-55296)+(m:Int)-56320)=65536+1024*((n:Int)-55296)+(m:Int)-56320:=w64 (by omega) (by omega);have H:yae .i32 (65536+1024*((n:Int)-55296)+(m:Int)-56320)=65536+1024*((n:Int)-55296)+(m:Int)-56320:=w32 (by omega) (by omega);have I:65536+1024*((n:Int)-55296)+(m:Int)-56320=65536+((n:Int)-55296)*1024+(m:Int)-56320:=by omega
        rw[show zh6 (92::c::r)=some (encS (65536+((n:Int)-55296)*1024+(m:Int)-56320),o)by grind[zh6]];simp only[if_true,e,C,D,E,F,G,H];rw[I];exact⟨i+6+6,d,by simp⟩
theorem za1{acc:List Int}{j:Int}:M.z0t acc ⟨s,j,20⟩=some (.go ⟨s,j,20⟩):=by rw[M.z0t.eq_1];simp
def TxtOk(s:Z)(z:Option (Jn (Z×RR) RR)):Option (Z×Z)→Prop|some (t,a)=>∃j,At s a j∧z=some (.done (t,⟨s,(j:Int),0⟩))|none=>∃j:Nat,j≤s.length+1∧((∃t,z=some (.done (t,⟨s,(j:Int),20⟩)))∨z=some (.go ⟨s,(j:Int),20⟩))
def zz09d(s:Z)(z:Option (Z×RR)):Option (Z×Z)→Prop|some (t,a)=>∃j,At s a j∧z=some (t,⟨s,(j:Int),0⟩)|none=>∃t,∃j:Nat,j≤s.length+1∧z=some (t,⟨s,(j:Int),20⟩)
theorem zqv(y:s.length<1000000):∀(f:Nat)(r acc:Z)(i:Nat),r.length<f→At s r i→acc.length+4*r.length<1000000000→TxtOk s (M.z0t (unb acc) ⟨s,(i:Int),0⟩) (txt f r acc):=by intro f;induction f with|zero=>omega|succ f z=>intro r acc i hf h w;have hl:=h.len;rw[M.z0t.eq_1];simp only[decide_true,if_true,z6f 0 h,ya,yb];cases r with|nil=>rw[txt];refine⟨i,by omega,.inr ?_⟩;simp[hd,z2x,za1]|cons c r=>
   obtain⟨B,u,C⟩:=h.cons;simp only[ys]at hf hl w;have o:(c.toNat:Int)=34↔c=34:=toNat_eq (n:=34) (by omega);have q:(c.toNat:Int)=92↔c=92:=toNat_eq (n:=92) (by omega);have m:(c.toNat:Int)<32↔c.toNat<32:=by omega
   simp only[hd,o,q,m];rw[txt];by_cases a:c=34
   ·subst a;have l:¬(34:UInt8).toNat<32:=by decide
    simp only[l,if_false,if_true,decide_true,zz03s acc,yb];rw[w1 (by omega)];cases D:Lib.validD acc with|true=>exact⟨i+1,u,by simp[zei]⟩|false=>exact⟨i+1,by omega,.inl ⟨acc,by simp[zei,z2x]⟩⟩
   ·by_cases b:c.toNat<32;·simp only[b,a,if_true,decide_true,decide_false,ye,if_false,z2x,yb];exact⟨i,by omega,.inr za1⟩
    ·by_cases d:c=92;·subst d;have e:=zjn y h;simp only[b,a,if_true,decide_true,decide_false,ye,if_false];cases k:zh6 (92::r)with|none=>rw[k]at e;obtain⟨j,A,v⟩:=e;simp only[v,yb];have g:app 1 (unb acc) (unb [])=some (unb acc++unb []):=z15 (by grind[unb]);simp only[g,yb];exact⟨j,by omega,.inr za1⟩|some p=>obtain⟨t,E⟩:=p;rw[k]at e;obtain⟨j,A,v⟩:=e;have x:=zge k;grind[unb,z15,z29]
     ·simp only[b,a,d,if_true,decide_true,decide_false,ye,if_false];have g:app 1 (unb acc) [(c.toNat:Int)]=some (unb acc++[(c.toNat:Int)]):=z15 (by grind[unb]);simp only[g,yb];rw[w1 (by omega),show unb acc++[(c.toNat:Int)]=unb (acc++[c])by simp[unb]];exact z r (acc++[c]) (i+1) (by omega) u (by simp;omega)
theorem zii(m:s.length<1000000)(h:At s r i):zz09d s (M.q53 ⟨s,(i:Int),0⟩) (text r):=by have hl:=h.len;unfold M.q53;simp only[z6f 0 h,ya,yb];cases r with|nil=>exact⟨[],i,by omega,by rfl⟩|cons c r=>
  obtain⟨_,l,_⟩:=h.cons;have f:(c.toNat:Int)=34↔c=34:=toNat_eq (n:=34) (by omega);simp only[hd,f];by_cases a:c=34;·rw[show text (c::r)=txt (r.length+1) r []by simp[text,a]];simp only[a,decide_true,yh,ye,if_false,if_true];rw[w1 (by omega)];have b:=zqv m (r.length+1) r [] (i+1) (by omega) l (by grind);have k:unb ([]:Z)=[]:=rfl;rw[k]at b;cases g:txt (r.length+1) r []with
   |none=>
    rw[g]at b;obtain⟨j,d,e⟩:=b;rcases e with⟨t,e⟩|e;·exact⟨t,j,d,by grind⟩
    ·exact⟨[],j,d,by grind⟩|some p=>obtain⟨t,o⟩:=p;rw[g]at b;obtain⟨j,d,e⟩:=b;exact⟨j,d,by grind⟩
  ·rw[zz000 a];exact⟨[],i,by omega,by simp[a,z2x]⟩
theorem zqx(n:s.length<1000000)(e:Int)(h:At s r i):M.z0n ⟨s,(i:Int),e⟩ 0=some (if(B20:Z).isPrefixOf r=true then .done (⟨0,[],[],[]⟩,⟨s,((i+4:Nat):Int),e⟩)else if(B15:Z).isPrefixOf r=true then .done (⟨1,[],[],[]⟩,⟨s,((i+5:Nat):Int),e⟩)else if(B21:Z).isPrefixOf r=true then .done (⟨2,[],[],[]⟩,⟨s,((i+4:Nat):Int),e⟩)else .go ()):=by
 have hl:=h.len;have st:∀(k:Nat)(p:Z),k<3→p.length<10→[(B20:Z),(B15:Z),(B21:Z)][k]?=some p→M.z0n ⟨s,(i:Int),e⟩ (k:Int)=if p.isPrefixOf r=true then some (.done (⟨(k:Int),[],[],[]⟩,⟨s,((i+p.length:Nat):Int),e⟩))else M.z0n ⟨s,(i:Int),e⟩ ((k+1:Nat):Int):=by
  intro k p l m f;rw[M.z0n.eq_1];have a:(k:Int)<3:=by omega
  have b:yae .i64 ((s.length:Int)-(i:Int))=(r.length:Int):=by rw[w64]<;>omega
  rw[b,w1 (by omega)];have c:yae .i64 ((i:Int)+(p.length:Int))=((i+p.length:Nat):Int):=wnat (by omega);simp only[a,decide_true,if_true,z3u,f,ya,yb,c];by_cases d:p.length≤r.length
  ·have j:sub s (i:Int) ((i+p.length:Nat):Int)=some (r.take p.length):=by rw[zbj (by omega) (by omega),ym,h.1];congr 2;omega
   simp_all[zte]
  ·grind
 have en:M.z0n ⟨s,(i:Int),e⟩ ((3:Nat):Int)=some (.go ()):=by rw[M.z0n.eq_1];simp
 have g:M.z0n ⟨s,(i:Int),e⟩ 0=_:=st 0 B20 (by omega) (by decide) rfl;rw[g,st 1 B15 (by omega) (by decide) rfl,st 2 B21 (by omega) (by decide) rfl,en];simp only[ys,yt];split;·rfl
 ·split;·rfl
  ·split<;>rfl
def zz09f(s:Z)(z:Option (q04×RR)):Rd→Prop|.ok (x,b)=>∃a j,At s a j∧z0q a=b∧z=some (x,⟨s,(j:Int),0⟩)|.pan c=>c=20∧∃x,∃j:Nat,j≤s.length∧z=some (x,⟨s,(j:Int),20⟩)
theorem zqw(l:s.length<1000000)(h:At s r i):zz09f s (M.q56 ⟨s,(i:Int),0⟩) (word r):=by
 have hl:=h.len;unfold M.q56 word take;rw[zqx l 0 h];by_cases b:(B20:Z).isPrefixOf r=true;·have:=zf2 b;simp only[b,if_true,ya,yb];exact⟨_,i+4,h.drop this,rfl,rfl⟩
 ·by_cases c:(B15:Z).isPrefixOf r=true;·have:=zf2 c;simp only[b,c,if_true,ya,yb,if_false,ye];exact⟨_,i+5,h.drop this,rfl,rfl⟩
  ·by_cases d:(B21:Z).isPrefixOf r=true;·have:=zf2 d;simp only[b,c,d,if_true,ya,yb,if_false,ye];exact⟨_,i+4,h.drop this,rfl,rfl⟩
   ·have f:sub s (i:Int) (s.length:Int)=some r:=by rw[zcb (by omega),h.1]
    simp only[b,c,d,ya,yb,if_false,ye,f];rw[ze3 (by omega)];simp only[yb];have hn:=zo0 r;by_cases e:num r=0
    ·have a:((num r:Nat):Int)=0:=by omega
     simp only[e,if_true];exact⟨rfl,⟨0,[],[],[]⟩,i,by omega,by rfl⟩
    ·have a:¬((num r:Nat):Int)=0:=by omega
     have g:yae .i64 ((i:Int)+((num r:Nat):Int))=((i+num r:Nat):Int):=wnat (by omega);have j:yae .i64 (((i+num r:Nat):Int)-((num r:Nat):Int))=(i:Int):=by rw[w64]<;>omega
     have k:sub s (i:Int) ((i+num r:Nat):Int)=some (r.take (num r)):=by rw[zbj (by omega) (by omega),ym,h.1];congr 2;omega
     simp only[e,a,if_false,decide_false,ye,g,j,k,yb];exact⟨_,i+num r,h.drop hn,rfl,rfl⟩
end
end
section
section
variable{s r:Z}{c:UInt8}{i:Nat}
abbrev RL:=q0d×List q04×List Z
def keyX(s:Z)(i:Int)(ks:List Z):Option (q0d×List Z):=do let a_2170←M.q4z (q0d.mk s i 0)let a_2172←M.q53 a_2170;let l_2174←app 16 ks [a_2172.1]let j_2194←(do let j_2198←(do if decide (a_2172.2.ge=0)then let a_2199←M.q58 l_2174;some a_2199;else some false:Option Bool)if j_2198 then let a_2201←M.q57 a_2172.2 20;some a_2201;else some a_2172.2:Option q0d)let a_2203←M.q4z j_2194;let j_2216←(do let a_2217←M.q4y a_2203;if !decide (a_2217=58)then let a_2219←M.q57 a_2203 20;some a_2219;else some a_2203:Option q0d)some (q0d.mk j_2216.gs (yae .i64 (j_2216.gi+1)) j_2216.ge,l_2174)
def zvj(b:Int)(self:RR→Int→Option (q04×RR))(a:Int)(s:Z)(i e:Int)(l:List q04)(ks:List Z):Option RL:=do let j_2231←(do if decide (e=0)then let a_2232←self (q0d.mk s i e) (yae .i64 (a+1))let l_2234←app 72 l [a_2232.1]some (a_2232.2,l_2234)else some (q0d.mk s i e,l):Option (q0d×List q04))let a_2235←M.q4y j_2231.1;if decide (a_2235=44)then M.zx b self a (decide (a_2235=44)) (q0d.mk j_2231.1.gs (yae .i64 (j_2231.1.gi+1)) j_2231.1.ge) j_2231.2 ks;else M.zx b self a (decide (a_2235=44)) j_2231.1 j_2231.2 ks
theorem zz06m(self:RR→Int→Option (q04×RR))(a:Int)(s:Z)(i:Int)(l:List q04)(ks:List Z):M.zx 91 self a true ⟨s,i,0⟩ l ks=zvj 91 self a s i 0 l ks:=by rw[M.zx.eq_1];simp only[zlo];rfl
theorem zz0ab(self:RR→Int→Option (q04×RR))(a:Int)(s:Z)(i:Int)(l:List q04)(ks:List Z):M.zx 123 self a true ⟨s,i,0⟩ l ks=(keyX s i ks).bind fun j=>zvj 123 self a j.1.gs j.1.gi j.1.ge l j.2:=by rw[M.zx.eq_1];simp only[zlo];rfl
theorem zb0(a:Int)(self:RR→Int→Option (q04×RR))(c:Int)(b:Bool)(s:Z)(i e:Int)(l:List q04)(ks:List Z)(h:b=false∨¬e=0):M.zx a self c b ⟨s,i,e⟩ l ks=some (⟨s,i,e⟩,l,ks):=by rw[M.zx.eq_1];grind
def KeyOk(s:Z)(z:Option (q0d×List Z)):Rs (Z×List Z)→Prop|.ok (e,b)=>∃d j,At s d j∧z0q d=e∧z=some (⟨s,(j:Int),0⟩,b)|.pan c=>c=20∧∃(j:Nat)(a:List Z),j≤s.length+3∧z=some (⟨s,(j:Int),20⟩,a)
theorem zz06t(k:s.length<1000000){ks:List Z}(Q:ks.length<1000000)(hn:ks.Nodup)(h:At s r i):KeyOk s (keyX s (i:Int) ks) (zvr (z0q r) ks):=by
 obtain⟨R,E,F⟩:=z5c k 0 h;have l:=zii k E;unfold keyX zvr;simp only[F,ya,yb];have bad:∀(j:Nat)(t:Z),j≤s.length+1→∃(f:Nat),f≤s.length+3∧((M.q4z ⟨s,(j:Int),20⟩).bind fun a_2203=>((M.q4y a_2203).bind fun a_2217=>if !decide (a_2217=58)then(M.q57 a_2203 20).bind fun a_2219=>some a_2219 else some a_2203).bind fun j_2216=>some (q0d.mk j_2216.gs (yae .i64 (j_2216.gi+1)) j_2216.ge,ks++[t]))=some (⟨s,(f:Int),20⟩,ks++[t]):=by intro j t P;obtain⟨b,O,G⟩:=zjm k 20 j;obtain⟨c,K⟩:=zby (s:=s) 20 b;refine⟨b+1,by omega,?_⟩;simp only[G,K,yb,zcz (show¬(20:Int)=0 by decide)];have L:=w1 (n:=b) (by omega);split<;>simp[L]
 cases C:text (z0q r)with|none=>rw[C]at l;obtain⟨t,b,h2,A⟩:=l;have z:app 16 ks [t]=some (ks++[t]):=z15 (by simp;omega);obtain⟨f,w,D⟩:=bad b t h2;refine⟨rfl,f,ks++[t],w,?_⟩;grind|some p=>
  obtain⟨t,N⟩:=p;rw[C]at l;obtain⟨b,h2,A⟩:=l;have I:=h2.2;have z:app 16 ks [t]=some (ks++[t]):=z15 (by simp;omega);have o:M.q58 (ks++[t])=some (decide (t∈ks)):=by
   rw[ztr (by simp;omega)];congr 1;rw[Bool.eq_iff_iff];simp only[yf,decide_eq_false_iff_not,decide_eq_true_eq,List.nodup_append,hn,List.nodup_cons,List.not_mem_nil,not_false_eq_true,yx,and_self,true_and];constructor;·simp
   ·simp
  simp only[A,yb,z,decide_true,if_true,o];by_cases B:t∈ks;·obtain⟨f,w,D⟩:=bad b t (by omega);simp only[B,decide_true,if_true,z2x,yb];exact⟨rfl,f,ks++[t],w,D⟩
  ·obtain⟨u,g,H⟩:=z5c k 0 h2;have q:=z6f 0 g;simp only[B,decide_false,ye,if_false,yb,H,q];rw[take_one];have a3l:=g.2;cases J:z0q N with|nil=>refine⟨rfl,u+1,ks++[t],by omega,?_⟩;grind[hd,z2x,w1]|cons d x=>
    rw[J]at g;have y:(d.toNat:Int)=58↔d=58:=toNat_eq (n:=58) (by omega);by_cases a:d=58;·subst a;have m:hd (58::x)=58:=rfl;simp only[m,decide_true,yh,ye,if_false,if_true,yb];exact⟨x,u+1,g.cons.2.1,rfl,by grind[w1]⟩
    ·have v:¬hd (d::x)=58:=fun e=>a (y.1 e);simp only[v,a,decide_false,yg,if_true,if_false];refine⟨rfl,u+1,ks++[t],by omega,?_⟩;grind[z2x,w1]
def zrt(s:Z)(o:Bool)(en:UInt8)(B:Nat)(z:Option RL):Rd→Prop|.ok (x,e)=>∃a j,At s (en::a) j∧z0q a=e∧z=some (⟨s,(j:Int),0⟩,x.zg,x.zn)∧x.zh=(if o=true then 6 else 5)∧x.zq=[]|.pan c=>∃(j:Nat)(e':Int)(d:List q04)(b:List Z),j≤B+1∧z=some (⟨s,(j:Int),e'⟩,d,b)∧(e'=c∧¬c=0∨e'=0∧c=20∧∃a,At s a j∧¬hd a=(en.toNat:Int))
def zpd(s:Z)(B:Nat)(z:Option (q04×RR)):Rd→Prop|.ok (x,a)=>∃j,At s a j∧z=some (x,⟨s,(j:Int),0⟩)|.pan c=>¬c=0∧∃x,∃j:Nat,j≤B∧z=some (x,⟨s,(j:Int),c⟩)
theorem zz03f(h:s.length<1000000){b g e:Int}{self:RR→Int→Option (q04×RR)}{l:List q04}{ks:List Z}{i B:Nat}(a:¬e=0)(hB:i≤B)(d:B<2000000)(o:Bool)(en:UInt8):zrt s o en B (zvj b self g s (i:Int) e l ks) (.pan e):=by
 obtain⟨c,f⟩:=zby (s:=s) e i;unfold zvj;simp only[a,decide_false,ye,if_false,ya,yb,f];rw[w1 (by omega)];split;·exact⟨i+1,e,l,ks,by omega,zb0 _ _ _ _ _ _ _ _ _ (.inr a),.inl ⟨rfl,a⟩⟩
 ·exact⟨i,e,l,ks,by omega,zb0 _ _ _ _ _ _ _ _ _ (.inr a),.inl ⟨rfl,a⟩⟩
theorem zzz(J:s.length<1000000){o:Bool}{en:UInt8}(m:en=if o=true then 125 else 93){A:Int}{w:Nat}(K:w<16){self:RR→Int→Option (q04×RR)}{l:List q04}{ks:List Z}{B:Nat}(hB:s.length+3≤B)(E:B<2000000){t:Rd}{f:Nat}{vf:Z→Rd}(C:zpd s B (self ⟨s,(i:Int),0⟩ ((w+1:Nat):Int)) t)(hl:l.length<1000000)(L:∀x g j,t=.ok (x,44::g)→At s (44::g) j→zrt s o en B (M.zx A self (w:Int) true ⟨s,((j+1:Nat):Int),0⟩ (l++[x]) ks) (items vf o en f (z0q g) (l++[x]) ks)):zrt s o en B (zvj A self (w:Int) s (i:Int) 0 l ks) (match(generalizing:=false)t with|.pan c=>.pan c|.ok (x,q)=>match take q [en]with|some r=>.ok (⟨if o=true then 6 else 5,[],l++[x],ks⟩,r)|none=>match take q [44]with|none=>.pan 20|some r=>items vf o en f r (l++[x]) ks):=by
 unfold zvj;rw[w1 (by omega)];simp only[decide_true,if_true,ya];cases t with|pan c=>
  obtain⟨a,x,j,h,v⟩:=C;have u:app 72 l [x]=some (l++[x]):=z15 (by simp;omega);obtain⟨I,F⟩:=zby (s:=s) c j;simp only[v,yb,u,F];rw[w1 (by omega)];split;·exact⟨j+1,c,l++[x],ks,by omega,zb0 _ _ _ _ _ _ _ _ _ (.inr a),.inl ⟨rfl,a⟩⟩
  ·exact⟨j,c,l++[x],ks,by omega,zb0 _ _ _ _ _ _ _ _ _ (.inr a),.inl ⟨rfl,a⟩⟩|ok p=>
  obtain⟨x,q⟩:=p;obtain⟨j,h,v⟩:=C
  have G:=h.2;have u:app 72 l [x]=some (l++[x]):=z15 (by simp;omega);simp only[v,yb,u,z6f 0 h];rw[w1 (by omega),take_one,take_one];cases q with|nil=>
   have y:¬(0:Int)=44:=by decide
   simp only[hd,y,decide_false,ye,if_false];exact⟨j,0,l++[x],ks,by omega,zb0 _ _ _ _ _ _ _ _ _ (.inl rfl),.inr ⟨rfl,rfl,[],h,by subst m;cases o<;>decide⟩⟩|cons d g=>
   have z:(d.toNat:Int)=44↔d=44:=toNat_eq (n:=44) (by omega);by_cases k:d=44
   ·subst k;have H:¬(44:UInt8)=en:=by subst m;cases o<;>decide
    have D:hd (44::g)=44:=rfl;grind
   ·simp only[hd,z,k,decide_false,ye,if_false];by_cases b:d=en;·subst b;simp only[if_true];exact⟨g,j,h,rfl,zb0 _ _ _ _ _ _ _ _ _ (.inl rfl),rfl,rfl⟩
    ·simp only[b,if_false];refine⟨j,0,l++[x],ks,by omega,zb0 _ _ _ _ _ _ _ _ _ (.inl rfl),.inr ⟨rfl,rfl,d::g,h,fun e=>b ?_⟩⟩;grind[hd,yaf]
theorem zz1(v:s.length<1000000){o:Bool}{en:UInt8}(g:en=if o=true then 125 else 93){w:Nat}(D:w<16){self:RR→Int→Option (q04×RR)}{vf:Z→Rd}{B:Nat}(hB:s.length+3≤B)(e:B<2000000)(C:∀r i,At s r i→zpd s B (self ⟨s,(i:Int),0⟩ ((w+1:Nat):Int)) (vf (z0q r)))(q:∀s x r,vf s=.ok (x,r)→r.length+1≤s.length):∀(f:Nat)(r:Z)(i:Nat)(l:List J)(ks:List Z),r.length<f→At s r i→l.length≤i→ks.length≤i→ks.Nodup→zrt s o en B (M.zx (if o=true then 123 else 91) self (w:Int) true ⟨s,(i:Int),0⟩ l ks) (items vf o en f (z0q r) l ks):=by intro f;induction f with|zero=>omega|succ f E=>intro r i l ks hf h hl Q hn;have P:=h.2;have A:=h.len;rw[items];cases o with|false=>simp only[ye,if_false];rw[zz06m];refine zzz (o:=false) (l:=l) v g D hB e (vf:=vf) (f:=f) (C r i h) (by omega) fun x G j t d=>?_;have u:=q _ _ _ t;have h2:=z2u r;have m:=d.len;simp only[ys]at u m;exact E G (j+1) (l++[x]) ks (by omega) d.cons.2.1 (by simp;omega) (by omega) hn|true=>simp only[if_true];rw[zz0ab];have a:=zz06t v (by omega) hn h;cases b:zvr (z0q r) ks with|pan c=>rw[b]at a;obtain⟨rfl,j,L,d,t⟩:=a;grind[zz03f]|ok p=>
    obtain⟨G,z⟩:=p;rw[b]at a;obtain⟨F,j,d,H,t⟩:=a;obtain⟨k1,R⟩:=zsv b;obtain⟨kk,k3,S,_⟩:=zxx b;have h2:=z2u r;have O:=z2u F;have m:=d.len;have I:i<j∨¬i<j:=by omega
    subst H;simp only[t,yb];refine zzz (o:=true) (l:=l) v g D hB e (vf:=vf) (f:=f) (C F j d) (by omega) fun x N K y k=>?_;have u:=q _ _ _ y;have n:=k.len;simp only[ys]at u n;refine E N (K+1) (l++[x]) z (by omega) k.cons.2.1 (by simp;omega) (by omega) ?_;grind
theorem zrm(d:s.length<1000000){b:Z}{j:Nat}(h:At s b j)(x:q04)(B:Nat):zpd s B ((M.q4z (q0d.mk s (j:Int) 0)).bind fun a=>some (x,a)) (.ok (x,z0q b)):=by obtain⟨e,c,h2⟩:=z5c d 0 h;exact⟨e,c,by rw[h2];rfl⟩
theorem zms(s:Z):z0q (z0q s)=z0q s:=by induction s with|nil=>rfl|cons c s a=>cases h:bl c with|true=>simp_all[z0q]|false=>grind[zgv]
theorem zof(P:s.length<1000000):∀(f F:Nat)(r:Z)(i w:Nat),w≤16→17≤f+w→f≤F→f≤17→At s r i→zpd s (s.length+4*f+4) (M.q54 F ⟨s,(i:Int),0⟩ (w:Int)) (val f (z0q r) w):=by intro f;induction f with|zero=>omega|succ f ih=>
  intro F r i w hw b4 hF b0 h;obtain⟨F,rfl⟩:∃F',F=F'+1:=⟨F-1,by omega⟩;obtain⟨j1,O,b1⟩:=z5c P 0 h;have a1l:=O.len;have U:=z6f 0 O;rw[M.q54,val];simp only[b1,U,ya,yb];generalize b6:z0q r=g at O a1l U;have u:=zii P O;by_cases G:hd g=34;·--a text
   have hh:g.head?=some 34:=by cases g with|nil=>cases G|cons c t=>have b8:(c.toNat:Int)=34↔c=34:=toNat_eq (n:=34) (by omega);grind[hd]
   simp only[G,decide_true,if_true];cases E:text g with|none=>
    rw[E]at u;obtain⟨t,j,D,N⟩:=u;simp only[N,yb,hh,if_true];have v:¬(20:Int)=0:=by decide
    simp only[v,decide_false,ye,if_false];exact⟨by decide,_,j,by omega,rfl⟩|some p=>obtain⟨t,b⟩:=p;rw[E]at u;obtain⟨j,D,N⟩:=u;simp_all[zrm]
  ·have a7:¬g.head?=some 34:=fun e=>G (by cases g with|nil=>cases e|cons c t=>cases e;rfl);have a9:text g=none:=by cases g with|nil=>rfl|cons c t=>grind[zz000]
   simp only[G,decide_false,ye,if_false,a9,a7]--a list or an object
   have nested:∀(o:Bool)(b:Z),g=(if o=true then 123 else 91)::b→zpd s (s.length+4*(f+1)+4) ((if decide (16≤(w:Int))then(M.q57 ⟨s,(j1:Int),0⟩ 21).bind fun a_1140=>some (Jn.done (q04.mk 0 ([]:Z) [] [],a_1140))else(M.q4z (q0d.mk s (yae .i64 ((j1:Int)+1)) 0)).bind fun a_1145=>((M.q4y a_1145).bind fun a_1695=>M.zx (if o=true then 123 else 91) (M.q54 F) (w:Int) (!decide (a_1695=if o=true then 125 else 93)) a_1145 [] []).bind fun j_1694=>((M.q4y j_1694.1).bind fun a_2249=>if !decide (a_2249=if o=true then 125 else 93)then(M.q57 j_1694.1 20).bind fun a_2251=>some a_2251 else some j_1694.1).bind fun j_2248=>some (Jn.go (q0d.mk j_2248.gs (yae .i64 (j_2248.gi+1)) j_2248.ge,if o=true then(6:Int)else 5,([]:Z),j_1694.2.1,j_1694.2.2))).bind fun q_1133=>match q_1133 with|.done r=>some r|.go j_1133=>if decide (j_1133.1.ge=0)then(M.q4z j_1133.1).bind fun a_2255=>some (q04.mk j_1133.2.1 j_1133.2.2.1 j_1133.2.2.2.1 j_1133.2.2.2.2,a_2255)else some (q04.mk j_1133.2.1 j_1133.2.2.1 j_1133.2.2.2.1 j_1133.2.2.2.2,j_1133.1)) (nest (fun s=>val f s (w+1)) o w (z0q b)):=by
    intro o b K;subst K;unfold nest;by_cases T:16≤w
    ·have z:(16:Int)≤(w:Int):=by omega
     simp only[T,z,decide_true,if_true,z2x,yb];exact⟨by decide,_,j1,by omega,rfl⟩
    ·have z:¬(16:Int)≤(w:Int):=by omega
     obtain⟨g1,g2,g3⟩:=O.cons;obtain⟨j2,Y,b2⟩:=z5c P 0 g2;have a2l:=Y.len;have V:=z6f 0 Y;simp only[T,z,decide_false,ye,if_false];rw[w1 (by omega)];simp only[b2,V,yb];have A:∃en:UInt8,en=if o=true then 125 else 93:=⟨_,rfl⟩;obtain⟨en,A⟩:=A;have X:(if o=true then(125:Int)else 93)=(en.toNat:Int):=by subst A;cases o<;>rfl
     rw[←A,X];have W:∀(q:Z),hd q=(en.toNat:Int)↔∃t,q=en::t:=by intro q;cases q with|nil=>grind[hd]|cons d t=>grind[yaf,hd]--how it goes on behind the loop
     have fin_ok:∀(j:Nat)(t:Z)(l:List J)(ks:List Z),At s (en::t) j→zpd s (s.length+4*(f+1)+4) ((((M.q4y (q0d.mk s (j:Int) 0)).bind fun a_2249=>if !decide (a_2249=(en.toNat:Int))then(M.q57 (q0d.mk s (j:Int) 0) 20).bind fun a_2251=>some a_2251 else some (q0d.mk s (j:Int) 0)).bind fun j_2248=>(some (Jn.go (q0d.mk j_2248.gs (yae .i64 (j_2248.gi+1)) j_2248.ge,if o=true then(6:Int)else 5,([]:Z),l,ks)):Option (Jn (q04×RR) _))).bind fun q_1133=>match q_1133 with|.done r=>some r|.go j_1133=>if decide (j_1133.1.ge=0)then(M.q4z j_1133.1).bind fun a_2255=>some (q04.mk j_1133.2.1 j_1133.2.2.1 j_1133.2.2.2.1 j_1133.2.2.2.2,a_2255)else some (q04.mk j_1133.2.1 j_1133.2.2.1 j_1133.2.2.2.1 j_1133.2.2.2.2,j_1133.1)) (.ok (⟨if o=true then 6 else 5,[],l,ks⟩,z0q t)):=by intro j t l ks D;have b5:=D.2;have e1:hd (en::t)=(en.toNat:Int):=rfl;simp only[z6f 0 D,e1,yb,decide_true,yh,ye,if_false,if_true];rw[w1 (by omega)];exact zrm P D.cons.2.1 _ _
     by_cases he:hd (z0q b)=(en.toNat:Int)
     ·obtain⟨t,N⟩:=(W _).1 he;rw[N]at Y;have R:take (z0q b) [en]=some (z0q t):=by rw[N,take_one];simp
      simp only[he,decide_true,yh,R];rw[zb0 _ _ _ _ _ _ _ _ _ (.inl rfl)];grind
     ·have R:take (z0q b) [en]=none:=by rw[take_one];cases hb:z0q b with|nil=>rfl|cons d t=>grind
      simp only[he,decide_false,yg,R];have a3:z0q (z0q b)=z0q b:=zms b;have C:=zz1 (s:=s) (o:=o) P A (w:=w) (by omega) (self:=M.q54 F) (vf:=fun s=>val f s (w+1)) (B:=s.length+4*f+4) (by omega) (by omega) (fun r i a8=>ih F r i (w+1) (by omega) (by omega) (by omega) (by omega) a8) (fun s x r E=>zz00c f s (w+1) x r E) ((z0q b).length+1) (z0q b) j2 [] [] (by omega) Y (yad _) (yad _) yx;rw[a3]at C;cases E:items (fun s=>val f s (w+1)) o en ((z0q b).length+1) (z0q b) [] []with|ok p=>obtain⟨x,r3⟩:=p;rw[E]at C;obtain⟨t,j,D,a4,Q,hk,u⟩:=C;simp only[Q,yb];have:=fin_ok j t x.zg x.zn D;rw[a4,←hk]at this;obtain⟨k,tx,l,ks⟩:=x;simp only at hk u this⊢;subst u;subst hk;exact this|pan c=>
       rw[E]at C;obtain⟨j,e',l',b7,D,Q,L⟩:=C;simp only[Q,yb];rcases L with⟨rfl,L⟩|⟨rfl,rfl,t,N,a6⟩
       ·obtain⟨c2,a5⟩:=zby (s:=s) e' j;simp only[a5,yb,zcz L];have H:=w1 (n:=j) (by omega);split;·simp only[yb,L,decide_false,ye,if_false,H];exact⟨L,_,j+1,by omega,rfl⟩
        ·simp only[yb,L,decide_false,ye,if_false,H];exact⟨L,_,j+1,by omega,rfl⟩
       ·have H:=w1 (n:=j) (by omega);have v:¬(20:Int)=0:=by decide
        simp only[z6f 0 N,yb,a6,decide_false,yg,if_true,z2x,v,ye,if_false,H];exact⟨v,_,j+1,by omega,rfl⟩
   by_cases I:hd g=91
   ·obtain⟨b,K⟩:∃b,g=91::b:=by cases g with|nil=>cases I|cons c t=>have b9:(c.toNat:Int)=91↔c=91:=toNat_eq (n:=91) (by omega);grind[hd]
    have R:take g [91]=some (z0q b):=by rw[K,take_one];simp
    have hn:=nested false b K;grind
   ·by_cases y:hd g=123
    ·obtain⟨b,K⟩:∃b,g=123::b:=by cases g with|nil=>cases y|cons c t=>have b3:(c.toNat:Int)=123↔c=123:=toNat_eq (n:=123) (by omega);grind[hd]
     have R:take g [123]=some (z0q b):=by rw[K,take_one];simp
     have S:take g [91]=none:=by rw[K,take_one];rfl
     grind
    ·--a word or a number
     have S:take g [91]=none:=by rw[take_one];cases g with|nil=>rfl|cons d t=>have:¬d=91:=fun e=>I (by rw[e];rfl);simp[this]
     have a0:take g [123]=none:=by rw[take_one];cases g with|nil=>rfl|cons d t=>have:¬d=123:=fun e=>y (by rw[e];rfl);simp[this]
     have m:=zqw P O;simp only[I,y,decide_false,ye,if_false,yb,S,a0];cases E:word g with|ok p=>obtain⟨x,b⟩:=p;rw[E]at m;obtain⟨t,j,D,hb,Q⟩:=m;subst hb;simp_all[zlo,zrm]|pan c=>
      rw[E]at m;obtain⟨rfl,x,j,D,Q⟩:=m;have v:¬(20:Int)=0:=by decide
      simp only[Q,yb,v,decide_false,ye,if_false];exact⟨v,_,j,by omega,rfl⟩
theorem zoc(s:Z){f:Nat}(hf:17≤f):M.q4p f s=some (parse s):=by
 unfold M.q4p parse;by_cases hl:16384<s.length;·grind
 ·have:¬(16384:Int)<(s.length:Int):=by omega
  have a:=zof (s:=s) (by omega) 17 f s 0 0 (by omega) (by omega) hf (by omega) At.start;have a:zpd s (s.length+4*17+4) (M.q54 f ⟨s,0,0⟩ 0) (val 17 (z0q s) 0):=a;simp only[this,decide_false,ye,if_false,hl,ya];cases d:val 17 (z0q s) 0 with|pan c=>rw[d]at a;obtain⟨h,x,j,b,g⟩:=a;grind[zcz]|ok p=>obtain⟨x,r⟩:=p;rw[d]at a;obtain⟨j,b,g⟩:=a;have e:=b.len;grind[yu,z2x]
end
end
theorem z88{v:J}(h:SzJ v)(k:Z):M.q6u v k=some (numM v k):=by unfold M.q6u;rw[z4l (by have:=h.parts;omega)];simp only[ya,yb];rw[zv5 (by have:=(h.z56 k).parts;omega)];rfl
theorem z2k{v:J}(h:SzJ v)(k:Z):M.q6a v k=some (zgp v k):=by unfold M.q6a;rw[z4l (by have:=h.parts;omega)];unfold zgp;by_cases e:(z56 v k).1.zh=4<;>simp[e]
theorem zm5{v:J}(h:SzJ v)(k:Z):M.q68 v k=some (tsM v k):=by unfold M.q68;rw[z4l (by have:=h.parts;omega)];simp only[ya,yb];rw[zfs (by have:=(h.z56 k).parts;omega)];rfl
theorem zvb{v:J}(h:SzJ v)(k:v.zn.length=v.zg.length):∀(n i:Nat)(a:List q02),v.zg.length-i=n→i≤v.zg.length→a.length≤i→M.z3k v a (i:Int)=some (match zl7 (v.zg.drop i) (v.zn.drop i)with|some l=>.go (a++l)|none=>.done ([],false)):=by have m:=h.parts;intro n;induction n with
 |zero=>
  intro i a hn f e;rw[M.z3k,yk (by omega)];have:¬(i:Int)<(v.zg.length:Int):=by omega
  simp[this,zl7]|succ n j=>
  intro i a hn f e;have c:i<v.zg.length:=by omega
  have b:i<v.zn.length:=by omega
  have d:(i:Int)<(v.zg.length:Int):=by omega
  have g:SzJ v.zg[i]:=h.mem (yq c);rw[M.z3k,yj c,yj b];simp only[d,decide_true,if_true,z3u,yp c,yp b,ya,yb];rw[zfs (by have:=g.parts;omega)];simp only[yb];unfold zl7;cases o:(z8a v.zg[i]).2 with|false=>simp|true=>simp only[yh,ye,if_false,if_true,List.tail_cons,List.head?_cons,Option.getD_some];rw[z15 (by simp;omega),w1 (by omega)];simp only[yb];rw[j (i+1) _ (by omega) (by omega) (by simp;omega)];cases zl7 (v.zg.drop (i+1)) (v.zn.drop (i+1))<;>simp
theorem zva{v:J}(h:SzJ v)(c:v.zh=6→v.zn.length=v.zg.length):M.q62 v=some (zad v):=by
 unfold M.q62 zad;by_cases a:v.zh=6;·have b:=zvb h (c a) _ 0 [] rfl (yad _) (by simp);have b:M.z3k v [] 0=_:=b;rw[b,yn,yn,if_pos a];cases zl7 v.zg v.zn<;>simp[a]
 ·rw[if_neg a];simp[a]
theorem zz033{w:J×Bool}(h:SzJ w.1)(m:Chk w.1):∀(n i:Nat)(a:List q07),w.1.zg.length-i=n→i≤w.1.zg.length→a.length≤i→M.z52 w (i:Int) a=some (a++(w.1.zg.drop i).map ziz):=by have q:=h.parts;intro n;induction n with
 |zero=>
  intro i a hn o l;rw[M.z52,yk (by omega)];have:¬(i:Int)<(w.1.zg.length:Int):=by omega
  simp[this]|succ n p=>
  intro i a hn o l;have b:i<w.1.zg.length:=by omega
  have k:(i:Int)<(w.1.zg.length:Int):=by omega
  have c:SzJ w.1.zg[i]:=h.mem (yq b);have d:Chk w.1.zg[i]:=m.mem (yq b);rw[M.z52,yj b];simp only[k,decide_true,if_true,z3u,yp b,ya,yb];have g:M.q4o w.1.zg[i] B33=some (z56 w.1.zg[i] z2n):=z4l (by have:=c.parts;omega);rw[g];simp only[yb];rw[zva (c.z56 z2n) (d.z56 z2n).keys];have e:=z2k c kId;have f:=z2k c zlq;have j:=z2k c kTag;unfold kId at e;unfold zlq at f;unfold kTag at j;simp only[yb,e,f,j];rw[z15 (by simp;omega),w1 (by omega)];simp only[yb];rw[p (i+1) _ (by omega) (by omega) (by simp;omega),List.map_cons,yi];rfl
theorem zyc{v:J}{k:Z}(h:(z56 v k).2=false):(z56 v k).1=zuv:=by
 unfold z56 at h⊢;split
 ·rename_i a;rw[if_pos a]at h;split
  ·rename_i j b;rw[b]at h;simp only at h;split;·rename_i x c;rw[c]at h;cases h
   ·rfl
  ·rfl
 ·rfl
theorem zu7:zek zuv=⟨[],[],[],[],[],[],0,0,0,[],[]⟩:=by have e(k:Z):z56 zuv k=(zuv,false):=rfl;unfold zek zgp numM tsM;simp only[e];rfl
theorem zr1{st:Int}{b:Z}{v:J}(h:SzJ v)(S:Chk v):M.q5m st b v=some (z30 st b v):=by have hp:=h.parts;have t:M.z52 (z56 v z4g) 0 []=some ([]++((z56 v z4g).1.zg.drop 0).map ziz):=zz033 (h.z56 z4g) (S.z56 z4g) _ 0 [] rfl (yad _) (by simp);rw[yn,List.nil_append]at t;have a:=h.z56 z4f;have T:=z88 h zab;have U:=z88 h z5q;have V:=z88 h z6x;have W:=z88 h zac;have Y:=z2k h z94;have t2:=z2k h z6p;have t3:=z2k h z5a;have t4:=z2k h zup;have t5:=z2k h zeu;have X:=zm5 h z6l;have O:M.q4o v z6q=some (z56 v z6q):=z4l (by omega);have P:M.q4o v z4f=some (z56 v z4f):=z4l (by omega);have Q:M.q4o v z4g=some (z56 v z4g):=z4l (by omega);have c1:=z2k a kIss;have u:=z2k a kSub;have w:=z2k a kAud;have x:=z2k a kCid;have y:=z2k a kJti;have z:=z2k a zhz;have A:=z88 a kIat;have B:=z88 a kExp;have C:=z88 a z6x;have c:=zm5 a z6l;have d:=zm5 a kAct;unfold M.q5m;have D:(B37:Z)=zab:=rfl;have E:(B26:Z)=z94:=rfl;have F:(B7:Z)=z6p:=rfl;have G:(B2:Z)=z5a:=rfl;have H:(B13:Z)=zup:=rfl;have I:(B34:Z)=zeu:=rfl;have K:(B10:Z)=z6l:=rfl;have L:(B14:Z)=z5q:=rfl;have N:(B19:Z)=z6x:=rfl;have f:(B41:Z)=zac:=rfl;have g:(B29:Z)=z6q:=rfl;have i:(B30:Z)=z4f:=rfl;have j:(B27:Z)=z4g:=rfl;have k:([105,115,115]:Z)=kIss:=rfl;have l:([115,117,98]:Z)=kSub:=rfl;have m:([97,117,100]:Z)=kAud:=rfl;have n:(B3:Z)=kCid:=rfl;have o:([106,116,105]:Z)=kJti:=rfl;have p:(B22:Z)=zhz:=rfl;have q:([105,97,116]:Z)=kIat:=rfl;have r:([101,120,112]:Z)=kExp:=rfl;have s:([97,99,116]:Z)=kAct:=rfl;simp only[D,E,F,G,H,I,K,L,N,f,g,i,j,k,l,m,n,o,p,q,r,s,ya,yb,T,U,V,W,Y,t2,t3,t4,t5,X,O,P,Q,t];cases R:(z56 v z4f).2 with|true=>simp only[if_true,c1,u,w,x,y,z,A,B,C,c,d,yb];rfl|false=>
  have e:z30 st b v={z30 st b v with zk:=⟨[],[],[],[],[],[],0,0,0,[],[]⟩}:=by have:(z30 st b v).zk=zek (z56 v z4f).1:=rfl;rw[zyc R,zu7]at this;rw[←this]
  rw[e];rfl
def rowC(x a:Z):Z:=if 20<x.length∧x.take 20=zes then(z2j 59 (x.drop 20)).1 else a
def rowN(x:Z)(n:Int):Int:=if 16<x.length∧x.take 16=zxa then zvu 5 ((x.take (x.length-1)).drop 16)else n
def z9a(z:Z×Int)(x:Z):Z×Int:=(rowC x z.1,rowN x z.2)
theorem zze{l:List Z}(hl:l.length<1000000)(A:∀x∈l,x.length<1000000):∀(n i:Nat)(e:Z)(k:Int),l.length-i=n→i≤l.length→M.z10 l e k (i:Int)=some ((l.drop i).foldl z9a (e,k)):=by intro n;induction n with|zero=>grind[M.z10.eq_1,yk]|succ n D=>
  intro i e k hn H;have d:i<l.length:=by omega
  have y:(i:Int)<(l.length:Int):=by omega
  have B:=A l[i] (yq d);rw[M.z10.eq_1,yj d,yo];simp only[y,decide_true,if_true,z3u,yp d,ya,yb];generalize C:l[i]=x at B⊢;have z:((if decide (20<(x.length:Int))=true then(sub x 0 20).bind fun o=>some (decide (o=(B6:Z)))else some false).bind fun h=>if h=true then(sub x 20 (x.length:Int)).bind fun p=>(M.q64 p 59).bind fun f=>some f.1 else some e)=some (rowC x e):=by
   unfold rowC;by_cases c:20<x.length
   ·have t:(20:Int)<(x.length:Int):=by omega
    have u:sub x 0 20=some (x.take 20):=ze9 (a:=20) (by omega);have v:sub x 20 (x.length:Int)=some (x.drop 20):=by have:=zbj (l:=x) (a:=20) (b:=x.length) (by omega) (yab _);rw[List.take_length]at this;exact this
    simp only[t,c,decide_true,if_true,u,v,yb,true_and];have w:(B6:Z)=zes:=rfl;grind[zoi]
   ·grind
  have s:∀(F:Int→Option (Z×Int)),((if decide (16<(x.length:Int))=true then(sub x 0 16).bind fun q=>some (decide (q=(B5:Z)))else some false).bind fun j=>if j=true then(sub x 16 (yae .i64 ((x.length:Int)-1))).bind fun r=>(M.q5w r 5).bind fun g=>F g else F k)=F (rowN x k):=by
   intro F;unfold rowN;by_cases c:16<x.length
   ·have t:(16:Int)<(x.length:Int):=by omega
    have u:sub x 0 16=some (x.take 16):=ze9 (a:=16) (by omega);have G:yae .i64 ((x.length:Int)-1)=((x.length-1:Nat):Int):=by rw[w64 (by omega) (by omega)];omega
    have v:sub x 16 ((x.length-1:Nat):Int)=some ((x.take (x.length-1)).drop 16):=zbj (l:=x) (a:=16) (b:=x.length-1) (by omega) (by omega);have E:M.q5w ((x.take (x.length-1)).drop 16) 5=some (zvu 5 ((x.take (x.length-1)).drop 16)):=zft (k:=5) (by decide);have w:(B5:Z)=zxa:=rfl;grind
   ·grind
  rw[z];simp only[yb];rw[w1 (by omega)];rw[s fun m=>M.z10 l (rowC x e) m ((i+1:Nat):Int)];rw[D (i+1) _ _ (by omega) (by omega)];rfl
theorem zkq:∀(l:List Z)(z:Z×Int)(B:Nat),(∀x∈l,x.length≤B)→z.1.length≤B→-1≤z.2∧z.2<100000→(l.foldl z9a z).1.length≤B∧-1≤(l.foldl z9a z).2∧(l.foldl z9a z).2<100000
 |[],z,B,_,a,h2=>⟨a,h2⟩|x::l,z,B,b,a,h2=>by
  rw[yo];refine zkq l _ B (fun y c=>b y (by simp[c])) ?_ ?_;·grind[z9a,rowC,zs7]
  ·unfold z9a rowN;simp only;split;·simp[zkk]
   ·exact h2
def Good(s:Z)(n:Nat)(st:Int)(a:Z)(k:Nat):Prop:=¬z63 st=[]∧z6m a=true∧k≤16384∧s.take n=z9r st a (k:Int)
theorem z9x{s:Z}(h:s.all (fun b=>!decide (b=10))=true):no 10 s:=fun b a=>by grind
theorem zz07w:∀b:UInt8,sesC b=true→¬b=10:=by have:∀b:UInt8,(!sesC b||!decide (b=10))=true:=z6a (by decide+kernel);grind
theorem zs8(n:Nat):no 10 (Lib.decDigits n):=fun b a e=>by have:=zg4 ((z3n n n (yab _)).1 b a);simp_all
theorem zzd{st:Int}{c:Z}{n:Nat}(h:¬z63 st=[])(g:z6m c=true):no 10 (z2s st)∧∀x∈z4t st c n,no 10 x:=by
 obtain⟨⟨w1,i⟩,_,j⟩:=z4c st h;obtain⟨m,rfl⟩:∃m:Nat,st=m:=⟨st.toNat,by omega⟩;have d:no 10 c:=fun b f=>zz07w b (List.all_eq_true.1 g b f);refine⟨?_,fun x a=>?_⟩;·unfold z2s;rw[z5p];refine(((z9x (by decide)).app (zs8 m)).app (z9x (by decide))).app fun b f e=>?_;subst e;grind
 ·unfold z4t at a;rcases List.mem_cons.1 a with rfl|a;·exact z9x (by decide)
  ·rcases List.mem_append.1 a with a|a
   ·split at a;·cases a
    ·rw[yw]at a;subst a;exact((z9x (by decide)).app d).app (z9x (by decide))
   ·rw[yw]at a;subst a;exact(z9x (by decide)).app (by simp[z5p,zs8])
theorem zfw:∀(l:List Z)(a:Z),no 10 a→(∀x∈l,no 10 x)→z0u 10 (z7c (a::l)++[13,10,13,10])=(a::l).map (·++[13])++[[13],[]]
 |[],a,h,_=>by
  have e:z7c [a]++[13,10,13,10]=a++[13]++10::([13]++10::[]):=by simp[z7c]
  rw[e,zbh _ (h.snoc (by decide)),zbh _ (z9x (by decide))];rfl|b::l,a,h,k=>by
  have d:=zfw l b (k b (by simp)) fun x c=>k x (by simp[c]);have e:z7c (a::b::l)++[13,10,13,10]=a++[13]++10::(z7c (b::l)++[13,10,13,10]):=by rw[zke];simp
  rw[e,zbh _ (h.snoc (by decide)),d];rfl
theorem step_skip{x:Z}{z:Z×Int}(a:¬(20<x.length∧x.take 20=zes))(h2:¬(16<x.length∧x.take 16=zxa)):z9a z x=z:=by simp_all[z9a,rowC,rowN,if_neg]
theorem head_ne{x p:Z}{n:Nat}{a b:UInt8}{r q:Z}(d:x=a::r)(c:p=b::q)(h:¬a=b):¬x.take (n+1)=p:=by grind
theorem zz5{s:Z}{n:Nat}{st:Int}{b:Z}{k:Nat}(hn:n≤s.length)(g:Good s n st b k):12<n∧zvu 3 ((s.take 12).drop 9)=st∧(z0u 10 (s.take n)).foldl z9a ([],-1)=(b,(k:Int)):=by
 obtain⟨o,j,A,e⟩:=g;obtain⟨⟨w1,H⟩,_,_⟩:=z4c st o;obtain⟨v,w⟩:=zzd (n:=k) o j;obtain⟨m,rfl⟩:∃m:Nat,st=m:=⟨st.toNat,by omega⟩;have i:=zp2 (n:=m) (by omega) (by omega);have l:hVer.length=9:=rfl;have c:(z9r (m:Int) b (k:Int)).length=n:=by rw[←e,yv];omega
 have hl:12<n:=by rw[←c];unfold z9r z2s;rw[z5p];simp only[yr,l,i,ys,yt];omega
 refine⟨hl,?_,?_⟩
 ·have:s.take 12=(s.take n).take 12:=by rw[yaa,yac (by omega)]
  rw[this,e];have:((z9r (m:Int) b (k:Int)).take 12).drop 9=Lib.decDigits m:=by unfold z9r z2s;rw[z5p];simp only[yi];rw[yy,List.drop_append];simp[l,i,yy]
  grind[zt8]
 ·rw[e,zho,zfw _ _ v w];have B:∀z,z9a z (z2s (m:Int)++[13])=z:=fun z=>step_skip (fun q=>head_ne (n:=19) (a:=72) (r:=(z2s (m:Int)++[13]).tail) (by rfl) (p:=zes) rfl (by decide) q.2) fun q=>head_ne (n:=15) (a:=72) (r:=(z2s (m:Int)++[13]).tail) (by rfl) (p:=zxa) rfl (by decide) q.2;have C:∀z,z9a z (zui++[13])=z:=fun z=>step_skip (by decide) (by decide);have D:∀z,z9a z (zcn b++[13])=(b,z.2):=fun z=>by
   have h:=(zid j).2;have hl:zes.length=20:=rfl;have d:(zcn b++[13]).take 20=zes:=by unfold zcn;rw[yi,yi,←hl,yz]
   have f:(zcn b++[13]).drop 20=b++59::(B58++[13]):=by unfold zcn;rw[yi,yi,←hl,yl];rfl
   unfold z9a rowC rowN;rw[if_pos ⟨by grind,d⟩,f,zh1 _ h,if_neg];intro q;exact head_ne (n:=15) (a:=115) (r:=(zcn b++[13]).tail) (by rfl) (p:=zxa) rfl (by decide) q.2
  have E:∀z,z9a z (zcv (k:Int)++[13])=(z.1,(k:Int)):=fun z=>by
   have hl:zxa.length=16:=rfl;obtain⟨x,t,_⟩:=z3n k k (yab _);have y:0<(Lib.decDigits k).length:=yu.2 t;have d:(zcv (k:Int)++[13]).take 16=zxa:=by unfold zcv;rw[yi,←hl,yz]
   have f:((zcv (k:Int)++[13]).take ((zcv (k:Int)++[13]).length-1)).drop 16=Lib.decDigits k:=by
    have:(zcv (k:Int)++[13]).length-1=(zcv (k:Int)).length:=by rw[yr];rfl
    rw[this,yz];unfold zcv;rw[z5p,←hl,yl]
   unfold z9a rowC rowN;rw[if_neg fun q=>head_ne (n:=19) (a:=99) (r:=(zcv (k:Int)++[13]).tail) (by rfl) (p:=zes) rfl (by decide) q.2,if_pos ⟨by grind,d⟩,f,zt8 (by decide) (by omega)]
  have F:∀z,z9a z [13]=z:=fun z=>step_skip (by decide) (by decide);have G:∀z,z9a z []=z:=fun z=>step_skip (by decide) (by decide);unfold z4t;by_cases u:b=[];·grind
  simp_all
theorem zxh{s:Z}{st:Int}{a:Z}{k:Nat}(h:¬z3m s=0)(g:Good s (z3m s) st a k):zdo s=zxf s (z3m s) st a k:=by
 obtain⟨d,c,i,e⟩:=g;obtain⟨o,p⟩:=zz07u (n:=k) d c;have j:=(zh5 s).1;have b:(z9r st a (k:Int)).length=z3m s:=by rw[←e,yv];omega
 have f:z9r st a (k:Int)=z7c (z2s st::z4t st a k)++[13,10,13,10]:=zho st a k;have l:s.take (z3m s-4)=z7c (z2s st::z4t st a k):=by
  have:s.take (z3m s-4)=(s.take (z3m s)).take (z3m s-4):=by rw[yaa,yac (by omega)]
  rw[this,e,←b,f,yr];have:(z7c (z2s st::z4t st a k)).length+[13,10,13,10].length-4=(z7c (z2s st::z4t st a k)).length:=rfl;simp
 unfold zdo;rw[if_neg h,l,zfx _ _ o fun x m=>(p x m).1];unfold zxg;obtain⟨k1,q,k3,r⟩:=zxe d c i;grind
theorem zgi{s:Z}(b:¬z3m s=0)(h:∀st a k,¬Good s (z3m s) st a k):zdo s=(zR,0,220):=by unfold zdo;rw[if_neg b];unfold zxg;rw[if_neg];intro q;unfold zk9 at q;simp only[yd,yf,decide_eq_false_iff_not,decide_eq_true_eq]at q;obtain⟨⟨⟨⟨⟨_,f⟩,c⟩,_⟩,d⟩,e⟩:=q;exact h _ _ _ ⟨f,c,d,e.symm⟩
theorem zf4{s:Z}{f:Nat}(hf:17≤f)(h:s.length<10000000):M.q5h f s=some ((zdo s).1,(((zdo s).2.1:Nat):Int),(zdo s).2.2):=by
 unfold M.q5h;rw[zv8 (by omega)];simp only[ya,yb];by_cases E:z3m s=0;·unfold zdo;rw[if_pos E,E];grind[zR]
 ·have p:=zh5 s;have F:¬((z3m s:Nat):Int)=0:=by omega
  obtain⟨st,H⟩:∃st:Int,st=if 12<z3m s then zvu 3 ((s.take 12).drop 9)else 0:=⟨_,rfl⟩;have C:(if decide (12<((z3m s:Nat):Int))=true then(sub s 9 12).bind fun K=>(M.q5w K 3).bind fun v=>some v else some 0)=some st:=by
   by_cases c:12<z3m s
   ·have c':(12:Int)<((z3m s:Nat):Int):=by omega
    have e1:sub s 9 12=some ((s.take 12).drop 9):=zbj (l:=s) (a:=9) (b:=12) (by omega) (by omega);have e2:M.q5w ((s.take 12).drop 9) 3=some (zvu 3 ((s.take 12).drop 9)):=zft (k:=3) (by decide);grind
   ·grind
  have Y:-1≤st∧st<100000:=by
   rw[H];split;·simp[zkk]
   ·omega
  simp only[F,decide_false,ye,if_false,C,yb];rw[ze9 p.1];simp only[yb];have I:(s.take (z3m s)).length≤8192:=by rw[yv];omega
  rw[zv7 (by omega)];simp only[yb];have T:∀x∈z0u 10 (s.take (z3m s)),x.length≤8192:=fun x t=>Nat.le_trans (z62 10 _ x t) I;have X:=zc3 10 (s.take (z3m s));have o:M.z10 (z0u 10 (s.take (z3m s))) [] (-1) 0=some (((z0u 10 (s.take (z3m s))).drop 0).foldl z9a ([],-1)):=zze (by omega) fun x t=>by grind _ 0 _ _ rfl (yad _);rw[yn]at o;rw[o];simp only[yb];have G:=zkq (z0u 10 (s.take (z3m s))) ([],-1) 8192 T (by simp) (by simp);have read:∀i d J,Good s (z3m s) i d J→st=i∧(z0u 10 (s.take (z3m s))).foldl z9a ([],-1)=(d,(J:Int)):=fun i d J g=>by obtain⟨r1,r2,r3⟩:=zz5 p.1 g;grind
  obtain⟨⟨j,k⟩,hz⟩:∃z,(z0u 10 (s.take (z3m s))).foldl z9a ([],-1)=z:=⟨_,rfl⟩;rw[hz]at G read⊢;simp only at G read⊢;obtain⟨U,V,W⟩:=G;by_cases c1:k<0∨16384<k;·grind[Good,zgi,zR]
  ·have w:(decide (k<0)||decide (16384<k))=false:=by rw[Bool.or_eq_false_iff,decide_eq_false_iff_not,decide_eq_false_iff_not];exact⟨fun q=>c1 (.inl q),fun q=>c1 (.inr q)⟩
   obtain⟨m,rfl⟩:∃m:Nat,k=m:=⟨k.toNat,by omega⟩;simp only[w,ye,if_false,zbb,yb];by_cases B:z63 st=[];·grind[Good,zgi,zR]
   ·simp only[B,decide_false,ye,if_false,zfu (s:=j) (by omega),yb];cases O:z6m j with|false=>grind[Good,zgi,zR]|true=>
     obtain⟨⟨a0,a1⟩,_,_⟩:=z4c st B;obtain⟨u,rfl⟩:∃u:Nat,st=u:=⟨st.toNat,by omega⟩;simp only[yh,ye,if_false];rw[zij (by omega) (by omega) (by omega)];simp only[yb];by_cases L:z9r (u:Int) j (m:Int)=s.take (z3m s)
     ·have g:Good s (z3m s) (u:Int) j m:=⟨B,O,by omega,L.symm⟩;rw[zxh E g];simp only[L,decide_true,yh,ye,if_false];have D:yae .i64 ((s.length:Int)-((z3m s:Nat):Int))=((s.length-z3m s:Nat):Int):=by rw[w64 (by omega) (by omega)];omega
      rw[D];unfold zxf;by_cases P:s.length<z3m s+m;·grind[zR]
      ·have:¬((s.length-z3m s:Nat):Int)<((m:Nat):Int):=by omega
       simp only[this,decide_false,ye,P,if_false];rw[wadd (by omega),zbj (by omega) (by omega)];simp only[yb];have Q:(s.take (z3m s+m)).drop (z3m s)=(s.drop (z3m s)).take m:=by rw[ym,Nat.add_sub_cancel_left]
       rw[Q,zoc _ hf];simp only[yb];obtain⟨b,R⟩:∃b,(s.drop (z3m s)).take m=b:=⟨_,rfl⟩;rw[R];by_cases y:(parse b).2=0
       ·have n:Chk (parse b).1:=by
         rcases zcy b with⟨x,e,t⟩|⟨c,e,t⟩;·rw[e];exact⟨0,t⟩
         ·grind
        have r:SzJ (parse b).1:=zgk b;have S:I64 (u:Int):=by unfold I64;omega
        simp only[y,decide_true,yh,ye,if_false,zr1 r n,yb,true_and];rw[zoh hf (zle r S (by omega))];simp only[yb];by_cases A:(zaf (z30 (u:Int) j (parse b).1)).2=0
        ·simp only[A,decide_true,yh,ye,if_false];rw[ze9 (by omega)];simp only[yb];by_cases N:(zaf (z30 (u:Int) j (parse b).1)).1=s.take (z3m s+m);·grind
         grind[zR]
        grind[zR]
       grind[zR]
     grind[Good,zgi,zR]
theorem zz01x{s:Z}{f:Nat}(c:M.q44 f=some true)(hf:34≤f)(h:s.length<10000000):M.q3v f s=some true:=by
 unfold M.q3v;rw[zdq hf (by omega),zf4 (by omega) h,c];simp only[ya,yb,decide_true,Bool.and_self,if_true];have ok:RpOk (zdo s).1:=by
  have a:RpOk zR:=by refine⟨by decide,⟨?_,?_,?_,?_,?_⟩,?_,?_,?_⟩<;>(unfold I64 zR;decide)
  unfold zdo;split;·exact a
  ·unfold zxg;split
   ·rename_i q;unfold zk9 at q;simp only[yd,yf,decide_eq_false_iff_not,decide_eq_true_eq]at q;obtain⟨⟨⟨⟨⟨⟨⟨_,_⟩,hn⟩,d⟩,g⟩,_⟩,i⟩,e⟩:=q;unfold zxf;split;·exact a
    ·split
     ·rename_i j;obtain⟨⟨w1,k⟩,_,_⟩:=z4c _ d;refine zle (zgk _) (by grind[I64]) ?_;have hl:=congrArg List.length e;unfold z9r at hl;simp only[yr,yv]at hl;have:=(zh5 s).2;by_cases b:z8m (z3x (s.take (z3m s-4)))=[];·grind
      ·rw[if_neg b]at hl;grind[zcn]
     ·exact a
   ·exact a
 grind[zop]
end Go.Sen
