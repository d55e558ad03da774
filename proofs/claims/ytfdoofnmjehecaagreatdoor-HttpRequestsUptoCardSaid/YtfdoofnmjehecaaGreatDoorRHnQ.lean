import Derived.Test.YtfdoofnmjehecaaGreatDoorRShG
set_option linter.all false
namespace Go.Sen
open _root_.Option renaming bind_assoc → ya, bind_eq_bind → yb, bind_none → yc, bind_some → yd, map_some → ye
open _root_.Bool renaming and_eq_false_iff → yf, and_eq_true → yg, and_self → yh, and_true → yi, eq_false_iff → yj, eq_iff_iff → yk, false_and → yl, false_eq_true → ym, false_or → yn, not_eq_false' → yo, not_eq_true' → yp, not_false → yq, not_true → yr, or_eq_false_iff → ys, or_self → yt, true_or → yu
open _root_.List renaming all_eq_true → yv, append_assoc → yw, append_nil → yx, cons_append → yy, contains_cons → yz, count_cons → yaa, drop_drop → yab, drop_eq_getElem_cons → yac, drop_eq_nil_of_le → yad, drop_take → yae, drop_zero → yaf, find?_cons → yag, find?_eq_none → yah, getElem?_append_right → yai, getElem?_eq_getElem → yaj, getElem?_map → yak, getElem_mem → yal, length_append → yam, length_cons → yan, length_drop → yao, length_map → yap, length_nil → yaq, length_pos_iff → yar, length_singleton → yas, map_cons → yat, mem_cons → yau, mem_map → yav, mem_of_find?_eq_some → yaw, mem_singleton → yax, nil_append → yay, nodup_cons → yaz, nodup_nil → ya0, not_mem_nil → ya1, singleton_append → ya2, take_succ_cons → ya3, take_zero → ya4
open _root_.Nat renaming le_refl → ya5, mod_eq_of_lt → ya6, mul_le_mul_right → ya7, or_lt_two_pow → ya8, pow_le_pow_right → ya9, zero_le → yba
open _root_.Int renaming le_refl → ybb
open IntKind renaming u64 → ybc, wrap → ybd
open _root_.UInt8 renaming toNat_inj → ybe
open Go.Lk Go.Pe
theorem z8g{a b:Nat}(c:a<18446744073709551616)(d:b<18446744073709551616):orI .u64 (a:Int) (b:Int)=((a|||b:Nat):Int):=by
 have h:a|||b<2^64:=ya8 (by omega) (by omega);have e:(BitVec.ofInt ybc.bits (a:Int)|||BitVec.ofInt ybc.bits (b:Int)).toNat=a|||b:=by show(BitVec.ofInt 64 (a:Int)|||BitVec.ofInt 64 (b:Int)).toNat=a|||b;rw[BitVec.toNat_or,BitVec.ofInt_natCast,BitVec.ofInt_natCast,BitVec.toNat_ofNat,BitVec.toNat_ofNat,ya6 (by omega),ya6 (by omega)]
 grind[orI,wu64]
theorem zz02g{a b:Nat}(c:a<18446744073709551616)(d:b<18446744073709551616):z7s .u64 (a:Int) (b:Int)=((a&&&b:Nat):Int):=by
 have h:a&&&b<2^64:=Nat.and_lt_two_pow _ (by omega);have e:(BitVec.ofInt ybc.bits (a:Int)&&&BitVec.ofInt ybc.bits (b:Int)).toNat=a&&&b:=by show(BitVec.ofInt 64 (a:Int)&&&BitVec.ofInt 64 (b:Int)).toNat=a&&&b;rw[BitVec.toNat_and,BitVec.ofInt_natCast,BitVec.ofInt_natCast,BitVec.toNat_ofNat,BitVec.toNat_ofNat,ya6 (by omega),ya6 (by omega)]
 grind[z7s,wu64]
theorem zaa{a k:Nat}(c:k≤64)(b:a*2^k<18446744073709551616):z7r .u64 (a:Int) ((k:Nat):Int)=((a*2^k:Nat):Int):=by
 have e:min ((k:Nat):Int).toNat ybc.bits=k:=by show min ((k:Nat):Int).toNat 64=k;omega
 grind[z7r,wu64]
def hiB:Nat:=9259542123273814144
theorem zz041:∀b:Fin 256,∀i:Fin 8,b.val*2^(8*i.val)&&&hiB=0→b.val<128:=by decide+kernel
theorem zg3{b:UInt8}(i:Nat)(a:i<8)(h:b.toNat*2^(8*i)&&&hiB=0):b.toNat<128:=zz041 ⟨b.toNat,zg4⟩ ⟨i,a⟩ h
theorem zas{b:UInt8}(i:Nat)(d:i<8):b.toNat*2^(8*i)<18446744073709551616:=by have a:=zg4 (b:=b);have h2:2^(8*i)≤2^56:=ya9 (by decide) (by omega);have c:b.toNat*2^(8*i)≤255*2^56:=Nat.mul_le_mul (by omega) h2;omega
theorem zfe{a b:Nat}(c:a<18446744073709551616)(d:b<18446744073709551616):a|||b<18446744073709551616:=by have h:a|||b<2^64:=ya8 (by omega) (by omega);simpa using h
theorem zdh{s:Z}(h:8≤s.length):∃W:Nat,W<18446744073709551616∧M.word (unb s)=some (W:Int)∧(W&&&hiB=0→∀b∈s.take 8,b.toNat<128):=by
 obtain⟨b0,a,c,d,f,g,i,j,r,rfl⟩:∃b0 a c d f g i j r,s=b0::a::c::d::f::g::i::j::r:=by match s,h with|b0::a::c::d::f::g::i::j::r,_=>simp
 have w:∀b:UInt8,ybd .u64 (b.toNat:Int)=(b.toNat:Int):=fun b=>wu64 (by omega) (by grind[zg4]);have l0:=zas (b:=b0) 0 (by decide);have m:=zas (b:=a) 1 (by decide);have l2:=zas (b:=c) 2 (by decide);have n:=zas (b:=d) 3 (by decide);have o:=zas (b:=f) 4 (by decide);have l5:=zas (b:=g) 5 (by decide);have p:=zas (b:=i) 6 (by decide);have q:=zas (b:=j) 7 (by decide);have S:z7r .u64 (a.toNat:Int) 8=_:=zaa (k:=8*1) (by decide) m;have T:z7r .u64 (c.toNat:Int) 16=_:=zaa (k:=8*2) (by decide) l2;have U:z7r .u64 (d.toNat:Int) 24=_:=zaa (k:=8*3) (by decide) n;have V:z7r .u64 (f.toNat:Int) 32=_:=zaa (k:=8*4) (by decide) o;have X:z7r .u64 (g.toNat:Int) 40=_:=zaa (k:=8*5) (by decide) l5;have Y:z7r .u64 (i.toNat:Int) 48=_:=zaa (k:=8*6) (by decide) p;have s7:z7r .u64 (j.toNat:Int) 56=_:=zaa (k:=8*7) (by decide) q;have z0:b0.toNat<18446744073709551616:=by have:=zg4 (b:=b0);omega
 have v:=zfe z0 m;have x:=zfe v l2;have y:=zfe x n;have z:=zfe y o;have A:=zfe z l5;have B:=zfe A p;have R:=zfe B q;refine⟨_,R,?_,?_⟩
 ·unfold M.word;have e:unb (b0::a::c::d::f::g::i::j::r)=(b0.toNat:Int)::(a.toNat:Int)::(c.toNat:Int)::(d.toNat:Int)::(f.toNat:Int)::(g.toNat:Int)::(i.toNat:Int)::(j.toNat:Int)::unb r:=rfl;rw[e];have I:∀(l:List Int),ix l 0=l[0]?:=fun l=>by simp[ix]
  have J:∀(l:List Int),ix l 1=l[1]?:=fun l=>by simp[ix]
  have K:∀(l:List Int),ix l 2=l[2]?:=fun l=>by simp[ix]
  have L:∀(l:List Int),ix l 3=l[3]?:=fun l=>by simp[ix]
  have N:∀(l:List Int),ix l 4=l[4]?:=fun l=>by simp[ix]
  have O:∀(l:List Int),ix l 5=l[5]?:=fun l=>by simp[ix]
  have P:∀(l:List Int),ix l 6=l[6]?:=fun l=>by simp[ix]
  have Q:∀(l:List Int),ix l 7=l[7]?:=fun l=>by simp[ix]
  simp only[I,J,K,L,N,O,P,Q,List.getElem?_cons_zero,List.getElem?_cons_succ,yb,yd,w,S,T,U,V,X,Y,s7];rw[z8g z0 m,z8g v l2,z8g x n,z8g y o,z8g z l5,z8g A p,z8g B q]
 ·intro u;simp only[Lib.or_mask]at u;obtain⟨⟨⟨⟨⟨⟨⟨h0,C⟩,h2⟩,D⟩,E⟩,F⟩,G⟩,H⟩:=u;intro b t;simp only[ya3,ya4,yau,ya1,or_false]at t;rcases t with rfl|rfl|rfl|rfl|rfl|rfl|rfl|rfl;·exact zg3 0 (by decide) (by grind)
  ·exact zg3 1 (by decide) C
  ·exact zg3 2 (by decide) h2
  ·exact zg3 3 (by decide) D
  ·exact zg3 4 (by decide) E
  ·exact zg3 5 (by decide) F
  ·exact zg3 6 (by decide) G
  ·exact zg3 7 (by decide) H
theorem zz055(s:Z)(k:Nat):(unb s).drop k=unb (s.drop k):=by simp[unb]
theorem z8h{s:Z}{k:Nat}(h:k≤s.length):sub (unb s) (k:Int) ((unb s).length:Int)=some (unb (s.drop k)):=by grind[zan,zl,zz055]
theorem zz07t:(9259542123273814144:Int)=((hiB:Nat):Int):=rfl
theorem zx9{W:Nat}(h:W<18446744073709551616):decide (z7s .u64 (W:Int) 9259542123273814144=0)=decide (W&&&hiB=0):=by rw[zz07t,zz02g h (by decide)];simp
theorem z9o{s:Z}{a b:Nat}(c:∀x∈s.take a,x.toNat<128)(d:∀x∈(s.drop a).take b,x.toNat<128):∀x∈s.take (a+b),x.toNat<128:=by grind
theorem zsu:∀(n:Nat)(s:Z),s.length≤n→∃k,M.zac (unb s)=some (unb (s.drop k))∧∀b∈s.take k,b.toNat<128:=by intro n;induction n with|zero=>intro s z;refine⟨0,?_,by simp⟩;grind[M.zac.eq_1,zl]|succ n A=>
  intro s z;rw[M.zac.eq_1];by_cases y:32<s.length
  ·have j:(32:Int)<((unb s).length:Int):=by rw[zl];omega
   have x:sub (unb s) 8 ((unb s).length:Int)=some (unb (s.drop 8)):=z8h (k:=8) (by omega);have g:sub (unb s) 16 ((unb s).length:Int)=some (unb (s.drop 16)):=z8h (k:=16) (by omega);have h:sub (unb s) 24 ((unb s).length:Int)=some (unb (s.drop 24)):=z8h (k:=24) (by omega);have i:sub (unb s) 32 ((unb s).length:Int)=some (unb (s.drop 32)):=z8h (k:=32) (by omega);obtain⟨W0,c,p,u⟩:=zdh (s:=s) (by omega);obtain⟨l,d,q,c1⟩:=zdh (s:=s.drop 8) (by simp;omega);obtain⟨m,e,r,v⟩:=zdh (s:=s.drop 16) (by simp;omega);obtain⟨o,f,t,w⟩:=zdh (s:=s.drop 24) (by simp;omega);simp only[j,decide_true,if_true,x,g,h,i,p,q,r,t,yb,yd];rw[z8g c d,z8g e f,z8g (zfe c d) (zfe e f),zx9 (zfe (zfe c d) (zfe e f))];by_cases a:(W0|||l|||(m|||o))&&&hiB=0;·simp only[a,decide_true,if_true];obtain⟨k,k1,B⟩:=A (s.drop 32) (by simp;omega);simp only[Lib.or_mask]at a;refine⟨32+k,by simp_all,z9o ?_ B⟩;have C:=z9o (u a.1.1) (c1 a.1.2);have D:=z9o C (v a.2.1);exact z9o D (w a.2.2)
   ·simp only[a,decide_false,ym,if_false];exact⟨0,by simp,by simp⟩
  ·have j:¬(32:Int)<((unb s).length:Int):=by rw[zl];omega
   exact⟨0,by simp[j],by simp⟩
theorem zz031{c:Nat}(h:c<256):ix utf8First (c:Int)=some ((Lib.firstT c:Nat):Int):=by simp_all[z3f,utf8First]
theorem zz0b2{i:Nat}(h:i<16):ix zdg (i:Int)=some ⟨((Lib.accLo i:Nat):Int),((Lib.accHi i:Nat):Int)⟩:=by grind[z3f,zdg]
theorem zz032(c:Nat):Lib.firstT c<256:=by
 unfold Lib.firstT;repeat' split
 all_goals omega
theorem zz02f:∀b:Fin 256,ybd .i64 (z7s .u8 ((b.val:Nat):Int) 7)=((b.val%8:Nat):Int):=by decide+kernel
theorem shr4{n:Nat}:zez .u8 (n:Int) 4=((n/16:Nat):Int):=by have e:min (4:Int).toNat IntKind.u8.bits=4:=rfl;unfold zez;grind
theorem zty{s:Z}{i:Nat}(h:i<s.length):ix (unb s) (i:Int)=some (((s.getD i 0).toNat:Nat):Int):=by grind[z3f,zfi]
def VK(b:Bool):Jn Bool Unit:=if b=true then .go ()else .done false
set_option maxRecDepth 100000 in
set_option maxHeartbeats 2000000 in
theorem zst:∀(n:Nat)(s:Z),s.length≤n→M.z6y (unb s)=some (VK (Lib.validD s)):=by intro n;induction n with|zero=>intro s V;obtain rfl:s=[]:=List.eq_nil_of_length_eq_zero (by omega);rw[M.z6y.eq_1];rfl|succ n ih=>
  intro s V;by_cases m:s=[];·grind
  have o:0<s.length:=yar.2 m;rw[M.z6y.eq_1];have S:(0:Int)<((unb s).length:Int):=by rw[zl];omega
  have x0:ix (unb s) 0=some (((s.getD 0 0).toNat:Nat):Int):=zty (i:=0) o;simp only[S,decide_true,if_true,x0,yb,yd];by_cases U:(s.getD 0 0).toNat<128
  ·have j:(((s.getD 0 0).toNat:Nat):Int)<128:=by omega
   have B:sub (unb s) 1 ((unb s).length:Int)=some (unb (s.drop 1)):=z8h (k:=1) (by omega);have v:(s.drop 1).length<s.length:=by simp;omega
   have a0:∀b∈s.take 1,b.toNat<128:=by
    obtain⟨c,r,rfl⟩:∃c r,s=c::r:=by cases s with|nil=>grind|cons c r=>simp
    intro b C;simp only[ya3,ya4,yax]at C;subst C;simpa using U
   have fin:∀k:Nat,(∀b∈(s.drop 1).take k,b.toNat<128)→((M.z6y (unb ((s.drop 1).drop k))).bind fun r=>some (Jn.done r:Jn (Jn Bool Unit) Unit))=some (.done (VK (Lib.validD s))):=fun k hk=>by grind[Lib.validD_ascii]
   simp only[j,decide_true,if_true,B,yd];generalize s.drop 1=t at B v fin;by_cases h8:8<t.length
   ·have l:(8:Int)<((unb t).length:Int):=by rw[zl];omega
    obtain⟨W0,p,K,L⟩:=zdh (s:=t) (by omega);simp only[l,decide_true,if_true,K,yd];rw[zx9 p];by_cases D:W0&&&hiB=0
    ·have R:sub (unb t) 8 ((unb t).length:Int)=some (unb (t.drop 8)):=z8h (k:=8) (by omega);simp only[D,decide_true,if_true,R,yd];have E:=L D;by_cases T:16<(t.drop 8).length
     ·have d:(16:Int)<((unb (t.drop 8)).length:Int):=by rw[zl];omega
      obtain⟨I,x,z,c1⟩:=zdh (s:=t.drop 8) (by omega);obtain⟨J,y,A,N⟩:=zdh (s:=(t.drop 8).drop 8) (by grind);have u:sub (unb (t.drop 8)) 8 ((unb (t.drop 8)).length:Int)=some (unb ((t.drop 8).drop 8)):=z8h (k:=8) (by omega);have q:sub (unb (t.drop 8)) 16 ((unb (t.drop 8)).length:Int)=some (unb ((t.drop 8).drop 16)):=z8h (k:=16) (by omega);simp only[d,decide_true,if_true,u,z,A,yd];rw[z8g x y,zx9 (zfe x y)];by_cases a:(I|||J)&&&hiB=0;·simp only[a,decide_true,if_true,q,yd];obtain⟨k,k1,W⟩:=zsu _ ((t.drop 8).drop 16) (ya5 _);simp only[Lib.or_mask]at a;have w:=z9o (c1 a.1) (N a.2);have X:=z9o w W;have Y:=z9o E X;have f:=fin (8+(8+8+k)) Y;grind[yab]
      ·have f:=fin 8 E;grind
     ·have d:¬(16:Int)<((unb (t.drop 8)).length:Int):=by rw[zl];omega
      grind
    ·have f:=fin 0 (by simp);grind
   ·have l:¬(8:Int)<((unb t).length:Int):=by rw[zl];omega
    have f:=fin 0 (by simp);grind
  ·have j:¬(((s.getD 0 0).toNat:Nat):Int)<128:=by omega
   have g:=zg4 (b:=s.getD 0 0);have hF:=zz032 (s.getD 0 0).toNat;have e:=zz02f ⟨Lib.firstT (s.getD 0 0).toNat,hF⟩;simp only at e;rw[Lib.validD_lead s m (by omega)];simp only[j,decide_false,ym,if_false,yd,zz031 g,shr4,zz0b2 (i:=Lib.firstT (s.getD 0 0).toNat/16) (by omega),e];generalize Lib.firstT (s.getD 0 0).toNat%8=sz;generalize Lib.accLo (Lib.firstT (s.getD 0 0).toNat/16)=lo;generalize Lib.accHi (Lib.firstT (s.getD 0 0).toNat/16)=hi;have hl:((unb s).length:Int)=(s.length:Int):=by rw[zl]
   have F:1<s.length→ix (unb s) 1=some (((s.getD 1 0).toNat:Nat):Int):=fun h=>zty (i:=1) h;have G:2<s.length→ix (unb s) 2=some (((s.getD 2 0).toNat:Nat):Int):=fun h=>zty (i:=2) h;have H:3<s.length→ix (unb s) 3=some (((s.getD 3 0).toNat:Nat):Int):=fun h=>zty (i:=3) h;have O:2≤s.length→sub (unb s) 2 ((unb s).length:Int)=some (unb (s.drop 2)):=fun h=>z8h (k:=2) h;have P:3≤s.length→sub (unb s) 3 ((unb s).length:Int)=some (unb (s.drop 3)):=fun h=>z8h (k:=3) h;have Q:4≤s.length→sub (unb s) 4 ((unb s).length:Int)=some (unb (s.drop 4)):=fun h=>z8h (k:=4) h;rw[hl]at O P Q;simp only[hl];generalize(s.getD 1 0).toNat=z at F;generalize(s.getD 2 0).toNat=A at G;generalize(s.getD 3 0).toNat=b3 at H;unfold Lib.checkN;have no:some (Jn.done false:Jn Bool Unit)=some (VK false):=rfl;by_cases z2:sz=2;·grind
   ·have z2i:¬((sz:Nat):Int)=2:=by omega
    simp only[z2,z2i,decide_false,ym,if_false];by_cases z3:sz=3;·grind
    ·have z3i:¬((sz:Nat):Int)=3:=by omega
     simp only[z3,z3i,decide_false,ym,if_false];by_cases z4:sz=4
     ·have z4i:((sz:Nat):Int)=4:=by omega
      simp only[z4,z4i,decide_true,if_true];by_cases w:s.length<4;·grind
      ·have q1i:¬(s.length:Int)<4:=by omega
       simp only[w,q1i,decide_false,ym,if_false,false_or,F (by omega),G (by omega),H (by omega),yd];grind
     grind
theorem zz05b(s:Z):M.valid (unb s)=some (Lib.validD s):=by unfold M.valid;have b:sub (unb s) 0 ((unb s).length:Int)=some (unb s):=zan (a:=0) (yba _);have h:((unb s).length:Int)≤((unb s).length:Int):=ybb _;rw[z3k (by simp)];simp only[yb,yd,b,zst _ s (ya5 _)];cases Lib.validD s<;>rfl
section
abbrev RR:=q0d
def At(s r:Z)(i:Nat):Prop:=s.drop i=r∧i≤s.length
section
variable{s r:Z}{c:UInt8}{i:Nat}
theorem At.len(h:At s r i):i+r.length=s.length:=by obtain⟨a,h2⟩:=h;grind
theorem At.nil(h:At s [] i):i=s.length:=by simpa using h.len
theorem At.cons(h:At s (c::r) i):s[i]?=some c∧At s r (i+1)∧i<s.length:=by obtain⟨b,h2,a⟩:=zma h.1;exact⟨b,⟨h2,a⟩,a⟩
theorem At.drop(h:At s r i){k:Nat}(a:k≤r.length):At s (r.drop k) (i+k):=by have:=h.len;exact⟨by rw[←h.1,yab],by omega⟩
theorem At.start:At s s 0:=⟨rfl,yba _⟩
theorem w64s{n:Nat}(h:n<4611686018427387904):ybd .i64 ((n:Nat):Int)=(n:Int):=w64 (by omega) (by omega)
theorem wnat{n m:Nat}(h:n+m<4611686018427387904):ybd .i64 ((n:Int)+(m:Int))=((n+m:Nat):Int):=wadd h
theorem zmw(t:s.length<1000000)(g e:Int):∀(r:Z)(i:Nat),At s r i→∃j,At s (z10 r) j∧M.z1j ⟨s,g,e⟩ (i:Int)=some ⟨s,(j:Int),e⟩:=by intro r;induction r with|nil=>intro i h;have:=h.nil;refine⟨i,h,?_⟩;grind[M.z1j.eq_1]|cons c r k=>
  intro i h;obtain⟨b,h2,q⟩:=h.cons;have d:(i:Int)<(s.length:Int):=by omega
  have l:(c.toNat:Int)=32↔c=32:=toNat_eq (n:=32) (by omega);have m:(c.toNat:Int)=9↔c=9:=toNat_eq (n:=9) (by omega);have o:(c.toNat:Int)=10↔c=10:=toNat_eq (n:=10) (by omega);have p:(c.toNat:Int)=13↔c=13:=toNat_eq (n:=13) (by omega);rw[M.z1j.eq_1];simp only[d,decide_true,if_true,z3f,b,yb,yd,l,m,o,p];have a:=zz0be c;cases f:bl c with|true=>obtain⟨j,u,v⟩:=k (i+1) h2;refine⟨j,by simp_all[z10],?_⟩;rw[f]at a;simp only[Bool.true_eq,Bool.or_eq_true,decide_eq_true_eq]at a;grind[w1]|false=>refine⟨i,by grind[zha],?_⟩;grind
theorem z62(a:s.length<1000000)(e:Int)(h:At s r i):∃j,At s (z10 r) j∧M.q53 ⟨s,(i:Int),e⟩=some ⟨s,(j:Int),e⟩:=zmw a _ e r i h
theorem zk5(b:s.length<1000000)(e:Int)(i:Nat):∃j:Nat,j≤max i s.length∧M.q53 ⟨s,(i:Int),e⟩=some ⟨s,(j:Int),e⟩:=by
 by_cases h:i≤s.length;·obtain⟨j,a,h2⟩:=z62 b e (r:=s.drop i) ⟨rfl,h⟩;exact⟨j,by have:=a.2;omega,h2⟩
 grind[M.q53,M.z1j.eq_1]
def hd:Z→Int|[]=>0|c::_=>(c.toNat:Int)
theorem z6v(e:Int)(h:At s r i):M.q51 ⟨s,(i:Int),e⟩=some (hd r):=by unfold M.q51;cases r with|nil=>have:=h.nil;grind[hd]|cons c r=>obtain⟨a,h2,b⟩:=h.cons;grind[hd,z3f]
theorem zc4(e:Int)(i:Nat):∃c:Int,M.q51 ⟨s,(i:Int),e⟩=some c:=by
 by_cases h:i≤s.length;·exact⟨_,z6v e (r:=s.drop i) ⟨rfl,h⟩⟩
 ·refine⟨0,?_⟩;grind[M.q51]
theorem z3w(i c:Int):M.q5b ⟨s,i,0⟩ c=some ⟨s,i,c⟩:=by rfl
theorem zda{i c e:Int}(h:¬e=0):M.q5b ⟨s,i,e⟩ c=some ⟨s,i,e⟩:=by simp[M.q5b,h]
def hexs:Z→Nat→Option Nat|[],a=>some a|c::r,a=>match z7b c with|none=>none|some d=>hexs r (16*a+d)
theorem zyq(c:UInt8):isD c=true∧48≤c.toNat∧c.toNat≤57∧z7b c=some (c.toNat-48)∨isD c=false∧97≤c.toNat∧c.toNat≤102∧z7b c=some (c.toNat-87)∨isD c=false∧65≤c.toNat∧c.toNat≤70∧z7b c=some (c.toNat-55)∨isD c=false∧¬(97≤c.toNat∧c.toNat≤102)∧¬(65≤c.toNat∧c.toNat≤70)∧z7b c=none:=by unfold z7b;cases h:isD c with|true=>left;simp only[isD,yg,decide_eq_true_eq]at h;grind|false=>grind
theorem zry(g e:Int)(b:Nat)(z:b+6≤s.length)(B:s.length<1000000):∀(n k acc m:Nat),b+6-k=n→k≤b+6→m+n≤4→acc<16^m→M.z0w (b:Int) ⟨s,g,e⟩ (acc:Int) (k:Int)=some (match hexs ((s.drop k).take n) acc with|some v=>.go (v:Int)|none=>.done (-1)):=by
 intro n
 induction n with|zero=>
  intro k acc m hn t u q;rw[M.z0w.eq_1,show(b:Int)+6=((b+6:Nat):Int)by omega,w64s (by omega)];have p:¬(k:Int)<((b+6:Nat):Int):=by omega
  simp_all[if_neg,hexs]|succ n x=>
  intro k acc m hn t u q;have f:k<s.length:=by omega
  have r:acc<65536:=Nat.lt_of_lt_of_le q (show 16^m≤16^4 from ya9 (by decide) (by omega));rw[M.z0w.eq_1,show(b:Int)+6=((b+6:Nat):Int)by omega,w64s (by omega)];have p:(k:Int)<((b+6:Nat):Int):=by omega
  rw[zte f,ya3];simp only[p,decide_true,if_true,z3f,yaj f,yb,yd,z5w];generalize s[k]=c;have A:=zg4 (b:=c);have step:∀d:Nat,d<16→z7b c=some d→M.z0w (b:Int) ⟨s,g,e⟩ ((16*acc+d:Nat):Int) ((k+1:Nat):Int)=some (match hexs (c::(s.drop (k+1)).take n) acc with|some v=>.go (v:Int)|none=>.done (-1)):=fun d hd w=>by rw[x (k+1) (16*acc+d) (m+1) (by omega) (by omega) (by omega) (by omega)];rw[hexs,w]
  have l:ybd .i64 (16*(acc:Int))=((16*acc:Nat):Int):=by rw[w64]<;>omega
  rw[w1 (by omega),l];rcases zyq c with⟨k1,o,k3,j⟩|⟨k1,o,k3,j⟩|⟨k1,o,k3,j⟩|⟨k1,o,k3,j⟩
  ·have a:ybd .u8 ((c.toNat:Int)-48)=((c.toNat-48:Nat):Int):=by rw[wu8];omega
   simp only[k1,if_true];rw[a,w64s (by omega),wnat (by omega)];grind
  ·have a:ybd .u8 ((c.toNat:Int)-97)=((c.toNat-97:Nat):Int):=by rw[wu8];omega
   have h:(97:Int)≤(c.toNat:Int):=by omega
   have i:(c.toNat:Int)≤102:=by omega
   simp only[k1,ym,if_false,h,i,decide_true,yi,if_true];rw[a,w64s (by omega),wnat (by omega),show((16*acc+(c.toNat-97):Nat):Int)+10=((16*acc+(c.toNat-87):Nat):Int)by omega,w64s (by omega)];grind
  ·have a:ybd .u8 ((c.toNat:Int)-65)=((c.toNat-65:Nat):Int):=by rw[wu8];omega
   have y:¬(97:Int)≤(c.toNat:Int):=by omega
   have h:(65:Int)≤(c.toNat:Int):=by omega
   have i:(c.toNat:Int)≤70:=by omega
   simp only[k1,ym,if_false,y,h,i,decide_true,decide_false,yl,yi,if_true];rw[a,w64s (by omega),wnat (by omega),show((16*acc+(c.toNat-65):Nat):Int)+10=((16*acc+(c.toNat-55):Nat):Int)by omega,w64s (by omega)];grind
  ·have h:(decide ((97:Int)≤(c.toNat:Int))&&decide ((c.toNat:Int)≤102))=false:=by rw[yf,decide_eq_false_iff_not,decide_eq_false_iff_not];omega
   have i:(decide ((65:Int)≤(c.toNat:Int))&&decide ((c.toNat:Int)≤70))=false:=by rw[yf,decide_eq_false_iff_not,decide_eq_false_iff_not];omega
   simp only[k1,ym,if_false,h,i];rw[hexs,j]
theorem hexs4(a b c d:UInt8):hexs [a,b,c,d] 0=(z7b a).bind fun e=>(z7b b).bind fun f=>(z7b c).bind fun g=>(z7b d).bind fun hd=>some (16*(16*(16*e+f)+g)+hd):=by simp only[hexs];grind
def unitN(r:Z):Int:=match unit r with|some (n,_)=>(n:Int)|none=>-1
theorem zwn{r:Z}(h:r.length<6):unit r=none:=by cases a:unit r with|none=>rfl|some p=>obtain⟨n,b⟩:=p;have:=(zbl a).2;omega
theorem zq7{r a:Z}{n:Nat}(h:unit r=some (n,a)):a=r.drop 6∧6≤r.length:=by have hl:=(zbl h).2;refine⟨?_,by omega⟩;unfold unit at h;grind[Option.bind_eq_some_iff]
theorem zj3(v:s.length<1000000)(g e:Int)(h:At s r i):M.q57 ⟨s,g,e⟩ (i:Int)=some (unitN r):=by
 have hl:=h.len;unfold M.q57 unitN;rw[show(i:Int)+6=((i+6:Nat):Int)by omega,w64s (by omega)];by_cases f:r.length<6
 ·have k:(s.length:Int)<((i+6:Nat):Int):=by omega
  simp_all[zwn]
 ·have k:¬(s.length:Int)<((i+6:Nat):Int):=by omega
  obtain⟨x,y,a,b,c,d,t,rfl⟩:∃x y a b c d t,r=x::y::a::b::c::d::t:=by match r with|x::y::a::b::c::d::t=>simp|[]=>simp at f|[_]=>simp at f|[_,_]=>simp at f|[_,_,_]=>simp at f|[_,_,_,_]=>simp at f|[_,_,_,_,_]=>simp at f
  obtain⟨o,p,_⟩:=h.cons;obtain⟨q,u,_⟩:=p.cons;have z:(x.toNat:Int)=92↔x=92:=toNat_eq (n:=92) (by omega);have A:(y.toNat:Int)=117↔y=117:=toNat_eq (n:=117) (by omega);rw[w1 (by omega),show(i:Int)+2=((i+2:Nat):Int)by omega,w64s (by omega)];simp only[yan]at hl;have j:=zry g e i (by omega) v 4 (i+2) 0 0 (by omega) (by omega) (by omega) (by decide);rw[u.1]at j;have m:(a::b::c::d::t).take 4=[a,b,c,d]:=rfl;rw[m,hexs4]at j;have j:M.z0w (i:Int) ⟨s,g,e⟩ 0 ((i+2:Nat):Int)=_:=j;simp only[k,decide_false,ym,if_false,z3f,o,q,yb,yd,z,A,j];unfold unit;by_cases l:x=92
  ·by_cases w:y=117;·simp only[l,w,decide_true,yr,ym,if_false,and_self,if_true];cases z7b a with|none=>rfl|some B=>cases z7b b with|none=>rfl|some C=>cases z7b c with|none=>rfl|some D=>grind[z7b]
   grind
  ·simp[l]
theorem zw3(n:s.length<1000000)(e:Int){c:UInt8}(g:s[i+1]?=some c):M.z0c ⟨s,(i:Int),e⟩ 0=some (match esc1 c with|some y=>.done ([y],⟨s,((i+2:Nat):Int),e⟩)|none=>.go ()):=by
 have l:i+1<s.length:=(List.getElem?_eq_some_iff.1 g).1;have st:∀(k:Nat)(x y:UInt8),k<8→(B35:Z)[k]?=some x→([34,92,47,8,12,10,13,9]:Z)[k]?=some y→M.z0c ⟨s,(i:Int),e⟩ (k:Int)=if c=x then some (.done ([y],⟨s,((i+2:Nat):Int),e⟩))else M.z0c ⟨s,(i:Int),e⟩ ((k+1:Nat):Int):=by
  intro k x y m j h2;rw[M.z0c.eq_1];have b:(k:Int)<((B35:Z).length:Int):=by simp only[yan,yaq];omega
  have h:k<([34,92,47,8,12,10,13,9]:Z).length:=by simp only[yan,yaq];omega
  have d:([34,92,47,8,12,10,13,9]:Z)[k]=y:=by have:=yaj h;rw[h2]at this;exact(Option.some.inj this).symm
  have tx:(c.toNat:Int)=(x.toNat:Int)↔c=x:=by
   constructor;·grind[ybe]
   ·grind
  rw[w1 (by omega),sub_1 h (by simp),d,w1 (by omega),show(i:Int)+2=((i+2:Nat):Int)by omega,w64s (by omega)];simp only[b,decide_true,if_true,z3f,g,j,yb,yd,tx];by_cases a:c=x;·simp[a]
  ·simp[a]
 have en:M.z0c ⟨s,(i:Int),e⟩ ((8:Nat):Int)=some (.go ()):=by rw[M.z0c.eq_1];simp
 have f:=st 0 34 34 (by omega) rfl rfl;have f:M.z0c ⟨s,(i:Int),e⟩ 0=_:=f;rw[f,st 1 92 92 (by omega) rfl rfl,st 2 47 47 (by omega) rfl rfl,st 3 98 8 (by omega) rfl rfl,st 4 102 12 (by omega) rfl rfl,st 5 110 10 (by omega) rfl rfl,st 6 114 13 (by omega) rfl rfl,st 7 116 9 (by omega) rfl rfl,en];unfold esc1;grind
theorem zz07v{n:Nat}(h:zu3 n=false):(decide ((n:Int)<55296)||decide (56319<(n:Int)))=!zmc n:=by unfold zu3 at h;unfold zmc;grind
def EscOk(s:Z)(z:Option (Z×RR)):Option (Z×Z)→Prop|some (t,a)=>∃j,At s a j∧z=some (t,⟨s,(j:Int),0⟩)|none=>∃j:Nat,j≤s.length∧z=some ([],⟨s,(j:Int),20⟩)
theorem zk6(j:s.length<1000000)(h:At s (92::r) i):EscOk s (M.q56 ⟨s,(i:Int),0⟩) (zho (92::r)):=by
 obtain⟨O,w,P⟩:=h.cons;have hl:=h.len
 simp only[yan]at hl;have four:=zj3 j (i:Int) 0 h;unfold M.q56;rw[w1 (by omega)];cases r with|nil=>
  have hn:¬((i+1:Nat):Int)<(s.length:Int):=by simp only[yaq]at hl;omega
  have u:zho [92]=none:=rfl;rw[u];refine⟨i,by omega,?_⟩;have k:unitN [92]=-1:=rfl;simp_all[z3w]|cons c r=>
  obtain⟨x,z,Q⟩:=w.cons;have B:((i+1:Nat):Int)<(s.length:Int):=by omega
  simp only[B,decide_true,if_true,zw3 j 0 x,yb,yd];cases A:esc1 c with|some y=>rw[show zho (92::c::r)=some ([y],r)by simp[zho,A]];exact⟨i+2,z,rfl⟩|none=>simp only[four,yd];unfold unitN;cases k:unit (92::c::r)with|none=>rw[show zho (92::c::r)=none by grind[zho]];exact⟨i,by omega,by rfl⟩|some p=>
    obtain⟨n,l⟩:=p;obtain⟨V,W⟩:=zbl k;obtain⟨K,L⟩:=zq7 k;have b:At s l (i+6):=by rw[K];exact h.drop L
    have g:¬(n:Int)<0:=by omega
    have v:ybd .i64 ((i:Int)+6)=((i+6:Nat):Int):=by rw[w64]<;>omega
    have f:ybd .i32 (n:Int)=(n:Int):=w32 (by omega) (by omega);simp only[g,decide_false,yn,rng3,v,f];cases c1:zu3 n with|true=>rw[show zho (92::c::r)=none by grind[zho]];exact⟨i,by omega,by rfl⟩|false=>simp only[ym,if_false,zz07v c1];cases q:zmc n with|false=>rw[show zho (92::c::r)=some (encS (n:Int),l)by grind[zho]];exact⟨i+6,b,by simp⟩|true=>have four2:=zj3 j ((i+6:Nat):Int) 0 b;simp only[yr,ym,if_false,Bool.true_eq_false,four2,yd];unfold unitN;have a6l:=b.2;cases a:unit l with|none=>rw[show zho (92::c::r)=none by grind[zho]];exact⟨i+6,a6l,by rfl⟩|some J=>
       obtain⟨m,o⟩:=J;obtain⟨X,Y⟩:=zbl a;obtain⟨N,u8⟩:=zq7 a;have d:At s o (i+6+6):=by rw[N];exact b.drop u8
       simp only[rng1];cases t:zu3 m with|false=>rw[show zho (92::c::r)=none by grind[zho]];exact⟨i+6,a6l,by rfl⟩|true=>
        obtain⟨R,S⟩:=zyr q;obtain⟨T,U⟩:=zz068 t;have e:ybd .i64 (((i+6:Nat):Int)+6)=((i+6+6:Nat):Int):=by rw[w64]<;>omega
        have C:ybd .i64 ((n:Int)-55296)=(n:Int)-55296:=w64 (by omega) (by omega);have D:ybd .i64 (1024*((n:Int)-55296))=1024*((n:Int)-55296):=w64 (by omega) (by omega);have E:ybd .i64 (65536+1024*((n:Int)-55296))=65536+1024*((n:Int)-55296):=w64 (by omega) (by omega);have F:ybd .i64 (65536+1024*((n:Int)-55296)+(m:Int))=65536+1024*((n:Int)-55296)+(m:Int):=w64 (by omega) (by omega);have G:ybd .i64 (65536+1024*((n:Int)-55296)+(m:Int)-56320)=65536+1024*((n:Int)-55296)+(m:Int)-56320:=w64 (by omega) (by omega);have H:ybd .i32 (65536+1024*((n:Int)-55296)+(m:Int)-56320)=65536+1024*((n:Int)-55296)+(m:Int)-56320:=w32 (by omega) (by omega);have I:65536+1024*((n:Int)-55296)+(m:Int)-56320=65536+((n:Int)-55296)*1024+(m:Int)-56320:=by omega
        rw[show zho (92::c::r)=some (encS (65536+((n:Int)-55296)*1024+(m:Int)-56320),o)by grind[zho]];simp only[if_true,e,C,D,E,F,G,H];rw[I];exact⟨i+6+6,d,by simp⟩
theorem za8{acc:List Int}{j:Int}:M.z18 acc ⟨s,j,20⟩=some (.go ⟨s,j,20⟩):=by rw[M.z18.eq_1];simp
def TxtOk(s:Z)(z:Option (Jn (Z×RR) RR)):Option (Z×Z)→Prop|some (t,a)=>∃j,At s a j∧z=some (.done (t,⟨s,(j:Int),0⟩))|none=>∃j:Nat,j≤s.length+1∧((∃t,z=some (.done (t,⟨s,(j:Int),20⟩)))∨z=some (.go ⟨s,(j:Int),20⟩))
def zz0ay(s:Z)(z:Option (Z×RR)):Option (Z×Z)→Prop|some (t,a)=>∃j,At s a j∧z=some (t,⟨s,(j:Int),0⟩)|none=>∃t,∃j:Nat,j≤s.length+1∧z=some (t,⟨s,(j:Int),20⟩)
theorem zrz(y:s.length<1000000):∀(f:Nat)(r acc:Z)(i:Nat),r.length<f→At s r i→acc.length+4*r.length<1000000000→TxtOk s (M.z18 (unb acc) ⟨s,(i:Int),0⟩) (txt f r acc):=by intro f;induction f with|zero=>omega|succ f z=>intro r acc i hf h w;have hl:=h.len;rw[M.z18.eq_1];simp only[decide_true,if_true,z6v 0 h,yb,yd];cases r with|nil=>rw[txt];refine⟨i,by omega,.inr ?_⟩;simp[hd,z3w,za8]|cons c r=>
   obtain⟨B,u,C⟩:=h.cons;simp only[yan]at hf hl w;have o:(c.toNat:Int)=34↔c=34:=toNat_eq (n:=34) (by omega);have q:(c.toNat:Int)=92↔c=92:=toNat_eq (n:=92) (by omega);have m:(c.toNat:Int)<32↔c.toNat<32:=by omega
   simp only[hd,o,q,m];rw[txt];by_cases a:c=34
   ·subst a;have l:¬(34:UInt8).toNat<32:=by decide
    simp only[l,if_false,if_true,decide_true,zz05b acc,yd];rw[w1 (by omega)];cases D:Lib.validD acc with|true=>exact⟨i+1,u,by simp[z74]⟩|false=>exact⟨i+1,by omega,.inl ⟨acc,by simp[z74,z3w]⟩⟩
   ·by_cases b:c.toNat<32;·simp only[b,a,if_true,decide_true,decide_false,ym,if_false,z3w,yd];exact⟨i,by omega,.inr za8⟩
    ·by_cases d:c=92;·subst d;have e:=zk6 y h;simp only[b,a,if_true,decide_true,decide_false,ym,if_false];cases k:zho (92::r)with|none=>rw[k]at e;obtain⟨j,A,v⟩:=e;simp only[v,yd];have g:app 1 (unb acc) (unb [])=some (unb acc++unb []):=z0h (by grind[unb]);simp only[g,yd];exact⟨j,by omega,.inr za8⟩|some p=>obtain⟨t,E⟩:=p;rw[k]at e;obtain⟨j,A,v⟩:=e;have x:=zgy k;grind[unb,z0h,z0j]
     ·simp only[b,a,d,if_true,decide_true,decide_false,ym,if_false];have g:app 1 (unb acc) [(c.toNat:Int)]=some (unb acc++[(c.toNat:Int)]):=z0h (by grind[unb]);simp only[g,yd];rw[w1 (by omega),show unb acc++[(c.toNat:Int)]=unb (acc++[c])by simp[unb]];exact z r (acc++[c]) (i+1) (by omega) u (by simp;omega)
theorem zj4(m:s.length<1000000)(h:At s r i):zz0ay s (M.q58 ⟨s,(i:Int),0⟩) (text r):=by have hl:=h.len;unfold M.q58;simp only[z6v 0 h,yb,yd];cases r with|nil=>exact⟨[],i,by omega,by rfl⟩|cons c r=>
  obtain⟨_,l,_⟩:=h.cons;have f:(c.toNat:Int)=34↔c=34:=toNat_eq (n:=34) (by omega);simp only[hd,f];by_cases a:c=34;·rw[show text (c::r)=txt (r.length+1) r []by simp[text,a]];simp only[a,decide_true,yr,ym,if_false,if_true];rw[w1 (by omega)];have b:=zrz m (r.length+1) r [] (i+1) (by omega) l (by grind);have k:unb ([]:Z)=[]:=rfl;rw[k]at b;cases g:txt (r.length+1) r []with
   |none=>
    rw[g]at b;obtain⟨j,d,e⟩:=b;rcases e with⟨t,e⟩|e;·exact⟨t,j,d,by grind⟩
    ·exact⟨[],j,d,by grind⟩|some p=>obtain⟨t,o⟩:=p;rw[g]at b;obtain⟨j,d,e⟩:=b;exact⟨j,d,by grind⟩
  ·rw[zz01h a];exact⟨[],i,by omega,by simp[a,z3w]⟩
theorem zs1(n:s.length<1000000)(e:Int)(h:At s r i):M.z0x ⟨s,(i:Int),e⟩ 0=some (if(B30:Z).isPrefixOf r=true then .done (⟨0,[],[],[]⟩,⟨s,((i+4:Nat):Int),e⟩)else if(B22:Z).isPrefixOf r=true then .done (⟨1,[],[],[]⟩,⟨s,((i+5:Nat):Int),e⟩)else if(B31:Z).isPrefixOf r=true then .done (⟨2,[],[],[]⟩,⟨s,((i+4:Nat):Int),e⟩)else .go ()):=by
 have hl:=h.len;have st:∀(k:Nat)(p:Z),k<3→p.length<10→[(B30:Z),(B22:Z),(B31:Z)][k]?=some p→M.z0x ⟨s,(i:Int),e⟩ (k:Int)=if p.isPrefixOf r=true then some (.done (⟨(k:Int),[],[],[]⟩,⟨s,((i+p.length:Nat):Int),e⟩))else M.z0x ⟨s,(i:Int),e⟩ ((k+1:Nat):Int):=by
  intro k p l m f;rw[M.z0x.eq_1];have a:(k:Int)<3:=by omega
  have b:ybd .i64 ((s.length:Int)-(i:Int))=(r.length:Int):=by rw[w64]<;>omega
  rw[b,w1 (by omega)];have c:ybd .i64 ((i:Int)+(p.length:Int))=((i+p.length:Nat):Int):=wnat (by omega);simp only[a,decide_true,if_true,z3f,f,yb,yd,c];by_cases d:p.length≤r.length
  ·have j:sub s (i:Int) ((i+p.length:Nat):Int)=some (r.take p.length):=by rw[zgu (by omega) (by omega),yae,h.1];congr 2;omega
   simp_all[zuj]
  ·grind
 have en:M.z0x ⟨s,(i:Int),e⟩ ((3:Nat):Int)=some (.go ()):=by rw[M.z0x.eq_1];simp
 have g:M.z0x ⟨s,(i:Int),e⟩ 0=_:=st 0 B30 (by omega) (by decide) rfl;rw[g,st 1 B22 (by omega) (by decide) rfl,st 2 B31 (by omega) (by decide) rfl,en];simp only[yan,yaq];split;·rfl
 ·split;·rfl
  ·split<;>rfl
def zz0b1(s:Z)(z:Option (q04×RR)):Rd→Prop|.ok (x,b)=>∃a j,At s a j∧z10 a=b∧z=some (x,⟨s,(j:Int),0⟩)|.pan c=>c=20∧∃x,∃j:Nat,j≤s.length∧z=some (x,⟨s,(j:Int),20⟩)
theorem zs0(l:s.length<1000000)(h:At s r i):zz0b1 s (M.q5a ⟨s,(i:Int),0⟩) (word r):=by
 have hl:=h.len;unfold M.q5a word take;rw[zs1 l 0 h];by_cases b:(B30:Z).isPrefixOf r=true;·have:=ziu b;simp only[b,if_true,yb,yd];exact⟨_,i+4,h.drop this,rfl,rfl⟩
 ·by_cases c:(B22:Z).isPrefixOf r=true;·have:=ziu c;simp only[b,c,if_true,yb,yd,if_false,ym];exact⟨_,i+5,h.drop this,rfl,rfl⟩
  ·by_cases d:(B31:Z).isPrefixOf r=true;·have:=ziu d;simp only[b,c,d,if_true,yb,yd,if_false,ym];exact⟨_,i+4,h.drop this,rfl,rfl⟩
   ·have f:sub s (i:Int) (s.length:Int)=some r:=by rw[zan (by omega),h.1]
    simp only[b,c,d,yb,yd,if_false,ym,f];rw[zeo (by omega)];simp only[yd];have hn:=zp1 r;by_cases e:num r=0
    ·have a:((num r:Nat):Int)=0:=by omega
     simp only[e,if_true];exact⟨rfl,⟨0,[],[],[]⟩,i,by omega,by rfl⟩
    ·have a:¬((num r:Nat):Int)=0:=by omega
     have g:ybd .i64 ((i:Int)+((num r:Nat):Int))=((i+num r:Nat):Int):=wnat (by omega);have j:ybd .i64 (((i+num r:Nat):Int)-((num r:Nat):Int))=(i:Int):=by rw[w64]<;>omega
     have k:sub s (i:Int) ((i+num r:Nat):Int)=some (r.take (num r)):=by rw[zgu (by omega) (by omega),yae,h.1];congr 2;omega
     simp only[e,a,if_false,decide_false,ym,g,j,k,yd];exact⟨_,i+num r,h.drop hn,rfl,rfl⟩
end
end
section
section
variable{s r:Z}{c:UInt8}{i:Nat}
abbrev RL:=q0d×List q04×List Z
def keyX(s:Z)(i:Int)(a:List Z):Option (q0d×List Z):=do let a_2170←M.q53 (q0d.mk s i 0)let a_2172←M.q58 a_2170;let l_2174←app 16 a [a_2172.1]let j_2194←(do let j_2198←(do if decide (a_2172.2.ge=0)then let a_2199←M.q5c l_2174;some a_2199;else some false:Option Bool)if j_2198 then let a_2201←M.q5b a_2172.2 20;some a_2201;else some a_2172.2:Option q0d)let a_2203←M.q53 j_2194;let j_2216←(do let a_2217←M.q51 a_2203;if !decide (a_2217=58)then let a_2219←M.q5b a_2203 20;some a_2219;else some a_2203:Option q0d)some (q0d.mk j_2216.gs (ybd .i64 (j_2216.gi+1)) j_2216.ge,l_2174)
def zwk(b:Int)(self:RR→Int→Option (q04×RR))(a:Int)(s:Z)(i e:Int)(l:List q04)(c:List Z):Option RL:=do let j_2231←(do if decide (e=0)then let a_2232←self (q0d.mk s i e) (ybd .i64 (a+1))let l_2234←app 72 l [a_2232.1]some (a_2232.2,l_2234)else some (q0d.mk s i e,l):Option (q0d×List q04))let a_2235←M.q51 j_2231.1;if decide (a_2235=44)then M.z06 b self a (decide (a_2235=44)) (q0d.mk j_2231.1.gs (ybd .i64 (j_2231.1.gi+1)) j_2231.1.ge) j_2231.2 c;else M.z06 b self a (decide (a_2235=44)) j_2231.1 j_2231.2 c
theorem zz083(self:RR→Int→Option (q04×RR))(b:Int)(s:Z)(i:Int)(l:List q04)(a:List Z):M.z06 91 self b true ⟨s,i,0⟩ l a=zwk 91 self b s i 0 l a:=by rw[M.z06.eq_1];simp only[zmj];rfl
theorem zz0c3(self:RR→Int→Option (q04×RR))(b:Int)(s:Z)(i:Int)(l:List q04)(a:List Z):M.z06 123 self b true ⟨s,i,0⟩ l a=(keyX s i a).bind fun j=>zwk 123 self b j.1.gs j.1.gi j.1.ge l j.2:=by rw[M.z06.eq_1];simp only[zmj];rfl
theorem zb1(c:Int)(self:RR→Int→Option (q04×RR))(d:Int)(b:Bool)(s:Z)(i e:Int)(l:List q04)(a:List Z)(h:b=false∨¬e=0):M.z06 c self d b ⟨s,i,e⟩ l a=some (⟨s,i,e⟩,l,a):=by rw[M.z06.eq_1];grind
def KeyOk(s:Z)(z:Option (q0d×List Z)):Rs (Z×List Z)→Prop|.ok (e,b)=>∃d j,At s d j∧z10 d=e∧z=some (⟨s,(j:Int),0⟩,b)|.pan c=>c=20∧∃(j:Nat)(a:List Z),j≤s.length+3∧z=some (⟨s,(j:Int),20⟩,a)
theorem zz086(l:s.length<1000000){a:List Z}(R:a.length<1000000)(hn:a.Nodup)(h:At s r i):KeyOk s (keyX s (i:Int) a) (zwu (z10 r) a):=by
 obtain⟨S,F,G⟩:=z62 l 0 h;have m:=zj4 l F;unfold keyX zwu;simp only[G,yb,yd];have bad:∀(j:Nat)(t:Z),j≤s.length+1→∃(g:Nat),g≤s.length+3∧((M.q53 ⟨s,(j:Int),20⟩).bind fun a_2203=>((M.q51 a_2203).bind fun a_2217=>if !decide (a_2217=58)then(M.q5b a_2203 20).bind fun a_2219=>some a_2219 else some a_2203).bind fun j_2216=>some (q0d.mk j_2216.gs (ybd .i64 (j_2216.gi+1)) j_2216.ge,a++[t]))=some (⟨s,(g:Int),20⟩,a++[t]):=by intro j t Q;obtain⟨f,P,H⟩:=zk5 l 20 j;obtain⟨c,L⟩:=zc4 (s:=s) 20 f;refine⟨f+1,by omega,?_⟩;simp only[H,L,yd,zda (show¬(20:Int)=0 by decide)];have N:=w1 (n:=f) (by omega);split<;>simp[N]
 cases D:text (z10 r)with|none=>rw[D]at m;obtain⟨t,f,h2,B⟩:=m;have A:app 16 a [t]=some (a++[t]):=z0h (by simp;omega);obtain⟨g,x,E⟩:=bad f t h2;refine⟨rfl,g,a++[t],x,?_⟩;grind|some p=>
  obtain⟨t,O⟩:=p;rw[D]at m;obtain⟨f,h2,B⟩:=m;have J:=h2.2;have A:app 16 a [t]=some (a++[t]):=z0h (by simp;omega);have q:M.q5c (a++[t])=some (decide (t∈a)):=by
   rw[zuv (by simp;omega)];congr 1;rw[yk];simp only[yp,decide_eq_false_iff_not,decide_eq_true_eq,List.nodup_append,hn,yaz,ya1,not_false_eq_true,ya0,and_self,true_and];constructor;·simp
   ·simp
  simp only[B,yd,A,decide_true,if_true,q];by_cases C:t∈a;·obtain⟨g,x,E⟩:=bad f t (by omega);simp only[C,decide_true,if_true,z3w,yd];exact⟨rfl,g,a++[t],x,E⟩
  ·obtain⟨v,k,I⟩:=z62 l 0 h2;have u:=z6v 0 k;simp only[C,decide_false,ym,if_false,yd,I,u];rw[take_one];have a3l:=k.2;cases K:z10 O with|nil=>refine⟨rfl,v+1,a++[t],by omega,?_⟩;grind[hd,z3w,w1]|cons d y=>
    rw[K]at k;have z:(d.toNat:Int)=58↔d=58:=toNat_eq (n:=58) (by omega);by_cases b:d=58;·subst b;have o:hd (58::y)=58:=rfl;simp only[o,decide_true,yr,ym,if_false,if_true,yd];exact⟨y,v+1,k.cons.2.1,rfl,by grind[w1]⟩
    ·have w:¬hd (d::y)=58:=fun e=>b (z.1 e);simp only[w,b,decide_false,yq,if_true,if_false];refine⟨rfl,v+1,a++[t],by omega,?_⟩;grind[z3w,w1]
def zsx(s:Z)(o:Bool)(en:UInt8)(B:Nat)(z:Option RL):Rd→Prop|.ok (x,e)=>∃a j,At s (en::a) j∧z10 a=e∧z=some (⟨s,(j:Int),0⟩,x.zi,x.zv)∧x.zf=(if o=true then 6 else 5)∧x.z09=[]|.pan c=>∃(j:Nat)(e':Int)(d:List q04)(b:List Z),j≤B+1∧z=some (⟨s,(j:Int),e'⟩,d,b)∧(e'=c∧¬c=0∨e'=0∧c=20∧∃a,At s a j∧¬hd a=(en.toNat:Int))
def zqj(s:Z)(B:Nat)(z:Option (q04×RR)):Rd→Prop|.ok (x,a)=>∃j,At s a j∧z=some (x,⟨s,(j:Int),0⟩)|.pan c=>¬c=0∧∃x,∃j:Nat,j≤B∧z=some (x,⟨s,(j:Int),c⟩)
theorem zz051(j:s.length<1000000){d h e:Int}{self:RR→Int→Option (q04×RR)}{l:List q04}{b:List Z}{i B:Nat}(a:¬e=0)(hB:i≤B)(f:B<2000000)(o:Bool)(en:UInt8):zsx s o en B (zwk d self h s (i:Int) e l b) (.pan e):=by
 obtain⟨c,g⟩:=zc4 (s:=s) e i;unfold zwk;simp only[a,decide_false,ym,if_false,yb,yd,g];rw[w1 (by omega)];split;·exact⟨i+1,e,l,b,by omega,zb1 _ _ _ _ _ _ _ _ _ (.inr a),.inl ⟨rfl,a⟩⟩
 ·exact⟨i,e,l,b,by omega,zb1 _ _ _ _ _ _ _ _ _ (.inr a),.inl ⟨rfl,a⟩⟩
theorem zz01g(K:s.length<1000000){o:Bool}{en:UInt8}(q:en=if o=true then 125 else 93){C:Int}{w:Nat}(L:w<16){self:RR→Int→Option (q04×RR)}{l:List q04}{b:List Z}{B:Nat}(hB:s.length+3≤B)(F:B<2000000){u:Rd}{f:Nat}{vf:Z→Rd}(D:zqj s B (self ⟨s,(i:Int),0⟩ ((w+1:Nat):Int)) u)(hl:l.length<1000000)(N:∀x h j,u=.ok (x,44::h)→At s (44::h) j→zsx s o en B (M.z06 C self (w:Int) true ⟨s,((j+1:Nat):Int),0⟩ (l++[x]) b) (items vf o en f (z10 h) (l++[x]) b)):zsx s o en B (zwk C self (w:Int) s (i:Int) 0 l b) (match(generalizing:=false)u with|.pan c=>.pan c|.ok (x,t)=>match take t [en]with|some r=>.ok (⟨if o=true then 6 else 5,[],l++[x],b⟩,r)|none=>match take t [44]with|none=>.pan 20|some r=>items vf o en f r (l++[x]) b):=by
 unfold zwk
 rw[w1 (by omega)];simp only[decide_true,if_true,yb];cases u with|pan c=>
  obtain⟨a,x,j,k,y⟩:=D;have v:app 72 l [x]=some (l++[x]):=z0h (by simp;omega);obtain⟨J,G⟩:=zc4 (s:=s) c j;simp only[y,yd,v,G];rw[w1 (by omega)];split;·exact⟨j+1,c,l++[x],b,by omega,zb1 _ _ _ _ _ _ _ _ _ (.inr a),.inl ⟨rfl,a⟩⟩
  ·exact⟨j,c,l++[x],b,by omega,zb1 _ _ _ _ _ _ _ _ _ (.inr a),.inl ⟨rfl,a⟩⟩|ok p=>
  obtain⟨x,t⟩:=p;obtain⟨j,k,y⟩:=D
  have H:=k.2;have v:app 72 l [x]=some (l++[x]):=z0h (by simp;omega);simp only[y,yd,v,z6v 0 k];rw[w1 (by omega),take_one,take_one];cases t with|nil=>
   have z:¬(0:Int)=44:=by decide
   simp only[hd,z,decide_false,ym,if_false];exact⟨j,0,l++[x],b,by omega,zb1 _ _ _ _ _ _ _ _ _ (.inl rfl),.inr ⟨rfl,rfl,[],k,by subst q;cases o<;>decide⟩⟩|cons d h=>
   have A:(d.toNat:Int)=44↔d=44:=toNat_eq (n:=44) (by omega);by_cases m:d=44
   ·subst m;have I:¬(44:UInt8)=en:=by subst q;cases o<;>decide
    have E:hd (44::h)=44:=rfl;grind
   ·simp only[hd,A,m,decide_false,ym,if_false];by_cases g:d=en;·subst g;simp only[if_true];exact⟨h,j,k,rfl,zb1 _ _ _ _ _ _ _ _ _ (.inl rfl),rfl,rfl⟩
    ·simp only[g,if_false];refine⟨j,0,l++[x],b,by omega,zb1 _ _ _ _ _ _ _ _ _ (.inl rfl),.inr ⟨rfl,rfl,d::h,k,fun e=>g ?_⟩⟩;grind[hd,ybe]
theorem zz00f(y:s.length<1000000){o:Bool}{en:UInt8}(k:en=if o=true then 125 else 93){w:Nat}(E:w<16){self:RR→Int→Option (q04×RR)}{vf:Z→Rd}{B:Nat}(hB:s.length+3≤B)(g:B<2000000)(D:∀r i,At s r i→zqj s B (self ⟨s,(i:Int),0⟩ ((w+1:Nat):Int)) (vf (z10 r)))(t:∀s x r,vf s=.ok (x,r)→r.length+1≤s.length):∀(f:Nat)(r:Z)(i:Nat)(l:List J)(d:List Z),r.length<f→At s r i→l.length≤i→d.length≤i→d.Nodup→zsx s o en B (M.z06 (if o=true then 123 else 91) self (w:Int) true ⟨s,(i:Int),0⟩ l d) (items vf o en f (z10 r) l d):=by intro f;induction f with|zero=>omega|succ f F=>intro r i l d hf h hl R hn;have Q:=h.2;have C:=h.len;rw[items];cases o with|false=>simp only[ym,if_false];rw[zz083];refine zz01g (o:=false) (l:=l) y k E hB g (vf:=vf) (f:=f) (D r i h) (by omega) fun x H j u e=>?_;have v:=t _ _ _ u;have h2:=z3r r;have n:=e.len;simp only[yan]at v n;exact F H (j+1) (l++[x]) d (by omega) e.cons.2.1 (by simp;omega) (by omega) hn|true=>simp only[if_true];rw[zz0c3];have a:=zz086 y (by omega) hn h;cases b:zwu (z10 r) d with|pan c=>rw[b]at a;obtain⟨rfl,j,N,e,u⟩:=a;grind[zz051]|ok p=>
    obtain⟨H,A⟩:=p;rw[b]at a;obtain⟨G,j,e,I,u⟩:=a;obtain⟨k1,S⟩:=ztz b;obtain⟨kk,k3,T,_⟩:=zz6 b;have h2:=z3r r;have P:=z3r G;have n:=e.len;have K:i<j∨¬i<j:=by omega
    subst I;simp only[u,yd];refine zz01g (o:=true) (l:=l) y k E hB g (vf:=vf) (f:=f) (D G j e) (by omega) fun x O L z m=>?_;have v:=t _ _ _ z;have q:=m.len;simp only[yan]at v q;refine F O (L+1) (l++[x]) A (by omega) m.cons.2.1 (by simp;omega) (by omega) ?_;grind
theorem zss(d:s.length<1000000){b:Z}{j:Nat}(h:At s b j)(x:q04)(B:Nat):zqj s B ((M.q53 (q0d.mk s (j:Int) 0)).bind fun a=>some (x,a)) (.ok (x,z10 b)):=by obtain⟨e,c,h2⟩:=z62 d 0 h;exact⟨e,c,by rw[h2];rfl⟩
theorem zno(s:Z):z10 (z10 s)=z10 s:=by induction s with|nil=>rfl|cons c s a=>cases h:bl c with|true=>simp_all[z10]|false=>grind[zha]
theorem zph(P:s.length<1000000):∀(f F:Nat)(r:Z)(i w:Nat),w≤16→17≤f+w→f≤F→f≤17→At s r i→zqj s (s.length+4*f+4) (M.q59 F ⟨s,(i:Int),0⟩ (w:Int)) (val f (z10 r) w):=by intro f;induction f with|zero=>omega|succ f ih=>
  intro F r i w hw b4 hF b0 h;obtain⟨F,rfl⟩:∃F',F=F'+1:=⟨F-1,by omega⟩;obtain⟨j1,O,b1⟩:=z62 P 0 h;have a1l:=O.len;have U:=z6v 0 O;rw[M.q59,val];simp only[b1,U,yb,yd];generalize b6:z10 r=g at O a1l U;have u:=zj4 P O;by_cases G:hd g=34;·--a text
   have hh:g.head?=some 34:=by cases g with|nil=>cases G|cons c t=>have b8:(c.toNat:Int)=34↔c=34:=toNat_eq (n:=34) (by omega);grind[hd]
   simp only[G,decide_true,if_true];cases E:text g with|none=>
    rw[E]at u;obtain⟨t,j,D,N⟩:=u;simp only[N,yd,hh,if_true];have v:¬(20:Int)=0:=by decide
    simp only[v,decide_false,ym,if_false];exact⟨by decide,_,j,by omega,rfl⟩|some p=>obtain⟨t,b⟩:=p;rw[E]at u;obtain⟨j,D,N⟩:=u;simp_all[zss]
  ·have a7:¬g.head?=some 34:=fun e=>G (by cases g with|nil=>cases e|cons c t=>cases e;rfl);have a9:text g=none:=by cases g with|nil=>rfl|cons c t=>grind[zz01h]
   simp only[G,decide_false,ym,if_false,a9,a7]--a list or an object
   have nested:∀(o:Bool)(b:Z),g=(if o=true then 123 else 91)::b→zqj s (s.length+4*(f+1)+4) ((if decide (16≤(w:Int))then(M.q5b ⟨s,(j1:Int),0⟩ 21).bind fun a_1140=>some (Jn.done (q04.mk 0 ([]:Z) [] [],a_1140))else(M.q53 (q0d.mk s (ybd .i64 ((j1:Int)+1)) 0)).bind fun a_1145=>((M.q51 a_1145).bind fun a_1695=>M.z06 (if o=true then 123 else 91) (M.q59 F) (w:Int) (!decide (a_1695=if o=true then 125 else 93)) a_1145 [] []).bind fun j_1694=>((M.q51 j_1694.1).bind fun a_2249=>if !decide (a_2249=if o=true then 125 else 93)then(M.q5b j_1694.1 20).bind fun a_2251=>some a_2251 else some j_1694.1).bind fun j_2248=>some (Jn.go (q0d.mk j_2248.gs (ybd .i64 (j_2248.gi+1)) j_2248.ge,if o=true then(6:Int)else 5,([]:Z),j_1694.2.1,j_1694.2.2))).bind fun q_1133=>match q_1133 with|.done r=>some r|.go j_1133=>if decide (j_1133.1.ge=0)then(M.q53 j_1133.1).bind fun a_2255=>some (q04.mk j_1133.2.1 j_1133.2.2.1 j_1133.2.2.2.1 j_1133.2.2.2.2,a_2255)else some (q04.mk j_1133.2.1 j_1133.2.2.1 j_1133.2.2.2.1 j_1133.2.2.2.2,j_1133.1)) (nest (fun s=>val f s (w+1)) o w (z10 b)):=by
    intro o b K;subst K;unfold nest;by_cases T:16≤w
    ·have z:(16:Int)≤(w:Int):=by omega
     simp only[T,z,decide_true,if_true,z3w,yd];exact⟨by decide,_,j1,by omega,rfl⟩
    ·have z:¬(16:Int)≤(w:Int):=by omega
     obtain⟨g1,g2,g3⟩:=O.cons;obtain⟨j2,Y,b2⟩:=z62 P 0 g2;have a2l:=Y.len;have V:=z6v 0 Y;simp only[T,z,decide_false,ym,if_false];rw[w1 (by omega)];simp only[b2,V,yd];have A:∃en:UInt8,en=if o=true then 125 else 93:=⟨_,rfl⟩;obtain⟨en,A⟩:=A;have X:(if o=true then(125:Int)else 93)=(en.toNat:Int):=by subst A;cases o<;>rfl
     rw[←A,X];have W:∀(q:Z),hd q=(en.toNat:Int)↔∃t,q=en::t:=by intro q;cases q with|nil=>grind[hd]|cons d t=>grind[ybe,hd]--how it goes on behind the loop
     have fin_ok:∀(j:Nat)(t:Z)(l:List J)(ks:List Z),At s (en::t) j→zqj s (s.length+4*(f+1)+4) ((((M.q51 (q0d.mk s (j:Int) 0)).bind fun a_2249=>if !decide (a_2249=(en.toNat:Int))then(M.q5b (q0d.mk s (j:Int) 0) 20).bind fun a_2251=>some a_2251 else some (q0d.mk s (j:Int) 0)).bind fun j_2248=>(some (Jn.go (q0d.mk j_2248.gs (ybd .i64 (j_2248.gi+1)) j_2248.ge,if o=true then(6:Int)else 5,([]:Z),l,ks)):Option (Jn (q04×RR) _))).bind fun q_1133=>match q_1133 with|.done r=>some r|.go j_1133=>if decide (j_1133.1.ge=0)then(M.q53 j_1133.1).bind fun a_2255=>some (q04.mk j_1133.2.1 j_1133.2.2.1 j_1133.2.2.2.1 j_1133.2.2.2.2,a_2255)else some (q04.mk j_1133.2.1 j_1133.2.2.1 j_1133.2.2.2.1 j_1133.2.2.2.2,j_1133.1)) (.ok (⟨if o=true then 6 else 5,[],l,ks⟩,z10 t)):=by intro j t l ks D;have b5:=D.2;have e1:hd (en::t)=(en.toNat:Int):=rfl;simp only[z6v 0 D,e1,yd,decide_true,yr,ym,if_false,if_true];rw[w1 (by omega)];exact zss P D.cons.2.1 _ _
     by_cases he:hd (z10 b)=(en.toNat:Int)
     ·obtain⟨t,N⟩:=(W _).1 he;rw[N]at Y;have R:take (z10 b) [en]=some (z10 t):=by rw[N,take_one];simp
      simp only[he,decide_true,yr,R];rw[zb1 _ _ _ _ _ _ _ _ _ (.inl rfl)];grind
     ·have R:take (z10 b) [en]=none:=by rw[take_one];cases hb:z10 b with|nil=>rfl|cons d t=>grind
      simp only[he,decide_false,yq,R];have a3:z10 (z10 b)=z10 b:=zno b;have C:=zz00f (s:=s) (o:=o) P A (w:=w) (by omega) (self:=M.q59 F) (vf:=fun s=>val f s (w+1)) (B:=s.length+4*f+4) (by omega) (by omega) (fun r i a8=>ih F r i (w+1) (by omega) (by omega) (by omega) (by omega) a8) (fun s x r E=>zz01u f s (w+1) x r E) ((z10 b).length+1) (z10 b) j2 [] [] (by omega) Y (yba _) (yba _) ya0;rw[a3]at C;cases E:items (fun s=>val f s (w+1)) o en ((z10 b).length+1) (z10 b) [] []with|ok p=>obtain⟨x,r3⟩:=p;rw[E]at C;obtain⟨t,j,D,a4,Q,hk,u⟩:=C;simp only[Q,yd];have:=fin_ok j t x.zi x.zv D;rw[a4,←hk]at this;obtain⟨k,tx,l,ks⟩:=x;simp only at hk u this⊢;subst u;subst hk;exact this|pan c=>
       rw[E]at C;obtain⟨j,e',l',b7,D,Q,L⟩:=C;simp only[Q,yd];rcases L with⟨rfl,L⟩|⟨rfl,rfl,t,N,a6⟩
       ·obtain⟨c2,a5⟩:=zc4 (s:=s) e' j;simp only[a5,yd,zda L];have H:=w1 (n:=j) (by omega);split;·simp only[yd,L,decide_false,ym,if_false,H];exact⟨L,_,j+1,by omega,rfl⟩
        ·simp only[yd,L,decide_false,ym,if_false,H];exact⟨L,_,j+1,by omega,rfl⟩
       ·have H:=w1 (n:=j) (by omega);have v:¬(20:Int)=0:=by decide
        simp only[z6v 0 N,yd,a6,decide_false,yq,if_true,z3w,v,ym,if_false,H];exact⟨v,_,j+1,by omega,rfl⟩
   by_cases I:hd g=91
   ·obtain⟨b,K⟩:∃b,g=91::b:=by cases g with|nil=>cases I|cons c t=>have b9:(c.toNat:Int)=91↔c=91:=toNat_eq (n:=91) (by omega);grind[hd]
    have R:take g [91]=some (z10 b):=by rw[K,take_one];simp
    have hn:=nested false b K;grind
   ·by_cases y:hd g=123
    ·obtain⟨b,K⟩:∃b,g=123::b:=by cases g with|nil=>cases y|cons c t=>have b3:(c.toNat:Int)=123↔c=123:=toNat_eq (n:=123) (by omega);grind[hd]
     have R:take g [123]=some (z10 b):=by rw[K,take_one];simp
     have S:take g [91]=none:=by rw[K,take_one];rfl
     grind
    ·--a word or a number
     have S:take g [91]=none:=by rw[take_one];cases g with|nil=>rfl|cons d t=>have:¬d=91:=fun e=>I (by rw[e];rfl);simp[this]
     have a0:take g [123]=none:=by rw[take_one];cases g with|nil=>rfl|cons d t=>have:¬d=123:=fun e=>y (by rw[e];rfl);simp[this]
     have m:=zs0 P O;simp only[I,y,decide_false,ym,if_false,yd,S,a0];cases E:word g with|ok p=>obtain⟨x,b⟩:=p;rw[E]at m;obtain⟨t,j,D,hb,Q⟩:=m;subst hb;simp_all[zmj,zss]|pan c=>
      rw[E]at m;obtain⟨rfl,x,j,D,Q⟩:=m;have v:¬(20:Int)=0:=by decide
      simp only[Q,yd,v,decide_false,ym,if_false];exact⟨v,_,j,by omega,rfl⟩
theorem zpd(s:Z){f:Nat}(hf:17≤f):M.q4s f s=some (parse s):=by
 unfold M.q4s parse;by_cases hl:16384<s.length;·grind
 ·have:¬(16384:Int)<(s.length:Int):=by omega
  have a:=zph (s:=s) (by omega) 17 f s 0 0 (by omega) (by omega) hf (by omega) At.start;have a:zqj s (s.length+4*17+4) (M.q59 f ⟨s,0,0⟩ 0) (val 17 (z10 s) 0):=a;simp only[this,decide_false,ym,if_false,hl,yb];cases d:val 17 (z10 s) 0 with|pan c=>rw[d]at a;obtain⟨h,x,j,b,g⟩:=a;grind[zda]|ok p=>obtain⟨x,r⟩:=p;rw[d]at a;obtain⟨j,b,g⟩:=a;have e:=b.len;grind[yar,z3w]
end
end
theorem zw8{v:J}(h:SzJ v)(k:v.zv.length=v.zi.length):∀(n i:Nat)(a:List q02),v.zi.length-i=n→i≤v.zi.length→a.length≤i→M.z4f v a (i:Int)=some (match zqd (v.zi.drop i) (v.zv.drop i)with|some l=>.go (a++l)|none=>.done ([],false)):=by have m:=h.parts;intro n;induction n with
 |zero=>
  intro i a hn f e;rw[M.z4f,yad (by omega)];have:¬(i:Int)<(v.zi.length:Int):=by omega
  simp[this,zqd]|succ n j=>
  intro i a hn f e;have c:i<v.zi.length:=by omega
  have b:i<v.zv.length:=by omega
  have d:(i:Int)<(v.zi.length:Int):=by omega
  have g:SzJ v.zi[i]:=h.mem (yal c);rw[M.z4f,yac c,yac b];simp only[d,decide_true,if_true,z3f,yaj c,yaj b,yb,yd];rw[zpf (by have:=g.parts;omega)];simp only[yd];unfold zqd;cases o:(zbj v.zi[i]).2 with|false=>simp|true=>simp only[yr,ym,if_false,if_true,List.tail_cons,List.head?_cons,Option.getD_some];rw[z0h (by simp;omega),w1 (by omega)];simp only[yd];rw[j (i+1) _ (by omega) (by omega) (by simp;omega)];cases zqd (v.zi.drop (i+1)) (v.zv.drop (i+1))<;>simp
theorem zw7{v:J}(h:SzJ v)(c:v.zf=6→v.zv.length=v.zi.length):M.q67 v=some (zcp v):=by
 unfold M.q67 zcp;by_cases a:v.zf=6;·have b:=zw8 h (c a) _ 0 [] rfl (yba _) (by simp);have b:M.z4f v [] 0=_:=b;rw[b,yaf,yaf,if_pos a];cases zqd v.zi v.zv<;>simp[a]
 ·rw[if_neg a];simp[a]
theorem zj5:M.q5p=some (tab.map Rw.toR):=MF.q5p.le 300 _ (by kernel_rfl)
def zx0(z:Option (Jn (Z×Z×Bool) (Z×Z))):Option (Z×Z)→Prop|some on=>z=some (.go on)|none=>z=some (.done ([],[],false))
theorem zz04o{p a:List Z}(t:p.length<100000000)(u:a.length=p.length):∀(n i:Nat)(o m:Z),p.length-i=n→i≤p.length→zx0 (M.z3e a p o m (i:Int)) (zdk (a.drop i) (p.drop i) o m):=by
 have k:([79,70]:Z)=zqh:=rfl
 have l:(B52:Z)=zqg:=rfl;intro n;induction n with|zero=>
  intro i o m hn r;have:¬(i:Int)<(a.length:Int):=by omega
  rw[M.z3e.eq_1,yad (by omega),yad (by omega)];simp[this,zdk,zx0]|succ n g=>
  intro i o m hn r;have b:i<p.length:=by omega
  have c:i<a.length:=by omega
  have q:(i:Int)<(a.length:Int):=by omega
  rw[M.z3e.eq_1,yac b,yac c,k,l];simp only[q,decide_true,if_true,z3f,yaj b,yaj c,yb,yd,w1 (show i<4611686018427387904 by omega)];obtain⟨w,f⟩:∃w,a[i]=w:=⟨_,rfl⟩;obtain⟨s,e⟩:∃s,p[i]=s:=⟨_,rfl⟩;rw[f,e,zdk];by_cases c1:w=zqh
  ·simp only[c1,decide_true,if_true];by_cases h:s=[];·simp[h,zx0]
   ·simp only[h,decide_false,ym,if_false];exact g (i+1) s m (by omega) (by omega)
  ·by_cases d:w=zqg;·subst d;simp only[c1,decide_true,decide_false,ym,if_true,if_false];exact g (i+1) o s (by omega) (by omega)
   ·by_cases j:w=s;·subst j;simp only[c1,d,decide_true,decide_false,yr,ym,if_true,if_false];exact g (i+1) o m (by omega) (by omega)
    ·simp[c1,d,j,zx0]
theorem zj6{r:Rw}(h:zfl r){p:List Z}(f:p.length<100000000):M.q6l r.toR p=some (match zdk r.sg p [] []with|some on=>(on.1,on.2,true)|none=>([],[],false)):=by
 have d:=h.one;have h2:=h.len;unfold M.q6l;have g:sub r.toR.z00 1 (r.toR.z00.length:Int)=some ((zka r.sg).drop 1):=zan (l:=zka r.sg) (a:=1) d;have e:M.q62 ((zka r.sg).drop 1) 47=some (z0u 47 ((zka r.sg).drop 1)):=zqq 47 (by rw[yao];omega);rw[g];simp only[yb,yd,e,h.cut];by_cases hl:r.sg.length=p.length
 ·have c:(r.sg.length:Int)=(p.length:Int):=by omega
  have b:=zz04o f hl _ 0 [] [] rfl (yba _);rw[yaf,yaf]at b;have b:zx0 (M.z3e r.sg p [] [] 0) (zdk r.sg p [] []):=b;simp only[c,decide_true,yr,ym,if_false];cases hf:zdk r.sg p [] []with|some on=>rw[hf]at b;have b:M.z3e r.sg p [] [] 0=some (.go on):=b;rw[b];rfl|none=>rw[hf]at b;have b:M.z3e r.sg p [] [] 0=some (.done ([],[],false)):=b;rw[b];rfl
 ·have c:¬(r.sg.length:Int)=(p.length:Int):=by omega
  cases hf:zdk r.sg p [] []with|some on=>exact(hl (ze5 hf)).elim|none=>simp only[c,decide_false,yq,if_true]
theorem zse{l:List Z}(hl:l.length<1000000000)(f:∀x∈l,x.length<100000000):∀(n i:Nat),l.length-i=n→i≤l.length→∃z,M.z3p l (i:Int)=some z∧(z=.done (zgi (l.drop i))∨z=.go ()∧zgi (l.drop i)=[]):=by
 intro n;induction n with|zero=>
  intro i hn d;have:¬(i:Int)<(l.length:Int):=by omega
  rw[M.z3p.eq_1,yad (by omega)];simp[this,zgi]|succ n g=>
  intro i hn d;have a:i<l.length:=by omega
  have b:(i:Int)<(l.length:Int):=by omega
  have j:=f _ (yal a);have h:=zgv l[i];have hf:M.q6a (bare l[i]) 61=some (z1q 61 (bare l[i])):=zob 61 (by omega);rw[M.z3p.eq_1,yac a];simp only[b,decide_true,if_true,z3f,yaj a,yb,yd];rw[zs3 (by omega)];have e:([115,101,115,115,105,111,110]:Z)=zk1:=rfl;simp only[yd,hf,e];rw[zgi];by_cases c:(z1q 61 (bare l[i])).2.2=true∧(z1q 61 (bare l[i])).1=zk1;·rw[if_pos c];simp only[c.1,c.2,decide_true,yh,if_true];exact⟨_,rfl,.inl rfl⟩
  ·have cb:((z1q 61 (bare l[i])).2.2&&decide ((z1q 61 (bare l[i])).1=zk1))=false:=by cases b:(z1q 61 (bare l[i])).2.2 with|false=>rfl|true=>simpa using fun q=>c ⟨b,q⟩
   rw[if_neg c];simp only[cb,ym,if_false];rw[w1 (by omega)];exact g (i+1) (by omega) (by omega)
theorem zk8{l:List q05}(hl:l.length<100000000)(hf:zf2 l):M.q6q l=some (zgh l):=by
 unfold M.q6q zgh;have c:=z7f hf z2r;have e:(B39:Z)=z2r:=rfl;have a:M.q62 (z4p l z2r []) 59=some (z0u 59 (z4p l z2r [])):=zqq 59 c;rw[e,z8t z2r (by omega)];simp only[yb,yd,a];have f:=zc8 59 (z4p l z2r []);obtain⟨z,b,a⟩:=zse (l:=z0u 59 (z4p l z2r [])) (by omega) fun x d=>by have:=z63 59 _ x d;omega _ 0 rfl (yba _);have b:M.z3p (z0u 59 (z4p l z2r [])) 0=some z:=b;rw[yaf]at a;rw[b];rcases a with rfl|⟨rfl,a⟩;·rfl
 ·rw[a];rfl
theorem ztb(c:UInt8):∀s:Z,(z1q c s).2.2=s.contains c
 |[]=>rfl|x::r=>by
  rw[z42,yz,←ztb c r];by_cases h:x=c;·simp[h]
  ·have:(c==x)=false:=by simpa using fun q=>h q.symm
   simp[h,this]
theorem zw5{s:Z}(h:s.length<100000000):M.q6t s=some (zq2 s):=by unfold M.q6t zq2;have a:M.q6a s 34=some (z1q 34 s):=zob 34 h;have h2:M.q5w s 33 126=some (z7c 33 126 s):=zc5 33 126 (by omega);simp only[a,h2,yb,yd,ztb]
theorem zz00n{l:List q05}{r:Rw}(m:zfl r){i:Nat}{x:q05}(o:l[i]?=some x):∀(n j:Nat)(b:Bool),r.ps.length-j=n→j≤r.ps.length→M.z4h r.toR l (i:Int) b (j:Int)=some (b||z7l (r.ps.drop j) x.zj):=by
 have k:=m.psl;have a:r.toR.z68.length=r.ps.length:=yap ..
 intro n;induction n with|zero=>
  intro j b hn g;have:¬(j:Int)<(r.toR.z68.length:Int):=by rw[a];omega
  rw[M.z4h.eq_1,yad (by omega)];simp[this,z7l]|succ n d=>
  intro j b hn g;have c:j<r.ps.length:=by omega
  have f:(j:Int)<(r.toR.z68.length:Int):=by rw[a];omega
  have h:ix r.toR.z68 (j:Int)=some (Pt.toR r.ps[j]):=by rw[z3f];show(r.ps.map Pt.toR)[j]?=_;rw[yak,yaj c];rfl
  have en:(Pt.toR r.ps[j]).zj=r.ps[j].nm:=by cases r.ps[j]<;>rfl
  have e:z7l (r.ps[j]::r.ps.drop (j+1)) x.zj=(decide (r.ps[j].nm=x.zj)||z7l (r.ps.drop (j+1)) x.zj):=by unfold z7l;rw[List.any_cons]
  rw[M.z4h.eq_1,yac c,e];simp only[f,decide_true,if_true,h,z3f,o,yb,yd,en];rw[w1 (by omega)];cases b with|true=>simp only[if_true,yd,yu];rw[d (j+1) true (by omega) (by omega)];rfl|false=>simp only[ym,if_false,yd,yn];rw[d (j+1) _ (by omega) (by omega)]
theorem zz00m{l:List q05}{r:Rw}(j:zfl r)(a:q00)(hl:l.length<100000000):∀(n i:Nat),l.length-i=n→i≤l.length→M.z4g l r.toR a (i:Int)=some (if(l.drop i).all (fun p=>decide (zak l p.zj=1)&&z7l r.ps p.zj)=true then .go ()else .done (a,false)):=by
 intro n;induction n with|zero=>
  intro i hn g;have:¬(i:Int)<(l.length:Int):=by omega
  rw[M.z4g.eq_1,yad (by omega)];simp[this]|succ n k=>
  intro i hn g;have d:i<l.length:=by omega
  have f:(i:Int)<(l.length:Int):=by omega
  have b:=zz00n j (l:=l) (i:=i) (yaj d) _ 0 false rfl (yba _);rw[yaf,yn]at b;have b:M.z4h r.toR l (i:Int) false 0=_:=b;rw[M.z4g.eq_1,yac d,List.all_cons];simp only[f,decide_true,if_true,z3f,yaj d,yb,yd];rw[zc3 _ (by omega)];simp only[yd,b];by_cases c:zak l l[i].zj=1
  ·have e:((zak l l[i].zj:Nat):Int)=1:=by omega
   cases h:z7l r.ps l[i].zj with|false=>simp[c,e]|true=>simp only[c,e,decide_true,yr,yt,ym,if_false,yd,yh,Bool.true_and];rw[w1 (by omega)];exact k (i+1) (by omega) (by omega)
  ·have e:¬((zak l l[i].zj:Nat):Int)=1:=by omega
   simp[c,e]
theorem ztr{t:Nat×Nat×Z}(h:t∈z8n)(a:q00)(v:Z):M.q6r a t.2.2 v=some (zsl a t.1 v,true):=z5i (P:=fun t=>M.q6r a t.2.2 v=some (zsl a t.1 v,true)) h rfl rfl rfl rfl rfl rfl rfl rfl rfl rfl rfl rfl rfl rfl rfl rfl rfl rfl
theorem zyd{t:Nat×Nat×Z}(h:t∈z8n):¬t.2.2=[]:=z5i (P:=fun t=>¬t.2.2=[]) h (by decide) (by decide) (by decide) (by decide) (by decide) (by decide) (by decide) (by decide) (by decide) (by decide) (by decide) (by decide) (by decide) (by decide) (by decide) (by decide) (by decide) (by decide)
theorem zz013{t:Nat×Nat×Z}(h:t∈z8n)(a:q00)(v:Z)(c:Bool):zjx (zsl a t.1 v) c=zjx a c:=by
 cases c;·exact z5i (P:=fun t=>zjx (zsl a t.1 v) false=zjx a false) h rfl rfl rfl rfl rfl rfl rfl rfl rfl rfl rfl rfl rfl rfl rfl rfl rfl rfl
 ·exact z5i (P:=fun t=>zjx (zsl a t.1 v) true=zjx a true) h rfl rfl rfl rfl rfl rfl rfl rfl rfl rfl rfl rfl rfl rfl rfl rfl rfl rfl
theorem zz0d8{a:q00}{c:Bool}(h:zjx a c=0):setC a c 0=a:=by
 unfold zjx at h;unfold setC;obtain⟨t,u,v,w,x,y,z,A,B,C,b,d,e,f,g,i,j,k,l,m,n,o,p,q,r,s⟩:=a;cases c;·simp only[ym,if_false]at h⊢;rw[h]
 ·simp only[if_true]at h⊢;rw[h]
theorem zwg{a:q00}{c d:Bool}{n:Int}(h:¬d=c):zjx (setC a c n) d=zjx a d:=by
 cases c<;>cases d;·exact(h rfl).elim
 ·rfl
 ·rfl
 ·exact(h rfl).elim
theorem zz0cg(v:Z):0≤numC 9 v↔isNum 9 v=true:=by unfold numC;cases isNum 9 v with|true=>simp|false=>simp
theorem zz0d5{c:Bool}(a:q00)(v:Z):M.q6r a (if c=true then B41 else B51) v=some (setC a c (if v=[]then 0 else numC 9 v),decide (v=[]∨isNum 9 v=true)):=by
 have b:M.q61 v 9=some (numC 9 v):=zpj (k:=9) (by decide);have key:=zz0cg v;by_cases h:v=[];·subst h;cases c<;>rfl
 ·cases c with|true=>simp[M.q6r,b,h,key,setC]|false=>simp[M.q6r,b,h,key,setC]
def RZ(z:Option (Jn (q00×Bool) q00)):Option q00→Prop|some a=>z=some (.go a)|none=>∃a,z=some (.done (a,false))
theorem zz00o{l:List q05}{r:Rw}(F:zfl r)(hl:l.length<100000000)(hf:zf2 l):∀(n i:Nat)(a:q00),r.ps.length-i=n→i≤r.ps.length→(∀c∈cns (r.ps.drop i),zjx a c=0)→(cns (r.ps.drop i)).Nodup→RZ (M.z2y r.toR l (i:Int) a) (zum l (r.ps.drop i) a):=by
 have J:=F.psl;have o:r.toR.z68.length=r.ps.length:=yap ..
 intro n;induction n with|zero=>
  intro i a hn H _ _;have:¬(i:Int)<(r.toR.z68.length:Int):=by rw[o];omega
  rw[M.z2y.eq_1,yad (by omega)];simp[this,zum,RZ]|succ n u=>
  intro i a hn H j b;have g:i<r.ps.length:=by omega
  have x:(i:Int)<(r.toR.z68.length:Int):=by rw[o];omega
  have K:ix r.toR.z68 (i:Int)=some (Pt.toR r.ps[i]):=by rw[z3f];show(r.ps.map Pt.toR)[i]?=_;rw[yak,yaj g];rfl
  have s:=F.ps _ (yal g);rw[yac g]at j b;rw[M.z2y.eq_1,yac g,zum];simp only[x,decide_true,if_true,K,yb,yd];obtain⟨p,I⟩:∃p,r.ps[i]=p:=⟨_,rfl⟩;rw[I]at s j b⊢;rw[zc3 _ (by omega),w1 (by omega)];simp only[yd];cases p with
  |fx nm v=>
   have e:(Pt.toR (.fx nm v)).z8c=[]:=rfl;have B:(Pt.toR (.fx nm v)).zi4=v:=rfl;have f:(Pt.toR (.fx nm v)).zj=nm:=rfl;simp only[e,B,f,decide_true,if_true];rw[zz09a];have h:=zm8 l nm;by_cases c:z95 l nm=true∧z4p l nm []=v
   ·rw[if_pos c];rw[c.1,decide_eq_true_iff]at h;have L:¬((zak l nm:Nat):Int)=0:=by omega
    simp only[L,c.2,decide_false,decide_true,yr,yt,ym,if_false];exact u (i+1) a (by omega) (by omega) j b
   ·rw[if_neg c];have cb:(decide (((zak l nm:Nat):Int)=0)||!decide (z4p l nm []=v))=true:=by cases x:z95 l nm with
     |false=>
      rw[x,decide_eq_false_iff_not]at h;have:((zak l nm:Nat):Int)=0:=by omega
      simp[this]|true=>have:¬z4p l nm []=v:=fun q=>c ⟨x,q⟩;simp[this]
    simp only[cb,if_true];exact⟨a,rfl⟩|st nm t w=>
   have z:=zlg s;have e:(Pt.toR (.st nm t w)).z8c=t.2.2:=rfl;have E:(Pt.toR (.st nm t w)).zjw=w:=rfl;have f:(Pt.toR (.st nm t w)).zj=nm:=rfl;simp only[e,E,f,zyd z,decide_false,ym,if_false];rw[zz09b];have O:=z7f hf nm;have k:∀v,∀c∈cns (r.ps.drop (i+1)),zjx (zsl a t.1 v) c=0:=fun v c G=>by rw[zz013 z];exact j c G
   cases w with|false=>simp only[ym,if_false,yd,ztr z,yr];exact u (i+1) _ (by omega) (by omega) (k _) b|true=>simp only[if_true,zfg (show(z4p l nm []).length<100000000 by omega),yd];cases N:b64D (z4p l nm [])with|none=>simp only[Option.map_none,yc];exact⟨a,by simp⟩|some v=>simp only[decide_true,yr,ym,if_false,yd,ztr z,ye];exact u (i+1) _ (by omega) (by omega) (k _) b
  |cn nm c=>
   have e:(Pt.toR (.cn nm c)).z8c=if c=true then B41 else B51:=rfl;have E:(Pt.toR (.cn nm c)).zjw=false:=rfl;have f:(Pt.toR (.cn nm c)).zj=nm:=rfl;have D:¬(if c=true then B41 else B51:Z)=[]:=by cases c<;>decide
   have hd:cns (.cn nm c::r.ps.drop (i+1))=c::cns (r.ps.drop (i+1)):=rfl;rw[hd]at j b;have A:=j c (by simp);have m:∀d∈cns (r.ps.drop (i+1)),zjx a d=0:=fun d hd=>j d (by simp[hd]);rw[yaz]at b;simp only[e,E,f,D,decide_false,ym,if_false,yd,zz0d5];rw[zz099];by_cases y:z4p l nm []=[];·rw[if_pos y];simp only[y,true_or,decide_true,yr,ym,if_false,if_true,zz0d8 A,yd];exact u (i+1) a (by omega) (by omega) m b.2
   ·rw[if_neg y];simp only[y,false_or,if_false];cases C:isNum 9 (z4p l nm [])with|false=>simp only[ym,decide_false,yq,if_true,if_false,yc];exact⟨_,rfl⟩|true=>
     have en:numC 9 (z4p l nm [])=((zd0 0 (z4p l nm []):Nat):Int):=by unfold numC;rw[if_pos C]
     simp only[decide_true,yr,ym,if_true,if_false,en,yd];refine u (i+1) _ (by omega) (by omega) (fun d hd=>?_) b.2;rw[zwg fun q:d=c=>b.1 (by rw[←q];exact hd)];exact m d hd
def RZ2(z:Option (q00×Bool)):Option q00→Prop|some a=>z=some (a,true)|none=>∃a,z=some (a,false)
theorem zep{l:List q05}{r:Rw}(d:zfl r)(hl:l.length<100000000)(hf:zf2 l){a:q00}(f:a.z2t=0)(h2:a.z11=0):RZ2 (M.q6b r.toR a l) (zoc r.ps l a):=by unfold M.q6b;have k1:=zz00m d a hl _ 0 rfl (yba _);rw[yaf]at k1;have k1:M.z4g l r.toR a 0=some (if zis r.ps l=true then .go ()else .done (a,false)):=k1;have k3:=zz00o d hl hf _ 0 a rfl (yba _) fun c _=>by unfold zjx;cases c<;>simp[f,h2] (by rw[yaf];exact d.cns);rw[yaf]at k3;have k3:RZ (M.z2y r.toR l 0 a) (zum l r.ps a):=k3;rw[k1];unfold zoc;cases zis r.ps l with|false=>exact⟨a,rfl⟩|true=>simp only[if_true,yb,yd];cases e:zum l r.ps a with|none=>rw[e]at k3;obtain⟨b,k3⟩:=k3;rw[k3];exact⟨b,rfl⟩|some b=>rw[e]at k3;have k3:M.z2y r.toR l 0 a=some (.go b):=k3;rw[k3];rfl
def rA(k:Int)(o n s t g:Z):q00:=⟨k,o,[],[],s,[],t,[],[],[],[],[],[],[],[],[],n,[],[],[],g,[],[],[],0,0⟩
theorem zl2(p v:Z):p.isPrefixOf v=decide (v.take p.length=p):=by rw[yk,decide_eq_true_iff,List.isPrefixOf_iff_prefix,List.prefix_iff_eq_take];grind
theorem whS_1{r:Rw}(h:zfl r):decide (whS r.wh=B32)=decide (r.wh=2)∧decide (whS r.wh=[])=decide (r.wh=0)∧decide (whS r.wh=B9)=decide (r.wh=1)∧decide (whS r.wh=B54)=decide (r.wh=4)∧decide (whS r.wh=B60)=decide (r.wh=3):=by rcases zew h with w|w|w|w|w<;>rw[w]<;>decide
theorem RZ2.ret{z:Option (q00×Bool)}{x:Option q00}(h:RZ2 z x):RZ2 (z.bind fun a=>some (a.1,a.2)) x:=by cases x with|some a=>have h:z=some (a,true):=h;grind|none=>obtain⟨a,h⟩:=h;rw[h];exact⟨a,rfl⟩
theorem zs6{s:Z}{f:Nat}(hf:17≤f)(a:q00):RZ2 ((M.q4s f s).bind fun b=>(M.q4r b.1 [105,100]).bind fun d=>(M.q4r b.1 B25).bind fun e=>(M.q67 e.1).bind fun g=>if(!decide (b.2=0)||!decide ((b.1.zi.length:Int)=2)||!d.2||!e.2||!decide (d.1.zf=4)||!g.2)=true then some (a,false)else some ({a with zj:=d.1.z09,z02:=g.1},true)) (zvr s a):=by
 obtain⟨i,h2⟩:=zui s;have n:([105,100]:Z)=kId:=rfl;have o:(B25:Z)=z2s:=rfl;have x:=i.parts;rw[zpd s hf,n,o];simp only[yd];rw[zen (by omega),zen (by omega)];simp only[yd];rw[zw7 (i.za7 z2s) (h2.za7 z2s).keys];simp only[yd];unfold zvr;by_cases c:(parse s).2=0∧(parse s).1.zi.length=2∧(za7 (parse s).1 kId).2=true∧(za7 (parse s).1 z2s).2=true∧(za7 (parse s).1 kId).1.zf=4∧(zcp (za7 (parse s).1 z2s).1).2=true
 ·rw[if_pos c];obtain⟨c1,w,j,k,l,m⟩:=c;have h:((parse s).1.zi.length:Int)=2:=by omega
  simp only[c1,h,j,k,l,m,decide_true,yr,yt,ym,if_false];rfl
 ·rw[if_neg c];have:(!decide ((parse s).2=0)||!decide (((parse s).1.zi.length:Int)=2)||!(za7 (parse s).1 kId).2||!(za7 (parse s).1 z2s).2||!decide ((za7 (parse s).1 kId).1.zf=4)||!(zcp (za7 (parse s).1 z2s).1).2)=true:=by apply Classical.byContradiction;intro q;have q:=yj.2 q;simp only[ys,yo,decide_eq_true_eq]at q;obtain⟨⟨⟨⟨⟨p,y⟩,r⟩,t⟩,u⟩,v⟩:=q;exact c ⟨p,by omega,r,t,u,v⟩
  simp only[this,if_true];exact⟨a,rfl⟩
theorem zgs{s:Z}(h:s.length<100000000):M.q4e s=some (z2l s):=by
 by_cases a:s.length<1000000;·exact ziz a
 ·unfold M.q4e z2l;grind
theorem zs4{r:Rw}(u:zfl r){q:q03}(G:fit q){f:Nat}(hf:34≤f)(k:Int)(o n s t g:Z):RZ2 (if(!decide (r.toR.z4m=(B32:Z))&&decide (0<(q.z0d.length:Int))||if decide (r.toR.z4m=([]:Z))=true then !decide (q.zx=([]:Z))else decide (r.toR.z4m=(B32:Z))&&!decide (q.zx=([]:Z)))=true then some (rA k o n s t g,false)else if decide (r.toR.z4m=(B32:Z))=true then(M.q6b r.toR (rA k o n s t g) q.z0d).bind fun a=>some (a.1,a.2)else if decide (r.toR.z4m=(B9:Z))=true then(M.q4e q.zx).bind fun e=>if(!decide (e.2=0))=true then some (rA k o n s t g,false)else(M.q6b r.toR (rA k o n s t g) e.1).bind fun a=>some (a.1,a.2)else if decide (r.toR.z4m=(B54:Z))=true then some ({rA k o n s t g with z1e:=q.zx},true)else if decide (r.toR.z4m=(B60:Z))=true then(M.q4s f q.zx).bind fun b=>(M.q4r b.1 [105,100]).bind fun d=>(M.q4r b.1 B25).bind fun i=>(M.q67 i.1).bind fun j=>if(!decide (b.2=0)||!decide ((b.1.zi.length:Int)=2)||!d.2||!i.2||!decide (d.1.zf=4)||!j.2)=true then some (rA k o n s t g,false)else some ({rA k o n s t g with zj:=d.1.z09,z02:=j.1},true)else some (rA k o n s t g,true)) (if r.wh=2∨q.z0d=[]then zxf r q (rA k o n s t g)else none):=by
 obtain⟨_,N,_,D,E,O,P,Q⟩:=G;obtain⟨w1,I,J,K,L⟩:=whS_1 u;have C:r.toR.z4m=whS r.wh:=rfl;rw[C];have y:decide (0<(q.z0d.length:Int))=!decide (q.z0d=[]):=by cases q.z0d with|nil=>rfl|cons x l=>simp
 simp only[w1,I,J,K,L,y];by_cases c:r.wh=2∨q.z0d=[]
 ·have v:(!decide (r.wh=2)&&!decide (q.z0d=[]))=false:=by rcases c with c|c<;>simp[c]
  rw[if_pos c];simp only[v,yn];unfold zxf;rcases zew u with w|w|w|w|w;·simp only[w,decide_true,if_true];grind[RZ2]
  ·obtain⟨z,F⟩:=zft q.zx;have p:¬(1:Nat)=2:=by decide
   have m:¬(1:Nat)=0:=by decide
   simp only[w,p,m,decide_true,decide_false,yl,ym,if_true,if_false];rw[zgs (by omega)];simp only[yd];by_cases cb:(z2l q.zx).2=0;·simp only[cb,decide_true,yr,ym,if_true,if_false];exact(zep u (by omega) z rfl rfl).ret
   ·simp only[cb,decide_false,yq,if_true,if_false];exact⟨_,rfl⟩
  ·have m:¬(2:Nat)=0:=by decide
   simp only[w,m,decide_true,decide_false,Bool.true_and,ym,if_true,if_false];by_cases cb:q.zx=[];·simp only[cb,decide_true,yr,ym,if_true,if_false];exact(zep u D E rfl rfl).ret
   ·simp only[cb,decide_false,yq,if_true,if_false];exact⟨_,rfl⟩
  ·have m:¬(3:Nat)=0:=by decide
   have A:¬(3:Nat)=1:=by decide
   have p:¬(3:Nat)=2:=by decide
   have H:¬(3:Nat)=4:=by decide
   simp only[w,m,A,p,H,decide_true,decide_false,yl,ym,if_true,if_false];grind[zs6]
  ·have m:¬(4:Nat)=0:=by decide
   have A:¬(4:Nat)=1:=by decide
   have p:¬(4:Nat)=2:=by decide
   simp only[w,m,A,p,decide_true,decide_false,yl,ym,if_true,if_false];rfl
 ·have v:(!decide (r.wh=2)&&!decide (q.z0d=[]))=true:=by have c1:¬r.wh=2:=fun h=>c (.inl h);have B:¬q.z0d=[]:=fun h=>c (.inr h);simp[c1,B]
  rw[if_neg c];simp only[v,yu,if_true];exact⟨_,rfl⟩
theorem zq3:zq2 []=true:=rfl
theorem zs2{r:Rw}(U:zfl r){q:q03}(C:fit q){f:Nat}(hf:34≤f){on:Z×Z}(z:zdk r.sg q.z00 [] []=some on):RZ2 (M.q5x f r.toR q) (askR r q on.1 on.2):=by
 have L:=C;obtain⟨_,f2,_,f4,f5,f6,B,f8⟩:=L;unfold M.q5x;rw[zj6 U f2,z];have V:(B16:Z)=z6n:=rfl;have W:(B36:Z)=z7o:=rfl;have X:(B34:Z)=kIf:=rfl;have g1:r.toR.zk=r.mr.testBit 0:=rfl;have g2:r.toR.z9x=r.mr.testBit 1:=rfl;have g3:r.toR.z5r=r.mr.testBit 2:=rfl;have S:=z7f B z6n;have m:=z7f B kIf;have I:=znu B;rw[V,W,X,g1,g2,g3];simp only[yb,yd,zk8 f6 B,z8t z6n (show q.zp.length<1000000000 by omega),z8t kIf (show q.zp.length<1000000000 by omega)]--the session
 obtain⟨s,N⟩:∃s,s=if r.mr.testBit 0=true then zgh q.zp else[]:=⟨_,rfl⟩;have a1:s.length<100000000:=by
  rw[N];split;·exact I
  ·simp
 have js:(if r.mr.testBit 0=true then some (zgh q.zp)else some [])=some s:=by rw[N];split<;>rfl
 have ps:sesP r.mr q.zp=if zcq s=true then some s else none:=by unfold sesP;rw[N];cases r.mr.testBit 0 with|true=>rfl|false=>rfl
 rw[js];simp only[yd];unfold askR zoh;rw[ps]--the token
 obtain⟨v,R⟩:∃v,z4p q.zp z6n []=v:=⟨_,rfl⟩;obtain⟨u,Q⟩:∃u,z4p q.zp kIf []=u:=⟨_,rfl⟩;rw[R]at S;rw[Q]at m;simp only[R,Q];have F:z7o.length=7:=rfl;have A:(if decide ((v.length:Int)<7)=true then some true else(sub v 0 7).bind fun b=>some !decide (b=z7o))=some !z7o.isPrefixOf v:=by
  rw[zl2,F];by_cases c:v.length<7
  ·have c':(v.length:Int)<7:=by omega
   have:¬v.take 7=z7o:=fun q=>by grind
   grind
  ·grind[zkc]
 have P:(∃t,(if r.mr.testBit 1=true then(if z95 q.zp z6n=true then if decide ((v.length:Int)<7)=true then some true else(sub v 0 7).bind fun b=>some !decide (b=z7o)else some false).bind fun n=>if n=true then some (.done (rA r.kd on.1 on.2 s [] [],false))else if z95 q.zp z6n=true then(sub v 7 (v.length:Int)).bind fun p=>some (.go p)else some (.go [])else some (.go []):Option (Jn (q00×Bool) Z))=some (.go t)∧t.length<100000000∧tokP r.mr q.zp=if(r.mr.testBit 1&&!z7c 33 126 t)=true then none else some t)∨(if r.mr.testBit 1=true then(if z95 q.zp z6n=true then if decide ((v.length:Int)<7)=true then some true else(sub v 0 7).bind fun b=>some !decide (b=z7o)else some false).bind fun n=>if n=true then some (.done (rA r.kd on.1 on.2 s [] [],false))else if z95 q.zp z6n=true then(sub v 7 (v.length:Int)).bind fun p=>some (.go p)else some (.go [])else some (.go []):Option (Jn (q00×Bool) Z))=some (.done (rA r.kd on.1 on.2 s [] [],false))∧tokP r.mr q.zp=none:=by unfold tokP;rw[R];cases T:r.mr.testBit 1 with|false=>simp|true=>cases h2:z95 q.zp z6n with|false=>grind[z7c]|true=>simp only[if_true,A,yd,true_and];cases G:z7o.isPrefixOf v with|false=>simp|true=>
     have K:7≤v.length:=by rw[zl2,F,decide_eq_true_iff]at G;have:=congrArg List.length G;rw[List.length_take,F]at this;omega
     have a0:sub v 7 (v.length:Int)=some (v.drop 7):=zan (l:=v) (a:=7) K;grind
 have Y:∀s t g,q00.mk r.toR.zf on.1 ([]:Z) ([]:Z) s ([]:Z) t ([]:Z) ([]:Z) ([]:Z) ([]:Z) ([]:Z) ([]:Z) ([]:Z) ([]:Z) ([]:Z) on.2 ([]:Z) ([]:Z) ([]:Z) g ([]:Z) ([]:Z) [] 0 0=rA r.kd on.1 on.2 s t g:=fun _ _ _=>rfl;simp only[Y];rcases P with⟨t,j,a2,k⟩|⟨j,k⟩;rotate_left;·rw[j,k];cases if zcq s=true then some s else none with|none=>exact⟨_,rfl⟩|some x=>exact⟨_,rfl⟩
 rw[j];simp only[yd]--the tag
 have O:(∃g,(if r.mr.testBit 2=true then(if z95 q.zp kIf=true then if decide ((u.length:Int)<2)=true then some true else(ix u 0).bind fun d=>if(!decide ((d.toNat:Int)=34))=true then some true else(ix u (ybd .i64 ((u.length:Int)-1))).bind fun e=>some !decide ((e.toNat:Int)=34)else some false).bind fun o=>if o=true then some (.done (rA r.kd on.1 on.2 s t [],false))else if z95 q.zp kIf=true then(sub u 1 (ybd .i64 ((u.length:Int)-1))).bind fun w=>some (.go w)else some (.go [])else some (.go []):Option (Jn (q00×Bool) Z))=some (.go g)∧g.length<100000000∧tagP r.mr q.zp=if zq2 g=true then some g else none)∨(if r.mr.testBit 2=true then(if z95 q.zp kIf=true then if decide ((u.length:Int)<2)=true then some true else(ix u 0).bind fun d=>if(!decide ((d.toNat:Int)=34))=true then some true else(ix u (ybd .i64 ((u.length:Int)-1))).bind fun e=>some !decide ((e.toNat:Int)=34)else some false).bind fun o=>if o=true then some (.done (rA r.kd on.1 on.2 s t [],false))else if z95 q.zp kIf=true then(sub u 1 (ybd .i64 ((u.length:Int)-1))).bind fun w=>some (.go w)else some (.go [])else some (.go []):Option (Jn (q00×Bool) Z))=some (.done (rA r.kd on.1 on.2 s t [],false))∧tagP r.mr q.zp=none:=by unfold tagP;rw[Q];cases T:r.mr.testBit 2 with|false=>grind[zq3]|true=>cases h2:z95 q.zp kIf with|false=>grind[zq3]|true=>
    simp only[if_true,true_and];by_cases D:2≤u.length
    ·have E:¬(u.length:Int)<2:=by omega
     obtain⟨x,y,hx,hy,C⟩:=zix D;have h0:ix u 0=some x:=by rw[ztx,←List.head?_eq_getElem?,hx]
     have a3:=zz01m u;simp only[E,decide_false,ym,if_false,h0,zza D m,hy,yd,zz05l,C,zz01n D m];grind
    grind[zg7]
 rcases O with⟨g,h,J,i⟩|⟨h,i⟩;rotate_left;·rw[h,i];cases if zcq s=true then some s else none with|none=>exact⟨_,rfl⟩|some x=>cases tokP r.mr q.zp<;>exact⟨_,rfl⟩
 rw[h];have H:M.q5w t 33 126=some (z7c 33 126 t):=zc5 33 126 (by omega);simp only[yd,zpl (show s.length<1000000000 by omega),H,zw5 J];rw[k,i];cases T:zcq s with|false=>simp only[yq,if_true,yd,ym,if_false];exact⟨_,rfl⟩|true=>
  simp only[yr,ym,if_false,if_true];have hj:(if r.mr.testBit 1=true then some !z7c 33 126 t else some false)=some (r.mr.testBit 1&&!z7c 33 126 t):=by cases r.mr.testBit 1<;>rfl
  rw[hj];simp only[yd];cases h2:r.mr.testBit 1&&!z7c 33 126 t with|true=>simp only[if_true,yd];exact⟨_,rfl⟩|false=>simp only[ym,if_false,yd];cases G:zq2 g with|false=>simp only[yq,if_true,ym,if_false];exact⟨_,rfl⟩|true=>simp only[yr,ym,if_false,if_true];exact zs4 U C hf r.kd on.1 on.2 s t g
theorem zz09e{L:List Rw}(u:∀r∈L,zfl r)(hl:L.length<1000){q:q03}(m:fit q){f:Nat}(hf:34≤f):∀(n i:Nat)(e:Int),L.length-i=n→i≤L.length→¬e=0→∃z,M.z5l (L.map Rw.toR) q f e (i:Int)=some z∧((∃a,zv1 q (L.drop i) e=(a,0)∧z=.done (a,0))∨∃e',¬e'=0∧zv1 q (L.drop i) e=(zA,e')∧z=.go e'):=by
 intro n;induction n with|zero=>
  intro i e hn v g;have:¬(i:Int)<((L.map Rw.toR).length:Int):=by rw[yap];omega
  rw[M.z5l.eq_1,yad (by omega)];simp only[this,decide_false,ym,if_false];exact⟨_,rfl,.inr ⟨e,g,rfl,rfl⟩⟩|succ n j=>
  intro i e hn v g;have d:i<L.length:=by omega
  have t:(i:Int)<((L.map Rw.toR).length:Int):=by rw[yap];omega
  have o:=u _ (yal d);rw[M.z5l.eq_1,yac d,zv1];simp only[t,decide_true,if_true,z3f,yak,yaj d,ye,yb,yd];rw[w1 (by omega),zj6 o m.2.1];cases h:zdk L[i].sg q.z00 [] []with|none=>simp only[yd,yq,if_true];exact j (i+1) e (by omega) (by omega) g|some on=>
   simp only[yd,yr,ym,if_false];have s:L[i].toR.zt=L[i].me:=rfl;have p:(if decide (e=225)=true then some 226 else some e)=some (if e=225 then 226 else e):=by by_cases c:e=225<;>simp[c]
   rw[s,p];simp only[yd];by_cases k:L[i].me=q.zt;·simp only[k,decide_true,yr,ym,if_false,if_true];have b:=zs2 o m hf h;cases l:askR L[i] q on.1 on.2 with|some a=>rw[l]at b;have b:M.q5x f L[i].toR q=some (a,true):=b;grind|none=>rw[l]at b;obtain⟨a,b⟩:=b;rw[b];simp only[yd,ym,if_false];exact j (i+1) 227 (by omega) (by omega) (by decide)
   ·simp only[k,decide_false,yq,if_true,if_false];exact j (i+1) _ (by omega) (by omega) (by omega)
theorem zw4{q:q03}(g:fit q){f:Nat}(hf:34≤f):M.q5h f q=some (zt4 q):=by
 unfold M.q5h zt4;rw[zj5];simp only[yb,yd];obtain⟨z,b,d⟩:=zz09e (L:=tab) (fun r h=>zfh h) (by decide) g hf _ 0 225 rfl (yba _) (by decide);have b:M.z5l (tab.map Rw.toR) q f 225 0=some z:=b;rw[yaf]at d;rw[b];rcases d with⟨a,c,rfl⟩|⟨e,_,c,rfl⟩;·grind
 ·rw[c];rfl
theorem zz008:∀c:UInt8,M.q4l (c.toNat:Int)=some (zel c):=by have:∀c:UInt8,decide (M.q4l (c.toNat:Int)=some (zel c))=true:=z6f (by decide+kernel);exact fun c=>of_decide_eq_true (this c)
def pctD(c:UInt8):Z:=if zel c=true then[c]else[37,hxU (c.toNat/16),hxU (c.toNat%16)]
theorem zz03j:∀c:UInt8,ix ([48,49,50,51,52,53,54,55,56,57,65,66,67,68,69,70]:Z) (ybd .u8 (Int.tdiv (c.toNat:Int) 16))=some (hxU (c.toNat/16))∧ix ([48,49,50,51,52,53,54,55,56,57,65,66,67,68,69,70]:Z) (Int.tmod (c.toNat:Int) 16)=some (hxU (c.toNat%16)):=by have:∀c:UInt8,decide (ix ([48,49,50,51,52,53,54,55,56,57,65,66,67,68,69,70]:Z) (ybd .u8 (Int.tdiv (c.toNat:Int) 16))=some (hxU (c.toNat/16))∧ix ([48,49,50,51,52,53,54,55,56,57,65,66,67,68,69,70]:Z) (Int.tmod (c.toNat:Int) 16)=some (hxU (c.toNat%16)))=true:=z6f (by decide+kernel);exact fun c=>of_decide_eq_true (this c)
theorem zsd{s:Z}(h:s.length<100000000):∀(n i:Nat)(a:Z),s.length-i=n→i≤s.length→a.length≤3*i→M.z2x s (unb a) (i:Int)=some (unb (a++(s.drop i).flatMap pctD)):=by intro n;induction n with|zero=>intro i a hn j g;rw[M.z2x.eq_1,yad (by omega),if_neg (by simp;omega)];simp|succ n c=>
  intro i a hn j g;have b:i<s.length:=by omega
  rw[M.z2x.eq_1,yac b,List.flatMap_cons];have f:(i:Int)<(s.length:Int):=by omega
  simp only[f,decide_true,if_true,z3f,yaj b,yb,yd,zz008];rw[w1 (by omega)];have d:pctD s[i]=if zel s[i]=true then[s[i]]else[37,hxU (s[i].toNat/16),hxU (s[i].toNat%16)]:=rfl;rw[d];cases m:zel s[i]with|true=>simp only[if_true];rw[z0h (by rw[zl];simp;omega)];simp only[yd];rw[zca,c (i+1) _ (by omega) (by omega) (by simp;omega)];simp|false=>
   obtain⟨k,l⟩:=zz03j s[i];simp only[ym,if_false,k,l,yd];rw[z0h (by rw[zl];simp;omega)];simp only[yd];have e:unb a++[37,((hxU (s[i].toNat/16)).toNat:Int),((hxU (s[i].toNat%16)).toNat:Int)]=unb (a++[37,hxU (s[i].toNat/16),hxU (s[i].toNat%16)]):=by rw[z0j];rfl
   rw[e,c (i+1) _ (by omega) (by omega) (by simp;omega)];simp
theorem zz006(c:UInt8):pctD c=zp9 [37,50,48] c:=by
 unfold pctD zp9;split;·rfl
 ·split;·rename_i h;subst h;decide
  ·rfl
theorem zcr{s:Z}(h:s.length<100000000):M.q4h s=some (zff s):=by unfold M.q4h;have:M.z2x s [] 0=_:=zsd h _ 0 [] rfl (yba _) (yba _);rw[this,yaf];have e:pctD=zp9 [37,50,48]:=funext zz006;simp only[yb,yd,yay,z74,e];rfl
theorem zz04t{s:Z}(h:s.length<100000000):∀(n i:Nat)(a:Z),s.length-i=n→i≤s.length→a.length≤3*i→M.z5d s (unb a) (i:Int)=some (unb (a++ziq (s.drop i))):=by intro n;induction n with|zero=>intro i a hn m l;rw[M.z5d.eq_1,yad (by omega),if_neg (by simp;omega)];simp[ziq,pct]|succ n j=>
  intro i a hn m l;have b:i<s.length:=by omega
  have o:ziq (s[i]::s.drop (i+1))=zp9 [43] s[i]++ziq (s.drop (i+1)):=zh2 _ _ _;rw[M.z5d.eq_1,yac b,o];have k:(i:Int)<(s.length:Int):=by omega
  have f:=z9q (c:=s[i]) (n:=32) (by decide);have f:(s[i].toNat:Int)=32↔s[i]=32:=f;simp only[k,decide_true,if_true,z3f,yaj b,yb,yd];by_cases d:s[i]=32
  ·rw[if_pos (by simpa using f.2 d),z0h (by rw[zl];simp;omega),w1 (by omega)];simp only[yd];have e:unb a++[43]=unb (a++[43]):=zca a 43;have g:zp9 [43] s[i]=[43]:=by rw[d];decide
   rw[e,g,j (i+1) _ (by omega) (by omega) (by simp;omega)];simp
  ·rw[if_neg (by simpa using fun q=>d (f.1 q)),sub_1 b (by omega)];simp only[yd];rw[zcr (by simp)];simp only[yd];have g:zff [s[i]]=zp9 [43] s[i]:=by have:zff [s[i]]=zp9 [37,50,48] s[i]++[]:=zh2 _ _ _;rw[this,yx];unfold zp9;rw[if_neg d,if_neg d]
   have hl:=zms (bl:=[43]) (by simp) s[i];rw[g,z0h (by rw[zl,zl];omega),w1 (by omega)];simp only[yd];rw[←z0j,j (i+1) _ (by omega) (by omega) (by simp;omega)];simp
theorem zj1{s:Z}(h:s.length<100000000):M.q4n s=some (ziq s):=by unfold M.q4n;have:M.z5d s [] 0=_:=zz04t h _ 0 [] rfl (yba _) (yba _);rw[this,yaf];simp[z74]
theorem zli{l:List q05}(hf:zf2 l){i:Nat}(b:i<l.length){acc acc2:Z}(hl:acc2.length≤100000000000)(h:i<1000)(a:(if decide (0<(i:Int))=true then(cat acc [38]).bind fun c=>some c else some acc)=some acc2):M.z2u l acc (i:Int)=M.z2u l (acc2++fld l[i]) ((i+1:Nat):Int):=by
 have e:(i:Int)<(l.length:Int):=by omega
 obtain⟨f,g⟩:=hf l[i] (yal b);have d:=zbb (bl:=[43]) (by simp) l[i].zj;have l2:=zbb (bl:=[43]) (by simp) l[i].z1y;have d:(ziq l[i].zj).length≤3*l[i].zj.length:=d;have l2:(ziq l[i].z1y).length≤3*l[i].z1y.length:=l2;conv=>lhs;rw[M.z2u.eq_1]
 simp only[e,decide_true,if_true,z3f,yaj b,yb,yd,a];rw[zj1 f];simp only[yd];rw[z34 (by simp;omega)];simp only[yd];rw[zj1 g];simp only[yd];rw[z34 (by simp;omega)];simp only[yd];rw[z34 (by simp;omega),w1 (by omega)];rfl
theorem zz04k{l:List q05}(hl:l.length≤64)(hf:zf2 l):∀(n i:Nat)(a:Z),l.length-i=n→1≤i→i≤l.length→a.length≤i*700000000→M.z2u l a (i:Int)=some (a++Lib.joinTail [38] ((l.drop i).map fld)):=by intro n;induction n with|zero=>intro i a hn d h f;rw[M.z2u.eq_1,yad (by omega),if_neg (by simp;omega)];simp[Lib.joinTail]|succ n j=>
  intro i a hn d h f;have b:i<l.length:=by omega
  have g:=zqy (hf l[i] (yal b));have c:(0:Int)<(i:Int):=by omega
  rw[zli hf b (acc2:=a++[38]) (by simp;omega) (by omega) (by rw[if_pos (by simpa using c),z34 (by simp;omega)];rfl)];rw[j (i+1) _ (by omega) (by omega) (by omega) (by simp only[yam,yas];omega),yac b,yat];have e:Lib.joinTail [38] (fld l[i]::(l.drop (i+1)).map fld)=[38]++fld l[i]++Lib.joinTail [38] ((l.drop (i+1)).map fld):=rfl;rw[e];simp
theorem ziy{l:List q05}(hl:l.length<100000000)(hf:zf2 l):M.q4c l=some (form l):=by
 unfold M.q4c form;by_cases a:64<l.length
 ·have:(64:Int)<(l.length:Int):=by omega
  simp[a,this]
 ·have:¬(64:Int)<(l.length:Int):=by omega
  have f:M.z2u l [] 0=some (z4s l):=by cases l with|nil=>rw[M.z2u.eq_1,if_neg (by simp)];rfl|cons p r=>
    have d:=zqy (hf p (by simp));have c:(0:Nat)<(p::r).length:=by simp
    have e:=zli hf c (acc:=[]) (acc2:=[]) (by simp) (by omega) (by rfl);have e:M.z2u (p::r) [] 0=M.z2u (p::r) ([]++fld p) ((1:Nat):Int):=e;rw[e,zz04k (by omega) hf _ 1 _ rfl (ya5 _) (by simp) (by simp;omega)];unfold z4s;rw[yat,Lib.join_cons];rfl
  simp only[this,a,decide_false,ym,if_false,yb,f,yd];by_cases b:8192<(z4s l).length
  ·have:(8192:Int)<((z4s l).length:Int):=by omega
   simp[b,this]
  ·have:¬(8192:Int)<((z4s l).length:Int):=by omega
   simp[b,this]
theorem zlb:∀f:List Z,f.Nodup↔∀a∈f,f.count a=1
 |[]=>by simp|x::r=>by
  have j:=zlb r;rw[yaz,j];constructor
  ·rintro⟨c,h2⟩a b;rw[yaa];rcases yau.1 b with rfl|b;·rw[List.count_eq_zero.2 c];simp
   ·have:¬x=a:=fun e=>c (by rw[e];exact b);rw[h2 a b];simp[this]
  ·intro h;have g:x∉r:=fun i=>by have:=h x (by simp);rw[yaa]at this;have c:=List.count_pos_iff.2 i;simp at this;omega
   refine⟨g,fun a b=>?_⟩;have:=h a (by simp[b]);rw[yaa]at this;have d:¬x=a:=fun e=>g (by rw[e];exact b);simpa[d]using this
theorem zky(l:List q05)(k:Z):zak l k=(l.map (·.zj)).count k:=by unfold zak;rw[List.count,List.countP_map];congr 1;funext p;exact(Bool.beq_eq_decide_eq _ _).symm
theorem zi6:∀(l:List q05)(f:List Z),(∃r,z9f l f=some r)↔(∀p∈l,zh0 p.zj=true∧isVal p.z1y=true∧¬p.zj∈f)∧(l.map (·.zj)).Nodup
 |[],f=>by simp[z9f]|p::r,f=>by
  have m:=zi6 r (p.zj::f);unfold z9f;by_cases h:zh0 p.zj=true∧isVal p.z1y=true∧¬p.zj∈f
  ·have i:(zh0 p.zj&&isVal p.z1y&&!f.contains p.zj)=true:=by simp[h]
   rw[if_pos i,m,yat,yaz];constructor
   ·rintro⟨g,h2⟩;refine⟨fun q d=>?_,fun k=>?_,h2⟩
    ·rcases yau.1 d with rfl|d;·exact h
     ·obtain⟨a,b,c⟩:=g q d;exact⟨a,b,fun e=>c (by simp[e])⟩
    ·obtain⟨q,d,e⟩:=yav.1 k;exact(g q d).2.2 (by rw[e];simp)
   ·rintro⟨g,h2,j⟩;refine⟨fun q d=>?_,j⟩;obtain⟨a,b,c⟩:=g q (by simp[d]);refine⟨a,b,fun e=>?_⟩;rcases yau.1 e with e|e;·exact h2 (yav.2 ⟨q,d,e⟩)
    ·exact c e
  ·have i:¬(zh0 p.zj&&isVal p.z1y&&!f.contains p.zj)=true:=fun e=>h (by simp only[yg,yp]at e;exact⟨e.1.1,e.1.2,by simpa using e.2⟩);rw[if_neg i];constructor;·rintro⟨_,e⟩;cases e
   ·rintro⟨g,_⟩;exact absurd (g p (by simp)) h
theorem zl0:∀(l:List q05)(a r:List Z),z9f l a=some r→∀k,r.contains k=(a.contains k||z95 l k)
 |[],a,r,h,k=>by unfold z9f at h;cases h;simp[z95]|p::t,a,r,h,k=>by
  unfold z9f at h;split at h
  ·rw[zl0 t _ r h k,yz];unfold z95;rw[List.any_cons];by_cases e:k=p.zj;·subst e;simp
   ·have b:¬p.zj=k:=fun q=>e q.symm;have c:(k==p.zj)=false:=by rw[yj];intro q;exact e (eq_of_beq q)
    rw[c,decide_eq_false b];simp
  ·cases h
def zgk(l:List q05)(p:q05):Bool:=zh0 p.zj&&isVal p.z1y&&decide (zak l p.zj=1)&&!decide (p.zj=z8k)&&!decide (p.zj=z6m)
theorem zvm(l:List q05):za1 l=(decide (l.length≤32)&&z95 l z45&&l.all (zgk l)):=by
 have key:(∃r,z9f l [z6m,z8k]=some r)↔l.all (zgk l)=true:=by
  rw[zi6,zlb,yv];unfold zgk;constructor
  ·rintro⟨m,h2⟩p d;obtain⟨a,b,c⟩:=m p d;have hn:zak l p.zj=1:=by rw[zky];exact h2 _ (yav.2 ⟨p,d,rfl⟩)
   have c1:¬p.zj=z8k:=fun e=>c (by simp[e]);have f:¬p.zj=z6m:=fun e=>c (by simp[e]);simp[a,b,hn,c1,f]
  ·intro h;refine⟨fun p d=>?_,fun a n=>?_⟩;·have:=h p d;simp only[yg,yp,decide_eq_true_eq,decide_eq_false_iff_not]at this;obtain⟨⟨⟨⟨a,b⟩,_⟩,c1⟩,f⟩:=this;exact⟨a,b,fun e=>by
     simp only[yau,ya1,or_false]at e;rcases e with e|e;·exact f e
     ·exact c1 e⟩
   ·obtain⟨p,d,rfl⟩:=yav.1 n;have:=h p d;simp only[yg,decide_eq_true_eq]at this;rw[←zky];exact this.1.1.2
 unfold za1;cases i:z9f l [z6m,z8k]with
 |none=>
  have:l.all (zgk l)=false:=by rw[yj];intro e;obtain⟨r,h⟩:=key.2 e;rw[i]at h;cases h
  rw[this];simp|some k=>
  have:l.all (zgk l)=true:=key.1 ⟨k,i⟩;have j:=zl0 l _ k i z45;have g:([z6m,z8k]:List Z).contains z45=false:=by decide
  rw[g,yn]at j;rw[this];simp only[j,yi]
theorem zz00r{q:q03}(hl:q.zp.length<100000000)(hf:zf2 q.zp):∀(n i:Nat)(b:Bool),q.zp.length-i=n→i≤q.zp.length→M.z4y q b (i:Int)=some (b&&(q.zp.drop i).all (zgk q.zp)):=by intro n;induction n with|zero=>intro i b hn g;rw[M.z4y.eq_1,yad (by omega),if_neg (by simp;omega)];simp|succ n h=>
  intro i b hn g;have a:i<q.zp.length:=by omega
  have f:(i:Int)<(q.zp.length:Int):=by omega
  rw[M.z4y.eq_1,yac a,List.all_cons];cases b with|false=>simp|true=>
   obtain⟨k,l⟩:=hf q.zp[i] (yal a);simp only[f,decide_true,yh,if_true,z3f,yaj a,yb,yd];rw[zc3 _ (by omega),zs7 (by omega),zg8 (by omega),w1 (by omega)];simp only[yd];have cl:(B20:Z)=z8k:=rfl;have j:(B18:Z)=z6m:=rfl;have e:decide (((zak q.zp q.zp[i].zj:Nat):Int)=1)=decide (zak q.zp q.zp[i].zj=1):=decide_eq_decide.2 (by omega);have key:∀c:Bool,(if zh0 q.zp[i].zj=true then(some (isVal q.zp[i].z1y)).bind fun d=>some d else some false)=some (zh0 q.zp[i].zj&&isVal q.zp[i].z1y):=fun _=>by cases zh0 q.zp[i].zj<;>rfl
   rw[cl,j,e];have key:=key true;simp only[yd]at key;rw[key];simp only[yd];rw[h (i+1) _ (by omega) (by omega)];unfold zgk;rfl
theorem zz00s{q:q03}(hl:q.z00.length≤64)(g:∀p∈q.z00,p.length<100000000):∀(n i:Nat)(a:Z),q.z00.length-i=n→i≤q.z00.length→a.length≤500000000+i*400000000→M.z4z q (unb a) (i:Int)=some (unb (a++z94 (q.z00.drop i)))∧(a++z94 (q.z00.drop i)).length≤500000000+q.z00.length*400000000:=by
 intro n;induction n with|zero=>
  intro i a hn f c;rw[M.z4z.eq_1,yad (by omega)];have:¬(i:Int)<(q.z00.length:Int):=by omega
  have e:i=q.z00.length:=by omega
  subst e;rw[zp8,yx];simp only[this,decide_false,ym,if_false];exact⟨trivial,c⟩|succ n j=>
  intro i a hn f c;have b:i<q.z00.length:=by omega
  have d:(i:Int)<(q.z00.length:Int):=by omega
  have l:=g q.z00[i] (by simp);have k:=zbb (bl:=[37,50,48]) (by simp) q.z00[i];rw[M.z4z.eq_1,yac b];simp only[d,decide_true,if_true,z3f,yaj b,yb,yd];rw[zcr (by omega)];simp only[yd];have h:(zff q.z00[i]).length≤300000000:=by unfold zff;omega
  rw[z34 (by simp;omega)];simp only[yd];rw[z0h (by rw[zl,zl];simp;omega),w1 (by omega)];simp only[yd];rw[←z0j];have:=j (i+1) (a++([47]++zff q.z00[i])) (by omega) (by omega) (by simp;omega);have e:a++z94 (q.z00[i]::q.z00.drop (i+1))=a++([47]++zff q.z00[i])++z94 (q.z00.drop (i+1)):=by rw[zlf,yw,yy,ya2,yy]
  rw[e];exact this
theorem zz00t{q:q03}(hl:q.zp.length≤32)(g:zf2 q.zp):∀(n i:Nat)(a:Z),q.zp.length-i=n→i≤q.zp.length→a.length≤60000000000+i*400000000→M.z50 q (unb a) (i:Int)=some (unb (a++zgo (q.zp.drop i)))∧(a++zgo (q.zp.drop i)).length≤60000000000+q.zp.length*400000000:=by
 intro n;induction n with|zero=>
  intro i a hn f c;rw[M.z50.eq_1,yad (by omega)];have:¬(i:Int)<(q.zp.length:Int):=by omega
  have e:i=q.zp.length:=by omega
  subst e;rw[zoi,yx];simp only[this,decide_false,ym,if_false];exact⟨trivial,c⟩|succ n h=>
  intro i a hn f c;have b:i<q.zp.length:=by omega
  have d:(i:Int)<(q.zp.length:Int):=by omega
  have j:=g q.zp[i] (by simp);rw[M.z50.eq_1,yac b];simp only[d,decide_true,if_true,z3f,yaj b,yb,yd];rw[z34 (by simp;omega)];simp only[yd];rw[z34 (by simp;omega)];simp only[yd];rw[z34 (by simp;omega)];simp only[yd];rw[z0h (by rw[zl,zl];simp;omega),w1 (by omega)];simp only[yd];rw[←z0j];have:=h (i+1) (a++zog q.zp[i]) (by omega) (by omega) (by unfold zog;simp;omega);have e:a++zgo (q.zp[i]::q.zp.drop (i+1))=a++zog q.zp[i]++zgo (q.zp.drop (i+1)):=by rw[zkz,yw]
  rw[e];exact this
theorem zz03d{l:List q05}{k:Z}(h:z95 l k=true):∃p∈l,z4p l k []=p.z1y:=by unfold z95 at h;unfold z4p;cases hf:l.find? fun p=>decide (p.zj=k)with|none=>rw[yah]at hf;obtain⟨p,a,e⟩:=List.any_eq_true.1 h;exact absurd e (hf p a)|some p=>exact⟨p,yaw hf,rfl⟩
theorem zpi{q:q03}(h:fit q):M.q5m q=some (zbc q):=by
 obtain⟨f1,f2,U,V,W,X,G,f8⟩:=h;unfold M.q5m;rw[ziy V W];have T:(B29:Z)=z45:=rfl;rw[T,z8t _ (by omega),zmx (by omega)];simp only[yb,yd];have m:(z4p q.zp z45 []).length<1000000000:=by
  unfold z4p;split;·rename_i p I;have:=G p (yaw I);omega
  ·simp
 rw[zg8 m];have H:∀b,M.z4y q b 0=some (b&&q.zp.all (zgk q.zp)):=fun b=>by have:=zz00r X G _ 0 b rfl (yba _);rw[yaf]at this;exact this
 simp only[yd,H];have cond:∀t:Option (Z×Int),((if(z8q q.zt&&decide (1≤(q.z00.length:Int))&&decide ((q.z00.length:Int)≤64)&&decide ((form q.z0d).2=0)&&(decide ((q.zp.length:Int)≤31)||decide ((q.zp.length:Int)=32)&&decide (q.zx=([]:Z)))&&z95 q.zp z45)=true then some (isVal (z4p q.zp z45 []))else some false).bind fun L=>if(!(L&&decide ((q.zx.length:Int)≤16384)&&q.zp.all (zgk q.zp)))=true then some (([]:Z),(224:Int))else t)=if(!zn0 q)=true then some ([],224)else t:=by
  intro t;have F:decide (1≤(q.z00.length:Int))=decide (1≤q.z00.length):=decide_eq_decide.2 (by omega);have Q:decide ((q.z00.length:Int)≤64)=decide (q.z00.length≤64):=decide_eq_decide.2 (by omega);have R:(decide ((q.zp.length:Int)≤31)||decide ((q.zp.length:Int)=32)&&decide (q.zx=([]:Z)))=(decide (q.zp.length≤32)&&!(decide (q.zp.length=32)&&!decide (q.zx=([]:Z)))):=by
   by_cases c:q.zp.length≤31
   ·have c1:(q.zp.length:Int)≤31:=by omega
    have j:q.zp.length≤32:=by omega
    have l:¬q.zp.length=32:=by omega
    rw[decide_eq_true c1,decide_eq_true j,decide_eq_false l];rfl
   ·have c1:¬(q.zp.length:Int)≤31:=by omega
    by_cases d:q.zp.length=32
    ·have j:q.zp.length≤32:=by omega
     have l:(q.zp.length:Int)=32:=by omega
     rw[decide_eq_false c1,decide_eq_true j,decide_eq_true l,decide_eq_true d];cases decide (q.zx=([]:Z))<;>rfl
    ·have j:¬q.zp.length≤32:=by omega
     have l:¬(q.zp.length:Int)=32:=by omega
     rw[decide_eq_false c1,decide_eq_false j,decide_eq_false l];rfl
  have S:decide ((q.zx.length:Int)≤16384)=decide (q.zx.length≤16384):=decide_eq_decide.2 (by omega);have B:z95 q.zp z45=true→q.zp.all (zgk q.zp)=true→isVal (z4p q.zp z45 [])=true:=fun a b=>by obtain⟨p,I,e⟩:=zz03d a;have:=yv.1 b p I;unfold zgk at this;simp only[yg]at this;rw[e];exact this.1.1.1.2
  unfold zn0;rw[F,Q,R,S,zvm];generalize isVal (z4p q.zp z45 [])=v at B;generalize z95 q.zp z45=hh at B;generalize q.zp.all (zgk q.zp)=al at B;generalize decide (q.zp.length=32)=D;generalize decide (q.zp.length≤32)=E;generalize decide (q.zx=([]:Z))=nb;generalize decide (q.zx.length≤16384)=lb;generalize decide ((form q.z0d).2=0)=Y;generalize decide (1≤q.z00.length)=w;generalize decide (q.z00.length≤64)=x;generalize z8q q.zt=me;cases hh<;>cases al<;>cases v<;>first|exact absurd (B rfl rfl) (by decide)|(cases me<;>cases w<;>cases x<;>cases Y<;>cases lb<;>cases E<;>cases D<;>cases nb<;>rfl)
 rw[cond];unfold zbc;cases hk:zn0 q with|false=>rfl|true=>
  simp only[yr,ym,if_false,if_true];have g:=hk;unfold zn0 at g;simp only[yg,decide_eq_true_eq]at g;obtain⟨⟨⟨⟨⟨⟨k1,O⟩,k3⟩,P⟩,C⟩,k6⟩,k7⟩:=g;obtain⟨g1,g2⟩:=zkx _ k1;have a4:q.zt.length≤8:=by unfold z8q at O;simp at O;omega
  have f:q.zp.length≤32:=by
   unfold za1 at C;split at C;·simp at C;omega
   ·cases C
  rw[z34 (by simp;omega)];simp only[yd];rw[z3k (by simp;omega)];simp only[yd];have w:=zz00s P U _ 0 (q.zt++[32]) rfl (yba _) (by simp;omega);rw[yaf]at w;have p1a:M.z4z q (unb (q.zt++[32])) 0=_:=w.1;rw[p1a];simp only[yd,g1];have a0:(z94 q.z00).length≤26100000000:=by have:=w.2;simp only[yam]at this;have:q.z00.length*400000000≤64*400000000:=ya7 _ P;omega
  have hq:(if decide (0<(q.z0d.length:Int))=true then(cat [63] (z4s q.z0d)).bind fun y=>(app 1 (unb (q.zt++[32]++z94 q.z00)) (unb y)).bind fun o=>some o else some (unb (q.zt++[32]++z94 q.z00)))=some (unb (q.zt++[32]++z94 q.z00++if z4s q.z0d=[]then[]else 63::z4s q.z0d)):=by cases J:q.z0d with|nil=>have:z4s []=[]:=rfl;simp[this]|cons p r=>have c:¬z4s (p::r)=[]:=zz037 (by simp);rw[J]at g2;have F:cat [63] (z4s (p::r))=some (63::z4s (p::r)):=z34 (a:=[63]) (by simp;omega);rw[if_pos (by simp),F,if_neg c];simp only[yd];rw[z0h (by rw[zl,zl];simp;omega),←z0j];rfl
  rw[hq];simp only[yd];have a1:(if z4s q.z0d=[]then([]:Z)else 63::z4s q.z0d).length≤8193:=by
   split;·simp
   ·simp;omega
  obtain⟨u,K⟩:∃u,q.zt++[32]++z94 q.z00++(if z4s q.z0d=[]then[]else 63::z4s q.z0d)=u:=⟨_,rfl⟩;have a5:u.length≤26200000000:=by rw[←K];simp only[yam,yas];omega
  rw[K,z0h (by rw[zl,zl];simp;omega),←z0j];simp only[yd];have x:=zz00t f G _ 0 (u++[32,72,84,84,80,47,49,46,49,13,10]) rfl (yba _) (by simp;omega);rw[yaf]at x;have p2a:M.z50 q (unb (u++[32,72,84,84,80,47,49,46,49,13,10])) 0=_:=x.1;rw[p2a];simp only[yd];obtain⟨v,m⟩:∃v,u++[32,72,84,84,80,47,49,46,49,13,10]++zgo q.zp=v:=⟨_,rfl⟩;have a6:v.length≤73000000000:=by have h1:=x.2;rw[m]at h1;have:q.zp.length*400000000≤32*400000000:=ya7 _ f;omega
  rw[m];have a3:=z6q (n:=q.zx.length) (k:=5) (by omega) (by decide);have hc:(if(!decide (q.zx=([]:Z)))=true then(M.q6h (q.zx.length:Int)).bind fun i=>(cat B17 i).bind fun z=>(cat z [13,10]).bind fun A=>(app 1 (unb v) (unb A)).bind fun s=>some s else some (unb v))=some (unb (v++if q.zx=[]then[]else clS q.zx.length)):=by
   by_cases c:q.zx=[];·simp[c]
   ·rw[if_pos (by simp[c]),if_neg c,zmy (by omega)];simp only[yd];rw[z34 (by simp;omega)];simp only[yd];rw[z34 (by simp;omega)];simp only[yd];rw[z0h (by rw[zl,zl];simp;omega),←z0j];rfl
  rw[hc];simp only[yd];have a2:(if q.zx=[]then([]:Z)else clS q.zx.length).length≤100:=by
   split;·simp
   ·unfold clS;simp;omega
  rw[z0h (by rw[zl,zl];simp;omega),←z0j];simp only[yd];have hr:v++(if q.zx=[]then[]else clS q.zx.length)++[13,10]=z7p q:=by rw[←m,←K];rfl
  rw[hr,zl,z74];by_cases N:8192<(z7p q).length
  ·have:(8192:Int)<((z7p q).length:Int):=by omega
   simp[N,this]
  ·have:¬(8192:Int)<((z7p q).length:Int):=by omega
   simp only[this,N,decide_false,ym,if_false];rw[z34 (by omega)];rfl
section
theorem drop_eq{α:Type}{l m:List α}{i:Nat}(hl:i<l.length)(b:i<m.length):l.drop i=m.drop i↔l[i]=m[i]∧l.drop (i+1)=m.drop (i+1):=by
 rw[yac hl,yac b];constructor;·intro h;injection h with a h2;exact⟨a,h2⟩
 ·rintro⟨a,h2⟩;rw[a,h2]
theorem zga{l m:List Z}(hl:l.length<1000000000)(k:l.length=m.length){F:Int→Option (Jn Bool Unit)}(hF:∀i,F i=if decide (i<(l.length:Int))=true then(ix l i).bind fun e=>(ix m i).bind fun f=>if(!decide (e=f))=true then some (.done false)else F (ybd .i64 (i+1))else some (.go ())):∀(n i:Nat),l.length-i=n→i≤l.length→F (i:Int)=some (if l.drop i=m.drop i then .go ()else .done false):=by
 intro n;induction n with|zero=>
  intro i hn h;have:¬(i:Int)<(l.length:Int):=by omega
  rw[hF,yad (show l.length≤i by omega),yad (show m.length≤i by omega)];simp[this]|succ n j=>
  intro i hn h;have b:i<l.length:=by omega
  have a:i<m.length:=by omega
  have g:(i:Int)<(l.length:Int):=by omega
  rw[hF];simp only[g,decide_true,if_true,z3f,yaj b,yaj a,yd];have hd:=drop_eq b a;by_cases c:l[i]=m[i]
  ·simp only[c,decide_true,yr,ym,if_false];rw[w1 (by omega),j (i+1) (by omega) (by omega)];by_cases d:l.drop (i+1)=m.drop (i+1);·rw[if_pos d,if_pos (hd.2 ⟨c,d⟩)]
   ·rw[if_neg d,if_neg fun q=>d (hd.1 q).2]
  ·rw[if_neg fun q=>c (hd.1 q).1];simp[c]
theorem zwl{l m:List Z}(hl:l.length<1000000000):M.q4u l m=some (decide (l=m)):=by
 unfold M.q4u;by_cases h:l.length=m.length
 ·have b:(l.length:Int)=(m.length:Int):=by omega
  have a:=zga hl h (F:=M.z1g l m) fun i=>by rw[M.z1g.eq_1];rfl _ 0 rfl (yba _);rw[yaf,yaf]at a;have a:M.z1g l m 0=_:=a;simp only[b,decide_true,yr,ym,if_false,a,yb,yd];by_cases e:l=m<;>simp[e]
 ·have b:¬(l.length:Int)=(m.length:Int):=by omega
  have e:¬l=m:=fun q=>h (by rw[q]);simp[b,e]
theorem zvf{l m:List Z}(hl:l.length<1000000000):M.q75 l m=some (decide (l=m)):=by
 unfold M.q75;by_cases h:l.length=m.length
 ·have b:(l.length:Int)=(m.length:Int):=by omega
  have a:=zga hl h (F:=M.z0g l m) fun i=>by rw[M.z0g.eq_1];rfl _ 0 rfl (yba _);rw[yaf,yaf]at a;have a:M.z0g l m 0=_:=a;simp only[b,decide_true,yr,ym,if_false,a,yb,yd];by_cases e:l=m<;>simp[e]
 ·have b:¬(l.length:Int)=(m.length:Int):=by omega
  have e:¬l=m:=fun q=>h (by rw[q]);simp[b,e]
theorem zo9(f g:q02):f=g↔f.zj=g.zj∧f.z38=g.z38:=by cases f;cases g;simp
open Classical in
theorem ze4{l m:List q02}(hl:zgl l<100000000)(k:l.length=m.length){F:Int→Option (Jn Bool Unit)}(hF:∀(i:Nat)(h:i<l.length)(h2:i<m.length),F (i:Int)=if l[i]=m[i]then F (ybd .i64 ((i:Int)+1))else some (.done false))(e:F (l.length:Int)=some (.go ())):∀(n i:Nat),l.length-i=n→i≤l.length→F (i:Int)=some (if l.drop i=m.drop i then .go ()else .done false):=by
 have g:=zbw l;intro n;induction n with|zero=>
  intro i hn f;obtain rfl:i=l.length:=by omega
  rw[e,yad (ya5 _),yad (show m.length≤l.length by omega)];simp|succ n j=>
  intro i hn f;have b:i<l.length:=by omega
  have a:i<m.length:=by omega
  have hd:=drop_eq b a;rw[hF i b a];by_cases c:l[i]=m[i]
  ·rw[if_pos c,w1 (by omega),j (i+1) (by omega) (by omega)];by_cases d:l.drop (i+1)=m.drop (i+1);·rw[if_pos d,if_pos (hd.2 ⟨c,d⟩)]
   ·rw[if_neg d,if_neg fun q=>d (hd.1 q).2]
  ·rw[if_neg c,if_neg fun q=>c (hd.1 q).1]
open Classical in
theorem zpo{l m:List q02}(hl:zgl l<100000000):∃t,M.q5s l m=some t∧(t=true↔l=m):=by
 have g:=zbw l;unfold M.q5s;by_cases h:l.length=m.length
 ·have b:(l.length:Int)=(m.length:Int):=by omega
  have a:=ze4 hl h (F:=M.z2h l m) fun i c h2=>by
   have f:(i:Int)<(l.length:Int):=by omega
   have j:l[i].sz≤zgl l:=zjg (yav.2 ⟨l[i],yal c,rfl⟩);have k:=zb5 l[i].z38;unfold q02.sz at j;rw[M.z2h.eq_1];simp only[f,decide_true,if_true,z3f,yaj c,yaj h2,yb,yd,zo9];rw[zwl (by omega)];by_cases c1:l[i].zj=m[i].zj;·by_cases d:l[i].z38=m[i].z38<;>simp[c1,d]
   ·simp[c1] (by rw[M.z2h.eq_1];simp) _ 0 rfl (yba _);rw[yaf,yaf]at a;have a:M.z2h l m 0=_:=a;simp only[b,decide_true,yr,ym,if_false,a,yb,yd];by_cases e:l=m;·exact⟨true,by simp[e],by simp[e]⟩
  ·exact⟨false,by simp[e],by simp[e]⟩
 ·have b:¬(l.length:Int)=(m.length:Int):=by omega
  have e:¬l=m:=fun q=>h (by rw[q]);exact⟨false,by simp[b],by simp[e]⟩
open Classical in
theorem zoj{l m:List q02}(hl:zgl l<100000000):∃t,M.q74 l m=some t∧(t=true↔l=m):=by
 have g:=zbw l;unfold M.q74;by_cases h:l.length=m.length
 ·have b:(l.length:Int)=(m.length:Int):=by omega
  have a:=ze4 hl h (F:=M.zb l m) fun i c h2=>by
   have f:(i:Int)<(l.length:Int):=by omega
   have j:l[i].sz≤zgl l:=zjg (yav.2 ⟨l[i],yal c,rfl⟩);have k:=zb5 l[i].z38;unfold q02.sz at j;rw[M.zb.eq_1];simp only[f,decide_true,if_true,z3f,yaj c,yaj h2,yb,yd,zo9,M.q2o];rw[zvf (by omega)];by_cases c1:l[i].zj=m[i].zj;·by_cases d:l[i].z38=m[i].z38<;>simp[c1,d]
   ·simp[c1] (by rw[M.zb.eq_1];simp) _ 0 rfl (yba _);rw[yaf,yaf]at a;have a:M.zb l m 0=_:=a;simp only[b,decide_true,yr,ym,if_false,a,yb,yd];by_cases e:l=m;·exact⟨true,by simp[e],by simp[e]⟩
  ·exact⟨false,by simp[e],by simp[e]⟩
 ·have b:¬(l.length:Int)=(m.length:Int):=by omega
  have e:¬l=m:=fun q=>h (by rw[q]);exact⟨false,by simp[b],by simp[e]⟩
theorem zz00g{a b:q00}(h:zgl a.z02<100000000):∃t,M.q5r a b=some t∧(t=true↔a=b):=by
 obtain⟨t,P,h2⟩:=zpo (l:=a.z02) (m:=b.z02) h;unfold M.q5r;simp only[yb,P,yd];obtain⟨Q,R,S,T,U,V,W,X,Y,Z,d,e,f,g,i,j,k,n,o,p,r,s,u,v,w,x⟩:=a;obtain⟨b0,b1,b2,b3,b4,b5,b6,b7,b8,b9,y,z,A,B,C,D,E,F,G,H,I,J,K,L,N,O⟩:=b;simp only at h2⊢;split;·rename_i c;simp only[yg,decide_eq_true_eq]at c;refine⟨t,rfl,?_⟩;rw[h2];simp only[q00.mk.injEq];simp[c]
 ·rename_i c;refine⟨false,rfl,?_⟩;simp only[ym,false_iff];intro q;apply c;simp only[q00.mk.injEq]at q;simp[q]
theorem zyo{a b:q00}(h:zgl a.z02<100000000):∃t,M.q2n a b=some t∧(t=true↔a=b):=by obtain⟨t,O,h2⟩:=zoj (l:=a.z02) (m:=b.z02) h;unfold M.q2n;simp only[yb,O,yd,M.q2p];obtain⟨P,Q,R,S,T,U,V,W,X,Y,e,f,g,i,j,k,n,o,p,r,s,u,v,c,w,x⟩:=a;obtain⟨Z,b1,b2,b3,b4,b5,b6,b7,b8,b9,y,z,A,B,C,D,E,F,G,H,I,J,K,d,L,N⟩:=b;simp only at h2⊢;cases t with
 |false=>
  refine⟨false,rfl,?_⟩;have h2:¬c=d:=fun q=>by simpa using h2.2 q
  simp[h2]|true=>have h2:c=d:=h2.1 rfl;simp only[yr,ym,if_false];refine⟨_,rfl,?_⟩;simp only[q00.mk.injEq,h2];simp[List.getD];try exact⟨fun h=>by simp[h],fun h=>by simp[h]⟩
def NN(a:q00):Prop:=0≤a.z2t∧0≤a.z11
theorem zz06l{t:Nat×Nat×Z}(h:t∈z8n){a:q00}(v:Z)(c:NN a):NN (zsl a t.1 v):=by have b:=zz013 h a v false;have h2:=zz013 h a v true;unfold zjx at b h2;simp only[ym,if_false,if_true]at b h2;unfold NN at c⊢;rw[b,h2];exact c
theorem zz06j{l:List q05}:∀(ps:List Pt),(∀p∈ps,p.okB=true)→∀(a b:q00),NN a→zum l ps a=some b→NN b|[],_,a,b,hn,h=>by rw[zum]at h;cases h;exact hn|p::ps,f,a,b,hn,h=>by rw[zum]at h;cases d:putP l a p with|none=>rw[d]at h;cases h|some c=>
   rw[d]at h;refine zz06j ps (fun x i=>f x (by simp[i])) c b ?_ h;have e:=f p (by simp);unfold putP at d;split at d;·split at d<;>cases d;exact hn
   ·have g:=zlg e;split at d;·rw[Option.map_eq_some_iff]at d;obtain⟨v,_,rfl⟩:=d;exact zz06l g v hn
    ·cases d;exact zz06l g _ hn
   ·split at d;·cases d;exact hn
    ·split at d<;>cases d;unfold setC NN at*;split<;>simp only<;>omega
theorem zz0b6{r:Rw}(f:zfl r){q:q03}{o n:Z}{a:q00}(h:askR r q o n=some a):NN a:=by unfold askR at h;cases d:zoh r.mr q.zp r.kd o n with|none=>rw[d]at h;cases h|some b=>
  rw[d]at h;have e:NN b:=by
   unfold zoh at d;split at d;·cases d;exact⟨ybb _,ybb _⟩
   ·cases d
  have c:∀l,zoc r.ps l b=some a→NN a:=fun l hl=>by
   unfold zoc at hl;split at hl;·exact zz06j r.ps f.ps b a e hl
   ·cases hl
  simp only at h;split at h
  ·unfold zxf at h;split at h;·split at h<;>cases h;exact e
   ·split at h;·exact c _ h
    ·cases h
   ·split at h;·exact c _ h
    ·cases h
   ·unfold zvr at h;split at h;·cases h;exact e
    ·cases h
   ·cases h;exact e
  ·cases h
theorem zz05k{q:q03}:∀(L:List Rw)(e:Int),(∀r∈L,zfl r)→NN (zv1 q L e).1|[],e,_=>⟨ybb _,ybb _⟩|r::L,e,h=>by rw[zv1];have b:=fun e=>zz05k (q:=q) L e fun x d=>h x (by simp[d]);cases hf:zdk r.sg q.z00 [] []with|none=>exact b e|some on=>
   simp only;split;·cases c:askR r q on.1 on.2 with|none=>exact b 227|some a=>exact zz0b6 (h r (by simp)) c
   ·exact b _
theorem zxd{q:q03}{a:q00}(h:zt4 q=(a,0)):NN a:=by have:=zz05k (q:=q) tab 225 fun r b=>zfh b;have e:zv1 q tab 225=(a,0):=h;rw[e]at this;exact this
open Classical in
theorem req_k{a:q00}(w:zaj a){f:Nat}(hf:34≤f):∀(L:List Rw),(∀r∈L,r∈tab)→(L.map (·.kd)).Nodup→∀(d:List Rw),(∀r∈d,r∈tab)→d.length+L.length<1000→∃z,M.z07 ((d++L).map Rw.toH) a f ((d.length:Nat):Int)=some z∧match L.find? fun r=>decide (r.kd=a.zf)with|none=>z=.go ()|some r=>z=if z9z z9k r a then .done ((zdc z9k r a).1,0)else .go ():=by
 intro L;induction L with|nil=>
  intro _ _ d _ hl;have:¬((d.length:Nat):Int)<(((d++[]).map Rw.toH).length:Int):=by simp
  rw[M.z07.eq_1];simp only[this,decide_false,ym,if_false];exact⟨_,rfl,rfl⟩|cons r L p=>
  intro D i d J hl;have k:=D r (by simp);have G:=zfh k;have l:=zz01e k;rw[yat,yaz]at i;have p:=p (fun x e=>D x (by simp[e])) i.2 (d++[r]) (fun x e=>by
   rcases List.mem_append.1 e with e|e;·exact J x e
   ·rw[yax]at e;rw[e];exact k) (by simp at hl⊢;omega);rw[yw,ya2,yam,yas]at p;have K:((d.length:Nat):Int)<(((d++r::L).map Rw.toH).length:Int):=by simp;omega
  have e:((d++r::L).map Rw.toH)[d.length]?=some r.toH:=by rw[yak,yai (ya5 _),Nat.sub_self];rfl
  rw[M.z07.eq_1,yag];simp only[K,decide_true,if_true,z3f,e,yb,yd];rw[w1 (by simp at hl;omega)];have H:r.toH.zr3=r.kd:=rfl;rw[H];by_cases c:r.kd=a.zf
  ·have F:=zn1 (nt:=z9k) G l w fun n h=>zmq h;simp only[c,decide_true,yr,ym,if_false];rw[zgp G l w (by omega)];simp only[yd];rw[ze7 F];simp only[yd];rw[zi8 F hf];simp only[yd];have N:=w.sz;unfold q00.sz at N;obtain⟨t,C,m⟩:=zyo (a:=a) (b:=(zt4 (zdc z9k r a).1).1) (by omega);have B:L.find? (fun r=>decide (r.kd=a.zf))=none:=by rw[yah];intro x e;simp only[decide_eq_true_eq];intro q;exact i.1 (yav.2 ⟨x,e,by rw[q,c]⟩)
   obtain⟨z,o,g⟩:=p;rw[B]at g;simp only at g;have y:z9z z9k r a↔(decide ((zdc z9k r a).2=0)&&decide ((zbc (zdc z9k r a).1).2=0)&&decide ((zt4 (zdc z9k r a).1).2=0))=true∧t=true:=by
    unfold z9z;simp only[yg,decide_eq_true_eq];constructor;·rintro⟨u,v,s⟩;exact⟨⟨⟨u,v⟩,by rw[s]⟩,m.2 (by rw[s])⟩
    ·rintro⟨⟨⟨u,v⟩,s⟩,I⟩;exact⟨u,v,Prod.ext (m.1 I).symm s⟩
   cases E:decide ((zdc z9k r a).2=0)&&decide ((zbc (zdc z9k r a).1).2=0)&&decide ((zt4 (zdc z9k r a).1).2=0)with
   |false=>
    have j:¬z9z z9k r a:=fun q=>by have:=(y.1 q).1;rw[E]at this;cases this
    simp only[ym,if_false,yd,j];exact⟨z,o,g⟩|true=>
    simp only[if_true,C,yd];cases t with|false=>
     have j:¬z9z z9k r a:=fun q=>by have:=(y.1 q).2;cases this
     simp only[ym,if_false,j];exact⟨z,o,g⟩|true=>have A:z9z z9k r a:=y.2 ⟨E,rfl⟩;simp only[if_true,A];exact⟨_,rfl,rfl⟩
  ·simp only[c,decide_false,yq,if_true];exact p
theorem zi9{a:q00}(d:zaj a){f:Nat}(hf:34≤f):M.q0w f a=some (z8u z9k a):=by unfold M.q0w z8u;rw[zfx];simp only[yb,yd];obtain⟨z,c,b⟩:=req_k d hf tab (fun r h=>h) zz0di [] (fun r h=>by cases h) (by decide);rw[yay]at c;have c:M.z07 (tab.map Rw.toH) a f 0=some z:=c;rw[c];cases hf:tab.find? fun r=>decide (r.kd=a.zf)with|none=>rw[hf]at b;simp only at b;rw[b];rfl|some r=>
  rw[hf]at b;simp only at b;rw[b];by_cases g:z9z z9k r a;·simp only[g,if_true];rfl
  ·simp only[g,if_false];rfl
end
section
def z97(n:Int):Z:=if 0<n then Lib.decDigits n.toNat else[]
theorem zue{n:Int}(h:I64 n):(z97 n).length≤20:=by
 unfold I64 at h;unfold z97;split;·have:=z6q (n:=n.toNat) (k:=19) (by omega) (by decide);omega
 ·simp
theorem zz08x{n:Int}(h:0≤n):z97 n=z9k n:=by
 unfold z97 z9k;by_cases a:n=0;·simp[a]
 ·obtain⟨m,rfl⟩:∃m:Nat,n=m:=⟨n.toNat,by omega⟩;rw[if_pos (by omega),if_neg a,zmg];rfl
theorem zz0ch:∀(b m:Nat)(s:Z),m<10^b→0<m→m≤9223372036854775807→s.length+b<1000000000→M.z1s s (m:Int)=some (Lib.decDigits m++s):=by intro b;induction b with|zero=>intro m s c h2;omega|succ b i=>
  intro m s c h2 j k;have h:(0:Int)<(m:Int):=by omega
  have d:Int.tmod (m:Int) 10=((m%10:Nat):Int):=by rw[Int.tmod_eq_emod_of_nonneg (by omega)];omega
  have e:Int.tdiv (m:Int) 10=((m/10:Nat):Int):=by rw[Int.tdiv_eq_ediv_of_nonneg (by omega)];omega
  rw[M.z1s.eq_1];simp only[h,decide_true,yu,if_true,d,e];rw[zxj _ (by omega),z34 (by simp;omega),w64 (by omega) (by omega)];simp only[yb,yd];by_cases a:m<10
  ·have f:m/10=0:=by omega
   have g:m%10=m:=by omega
   rw[f,g,M.z1s.eq_1,Lib.decDigits,dif_pos a];simp
  ·rw[i (m/10) _ (by rw[Nat.pow_succ]at c;omega) (by omega) (by omega) (by simp;omega)];conv=>rhs;rw[Lib.decDigits]
   rw[dif_neg a,yw]
theorem zuq{n:Int}(h:I64 n):(if decide (0<n)=true then(M.q6h n).bind fun b=>some b else some [])=some (z97 n):=by
 unfold I64 at h;unfold z97;by_cases a:0<n;·obtain⟨m,rfl⟩:∃m:Nat,n=m:=⟨n.toNat,by omega⟩;have c:=zz0ch 19 m [] (by omega) (by omega) (by omega) (by simp);rw[if_pos (by simpa using a),if_pos a];unfold M.q6h;rw[c];simp
 ·simp[a]
theorem zz035{t:Nat×Nat×Z}(h:t∈z8n)(a:q00):M.q6c a t.2.2=some (getS a t.1):=z5i (P:=fun t=>M.q6c a t.2.2=some (getS a t.1)) h rfl rfl rfl rfl rfl rfl rfl rfl rfl rfl rfl rfl rfl rfl rfl rfl rfl rfl
theorem zz04n(a:q00):M.q6c a []=some []:=rfl
theorem zz0d3{a:q00}(b:zaj a)(c:Bool):M.q6c a (if c=true then B41 else B51)=some (z97 (zjx a c)):=by have d:=zuq b.fr;have h2:=zuq b.ct;cases c with|true=>exact h2|false=>exact d
theorem zz09l{b:List Z}(a:q00)(hl:b.length<1000000):∀(n i:Nat)(acc:List Z),b.length-i=n→i≤b.length→acc.length≤i→M.z25 b a (i:Int) acc=some (acc++zeu a (b.drop i)):=by
 have g:([79,70]:Z)=zqh:=rfl;have j:(B52:Z)=zqg:=rfl
 intro n;induction n with|zero=>
  intro i acc hn m l;have:¬(i:Int)<(b.length:Int):=by omega
  rw[M.z25.eq_1,yad (by omega)];simp[this,zeu]|succ n o=>
  intro i acc hn m l;have d:i<b.length:=by omega
  have k:(i:Int)<(b.length:Int):=by omega
  have c:∀x:Z,app 16 acc [x]=some (acc++[x]):=fun x=>z0h (by simp;omega);have e:∀x:Z,M.z25 b a ((i+1:Nat):Int) (acc++[x])=some (acc++[x]++zeu a (b.drop (i+1))):=fun x=>o (i+1) _ (by omega) (by omega) (by simp;omega);rw[M.z25.eq_1,yac d,g,j];simp only[k,decide_true,if_true,z3f,yaj d,yb,yd,c,w1 (show i<4611686018427387904 by omega),e];unfold zeu;rw[yat,yw];by_cases c1:b[i]=zqh;·simp[c1]
  ·have q:¬zqg=zqh:=fun h=>zz011 h.symm;by_cases f:b[i]=zqg;·simp[f,q]
   ·simp[c1,f]
theorem zz09m{r:Rw}(A:zfl r){a:q00}(y:zaj a):∀(n i:Nat)(acc:List q05),r.ps.length-i=n→i≤r.ps.length→acc.length≤i→M.z2z r.toR a acc (i:Int)=some (acc++z5p z97 a (r.ps.drop i)):=by
 have H:=A.psl;have h:r.toR.z68.length=r.ps.length:=yap ..
 intro n;induction n with|zero=>
  intro i acc hn F _;have:¬(i:Int)<(r.toR.z68.length:Int):=by rw[h];omega
  rw[M.z2z.eq_1,yad (by omega)];simp[this,z5p]|succ n B=>
  intro i acc hn F D;have g:i<r.ps.length:=by omega
  have C:(i:Int)<(r.toR.z68.length:Int):=by rw[h];omega
  have I:ix r.toR.z68 (i:Int)=some (Pt.toR r.ps[i]):=by rw[z3f];show(r.ps.map Pt.toR)[i]?=_;rw[yak,yaj g];rfl
  have j:=A.ps _ (yal g);have key:((M.q6c a (Pt.toR r.ps[i]).z8c).bind fun b=>(if(Pt.toR r.ps[i]).zjw=true then(M.q4b b).bind fun d=>some d else some b).bind fun f=>if decide ((Pt.toR r.ps[i]).z8c=[])=true then some (Pt.toR r.ps[i]).zi4 else some f)=some (zn9 z97 a r.ps[i]):=by obtain⟨p,G⟩:∃p,r.ps[i]=p:=⟨_,rfl⟩;rw[G]at j⊢;cases p with|fx nm v=>have e:(Pt.toR (.fx nm v)).z8c=[]:=rfl;have k:(Pt.toR (.fx nm v)).zjw=false:=rfl;have m:(Pt.toR (.fx nm v)).zi4=v:=rfl;rw[e,zz04n];simp[k,m,zn9]|st nm t w=>have u:=zlg j;have e:(Pt.toR (.st nm t w)).z8c=t.2.2:=rfl;have k:(Pt.toR (.st nm t w)).zjw=w:=rfl;have J:=zm9 u y;have E:=zem (s:=getS a t.1) (by omega);rw[e,zz035 u];cases w<;>simp[k,E,zyd u,zn9]|cn nm c=>
    have e:(Pt.toR (.cn nm c)).z8c=if c=true then B41 else B51:=rfl;have k:(Pt.toR (.cn nm c)).zjw=false:=rfl;have o:¬(if c=true then B41 else B51:Z)=[]:=by cases c<;>decide
    rw[e,zz0d3 y];simp only[k,o,decide_false,ym,if_false,yd];rfl
  have q:(Pt.toR r.ps[i]).zj=r.ps[i].nm:=by cases r.ps[i]<;>rfl
  have l:∀(K:Z→Option (List q05)),((M.q6c a (Pt.toR r.ps[i]).z8c).bind fun b=>(if(Pt.toR r.ps[i]).zjw=true then(M.q4b b).bind fun d=>some d else some b).bind fun f=>(if decide ((Pt.toR r.ps[i]).z8c=[])=true then some (Pt.toR r.ps[i]).zi4 else some f).bind K)=K (zn9 z97 a r.ps[i]):=fun K=>by have:=congrArg (fun z=>z.bind K) key;simp only[ya,yd]at this;exact this
  rw[M.z2z.eq_1,yac g,z5p];simp only[C,decide_true,if_true,I,yb,yd];rw[l,w1 (by omega),q];by_cases x:zn9 z97 a r.ps[i]=[];·simp only[x,decide_true,yr,ym,if_false,if_true];exact B (i+1) acc (by omega) (by omega) (by omega)
  ·simp only[x,decide_false,yq,if_true,if_false];rw[z0h (by simp;omega)];simp only[yd];rw[B (i+1) _ (by omega) (by omega) (by simp;omega),yw];rfl
theorem radd1{b:Bool}{s k v:Z}{h:List q05}{V:Option Z}(e:V=some v)(hl:h.length<1000):(if(b&&!decide (s=[]))=true then V.bind fun c=>(app 32 h [⟨k,c⟩]).bind fun a=>some a else some h)=some (h++znj b s k v):=by unfold znj;rw[e];cases b with|false=>simp|true=>
  by_cases d:s=[];·simp[d]
  ·simp only[d,decide_false,yq,yh,if_true,not_false_eq_true,and_self,yd];rw[z0h (by simp;omega)];rfl
theorem zj7{r:Rw}(d:zfl r)(B:RwSh r){a:q00}(x:zaj a){f:Nat}(hf:34≤f):∃z,M.q6n f r.toR a=some z∧(z9z z97 r a→z=((zdc z97 r a).1,0))∧(¬z9z z97 r a→z=(zH,224)):=by
 have hs:=x.sz;unfold q00.sz at hs;have h1:=d.one;have h2:=d.len;unfold M.q6n;have C:sub r.toR.z00 1 (r.toR.z00.length:Int)=some ((zka r.sg).drop 1):=zan (l:=zka r.sg) (a:=1) h1;have hc:M.q62 ((zka r.sg).drop 1) 47=some (z0u 47 ((zka r.sg).drop 1)):=zqq 47 (by rw[yao];omega);have y:M.z25 r.sg a 0 []=some ([]++zeu a (r.sg.drop 0)):=zz09l a (by have:=d.sgl;omega) _ 0 [] rfl (yba _) (ya5 _);rw[yaf,yay]at y;have A:M.z2z r.toR a [] 0=some ([]++z5p z97 a (r.ps.drop 0)):=zz09m d x _ 0 [] rfl (yba _) (ya5 _);rw[yaf,yay]at A;rw[C];simp only[yb,yd,hc,d.cut,y,A];have V:(B39:Z)=z2r:=rfl;have eS:(B37:Z)=zk1++[61]:=rfl;have U:(B16:Z)=z6n:=rfl;have eB:(B36:Z)=z7o:=rfl;have eI:(B34:Z)=kIf:=rfl;have X:q05.mk (B29:Z) ([105,100,112]:Z)=idpP:=rfl;have g1:r.toR.zk=r.mr.testBit 0:=rfl;have g2:r.toR.z9x=r.mr.testBit 1:=rfl;have g3:r.toR.z5r=r.mr.testBit 2:=rfl;have l1:=z9m (r.mr.testBit 0) a.zk z2r (zk1++[61]++a.zk);have l2:=z9m (r.mr.testBit 1) a.z0l z6n (z7o++a.z0l);have P:cat (zk1++[61]) a.zk=some (zk1++[61]++a.zk):=z34 (by simp[zk1];omega);have Q:cat z7o a.z0l=some (z7o++a.z0l):=z34 (by simp[z7o];omega);have R:((cat [34] a.z5r).bind fun J=>cat J [34])=some ([34]++a.z5r++[34]):=by rw[z34 (by simp;omega)];simp only[yd];exact z34 (by simp;omega)
 have r1:=radd1 (b:=r.mr.testBit 0) (s:=a.zk) (k:=z2r) (h:=[idpP]) P (by simp);have r2:=radd1 (b:=r.mr.testBit 1) (s:=a.z0l) (k:=z6n) (h:=[idpP]++znj (r.mr.testBit 0) a.zk z2r (zk1++[61]++a.zk)) Q (by simp only[yam,yas];omega);have O:=radd1 (b:=r.mr.testBit 2) (s:=a.z5r) (k:=kIf) (h:=[idpP]++znj (r.mr.testBit 0) a.zk z2r (zk1++[61]++a.zk)++znj (r.mr.testBit 1) a.z0l z6n (z7o++a.z0l)) R (by simp only[yam,yas];omega);rw[ya]at O;rw[V,eS,U,eB,eI,X,g1,g2,g3,r1];simp only[yd];rw[r2];simp only[yd];rw[O];simp only[yd];have ew:r.toR.z4m=whS r.wh:=rfl;obtain⟨w1,w2,w3,w4,w5⟩:=whS_1 d;have j:(if decide (r.toR.z4m=(B32:Z))=true then some ((0:Int),z5p z97 a r.ps,([]:Z))else if decide (r.toR.z4m=(B9:Z))=true then(M.q4c (z5p z97 a r.ps)).bind fun e=>some (e.2,[],e.1)else if decide (r.toR.z4m=(B54:Z))=true then some (0,[],a.z1e)else if decide (r.toR.z4m=(B60:Z))=true then(M.q6u a.zj).bind fun m=>(M.q6z (q04.mk 0 ([]:Z) [] []) ([105,100]:Z) m).bind fun o=>(M.q6j a.z02).bind fun p=>(M.q6z o (B25:Z) p).bind fun u=>(M.q4t f u).bind fun i=>some (i.2,[],i.1)else some (0,[],([]:Z)):Option (Int×List q05×Z))=some (zdn z97 r a):=by
  rw[ew];simp only[w1,w3,w4,w5];unfold zdn;rcases zew d with w|w|w|w|w;·simp[w]
  ·have a0:=zc2 z97 a r.ps;have E:=zc1 (nt:=z97) x (fun n h=>zue h) r.ps d.ps B.ps;have a1:=d.psl;have G:¬(1:Nat)=2:=by decide
   simp only[w,G,decide_true,decide_false,ym,if_true,if_false];rw[ziy (by omega) E];rfl
  ·simp[w]
  ·have hz:=zzv x;have n1:¬(3:Nat)=1:=by decide
   have G:¬(3:Nat)=2:=by decide
   have n4:¬(3:Nat)=4:=by decide
   have H:=zz01w (l:=[]) (kd:=0) (tx:=[]) (k:=kId) (v:=jT a.zj) (by simp);have I:=zz05c (l:=[(kId,jT a.zj)]) (k:=z2s) (v:=jFs a.z02) (by simp);have S:([105,100]:Z)=kId:=rfl;have T:(B25:Z)=z2s:=rfl;have H:M.q6z (q04.mk 0 ([]:Z) [] []) kId (jT a.zj)=some (obj [(kId,jT a.zj)]):=H;have I:M.q6z (obj [(kId,jT a.zj)]) z2s (jFs a.z02)=some (objV a):=I;simp only[w,n1,G,n4,decide_true,decide_false,ym,if_true,if_false,rtext_jT,S,T,yd,H];rw[zsc (by omega)];simp only[yd,I];rw[zpe (by omega) (zsz (by omega))];rfl
  ·simp[w]
 rw[j];simp only[yd];have em:r.toR.zt=r.me:=rfl;have Y:(⟨r.me,zeu a r.sg,(zdn z97 r a).2.1,[idpP]++znj (r.mr.testBit 0) a.zk z2r (zk1++[61]++a.zk)++znj (r.mr.testBit 1) a.z0l z6n (z7o++a.z0l)++znj (r.mr.testBit 2) a.z5r kIf ([34]++a.z5r++[34]),(zdn z97 r a).2.2⟩:q03)=(zdc z97 r a).1:=rfl;have W:(zdn z97 r a).1=(zdc z97 r a).2:=rfl;have N:=zn1 (nt:=z97) d B x fun n h=>zue h;rw[em,Y,W,zpi N];simp only[yd];rw[zw4 N hf];simp only[yd];obtain⟨t,F,D⟩:=zz00g (a:=a) (b:=(zt4 (zdc z97 r a).1).1) (by omega);by_cases c:(zdc z97 r a).2=0∧(zbc (zdc z97 r a).1).2=0∧(zt4 (zdc z97 r a).1).2=0;·obtain⟨c1,K,L⟩:=c;simp only[c1,K,L,decide_true,yr,yt,ym,if_false,F,yd];cases t with|true=>refine⟨_,rfl,fun _=>rfl,fun g=>(g ⟨c1,K,Prod.ext (D.1 rfl).symm L⟩).elim⟩|false=>refine⟨_,rfl,fun g=>?_,fun _=>rfl⟩;have:=D.2 (by rw[g.2.2]);cases this
 ·have hb:(!decide ((zdc z97 r a).2=0)||!decide ((zbc (zdc z97 r a).1).2=0)||!decide ((zt4 (zdc z97 r a).1).2=0))=true:=by apply Classical.byContradiction;intro q;have q:=yj.2 q;simp only[ys,yo,decide_eq_true_eq]at q;exact c ⟨q.1.1,q.1.2,q.2⟩
  simp only[hb,if_true];exact⟨_,rfl,fun g=>(c ⟨g.1,g.2.1,by rw[g.2.2]⟩).elim,fun _=>rfl⟩
open Classical in
theorem zz0d4{a:q00}(o:zaj a){f:Nat}(hf:34≤f):∀(L:List Rw),(∀r∈L,r∈tab)→∀(b:List Rw),b.length+L.length<1000→∃z,M.z3o ((b++L).map Rw.toR) a f ((b.length:Nat):Int)=some z∧match L.find? fun r=>decide (r.kd=a.zf)with|none=>z=.go ()|some r=>z=.done (if z9z z97 r a then((zdc z97 r a).1,0)else(zH,224)):=by
 intro L;induction L with|nil=>
  intro _ b hl;have:¬((b.length:Nat):Int)<(((b++[]).map Rw.toR).length:Int):=by simp
  rw[M.z3o.eq_1];simp only[this,decide_false,ym,if_false];exact⟨_,rfl,rfl⟩|cons r L e=>
  intro l b hl;have d:=l r (by simp);have e:=e (fun x h=>l x (by simp[h])) (b++[r]) (by simp at hl⊢;omega);rw[yw,ya2,yam,yas]at e;have n:((b.length:Nat):Int)<(((b++r::L).map Rw.toR).length:Int):=by simp;omega
  have h:((b++r::L).map Rw.toR)[b.length]?=some r.toR:=by rw[yak,yai (ya5 _),Nat.sub_self];rfl
  rw[M.z3o.eq_1,yag];simp only[n,decide_true,if_true,z3f,h,yb,yd];rw[w1 (by simp at hl;omega)];have m:r.toR.zf=r.kd:=rfl;rw[m];by_cases c:r.kd=a.zf
  ·simp only[c,decide_true,if_true];obtain⟨z,i,j,k⟩:=zj7 (zfh d) (zz01e d) o hf;rw[i];simp only[yd];refine⟨_,rfl,?_⟩;by_cases g:z9z z97 r a;·rw[if_pos g,j g]
   ·rw[if_neg g,k g]
  ·simp only[c,decide_false,ym,if_false];exact e
theorem zit{a:q00}(h:NN a):∀l:List Pt,z5p z97 a l=z5p z9k a l
 |[]=>rfl|p::l=>by
  have e:zn9 z97 a p=zn9 z9k a p:=by
   unfold zn9;split;·rfl
   ·rfl
   ·rename_i n c;refine zz08x ?_;unfold zjx;unfold NN at h;split;·exact h.2
    ·exact h.1
  rw[z5p,z5p,e,zit h l]
theorem zvk{r:Rw}{a:q00}:(z9z z97 r a↔z9z z9k r a)∧(z9z z9k r a→zdc z97 r a=zdc z9k r a):=by
 have key:NN a→zdc z97 r a=zdc z9k r a:=fun h=>by unfold zdc zdn;rw[zit h]
 refine⟨⟨fun g=>?_,fun g=>?_⟩,fun g=>key (zxd g.2.2)⟩;·have:=key (zxd g.2.2);unfold z9z at g⊢;rw[this]at g;exact g
 ·have:=key (zxd g.2.2);unfold z9z at g⊢;rw[this];exact g
theorem zk7{a:q00}(i:zaj a){f:Nat}(hf:34≤f):M.q5o f a=some (z8u z9k a):=by unfold M.q5o z8u;rw[zj5];simp only[yb,yd];obtain⟨z,c,b⟩:=zz0d4 i hf tab (fun r h=>h) [] (by decide);rw[yay]at c;have c:M.z3o (tab.map Rw.toR) a f 0=some z:=c;rw[c];cases hf:tab.find? fun r=>decide (r.kd=a.zf)with|none=>rw[hf]at b;simp only at b;rw[b];rfl|some r=>
  rw[hf]at b;simp only at b;rw[b];obtain⟨d,e⟩:=zvk (r:=r) (a:=a);by_cases g:z9z z9k r a;·simp only[d.2 g,g,if_true,e g];rfl
  ·have:¬z9z z97 r a:=fun q=>g (d.1 q);simp only[this,g,if_false];rfl
theorem zk9{a:q00}(c:zaj a):z8u z9k a=(zH,224)∨∃q,z8u z9k a=(q,0)∧fit q∧(zbc q).2=0∧zt4 q=(a,0):=by
 unfold z8u;split;·exact .inl rfl
 ·rename_i r d;have b:=yaw d;split;·rename_i g;exact .inr ⟨_,rfl,zn1 (zfh b) (zz01e b) c fun n h=>zmq h,g.2.1,g.2.2⟩
  ·exact .inl rfl
theorem zya{q:q03}(h:fit q):zsy q:=by obtain⟨_,a,_,b,_,c,_,_⟩:=h;exact⟨by omega,by omega,by omega⟩
theorem zz05g:zsy zH:=⟨by decide,by decide,by decide⟩
theorem zsa{a:q00}{f:Nat}(b:M.q4a f=some true)(hf:34≤f)(h:zaj a):M.q45 f a=some true:=by
 unfold M.q45;rw[zi9 h hf,zk7 h hf,b];have d:zsy (z8u z9k a).1:=by
  rcases zk9 h with e|⟨q,e,c,_⟩;·rw[e];exact zz05g
  ·rw[e];exact zya c
 simp[zsh d]
end
end Go.Sen
