import Derived.Test.YtfdoofnmjehecaaGreatDoorRHnB
import Derived.Lib.TrimUEq
set_option linter.all false
namespace Go.Sen
open _root_.Option renaming bind_eq_bind → ya, bind_some → yb, getD_some → yc, map_some → yd
open _root_.Bool renaming and_eq_true → ye, and_false → yf, and_self → yg, eq_false_iff → yh, eq_iff_iff → yi, false_and → yj, false_eq_true → yk, false_or → yl, not_false → ym, not_true → yn, or_eq_true → yo, or_self → yp, true_and → yq
open _root_.List renaming all_cons → yr, all_eq_true → ys, append_assoc → yt, append_nil → yu, cons_append → yv, dropLast_concat_getLast → yw, dropWhile_cons → yx, dropWhile_sublist → yy, drop_append_of_le_length → yz, drop_drop → yaa, drop_eq_getElem_cons → yab, drop_eq_nil_iff → yac, drop_eq_nil_of_le → yad, drop_left → yae, drop_left' → yaf, drop_zero → yag, eq_nil_of_length_eq_zero → yah, foldl_cons → yai, getElem?_append_left → yaj, getElem?_append_right → yak, getElem?_eq_getElem → yal, getElem?_eq_none → yam, getElem?_map → yan, getElem_mem → yao, getLast?_eq_getElem? → yap, head?_cons → yaq, head?_eq_getElem? → yar, isPrefixOf_iff_prefix → yas, length → yat, length_append → yau, length_cons → yav, length_drop → yaw, length_eq_zero_iff → yax, length_map → yay, length_replicate → yaz, length_singleton → ya0, length_take → ya1, mem_append → ya2, mem_range → ya3, mem_singleton → ya4, nil_append → ya5, replicate → ya6, replicate_zero → ya7, reverse_append → ya8, reverse_reverse → ya9, singleton_append → yba, take_append_drop → ybb, take_append_of_le_length → ybc, take_left → ybd, take_length → ybe, take_of_length_le → ybf
open _root_.Nat renaming add_comm → ybg, add_mul_div_right → ybh, add_mul_mod_self_right → ybi, beq → ybj, div_eq_of_lt → ybk, le_refl → ybl, le_trans → ybm, min_eq_left → ybn, mod_eq_of_lt → ybo, mul_comm → ybp, mul_le_mul_right → ybq, pow_le_pow_right → ybr, pow_succ → ybs, sub_self → ybt, testBit_two_pow_mul_add → ybu, two_pow_pos → ybv, zero_add → ybw, zero_le → ybx
open _root_.Int renaming natCast_pow → yby, tdiv_eq_ediv_of_nonneg → ybz, tmod_eq_emod_of_nonneg → yb0
open IntKind renaming bits → yb1, wrap → yb2
open _root_.UInt8 renaming ofNat → yb3, toNat_inj → yb4
open Go.Lk Go.Pe
def isAl(b:UInt8):Bool:=isA b||decide (97≤b.toNat)&&decide (b.toNat≤122)||isD b
def zel(b:UInt8):Bool:=isAl b||decide (b=45)||decide (b=46)||decide (b=95)||decide (b=126)
def hxU(n:Nat):UInt8:=yb3 (if n<10 then 48+n else 55+n)
def zp9(bl:Z)(c:UInt8):Z:=if zel c=true then[c]else if c=32 then bl else[37,hxU (c.toNat/16),hxU (c.toNat%16)]
def pct(bl s:Z):Z:=s.flatMap (zp9 bl)
theorem zh2(bl:Z)(c:UInt8)(s:Z):pct bl (c::s)=zp9 bl c++pct bl s:=by simp[pct]
theorem zms{bl:Z}(h:bl.length≤3)(c:UInt8):(zp9 bl c).length≤3:=by grind[zp9]
theorem zbb{bl:Z}(h:bl.length≤3):∀s:Z,(pct bl s).length≤3*s.length|[]=>by simp[pct]|c::s=>by have a:=zms h c;have h2:=zbb h s;grind[zh2]
def ixP(c:UInt8):Int:=Lib.idxFunc (fun r=>decide ((r:Int)%256=(c.toNat:Int))) true ⟨([45,46,95,126]:Z).toArray⟩
theorem M_ixP(c:UInt8):M.z1l ([45,46,95,126]:Z) (c.toNat:Int)=some (ixP c):=by rfl
def alI(x:Int):Bool:=decide (65≤x)&&decide (x≤90)||decide (97≤x)&&decide (x≤122)||decide (48≤x)&&decide (x≤57)
theorem zz070:∀c:UInt8,(alI (c.toNat:Int)||decide (0≤ixP c))=zel c:=z6f (by decide+kernel)
def hex2(x:Int):Option Z:=do let a←sub ([48,49,50,51,52,53,54,55,56,57,65,66,67,68,69,70]:Z) (zez .u8 x 4) (yb2 .u8 (zez .u8 x 4+1))let b←cat ([37]:Z) a;let c←sub ([48,49,50,51,52,53,54,55,56,57,65,66,67,68,69,70]:Z) (z7s .u8 x 15) (yb2 .u8 (z7s .u8 x 15+1))cat b c
theorem zz03i:∀c:UInt8,hex2 (c.toNat:Int)=some [37,hxU (c.toNat/16),hxU (c.toNat%16)]:=z6f (by decide+kernel)
theorem zw1{s bl:Z}(k:bl.length≤3)(u:s.length<100000000000):∀(n i:Nat)(acc:Z),s.length-i=n→i≤s.length→acc.length+3*n<900000000000→M.zw s bl (i:Int) (unb acc)=some (unb (acc++pct bl (s.drop i))):=by intro n;induction n with|zero=>grind[M.zw,zl,pct]|succ n m=>
  intro i acc hn q p;have c:i<s.length:=by omega
  have j:(i:Int)<((unb s).length:Int):=by rw[zl];omega
  rw[M.zw,yab c,zh2];simp only[j,decide_true,if_true,z3f,zfi,yal c,yd,ya,yb,M_ixP];rw[w1 (by omega)];have next:∀t:Z,t=zp9 bl s[i]→M.zw s bl ((i+1:Nat):Int) (unb (acc++t))=some (unb (acc++(zp9 bl s[i]++pct bl (s.drop (i+1))))):=by rintro t rfl;have:=zms k s[i];rw[m (i+1) _ (by omega) (by omega) (by grind),yt]
  have d:(decide (65≤(s[i].toNat:Int))&&decide ((s[i].toNat:Int)≤90)||decide (97≤(s[i].toNat:Int))&&decide ((s[i].toNat:Int)≤122)||decide (48≤(s[i].toNat:Int))&&decide ((s[i].toNat:Int)≤57))=alI (s[i].toNat:Int):=rfl;rw[d];have l:(if alI (s[i].toNat:Int)=true then some true else some (decide (0≤ixP s[i])))=some (zel s[i]):=by rw[←zz070 s[i]];cases alI (s[i].toNat:Int)<;>simp
  rw[l];simp only[yb];cases r:zel s[i]with|true=>rw[if_pos rfl,z1z (by rw[zl];omega)];simp_all[zdf,z0j,zp9]|false=>
   rw[if_neg (by decide)];by_cases b:s[i]=32
   ·have:(s[i].toNat:Int)=32:=by rw[b];rfl
    rw[if_pos (by grind),z1p (by omega)];simp_all[zp9]
   ·have:¬(s[i].toNat:Int)=32:=fun e=>b (by
     have e:s[i].toNat=32:=by omega
     rw[show(32:UInt8)=yb3 32 from rfl,←e];simp);have a:=zz03i s[i];unfold hex2 at a;simp only[ya]at a;rw[if_neg (by grind)];cases f:sub ([48,49,50,51,52,53,54,55,56,57,65,66,67,68,69,70]:Z) (zez .u8 (s[i].toNat:Int) 4) (yb2 .u8 (zez .u8 (s[i].toNat:Int) 4+1))with|none=>grind|some o=>rw[f]at a;simp only[yb]at a⊢;cases g:cat ([37]:Z) o with|none=>grind|some v=>rw[g]at a;simp only[yb]at a⊢;cases h:sub ([48,49,50,51,52,53,54,55,56,57,65,66,67,68,69,70]:Z) (z7s .u8 (s[i].toNat:Int) 15) (yb2 .u8 (z7s .u8 (s[i].toNat:Int) 15+1))with|none=>grind|some w=>rw[h]at a;simp only[yb]at a⊢;rw[a];simp only[yb];rw[z1p (by simp;omega)];simp_all[zp9]
theorem z7m{s bl:Z}(a:bl.length≤3)(b:s.length<100000000000):M.q0p s bl=some (pct bl s):=by unfold M.q0p;rw[z3k (by simp;omega)];have h:=zw1 a b _ 0 [] rfl (ybx _) (by simp;omega);have h:M.zw s bl 0 ([]:List Int)=_:=h;grind[z2p]
def zff(s:Z):Z:=pct [37,50,48] s
def ziq(s:Z):Z:=pct [43] s
theorem zgg{s:Z}(a:s.length<100000000000):M.q0n s=some (zff s):=by unfold M.q0n;rw[z7m (by simp) a];rfl
def fld(p:q05):Z:=ziq p.zj++[61]++ziq p.z1y
def z4s(l:List q05):Z:=Lib.join (l.map fld) [38]
def form(l:List q05):Z×Int:=if 64<l.length then([],14)else if 8192<(z4s l).length then([],14)else(z4s l,0)
def zf2(l:List q05):Prop:=∀p∈l,p.zj.length<100000000∧p.z1y.length<100000000
theorem zfz(sep:Z):∀l:List Z,(Lib.joinTail sep l).length=(l.map fun x=>x.length+sep.length).sum|[]=>rfl|x::r=>by have h:=zfz sep r;have e:Lib.joinTail sep (x::r)=sep++x++Lib.joinTail sep r:=rfl;grind
theorem zra(l:List Z)(sep:Z):(Lib.join l sep).length≤(l.map fun x=>x.length+sep.length).sum:=by cases l with|nil=>exact ybx _|cons x r=>grind[Lib.join_cons,zfz]
theorem zz06r{α:Type}(f:α→Nat)(B:Nat):∀l:List α,(∀x∈l,f x≤B)→(l.map f).sum≤l.length*B|[],_=>by simp|x::r,h=>by have b:=h x (by simp);have h2:=zz06r f B r fun y a=>h y (by simp[a]);grind[Nat.succ_mul]
theorem zqy{p:q05}(h:p.zj.length<100000000∧p.z1y.length<100000000):(fld p).length≤600000000:=by grind[zbb,fld,ziq]
theorem zz036{l:List q05}(hl:l.length<100000000)(hf:zf2 l):∀(n i:Nat)(a:List Z),l.length-i=n→i≤l.length→a.length≤i→M.z0e l a (i:Int)=some (a++(l.drop i).map fld):=by intro n;induction n with|zero=>grind[M.z0e,yad]|succ n f=>
  intro i a hn h g;have b:i<l.length:=by omega
  have c:(i:Int)<(l.length:Int):=by omega
  have j:=hf l[i] (by simp);have d:=zbb (bl:=[43]) (by simp) l[i].zj;have e:=zbb (bl:=[43]) (by simp) l[i].z1y;rw[M.z0e,yab b];simp only[c,decide_true,if_true,z3f,yal b,ya,yb];rw[z7m (by simp) (by omega)];simp only[yb];rw[z34 (by simp;omega),z7m (by simp) (by omega)];simp only[yb];rw[z34 (by simp;omega)];simp only[yb];rw[z0h (by simp;omega),w1 (by omega)];simp only[yb];rw[f (i+1) _ (by omega) (by omega) (by simp;omega)];grind[fld,ziq]
theorem zdr{l:List q05}(hl:l.length<100000000)(hf:zf2 l):M.q0i l=some (form l):=by
 unfold M.q0i form;by_cases b:64<l.length;·grind
 ·have:¬(64:Int)<(l.length:Int):=by omega
  have a:=zz036 hl hf _ 0 [] rfl (ybx _) (by simp);have a:M.z0e l [] 0=some ((l.drop 0).map fld):=a;rw[yag]at a;simp only[this,decide_false,yk,if_false,b,ya,a,yb];have c:(z4s l).length≤140737488355328:=by
   unfold z4s;refine ybm (zra _ _) ?_;rw[List.map_map];refine ybm (zz06r _ 600000001 l fun p d=>?_) ?_;·have:=zqy (hf p d);grind
   ·omega
  have e:M.join (l.map fld) [38]=some (z4s l):=by
   unfold M.join;rw[z3k];·rfl
   ·rw[ye,decide_eq_true_iff,decide_eq_true_iff];exact⟨by simp;omega,c⟩
  grind
def z9f:List q05→List Z→Option (List Z)|[],a=>some a|p::r,a=>if(zh0 p.zj&&isVal p.z1y&&!a.contains p.zj)=true then z9f r (p.zj::a)else none
def za1(l:List q05):Bool:=match z9f l [z6m,z8k]with|some a=>decide (l.length≤32)&&a.contains z45|none=>false
def zz06w(z:Option (Jn Bool (List (Z×Bool)))):Option (List Z)→Prop|none=>z=some (.done false)|some a=>∃m,z=some (.go m)∧SN m a
theorem zz03h{l:List q05}(hl:l.length<1000000000)(hf:zf2 l):∀(n i:Nat)(m:List (Z×Bool))(a:List Z),l.length-i=n→i≤l.length→SN m a→zz06w (M.z2w l (i:Int) m) (z9f (l.drop i) a):=by
 intro n;induction n with|zero=>
  intro i m a hn e c;rw[M.z2w,yad (by omega)];have:¬(i:Int)<(l.length:Int):=by omega
  simp only[this,decide_false,yk,if_false];exact⟨m,rfl,c⟩|succ n f=>
  intro i m a hn e c;have b:i<l.length:=by omega
  have d:(i:Int)<(l.length:Int):=by omega
  have g:=hf l[i] (by simp);rw[M.z2w,yab b];simp only[d,decide_true,if_true,z3f,yal b,ya,yb,zfw];rw[ze8 (by omega),c];unfold z9f;simp only[yb];have:=f (i+1) (z4l m l[i].zj true) (l[i].zj::a) (by omega) (by omega) (c.put _);rw[w1 (by omega)];cases zh0 l[i].zj<;>cases isVal l[i].z1y<;>cases a.contains l[i].zj<;>first|exact this|rfl
theorem zme{l:List q05}(hl:l.length<1000000000)(hf:zf2 l):M.q1n l=some (za1 l):=by
 unfold M.q1n za1;have f:SN (z4l (z4l ([]:List (Z×Bool)) z8k true) z6m true) [z6m,z8k]:=by have d:SN [] []:=fun k=>rfl;exact(d.put z8k).put z6m
 have a:=zz03h hl hf _ 0 _ _ rfl (ybx _) f;rw[yag]at a;simp only[ya,yb];have e:M.z2w l 0 (z4l (z4l ([]:List (Z×Bool)) (B20:Z) true) (B18:Z) true)=M.z2w l ((0:Nat):Int) (z4l (z4l ([]:List (Z×Bool)) z8k true) z6m true):=rfl;rw[e];cases c:z9f l [z6m,z8k]with|none=>rw[c]at a;have a:M.z2w l ((0:Nat):Int) _=some (.done false):=a;grind|some g=>rw[c]at a;obtain⟨m,a,b⟩:=a;rw[a];simp only[yb];have h:z90 m B29 false=g.contains z45:=b _;grind
def fit(q:q03):Prop:=q.zt.length<100000000∧q.z00.length<100000000∧(∀p∈q.z00,p.length<100000000)∧q.z0d.length<100000000∧zf2 q.z0d∧q.zp.length<100000000∧zf2 q.zp∧q.zx.length<100000000
def z94(l:List Z):Z:=l.flatMap fun p=>47::zff p
theorem zp8:z94 []=[]:=rfl
theorem zlf(p:Z)(r:List Z):z94 (p::r)=47::zff p++z94 r:=rfl
def zog(p:q05):Z:=p.zj++[58,32]++p.z1y++[13,10]
def zgo(l:List q05):Z:=l.flatMap zog
theorem zoi:zgo []=[]:=rfl
theorem zkz(p:q05)(r:List q05):zgo (p::r)=zog p++zgo r:=rfl
def clS(n:Nat):Z:=[99,111,110,116,101,110,116,45,108,101,110,103,116,104,58,32]++Lib.decDigits n++[13,10]
def z7p(q:q03):Z:=q.zt++[32]++z94 q.z00++(if z4s q.z0d=[]then[]else 63::z4s q.z0d)++[32,72,84,84,80,47,49,46,49,13,10]++zgo q.zp++(if q.zx=[]then[]else clS q.zx.length)++[13,10]
def zn0(q:q03):Bool:=decide ((form q.z0d).2=0)&&z8q q.zt&&decide (1≤q.z00.length)&&decide (q.z00.length≤64)&&za1 q.zp&&!(decide (q.zp.length=32)&&!decide (q.zx=[]))&&decide (q.zx.length≤16384)
def zbc(q:q03):Z×Int:=if zn0 q=true then if 8192<(z7p q).length then([],224)else(z7p q++q.zx,0)else([],224)
theorem zz04e{q:q03}(hl:q.z00.length≤64)(g:∀p∈q.z00,p.length<100000000):∀(n i:Nat)(a:Z),q.z00.length-i=n→i≤q.z00.length→a.length≤500000000+i*400000000→M.z47 q (i:Int) (unb a)=some (unb (a++z94 (q.z00.drop i)))∧(a++z94 (q.z00.drop i)).length≤500000000+q.z00.length*400000000:=by intro n;induction n with
 |zero=>
  intro i a hn f d;rw[M.z47,yad (by omega)];have:¬(i:Int)<(q.z00.length:Int):=by omega
  have e:i=q.z00.length:=by omega
  simp_all[zp8]|succ n j=>
  intro i a hn f d;have b:i<q.z00.length:=by omega
  have c:(i:Int)<(q.z00.length:Int):=by omega
  have l:=g q.z00[i] (by simp);have k:=zbb (bl:=[37,50,48]) (by simp) q.z00[i];rw[M.z47,yab b];simp only[c,decide_true,if_true,z3f,yal b,ya,yb];rw[zgg (by omega)];simp only[yb];have h:(zff q.z00[i]).length≤300000000:=by unfold zff;omega
  rw[z34 (by simp;omega)];simp only[yb];rw[z1p (by simp;omega),w1 (by omega)];simp only[yb];have:=j (i+1) (a++([47]++zff q.z00[i])) (by omega) (by omega) (by simp;omega);grind[zlf]
theorem zz04f{q:q03}(hl:q.zp.length≤32)(g:zf2 q.zp):∀(n i:Nat)(a:Z),q.zp.length-i=n→i≤q.zp.length→a.length≤60000000000+i*400000000→M.z48 q (i:Int) (unb a)=some (unb (a++zgo (q.zp.drop i)))∧(a++zgo (q.zp.drop i)).length≤60000000000+q.zp.length*400000000:=by intro n;induction n with
 |zero=>
  intro i a hn f d;rw[M.z48,yad (by omega)];have:¬(i:Int)<(q.zp.length:Int):=by omega
  have e:i=q.zp.length:=by omega
  simp_all[zoi]|succ n h=>
  intro i a hn f d;have b:i<q.zp.length:=by omega
  have c:(i:Int)<(q.zp.length:Int):=by omega
  have j:=g q.zp[i] (by simp);rw[M.z48,yab b];simp only[c,decide_true,if_true,z3f,yal b,ya,yb];rw[z34 (by simp;omega)];simp only[yb];rw[z34 (by simp;omega)];simp only[yb];rw[z34 (by simp;omega)];simp only[yb];rw[z1p (by simp;omega),w1 (by omega)];simp only[yb];have:=h (i+1) (a++zog q.zp[i]) (by omega) (by omega) (by unfold zog;simp;omega);grind[zog,zkz]
theorem z6q{n k:Nat}(h:n<10^k)(a:1≤k):(Lib.decDigits n).length≤k:=by induction k generalizing n with|zero=>omega|succ k b=>grind[Lib.decDigits]
def no(c:UInt8)(s:Z):Prop:=∀b∈s,¬b=c
theorem no.cons{c x:UInt8}{r:Z}(h:no c (x::r)):¬x=c∧no c r:=⟨h x (by simp),fun b a=>h b (by simp[a])⟩
theorem no.app{c:UInt8}{s t:Z}(h:no c s)(k:no c t):no c (s++t):=fun b a=>(ya2.1 a).elim (h b) (k b)
theorem zqr{c:UInt8}:∀{s:Z},no c s→z1q c s=(s,[],false)|[],_=>rfl|x::r,h=>by obtain⟨a,h2⟩:=h.cons;rw[z42,if_neg a,zqr h2]
theorem zlx{c:UInt8}(t:Z):∀{s:Z},no c s→z1q c (s++c::t)=(s,t,true)|[],_=>by rw[ya5,z42,if_pos rfl]|x::r,h=>by obtain⟨a,h2⟩:=h.cons;rw[yv,z42,if_neg a,zlx t h2]
theorem zq0{c:UInt8}:∀{s:Z},no c s→z0u c s=[s]|[],_=>rfl|x::r,h=>by obtain⟨a,h2⟩:=h.cons;unfold z0u;rw[if_neg a,zq0 h2]
theorem zpy{c:UInt8}(t:Z):∀{s:Z},no c s→z0u c (s++c::t)=s::z0u c t
 |[],_=>by
  conv=>lhs;rw[ya5];unfold z0u
  simp|x::r,h=>by
  obtain⟨a,h2⟩:=h.cons;rw[yv];conv=>lhs;unfold z0u
  rw[if_neg a,zpy t h2]
theorem zz0bq(p:q05):¬fld p=[]:=by simp[fld]
theorem zz037{l:List q05}(h:¬l=[]):¬z4s l=[]:=by cases l with|nil=>grind|cons p l=>grind[z4s,Lib.join_cons,zz0bq,List.append_eq_nil_iff]
def target(q:q03):Z:=z94 q.z00++if z4s q.z0d=[]then[]else 63::z4s q.z0d
def bv(l:List Bool):Nat:=l.foldl (fun n b=>2*n+b.toNat) 0
theorem bv_go(l:List Bool):∀n,l.foldl (fun n b=>2*n+b.toNat) n=n*2^l.length+bv l:=by induction l with|nil=>intro n;simp[bv]|cons b l a=>
  intro n;unfold bv;rw[yai,yai,a,a (2*0+b.toNat),yav,ybs];have:(2*n+b.toNat)*2^l.length=n*(2^l.length*2)+b.toNat*2^l.length:=by rw[Nat.add_mul,ybp 2 n,Nat.mul_assoc,ybp 2 (2^l.length)]
  rw[this,Nat.mul_zero,ybw,Nat.add_assoc]
theorem zfm(a b:List Bool):bv (a++b)=bv a*2^b.length+bv b:=by
 conv=>lhs;unfold bv
 rw[List.foldl_append,bv_go];rfl
theorem zlp(x:Bool)(l:List Bool):bv (x::l)=x.toNat*2^l.length+bv l:=by have:=zfm [x] l;rw[show bv [x]=x.toNat from by simp[bv]]at this;exact this
theorem zf4(l:List Bool):bv l<2^l.length:=by induction l with|nil=>simp[bv]|cons x l a=>rw[zlp,yav,ybs];cases x<;>simp<;>omega
def z69:Nat→Nat→List Bool|0,_=>[]|k+1,n=>n.testBit k::z69 k n
theorem z2k(n:Nat):∀k,(z69 k n).length=k|0=>rfl|k+1=>by rw[z69,yav,z2k n k]
theorem zhc(n:Nat):∀k,bv (z69 k n)=n%2^k|0=>by simp[z69,bv,Nat.mod_one]|k+1=>by rw[z69,zlp,z2k,zhc n k,ybs,Nat.mod_mul,Nat.toNat_testBit,ybp,ybg]
theorem znn{m n:Nat}:∀k,(∀i,i<k→m.testBit i=n.testBit i)→z69 k m=z69 k n|0,_=>rfl|k+1,h=>by rw[z69,z69,h k (by omega),znn k fun i a=>h i (by omega)]
theorem zlo:∀l:List Bool,z69 l.length (bv l)=l
 |[]=>rfl|x::l=>by
  have hl:=zf4 l;rw[yav,z69];have e:bv (x::l)=2^l.length*x.toNat+bv l:=by rw[zlp,ybp]
  have a:(bv (x::l)).testBit l.length=x:=by rw[e,ybu _ hl,if_neg (by omega),ybt];cases x<;>rfl
  have h2:z69 l.length (bv (x::l))=z69 l.length (bv l):=znn _ fun i b=>by rw[e,ybu _ hl,if_pos b]
  rw[a,h2,zlo l]
def zu4:Z:=[65,66,67,68,69,70,71,72,73,74,75,76,77,78,79,80,81,82,83,84,85,86,87,88,89,90,97,98,99,100,101,102,103,104,105,106,107,108,109,110,111,112,113,114,115,116,117,118,119,120,121,122,48,49,50,51,52,53,54,55,56,57,45,95]
def ltr(n:Nat):UInt8:=zu4[n]?.getD 0
def unl(c:UInt8):Option Nat:=zu4.findIdx? fun x=>decide (x=c)
theorem zz0a1:∀c:UInt8,(match unl c with|some n=>decide (n<64)&&decide (ltr n=c)|none=>true)=true:=z6f (by decide+kernel)
theorem zn8{c:UInt8}{n:Nat}(h:unl c=some n):n<64∧ltr n=c:=by have:=zz0a1 c;rw[h]at this;simpa using this
theorem zzm:∀n:Fin 64,unl (ltr n.val)=some n.val:=by decide+kernel
theorem zz08n{m n:Nat}(b:m<64)(hn:n<64)(h:ltr m=ltr n):m=n:=by have a:=zzm ⟨m,b⟩;have h2:=zzm ⟨n,hn⟩;simp only at a h2;rw[h,h2]at a;exact(Option.some.inj a).symm
def zg6(l:List Bool):List Bool:=l++ya6 (6-l.length) false
def zaf:Nat→List Bool→Z|0,_=>[]|n+1,l=>ltr (bv (zg6 (l.take 6)))::zaf n (l.drop 6)
def znw:Nat→List Bool→Z|0,_=>[]|n+1,l=>yb3 (bv (l.take 8))::znw n (l.drop 8)
def z4n(s:Z):List Bool:=s.flatMap fun c=>z69 8 c.toNat
theorem zbn(c:UInt8)(s:Z):z4n (c::s)=z69 8 c.toNat++z4n s:=rfl
theorem zdm:∀s:Z,(z4n s).length=8*s.length|[]=>rfl|c::s=>by rw[zbn,yau,z2k,zdm s,yav];omega
def b64E(s:Z):Z:=zaf ((8*s.length+5)/6) (z4n s)
def zq8:Z→Option (List Nat)|[]=>some []|c::s=>match unl c,zq8 s with|some n,some l=>some (n::l)|_,_=>none
def z6p(l:List Nat):List Bool:=l.flatMap (z69 6)
theorem zbm(n:Nat)(l:List Nat):z6p (n::l)=z69 6 n++z6p l:=rfl
theorem z9a:∀l:List Nat,(z6p l).length=6*l.length|[]=>rfl|c::s=>by rw[zbm,yau,z2k,z9a s,yav];omega
def zq4(l:List Bool):Bool:=decide (l.length<6)&&l.all (!·)
def b64D(s:Z):Option Z:=match zq8 s with|none=>none|some l=>if zq4 ((z6p l).drop (8*(6*l.length/8)))=true then some (znw (6*l.length/8) (z6p l))else none
theorem zdv:∀(n:Nat)(l:List Bool),(zaf n l).length=n|0,_=>rfl|n+1,l=>by rw[zaf,yav,zdv]
theorem zz04b(a:List Bool)(k:Nat):zg6 ((a++ya6 k false).take 6)=zg6 (a.take 6):=by
 by_cases h:6≤a.length;·rw[ybc h]
 ·rw[List.take_append,ybf (show a.length≤6 by omega),List.take_replicate];unfold zg6;rw[yt,yau,yaz,List.replicate_append_replicate];congr 2;omega
theorem zm0:∀(n:Nat)(a:List Bool)(k:Nat),zaf n (a++ya6 k false)=zaf n a|0,_,_=>rfl|n+1,a,k=>by rw[zaf,zaf,zz04b,List.drop_append,List.drop_replicate,zm0 n]
theorem zhn:∀(s:Z)(l:List Nat),zq8 s=some l→zaf s.length (z6p l)=s∧l.length=s.length|[],l,h=>by cases h;exact⟨rfl,rfl⟩|c::s,l,h=>by unfold zq8 at h;cases a:unl c with|none=>rw[a]at h;cases h|some n=>cases h2:zq8 s with|none=>rw[a,h2]at h;cases h|some r=>rw[a,h2]at h;cases h;have⟨f,b⟩:=zn8 a;have⟨d,e⟩:=zhn s r h2;rw[yav,zaf,zbm,ybc (by rw[z2k];omega),ybf (by rw[z2k];omega),yaf (z2k n 6),d];refine⟨?_,by rw[yav,e]⟩;unfold zg6;rw[z2k,ybt,ya7,yu,zhc,ybo (by omega),b]
theorem zti:∀(n:Nat)(a b:List Bool),a.length=6*n→b.length=6*n→zaf n a=zaf n b→a=b
 |0,a,b,l,m,_=>by rw[yax.1 (show a.length=0 by omega),yax.1 (show b.length=0 by omega)]|n+1,a,b,l,m,h=>by
  rw[zaf,zaf]at h;have c:=(List.cons.inj h).1;have h2:=zti n (a.drop 6) (b.drop 6) (by rw[yaw];omega) (by rw[yaw];omega) (List.cons.inj h).2;have d:(a.take 6).length=6:=by rw[ya1];omega
  have e:(b.take 6).length=6:=by rw[ya1];omega
  unfold zg6 at c;rw[d,e,ybt,ya7,yu,yu]at c;have i:=zf4 (a.take 6);have j:=zf4 (b.take 6);rw[d]at i;rw[e]at j;have k:=zz08n i j c;have f:=zlo (a.take 6);have g:=zlo (b.take 6);rw[d]at f;rw[e,←k,f]at g;rw[←ybb 6 a,←ybb 6 b,h2,g]
theorem zlc{n:Nat}(h:n<256):(yb3 n).toNat=n:=by rw[UInt8.toNat_ofNat'];exact ybo h
theorem znx:∀(n:Nat)(b:List Bool),8*n≤b.length→z4n (znw n b)=b.take (8*n)
 |0,b,_=>by simp[znw,z4n]|n+1,b,h=>by
  have d:(b.take 8).length=8:=by rw[ya1];omega
  have c:=zf4 (b.take 8);rw[d]at c;have a:=zlo (b.take 8);rw[d]at a;rw[znw,zbn,znx n _ (by rw[yaw];omega),zlc c,a];rw[show 8*(n+1)=8+8*n by omega,List.take_add]
theorem zly:∀(n:Nat)(l:List Bool),(znw n l).length=n|0,_=>rfl|n+1,l=>by rw[znw,yav,zly]
theorem all_false:∀{l:List Bool},l.all (!·)=true→l=ya6 l.length false
 |[],_=>rfl|x::l,h=>by
  rw[yr,ye]at h;have:=all_false h.2;rw[yav,List.replicate_succ,←this];cases x;·rfl
  ·simp at h
theorem zpm(n:Nat):(ya6 n false).all (!·)=true:=by simp
theorem zz075{s:Z}{l:List Nat}(h:zq8 s=some l):b64E (znw (6*l.length/8) (z6p l))=s↔zq4 ((z6p l).drop (8*(6*l.length/8)))=true:=by
 have⟨f,h2⟩:=zhn s l h;obtain⟨B,hB⟩:∃B,z6p l=B:=⟨_,rfl⟩;have k:=z9a l;rw[hB]at k f;rw[hB];obtain⟨n,hn⟩:∃n,6*l.length/8=n:=⟨_,rfl⟩;rw[hn];have j:8*n≤B.length:=by omega
 have a:(B.take (8*n)).length=8*n:=by rw[ya1];omega
 have b:(B.drop (8*n)).length=B.length-8*n:=yaw ..;unfold b64E;rw[znx n B j,zly];unfold zq4;rw[ye,decide_eq_true_eq,b];constructor
 ·intro e;have c:=congrArg yat e;rw[zdv]at c;have g:B.length-8*n<6:=by omega
  refine⟨g,?_⟩;rw[c]at e;rw[←zm0 s.length (B.take (8*n)) (B.length-8*n)]at e;have i:=zti s.length _ B (by rw[yau,a,yaz];omega) (by omega) (e.trans f.symm);have d:B.drop (8*n)=ya6 (B.length-8*n) false:=by have:=congrArg (List.drop (8*n)) i;rw[yaf a]at this;exact this.symm
  rw[d];exact zpm _
 ·intro⟨g,m⟩;have c:(8*n+5)/6=s.length:=by omega
  rw[c,←zm0 s.length (B.take (8*n)) (B.length-8*n)];have d:=all_false m;rw[b]at d;rw[←d,ybb,f]
def badW(b:UInt8):Bool:=decide (b.toNat<33)||decide (126<b.toNat)||decide (b=34)||decide (b=92)
def textS(s:Z):Bool:=decide (s.length≤128)&&Lib.validD s
def wordS(s:Z):Bool:=!decide (s=[])&&decide (s.length≤32)&&!s.any badW
def tickS(n:Int):Bool:=decide (0≤n)&&decide (n≤1099511627776)
def scp:Option Z→List Z→Bool|_,[]=>true|p,a::r=>wordS a&&(match p with|none=>true|some q=>slt q a)&&scp (some a) r
def okC(c:q01):Bool:=[c.zwr,c.zwt,c.zwq,c.z08,c.zws,c.z0t].all textS&&c.zr2.all textS&&tickS c.gIat&&tickS c.gExp&&decide (0≤c.z4o)&&decide (c.z4o≤9)&&decide (c.z0b.length≤16)&&decide (c.zr2.length≤4)&&!decide (([]:Z)∈c.zr2)&&scp none c.z0b
theorem zz01d:∀l m:List J,szs (l++m)=szs l+szs m|[],m=>by simp[szs]|x::l,m=>by have:=zz01d l m;grind[szs]
theorem zz088(l m:List Z):kys (l++m)=kys l+kys m:=by simp[kys]
def msz(l:List Mb):Nat:=szs (l.map (·.2))+kys (l.map (·.1))
theorem zz08t(l m:List Mb):msz (l++m)=msz l+msz m:=by grind[msz,zz01d,zz088]
theorem zz0ci(l:List Mb):(obj l).sz=msz l+1:=by rfl
theorem zz06e(b:Bool)(k:Z)(v:J):msz (opt b k v)≤v.sz+k.length+2:=by grind[opt,msz,szs,kys]
theorem jT_sz(s:Z):(jT s).sz=s.length+1:=by rw[q04.zji];simp[jT,szs,kys]
theorem zz4:∀l:List Z,szs (l.map jT)≤2*kys l|[]=>by simp[szs]|s::l=>by have:=zz4 l;grind[szs,jT_sz,z7g]
theorem zz0c1(l:List Z):(jTs l).sz≤2*kys l+1:=by have:=zz4 l;rw[q04.zji];simp[jTs];have e:kys []=0:=rfl;omega
theorem zz3:∀l:List q02,szs (l.map fun f=>jTs f.z38)+kys (l.map (·.zj))≤3*zgl l|[]=>by simp[szs,kys]|f::l=>by have a:=zz3 l;grind[zz0c1,szs,z7g,zi3,q02.sz]
theorem zz0bz(l:List q02):(jFs l).sz≤3*zgl l+1:=by simp[zz3,q04.zji,jFs]
def sesB:Z:=[65,66,67,68,69,70,71,72,73,74,75,76,77,78,79,80,81,82,83,84,85,86,87,88,89,90,97,98,99,100,101,102,103,104,105,106,107,108,109,110,111,112,113,114,115,116,117,118,119,120,121,122,48,49,50,51,52,53,54,55,56,57,45,95]
def sesC(b:UInt8):Bool:=isAl b||decide (b=45)||decide (b=95)
theorem zz09o:∀b:UInt8,sesB.contains b=sesC b:=z6f (by decide+kernel)
def zcq(s:Z):Bool:=s.all sesC
theorem M_ses{s:Z}(h:s.length<1000000000):∃t,M.trim s sesB=some t∧decide (t=[])=zcq s:=by refine⟨_,zke (by omega) (by decide),?_⟩;grind[zjn,zcq,zz09o]
theorem zz00a(v:J):(print v).1.length≤16384:=by grind[print]
def zqd:List J→List Z→Option (List q02)|[],_=>some []|x::xs,a=>if(zbj x).2=true then(zqd xs a.tail).map (⟨a.head?.getD [],(zbj x).1⟩::·)else none
def zcp(v:J):List q02×Bool:=if v.zf=6 then match zqd v.zi v.zv with|some l=>(l,true)|none=>([],false)else([],false)
def SzJ(v:J):Prop:=v.sz≤131072
theorem SzJ.parts{v:J}(h:SzJ v):v.z09.length≤131072∧v.zi.length≤131072∧v.zv.length≤131072:=by grind[SzJ,q04.zji,zjj,zb5]
theorem SzJ.za7{v:J}(h:SzJ v)(k:Z):SzJ (za7 v k).1:=ybm (zz08o v k) h
theorem SzJ.mem{v x:J}(h:SzJ v)(a:x∈v.zi):SzJ x:=by have:=zjk a;grind[SzJ,q04.zji]
theorem zud(w:Nat):zao nulJ w=0:=by rfl
def Chk(v:J):Prop:=∃w,zao v w=0
theorem Chk.mem{v x:J}(h:Chk v)(a:x∈v.zi):Chk x:=by obtain⟨w,h⟩:=h;exact⟨w+1,zgx (zbo h).2.2 x a⟩
theorem zvv(v:J)(k:Z):(za7 v k).1=nulJ∨(za7 v k).1∈v.zi:=by unfold za7;grind
theorem Chk.za7{v:J}(h:Chk v)(k:Z):Chk (za7 v k).1:=by
 rcases zvv v k with e|e;·rw[e];exact⟨0,zud 0⟩
 ·exact h.mem e
theorem Chk.keys{v:J}(h:Chk v):v.zf=6→v.zv.length=v.zi.length:=by obtain⟨w,h⟩:=h;exact(zm7 (zbo h).2.1).1
theorem zz07m{v:J}(h:SzJ v)(e:v.zf=6)(m:v.zv.length=v.zi.length):∀(n i:Nat)(a:List q02),v.zi.length-i=n→i≤v.zi.length→a.length≤i→M.z4a v a (i:Int)=some (match zqd (v.zi.drop i) (v.zv.drop i)with|some l=>.go (a++l)|none=>.done ([],false)):=by have o:=h.parts;intro n;induction n with|zero=>grind[M.z4a,yad,zqd]|succ n g=>
  intro i a hn k j;have c:i<v.zi.length:=by omega
  have b:i<v.zv.length:=by omega
  have d:(i:Int)<(v.zi.length:Int):=by omega
  have f:SzJ v.zi[i]:=h.mem (yao c);rw[M.z4a,yab c,yab b];simp only[d,decide_true,if_true,z3f,yal c,yal b,ya,yb,e];rw[zed (by have:=f.parts;omega)];simp only[yb];unfold zqd;cases p:(zbj v.zi[i]).2 with|false=>simp|true=>simp only[yn,yp,yk,if_false,if_true,List.tail_cons,yaq,yc];rw[z0h (by simp;omega),w1 (by omega)];simp only[yb];rw[g (i+1) _ (by omega) (by omega) (by simp;omega)];grind
theorem zz040{v:J}(h:SzJ v)(c:v.zf=6→v.zv.length=v.zi.length):M.q1p v=some (zcp v):=by
 unfold M.q1p zcp;by_cases a:v.zf=6;·have f:=zz07m h a (c a) _ 0 [] rfl (ybx _) (by simp);grind
 ·rw[if_neg a,M.z4a];cases hl:v.zi with|nil=>simp[a]|cons x l=>
   have d:SzJ x:=h.mem (by rw[hl];simp);have b:(0:Int)<((x::l).length:Int):=by simp
   have e:ix (x::l) 0=some x:=by simp[ztx]
   simp only[b,decide_true,if_true,e,ya,yb];rw[zed (by have:=d.parts;omega)];simp[a]
inductive Pt where|fx(n v:Z)|st(n:Z)(t:Nat×Nat×Z)(w:Bool)|cn(n:Z)(c:Bool)
structure Rw where
 kd:Int
 me:Z
 sg:List Z
 mr:Nat
 wh:Nat
 ps:List Pt
def fUser:Nat×Nat×Z:=(2,F.q2y,[85,115,101,114])
def zy8:Nat×Nat×Z:=(3,F.q25,[80,97,115,115])
def fCode:Nat×Nat×Z:=(5,F.q1d,[67,111,100,101])
def zht:Nat×Nat×Z:=(6,F.q2v,B108)
def zy6:Nat×Nat×Z:=(7,F.q0y,B109)
def z9w:Nat×Nat×Z:=(8,F.q1c,B99)
def zay:Nat×Nat×Z:=(9,F.q2r,B102)
def ze3:Nat×Nat×Z:=(10,F.q2d,B83)
def zku:Nat×Nat×Z:=(11,F.q2q,B110)
def ze2:Nat×Nat×Z:=(12,F.q0z,B84)
def zf6:Nat×Nat×Z:=(13,F.q1a,B76)
def zhu:Nat×Nat×Z:=(14,F.q30,B82)
def zy7:Nat×Nat×Z:=(15,F.q1v,B111)
def fName:Nat×Nat×Z:=(16,F.q1u,[78,97,109,101])
def fData:Nat×Nat×Z:=(17,F.q1f,[68,97,116,97])
def fBody:Nat×Nat×Z:=(18,F.q12,[66,111,100,121])
def fSig:Nat×Nat×Z:=(19,F.q2s,[83,105,103])
def zqx:Nat×Nat×Z:=(21,F.q1j,B100)
def z8n:List (Nat×Nat×Z):=[fUser,zy8,fCode,zht,zy6,z9w,zay,ze3,zku,ze2,zf6,zhu,zy7,fName,fData,fBody,fSig,zqx]
def tab:List Rw:=[⟨1,B5,[B75],0,1,[.st B103 fUser false,.st B81 zy8 false]⟩,⟨2,B5,[B75,B62],1,1,[.st B62 fCode false]⟩,⟨3,B5,[B75,[107,101,121]],1,1,[.st [107,101,121] fName false,.st B106 fData true,.st [99,108,105,101,110,116] fBody true,.st [115,105,103] fSig true]⟩,⟨4,B5,[[101,110,114,111,108],B62],1,1,[]⟩,⟨5,B5,[[101,110,114,111,108],[107,101,121]],1,1,[.st B106 fData true]⟩,⟨6,B5,[[99,104,97,108,108,101,110,103,101]],1,1,[]⟩,⟨7,B5,[[108,111,103,111,117,116]],1,1,[]⟩,⟨8,B5,[[102,111,114,103,111,116]],0,1,[.st B103 fUser false]⟩,⟨9,B5,[[114,101,115,101,116]],0,1,[.st B40 zht false,.st B81 zy8 false]⟩,⟨10,[71,69,84],[[97,117,116,104,111,114,105,122,101]],1,2,[.fx B77 B62,.st B12 z9w false,.st B43 ze3 false,.st B26 zku false,.fx B49 [83,50,53,54],.st B74 zf6 false,.st B44 zy7 false]⟩,⟨11,B5,[B40],0,1,[.fx B42 B58,.st B12 z9w false,.st B24 zay false,.st B62 fCode false,.st B43 ze3 false,.st B78 zhu false]⟩,⟨12,B5,[B40],0,1,[.fx B42 B59,.st B12 z9w false,.st B24 zay false,.st B26 zku false,.st B66 ze2 false]⟩,⟨13,B5,[B40],0,1,[.fx B42 B11,.st B12 z9w false,.st B24 zay false,.st B11 zht false,.st B26 zku false]⟩,⟨14,B5,[B40],0,1,[.fx B42 B23,.st B12 z9w false,.st B24 zay false,.st B79 zht false,.st B88 zy6 false,.st B26 zku false,.st B66 ze2 false]⟩,⟨15,B5,[[114,101,118,111,107,101]],0,1,[.st B12 z9w false,.st B24 zay false,.st B40 zht false]⟩,⟨16,B5,[[105,110,116,114,111,115,112,101,99,116]],0,1,[.st B12 z9w false,.st B24 zay false,.st B40 zht false]⟩,⟨17,[71,69,84],[[117,115,101,114,105,110,102,111]],2,0,[]⟩,⟨18,[71,69,84],[[107,101,121,115]],0,0,[]⟩,⟨19,[71,69,84],[B94,[79,70]],2,2,[.st [102,105,108,116,101,114] zqx false,.cn B95 false,.cn B67 true]⟩,⟨20,[71,69,84],[B94,[79,70],B52],2,0,[]⟩,⟨21,B5,[B94,[79,70]],2,3,[]⟩,⟨22,B105,[B94,[79,70],B52],6,4,[]⟩,⟨23,B96,[B94,[79,70],B52],6,0,[]⟩,⟨24,B5,[[97,100,109,105,110],[112,97,115,115,119,111,114,100]],2,1,[.st [110,97,109,101] fName false,.st B81 zy8 false]⟩,⟨25,B5,[[97,100,109,105,110],[116,117,114,110]],2,1,[]⟩]
def zqg:Z:=[78,65,77,69]
def zqh:Z:=[79,70]
def Pt.nm:Pt→Z|.fx n _=>n|.st n _ _=>n|.cn n _=>n
def Pt.toH:Pt→q0b|.fx n v=>⟨n,NF,v,false⟩|.st n t w=>⟨n,t.2.1,[],w⟩|.cn n _=>⟨n,NF,zqg.take 1,false⟩
def Pt.toR:Pt→q0f|.fx n v=>⟨n,[],v,false⟩|.st n t w=>⟨n,t.2.2,[],w⟩|.cn n c=>⟨n,if c=true then B41 else B51,[],false⟩
def zka(l:List Z):Z:=l.flatMap fun s=>47::s
def whS:Nat→Z|1=>B9|2=>B32|3=>B60|4=>B54|_=>[]
def Rw.toH(r:Rw):q0a:=⟨r.kd,r.me,zka r.sg,(r.mr:Int),(r.wh:Int),r.ps.map Pt.toH⟩
def Rw.toR(r:Rw):q0e:=⟨r.kd,r.me,zka r.sg,whS r.wh,r.mr.testBit 0,r.mr.testBit 1,r.mr.testBit 2,r.ps.map Pt.toR⟩
theorem zfx:M.q2l=some (tab.map Rw.toH):=by kernel_rfl
def zdk:List Z→List Z→Z→Z→Option (Z×Z)|[],[],o,n=>some (o,n)|w::b,s::a,o,n=>if w=zqh then if s=[]then none else zdk b a s n else if w=zqg then zdk b a o s else if w=s then zdk b a o n else none|_,_,_,_=>none
def A0(k:Int)(o n:Z):q00:=⟨k,o,[],[],[],[],[],[],[],[],[],[],[],[],[],[],n,[],[],[],[],[],[],[],0,0⟩
def zA:q00:=A0 0 [] []
def z2r:Z:=[99,111,111,107,105,101]
def zk1:Z:=[115,101,115,115,105,111,110]
def z6n:Z:=[97,117,116,104,111,114,105,122,97,116,105,111,110]
def z7o:Z:=[66,101,97,114,101,114,32]
def kIf:Z:=[105,102,45,109,97,116,99,104]
def zgi:List Z→Z|[]=>[]|x::l=>if(z1q 61 (bare x)).2.2=true∧(z1q 61 (bare x)).1=zk1 then(z1q 61 (bare x)).2.1 else zgi l
def zgh(l:List q05):Z:=zgi (z0u 59 (z4p l z2r []))
def sesP(m:Nat)(l:List q05):Option Z:=if m.testBit 0=true then if zcq (zgh l)=true then some (zgh l)else none else some []
def tokP(m:Nat)(l:List q05):Option Z:=if m.testBit 1=true∧z95 l z6n=true then if z7o.isPrefixOf (z4p l z6n [])=true∧z7c 33 126 ((z4p l z6n []).drop 7)=true then some ((z4p l z6n []).drop 7)else none else some []
def zq2(s:Z):Bool:=z7c 33 126 s&&!s.contains 34
def unq(s:Z):Z:=(s.take (s.length-1)).drop 1
def quoted(s:Z):Bool:=decide (2≤s.length)&&decide (s.head?=some 34)&&decide (s.getLast?=some 34)
def tagP(m:Nat)(l:List q05):Option Z:=if m.testBit 2=true∧z95 l kIf=true then if quoted (z4p l kIf [])=true∧zq2 (unq (z4p l kIf []))=true then some (unq (z4p l kIf []))else none else some []
def zoh(m:Nat)(l:List q05)(k:Int)(o n:Z):Option q00:=match sesP m l,tokP m l,tagP m l with|some s,some t,some g=>some ⟨k,o,[],[],s,[],t,[],[],[],[],[],[],[],[],[],n,[],[],[],g,[],[],[],0,0⟩|_,_,_=>none
def z7l(ps:List Pt)(k:Z):Bool:=ps.any fun p=>decide (p.nm=k)
def zis(ps:List Pt)(l:List q05):Bool:=l.all fun p=>decide (zak l p.zj=1)&&z7l ps p.zj
def zsl(a:q00)(c:Nat)(v:Z):q00:=(a.setAt c v).getD a
def getS(a:q00)(c:Nat):Z:=(a.zkb c).getD []
def setC(a:q00)(c:Bool)(n:Int):q00:=if c=true then{a with z11:=n}else{a with z2t:=n}
def zjx(a:q00)(c:Bool):Int:=if c=true then a.z11 else a.z2t
def putP(l:List q05)(a:q00):Pt→Option q00|.fx n v=>if z95 l n=true∧z4p l n []=v then some a else none|.st n t w=>if w=true then(b64D (z4p l n [])).map (zsl a t.1)else some (zsl a t.1 (z4p l n []))|.cn n c=>if z4p l n []=[]then some a else if isNum 9 (z4p l n [])=true then some (setC a c ((zd0 0 (z4p l n []):Nat):Int))else none
theorem zz09a(l:List q05)(a:q00)(n v:Z):putP l a (.fx n v)=if z95 l n=true∧z4p l n []=v then some a else none:=rfl
theorem zz09b(l:List q05)(a:q00)(n:Z)(t:Nat×Nat×Z)(w:Bool):putP l a (.st n t w)=if w=true then(b64D (z4p l n [])).map (zsl a t.1)else some (zsl a t.1 (z4p l n [])):=rfl
theorem zz099(l:List q05)(a:q00)(n:Z)(c:Bool):putP l a (.cn n c)=if z4p l n []=[]then some a else if isNum 9 (z4p l n [])=true then some (setC a c ((zd0 0 (z4p l n []):Nat):Int))else none:=rfl
def zum(l:List q05):List Pt→q00→Option q00|[],a=>some a|p::ps,a=>(putP l a p).bind (zum l ps)
def zoc(ps:List Pt)(l:List q05)(a:q00):Option q00:=if zis ps l=true then zum l ps a else none
def zvr(s:Z)(a:q00):Option q00:=if(parse s).2=0∧(parse s).1.zi.length=2∧(za7 (parse s).1 kId).2=true∧(za7 (parse s).1 z2s).2=true∧(za7 (parse s).1 kId).1.zf=4∧(zcp (za7 (parse s).1 z2s).1).2=true then some {a with zj:=(za7 (parse s).1 kId).1.z09,z02:=(zcp (za7 (parse s).1 z2s).1).1}else none
def zxf(r:Rw)(q:q03)(a:q00):Option q00:=match r.wh with|0=>if q.zx=[]then some a else none|1=>if(z2l q.zx).2=0 then zoc r.ps (z2l q.zx).1 a else none|2=>if q.zx=[]then zoc r.ps q.z0d a else none|3=>zvr q.zx a|_=>some {a with z1e:=q.zx}
def askR(r:Rw)(q:q03)(o n:Z):Option q00:=match zoh r.mr q.zp r.kd o n with|none=>none|some a=>if r.wh=2∨q.z0d=[]then zxf r q a else none
def zv1(q:q03):List Rw→Int→q00×Int|[],e=>(zA,e)|r::rs,e=>match zdk r.sg q.z00 [] []with|none=>zv1 q rs e|some on=>if r.me=q.zt then match askR r q on.1 on.2 with|some a=>(a,0)|none=>zv1 q rs 227 else zv1 q rs (if e=225 then 226 else e)
def zt4(q:q03):q00×Int:=zv1 q tab 225
def Pt.okB:Pt→Bool|.fx _ v=>!decide (v=[78])|.st _ t _=>z8n.contains t|.cn n c=>decide ((n=B67)=(c=true))
def cns:List Pt→List Bool|[]=>[]|.cn _ c::l=>c::cns l|_::l=>cns l
def Rw.okB(r:Rw):Bool:=decide (z0u 47 ((zka r.sg).drop 1)=r.sg)&&decide (1≤(zka r.sg).length)&&decide ((zka r.sg).length<1000)&&decide (r.sg.length<100)&&decide (r.mr<8)&&decide (r.wh<5)&&decide (r.ps.length<100)&&r.ps.all Pt.okB&&decide (cns r.ps).Nodup&&(zka r.sg).all fun b=>decide (b.toNat<128)
theorem zz0dj:tab.all Rw.okB=true:=by decide+kernel
theorem zz0di:(tab.map (·.kd)).Nodup:=by decide+kernel
structure zfl(r:Rw):Prop where
 cut:z0u 47 ((zka r.sg).drop 1)=r.sg
 one:1≤(zka r.sg).length
 len:(zka r.sg).length<1000
 sgl:r.sg.length<100
 mkl:r.mr<8
 whl:r.wh<5
 psl:r.ps.length<100
 ps:∀p∈r.ps,p.okB=true
 cns:(cns r.ps).Nodup
theorem Rw.ok_of{r:Rw}(h:r.okB=true):zfl r:=by unfold Rw.okB at h;simp only[ye,decide_eq_true_eq,ys]at h;obtain⟨⟨⟨⟨⟨⟨⟨⟨⟨a,h2⟩,b⟩,c⟩,d⟩,e⟩,f⟩,g⟩,i⟩,_⟩:=h;exact⟨a,h2,b,c,d,e,f,g,i⟩
theorem zfh{r:Rw}(h:r∈tab):zfl r:=Rw.ok_of (ys.1 zz0dj r h)
theorem zdo(x:Nat):BitVec.ofInt 64 (x:Int)=BitVec.ofNat 64 x:=by apply BitVec.eq_of_toNat_eq;rw[BitVec.toNat_ofInt,BitVec.toNat_ofNat];omega
theorem zz018{x k:Nat}(h:k≤60):zez .i64 (x:Int) (k:Int)=((x/2^k:Nat):Int):=by
 unfold zez;have a:min (k:Int).toNat (yb1 .i64)=k:=by have:yb1 .i64=64:=rfl;rw[this];omega
 rw[a,Int.natCast_ediv,yby];exact Int.fdiv_eq_ediv_of_nonneg _ (by exact_mod_cast ybx (2^k))
theorem zsn{x k:Nat}(h:k≤60)(b:x*2^k<4611686018427387904):z7r .i64 (x:Int) (k:Int)=((x*2^k:Nat):Int):=by
 unfold z7r;have a:min (k:Int).toNat (yb1 .i64)=k:=by have:yb1 .i64=64:=rfl;rw[this];omega
 rw[a];have:(x:Int)*2^k=((x*2^k:Nat):Int):=by rw[Int.natCast_mul,yby];rfl
 rw[this,w64 (by omega) (by omega)]
theorem zz002{a b i:Nat}(e:i≤60)(d:b<2^i)(h:a*2^i+b<4611686018427387904):orI .i64 (z7r .i64 (a:Int) (i:Int)) (b:Int)=((a*2^i+b:Nat):Int):=by rw[zsn e (by omega)];unfold orI;have c:yb1 .i64=64:=rfl;rw[c,zdo,zdo,BitVec.toNat_or,BitVec.toNat_ofNat,BitVec.toNat_ofNat,ybo (by omega),ybo (by omega),ybp a,←Nat.two_pow_add_eq_or_of_lt d,ybp _ a,w64 (by omega) (by omega)]
theorem zlm{x k:Nat}(b:k≤60)(e:x<4611686018427387904):z7s .i64 (x:Int) ((2^k-1:Nat):Int)=((x%2^k:Nat):Int):=by unfold z7s;have a:yb1 .i64=64:=rfl;have d:2^k≤2^60:=ybr (by decide) b;have c:x%2^k≤x:=Nat.mod_le ..;rw[a,zdo,zdo,BitVec.toNat_and,BitVec.toNat_ofNat,BitVec.toNat_ofNat,ybo (by omega),ybo (by omega),Nat.and_two_pow_sub_one_eq_mod,w64 (by omega) (by omega)]
theorem zu6{k:Nat}(a:k≤60):yb2 .i64 (z7r .i64 1 (k:Int)-1)=((2^k-1:Nat):Int):=by have c:2^k≤2^60:=ybr (by decide) a;have b:1≤2^k:=Nat.one_le_two_pow;have:=zsn (x:=1) a (by omega);rw[Nat.one_mul]at this;have this:z7r .i64 1 (k:Int)=((2^k:Nat):Int):=this;rw[this,w64 (by omega) (by omega)];omega
theorem zqc{n:Nat}(h:n<256):yb2 .u8 (n:Int)=((yb3 n).toNat:Int):=by rw[zlc h];exact of_decide_eq_true ((by decide+kernel:∀i:Fin 256,decide (yb2 .u8 ((i.val:Nat):Int)=((i.val:Nat):Int))=true) ⟨n,h⟩)
theorem zxi(l:List Bool)(k:Nat)(h:k≤l.length):bv l/2^(l.length-k)=bv (l.take k)∧bv l%2^(l.length-k)=bv (l.drop k):=by
 have e:=zfm (l.take k) (l.drop k);have hl:=zf4 (l.drop k);rw[ybb,yaw]at e;rw[yaw]at hl;have a:0<2^(l.length-k):=ybv _;rw[e];constructor;·rw[ybg,ybh _ _ a,ybk hl,ybw]
 ·rw[ybg,ybi,ybo hl]
theorem z9p{l:List Bool}{k:Nat}(h:l.length≤k):bv l<2^k:=Nat.lt_of_lt_of_le (zf4 l) (ybr (by decide) h)
def ixL(c:UInt8):Int:=Lib.idxFunc (fun r=>decide ((r:Int)%256=(c.toNat:Int))) true ⟨zu4.toArray⟩
theorem zyz:∀c:UInt8,(match unl c with|some n=>decide (ixL c=(n:Int))|none=>decide (ixL c<0))=true:=z6f (by decide+kernel)
theorem M_ixL(c:UInt8):M.z1l zu4 (c.toNat:Int)=some (ixL c):=by unfold M.z1l ixL;rfl
theorem zz03s{c:UInt8}{n:Nat}(h:unl c=some n):ixL c=(n:Int):=by have:=zyz c;rw[h]at this;simpa using this
theorem zz03r{c:UInt8}(h:unl c=none):ixL c<0:=by have:=zyz c;rw[h]at this;simpa using this
theorem zei:(B1:Z)=zu4:=rfl
theorem zr9{n:Nat}(h:n<64):ix zu4 (n:Int)=some (ltr n):=by rw[z3f];unfold ltr;rw[yal (show n<zu4.length from h)];rfl
theorem zq9(c:UInt8)(s:Z):zq8 (c::s)=match unl c,zq8 s with|some n,some l=>some (n::l)|_,_=>none:=rfl
theorem drop_cons{α:Type}{s t:List α}{c:α}{i:Nat}(h:s.drop i=c::t):i<s.length∧s[i]?=some c∧s.drop (i+1)=t:=by
 have a:i<s.length:=by have:=congrArg yat h;rw[yaw,yav]at this;omega
 rw[yab a]at h;injection h with b h2;exact⟨a,by rw[yal a,b],h2⟩
theorem zxt{B:List Bool}(h:8≤B.length):znw (B.length/8) B=yb3 (bv (B.take 8))::znw ((B.drop 8).length/8) (B.drop 8)∧B.drop (8*(B.length/8))=(B.drop 8).drop (8*((B.drop 8).length/8))∧B.length%8=(B.drop 8).length%8:=by
 have hl:(B.drop 8).length=B.length-8:=yaw ..;obtain⟨n,hn⟩:∃n,B.length/8=n+1:=⟨B.length/8-1,by omega⟩;have a:(B.drop 8).length/8=n:=by omega
 rw[hn,a,znw,yaa];refine⟨rfl,?_,by omega⟩;congr 1;omega
theorem zz07j{s:Z}(T:s.length<100000000):∀(t:Z)(i:Nat)(acc:Z)(p:List Bool),s.drop i=t→i≤s.length→acc.length≤i→p.length<8→M.z1a s (unb acc) ((bv p:Nat):Int) ((p.length:Nat):Int) (i:Int)=some (match zq8 t with|none=>.done ([],11)|some l=>.go (unb (acc++znw ((p++z6p l).length/8) (p++z6p l)),((bv ((p++z6p l).drop (8*((p++z6p l).length/8))):Nat):Int),(((p++z6p l).length%8:Nat):Int))):=by
 intro t
 induction t with|nil=>
  intro i acc p h H F K;have I:s.length≤i:=yac.1 h;have:¬(i:Int)<((unb s).length:Int):=by rw[zl];omega
  rw[M.z1a.eq_1];simp only[this,decide_false,yk,if_false];have y:p.length/8=0:=by omega
  have z:p.length%8=p.length:=by omega
  simp[zq8,z6p,y,z,znw]|cons c t u=>
  intro i acc p h H F K;obtain⟨J,G,hd⟩:=drop_cons h;have C:(i:Int)<((unb s).length:Int):=by rw[zl];omega
  rw[M.z1a.eq_1,zei];simp only[C,decide_true,if_true,z3f,zfi,G,yd,ya,yb,M_ixL];rw[zq9];cases j:unl c with|none=>have:=zz03r j;simp[this]|some n=>
   have hn:=(zn8 j).1;have R:=zz03s j;have o:¬(n:Int)<0:=by omega
   rw[R];simp only[o,decide_false,yk,if_false];obtain⟨P,d⟩:∃P,p++z69 6 n=P:=⟨_,rfl⟩;have D:P.length=p.length+6:=by rw[←d,yau,z2k]
   have e:bv P=bv p*2^6+n:=by rw[←d,zfm,z2k,zhc,ybo (show n<2^6 by omega)]
   have L:=z9p (l:=p) (k:=8) (by omega);have ho:orI .i64 (z7r .i64 ((bv p:Nat):Int) 6) (n:Int)=((bv P:Nat):Int):=by rw[e];exact zz002 (i:=6) (by decide) (by omega) (by omega)
   have Q:yb2 .i64 (((p.length:Nat):Int)+6)=((P.length:Nat):Int):=by rw[w64 (by omega) (by omega)];omega
   have q:∀l:List Nat,p++z6p (n::l)=P++z6p l:=fun l=>by rw[zbm,←yt,d]
   rw[ho,Q,w1 (by omega)];by_cases b:8≤P.length
   ·have a:(8:Int)≤((P.length:Nat):Int):=by omega
    have m:yb2 .i64 (((P.length:Nat):Int)-8)=((P.length-8:Nat):Int):=by rw[w64 (by omega) (by omega)];omega
    have g:(0:Int)≤((P.length-8:Nat):Int):=by omega
    obtain⟨N,O⟩:=zxi P 8 b;have r:=zf4 (P.take 8);rw[ya1,ybn b]at r;have E:=z9p (l:=P) (k:=14) (by omega);simp only[a,decide_true,if_true,m,g];rw[z3k rfl];simp only[yb];rw[zz018 (by omega),N,zqc r,zdf,z0h (by rw[zl];simp[unb];omega),←z0j];simp only[yb];rw[zu6 (by omega),zlm (by omega) (by omega),O];have f:(P.drop 8).length=P.length-8:=yaw ..;rw[←f,u (i+1) _ (P.drop 8) hd (by omega) (by simp;omega) (by omega)];cases zq8 t with|none=>rfl|some l=>obtain⟨v,w,x⟩:=zxt (B:=P++z6p l) (by rw[yau];omega);have A:(P++z6p l).drop 8=P.drop 8++z6p l:=yz b;have S:(P++z6p l).take 8=P.take 8:=ybc b;simp only[q];rw[v,w,x,A,S,yt];rfl
   ·have a:¬(8:Int)≤((P.length:Nat):Int):=by omega
    simp only[a,decide_false,yk,if_false];rw[u (i+1) acc P hd (by omega) (by omega) (by omega)];cases zq8 t with|none=>rfl|some l=>simp only[q]
theorem zqk:∀l:List Bool,bv l=0↔l.all (!·)=true
 |[]=>by simp[bv]|x::l=>by
  have:=zqk l;rw[zlp,yr];have a:0<2^l.length:=ybv _;cases x;·simpa using this
  ·simp
theorem zcy{s:Z}(i:s.length<100000000):M.q0j s=some (match b64D s with|some t=>(t,0)|none=>([],11)):=by unfold M.q0j b64D;rw[z3k (by simp;omega)];simp only[ya,yb];have h:=zz07j i s 0 [] [] rfl (ybx _) (ybl _) (by decide);have h:M.z1a s [] 0 0 0=_:=h;rw[h];cases zq8 s with|none=>rfl|some l=>
  simp only[ya5,yb];rw[z9a];have b:((z6p l).drop (8*(6*l.length/8))).length=6*l.length%8:=by rw[yaw,z9a];omega
  unfold zq4;rw[b];obtain⟨r,g⟩:∃r,(z6p l).drop (8*(6*l.length/8))=r:=⟨_,rfl⟩;have f:=zqk r;rw[g];clear b;generalize 6*l.length%8=k;by_cases d:k<6
  ·have a:¬(6:Int)≤(k:Int):=by omega
   by_cases c:bv r=0;·simp[d,a,c,f.1 c,z74]
   ·have e:¬((bv r:Nat):Int)=0:=by omega
    have:r.all (!·)=false:=yh.2 fun q=>c (f.2 q);simp[d,a,c,e,this]
  ·have a:(6:Int)≤(k:Int):=by omega
   simp[d,a]
theorem zz06f{l:List Bool}(h:l.length=6):zg6 l=l:=by unfold zg6;rw[h,ybt,ya7,yu]
theorem zo2{B:List Bool}(h:6≤B.length):zaf (B.length/6) B=ltr (bv (B.take 6))::zaf ((B.drop 6).length/6) (B.drop 6)∧B.drop (6*(B.length/6))=(B.drop 6).drop (6*((B.drop 6).length/6))∧B.length%6=(B.drop 6).length%6:=by
 have hl:(B.drop 6).length=B.length-6:=yaw ..;obtain⟨n,hn⟩:∃n,B.length/6=n+1:=⟨B.length/6-1,by omega⟩;have a:(B.drop 6).length/6=n:=by omega
 rw[hn,a,zaf,yaa,zz06f (by rw[ya1];omega)];refine⟨rfl,?_,by omega⟩;congr 1;omega
theorem zz0ba{p:List Bool}{c:UInt8}(G:p.length<6):∀(n:Nat)(R D:List Bool)(acc:Z),R.length≤n→D++R=p++z69 8 c.toNat→acc.length+R.length<1000000000→M.z3t ((bv p:Nat):Int) (c.toNat:Int) ((R.length:Nat):Int) (unb acc)=some (((R.length%6:Nat):Int),unb (acc++zaf (R.length/6) R)):=by
 intro n;have z:c.toNat<256:=c.toNat_lt;have A:=z9p (l:=p) (k:=6) (by omega);have r:yb2 .i64 (c.toNat:Int)=(c.toNat:Int):=w64 (by omega) (by omega);have g:bv (p++z69 8 c.toNat)=bv p*2^8+c.toNat:=by rw[zfm,z2k,zhc,ybo (show c.toNat<2^8 by omega)]
 have ho:orI .i64 (z7r .i64 ((bv p:Nat):Int) 8) (c.toNat:Int)=((bv (p++z69 8 c.toNat):Nat):Int):=by rw[g];exact zz002 (i:=8) (by decide) (by omega) (by omega)
 induction n with|zero=>
  intro R D acc hn e y;have b:¬(6:Int)≤((R.length:Nat):Int):=by omega
  have:R=[]:=yah (by omega);subst this;rw[M.z3t.eq_1];simp[zaf]|succ n E=>
  intro R D acc hn e y;rw[M.z3t.eq_1,zei];by_cases b:6≤R.length
  ·have a:(6:Int)≤((R.length:Nat):Int):=by omega
   have q:yb2 .i64 (((R.length:Nat):Int)-6)=((R.length-6:Nat):Int):=by rw[w64 (by omega) (by omega)];omega
   have m:(0:Int)≤((R.length-6:Nat):Int):=by omega
   simp only[a,decide_true,if_true,q,m,r,ho];rw[z3k rfl];simp only[ya,yb];have x:R.length≤p.length+8:=by have:=congrArg yat e;rw[yau,yau,z2k]at this;omega
   have w:bv (p++z69 8 c.toNat)<2^14:=z9p (by rw[yau,z2k];omega);have C:bv (p++z69 8 c.toNat)/2^(R.length-6)%2^6=bv (R.take 6):=by
    rw[←e];have f:D++R=D++R.take 6++R.drop 6:=by rw[yt,ybb]
    have d:=zf4 (R.take 6);rw[ya1,ybn b]at d;have s:=zf4 (R.drop 6);rw[yaw]at s;have o:0<2^(R.length-6):=ybv _;rw[f,zfm,yaw,ybg,ybh _ _ o,ybk s,ybw,zfm,ya1,ybn b,ybg,ybi,ybo d]
   have d:=zf4 (R.take 6);rw[ya1,ybn b]at d;have B:bv (p++z69 8 c.toNat)/2^(R.length-6)≤bv (p++z69 8 c.toNat):=Nat.div_le_self ..;have h:z7s .i64 (zez .i64 ((bv (p++z69 8 c.toNat):Nat):Int) ((R.length-6:Nat):Int)) 63=((bv (R.take 6):Nat):Int):=by rw[zz018 (by omega),←C];exact zlm (k:=6) (by decide) (by omega)
   rw[h,zr9 d];simp only[yb];rw[z1z (by rw[zl];omega),zdf,←z0j];simp only[yb];have j:(R.drop 6).length=R.length-6:=yaw ..;obtain⟨t,F,u⟩:=zo2 b;rw[←j,E (R.drop 6) (D++R.take 6) _ (by omega) (by rw[yt,ybb,e]) (by simp;omega),t,u,yt];rfl
  ·have a:¬(6:Int)≤((R.length:Nat):Int):=by omega
   have v:R.length/6=0:=by omega
   have f:R.length%6=R.length:=by omega
   simp[a,v,f,zaf]
theorem zz0b9{s:Z}(R:s.length<100000000):∀(t:Z)(i:Nat)(acc:Z)(p:List Bool),s.drop i=t→i≤s.length→acc.length≤2*i→p.length<6→M.z36 s ((bv p:Nat):Int) ((p.length:Nat):Int) (i:Int) (unb acc)=some (((bv ((p++z4n t).drop (6*((p++z4n t).length/6))):Nat):Int),(((p++z4n t).length%6:Nat):Int),unb (acc++zaf ((p++z4n t).length/6) (p++z4n t))):=by
 intro t
 induction t with|nil=>
  intro i acc p g H E q;have I:s.length≤i:=yac.1 g;have:¬(i:Int)<((unb s).length:Int):=by rw[zl];omega
  rw[M.z36.eq_1];simp only[this,decide_false,yk,if_false];have x:p.length/6=0:=by omega
  have y:p.length%6=p.length:=by omega
  simp[z4n,x,y,zaf]|cons c t N=>
  intro i acc p g H E q;obtain⟨J,F,hd⟩:=drop_cons g;have A:(i:Int)<((unb s).length:Int):=by rw[zl];omega
  rw[M.z36.eq_1];simp only[A,decide_true,if_true,z3f,zfi,F,yd,ya,yb];obtain⟨P,a⟩:∃P,p++z69 8 c.toNat=P:=⟨_,rfl⟩;have C:P.length=p.length+8:=by rw[←a,yau,z2k]
  have L:yb2 .i64 (((p.length:Nat):Int)+8)=((P.length:Nat):Int):=by rw[w64 (by omega) (by omega)];omega
  have e:=zz0ba (c:=c) q P.length P [] acc (ybl _) (by rw[ya5,a]) (by omega);rw[L,e];simp only[yb];rw[z3k (by simp;omega)];simp only[yb];have G:c.toNat<256:=c.toNat_lt;have K:=z9p (l:=p) (k:=6) (by omega);have d:bv P=bv p*2^8+c.toNat:=by rw[←a,zfm,z2k,zhc,ybo (show c.toNat<2^8 by omega)]
  have h:yb2 .i64 (c.toNat:Int)=(c.toNat:Int):=w64 (by omega) (by omega);have ho:orI .i64 (z7r .i64 ((bv p:Nat):Int) 8) (c.toNat:Int)=((bv P:Nat):Int):=by rw[d];exact zz002 (i:=8) (by decide) (by omega) (by omega)
  have D:bv P<2^14:=z9p (by omega);obtain⟨_,r⟩:=zxi P (6*(P.length/6)) (by omega);have n:P.length-6*(P.length/6)=P.length%6:=by omega
  rw[n]at r;rw[h,ho,zu6 (by omega),zlm (by omega) (by omega),r,w1 (by omega)];have f:(P.drop (6*(P.length/6))).length=P.length%6:=by rw[yaw,n]
  rw[←f,N (i+1) _ _ hd (by omega) (by rw[yau,zdv];omega) (by omega)];have eB:p++z4n (c::t)=P++z4n t:=by rw[zbn,←yt,a]
  rw[eB]--one or two letters
  have key:∀(m:Nat)(P:List Bool),P.length/6=m→zaf ((P++z4n t).length/6) (P++z4n t)=zaf m P++zaf ((P.drop (6*m)++z4n t).length/6) (P.drop (6*m)++z4n t)∧(P++z4n t).drop (6*((P++z4n t).length/6))=(P.drop (6*m)++z4n t).drop (6*((P.drop (6*m)++z4n t).length/6))∧(P++z4n t).length%6=(P.drop (6*m)++z4n t).length%6:=by intro m;induction m with|zero=>intro P _;simp[zaf]|succ m j=>
    intro P Q;have o:6≤P.length:=by omega
    obtain⟨u,v,w⟩:=zo2 (B:=P++z4n t) (by rw[yau];omega);have z:(P++z4n t).drop 6=P.drop 6++z4n t:=yz o;have O:(P++z4n t).take 6=P.take 6:=ybc o;obtain⟨k1,b,k3⟩:=j (P.drop 6) (by rw[yaw];omega);rw[yaa,show 6+6*m=6*(m+1)by omega]at k1 b k3;rw[u,v,w,z,O,k1,b,k3,zaf,zz06f (by rw[ya1];omega)];exact⟨rfl,rfl,rfl⟩
  obtain⟨k1,b,k3⟩:=key _ P rfl;rw[k1,b,k3,yt]
theorem zo1:∀(n m:Nat)(B:List Bool),zaf (n+m) B=zaf n B++zaf m (B.drop (6*n))|0,m,B=>by simp[zaf]|n+1,m,B=>by rw[show n+1+m=n+m+1 by omega,zaf,zaf,zo1 n m,yaa,show 6+6*n=6*(n+1)by omega];rfl
theorem zz0bg(l:List Bool)(k:Nat):bv (l++ya6 k false)=bv l*2^k:=by have:bv (ya6 k false)=0:=(zqk _).2 (zpm k);rw[zfm,this,yaz,Nat.add_zero]
theorem zhf{s:Z}(m:s.length<100000000):M.q0h s=some (b64E s):=by
 unfold M.q0h b64E;rw[z3k (by simp;omega)];simp only[ya,yb];have h:=zz0b9 m s 0 [] [] rfl (ybx _) (ybl _) (by decide);rw[ya5]at h;have h:M.z36 s 0 0 0 []=_:=h;rw[h];simp only[yb];rw[zdm,ya5,zei];obtain⟨r,e⟩:∃r,(z4n s).drop (6*(8*s.length/6))=r:=⟨_,rfl⟩;have f:r.length=8*s.length%6:=by rw[←e,yaw,zdm];omega
 rw[e];by_cases o:8*s.length%6=0
 ·have a:¬(0:Int)<((8*s.length%6:Nat):Int):=by omega
  simp only[a,decide_false,yk,if_false];rw[z2p];have:(8*s.length+5)/6=8*s.length/6:=by omega
  rw[this];rfl
 ·have a:(0:Int)<((8*s.length%6:Nat):Int):=by omega
  have n:yb2 .i64 (6-((8*s.length%6:Nat):Int))=((6-8*s.length%6:Nat):Int):=by rw[w64 (by omega) (by omega)];omega
  simp only[a,decide_true,if_true,n];rw[z3k (by simp)];simp only[yb];have p:=z9p (l:=r) (k:=6) (by omega);have d:(zg6 r).length=6:=by unfold zg6;rw[yau,yaz];omega
  have b:=zf4 (zg6 r);rw[d]at b;have c:bv (zg6 r)=bv r*2^(6-8*s.length%6):=by unfold zg6;rw[zz0bg,f]
  have j:z7s .i64 (z7r .i64 ((bv r:Nat):Int) ((6-8*s.length%6:Nat):Int)) 63=((bv (zg6 r):Nat):Int):=by rw[zsn (by omega) (by rw[←c];omega),←c];have:=zlm (x:=bv (zg6 r)) (k:=6) (by decide) (by omega);rw[ybo b]at this;exact this
  rw[j,zr9 b];simp only[yb];rw[z1z (by rw[zl,zdv];omega),zdf,←z0j];simp only[yb];rw[z2p];have g:(8*s.length+5)/6=8*s.length/6+1:=by omega
  have i:zaf 1 r=[ltr (bv (zg6 r))]:=by rw[zaf,ybf (show r.length≤6 by omega)];rfl
  rw[g,zo1,e,i];rfl
theorem zds{s:Z}(h:s.length<100000000):M.q0k s=some (z2l s):=by
 by_cases a:s.length<1000000;·exact z9b a
 ·unfold M.q0k z2l;rw[zcv 38 (by omega)];have:(decide (8192<(s.length:Int))||decide (64<((z0u 38 s).length:Int)))=true:=by rw[yo,decide_eq_true_iff];exact .inl (by omega)
  rw[if_pos (show 8192<s.length∨64<(z0u 38 s).length from .inl (by omega))];simp only[ya,yb,this,if_true]
theorem zsp(x:Z):(z1q 61 (swp x)).1.length≤x.length∧(z1q 61 (swp x)).2.1.length≤x.length:=by have:=(z8l 61 (swp x)).1;rw[zjh]at this;omega
theorem zp6{B:Nat}:∀(l:List Z)(a:List q05),(∀x∈l,x.length≤B)→(∀p∈a,p.zj.length≤B∧p.z1y.length≤B)→∀p∈(zal l a).1,p.zj.length≤B∧p.z1y.length≤B
 |[],a,_,c=>c|x::l,a,hl,c=>by
  unfold zal;split;·intro p b;cases b
  ·split
   ·rename_i y z e h2;have d:=hl x (by simp);have f:=zsp x;have g:=zi2 _ _ _ (ybl _) e;have l2:=zi2 _ _ _ (ybl _) h2;refine zp6 l _ (fun x d=>hl x (by simp[d])) fun p b=>?_;rcases ya2.1 b with b|b;·exact c p b
    ·rw[ya4]at b;subst b;exact⟨by simp only;omega,by simp only;omega⟩
   ·intro p b;cases b
theorem zft(s:Z):zf2 (z2l s).1∧(z2l s).1.length≤64:=by
 refine⟨?_,zod s⟩;unfold z2l;split;·intro p a;cases a
 ·split;·intro p a;cases a
  ·rename_i c h2;intro p a;have:=zp6 (B:=8192) (z0u 38 s) [] (fun x b=>ybm (z63 38 s x b) (by omega)) (fun p a=>by cases a) p a;omega
def FitZ(z:Option (Jn (Bool×q00) (Z×Z))):Option (Z×Z)→Prop|some on=>z=some (.go on)|none=>∃r,z=some (.done (false,r))
theorem zz011:¬zqh=zqg:=by decide
theorem zz09n:¬zqh=[]:=by decide
theorem zz07l{p d:List Z}(a:q00)(x:p.length<100000000)(y:d.length=p.length):∀(n i:Nat)(o m:Z),p.length-i=n→i≤p.length→FitZ (M.z1f p d a (i:Int) o m) (zdk (d.drop i) (p.drop i) o m):=by
 have l:([79,70]:Z)=zqh:=rfl
 have q:(B52:Z)=zqg:=rfl;intro n;induction n with|zero=>
  intro i o m hn t;have:¬(i:Int)<(p.length:Int):=by omega
  rw[M.z1f.eq_1,yad (by omega),yad (by omega)];simp[this,zdk,FitZ]|succ n h=>
  intro i o m hn t;have b:i<p.length:=by omega
  have c:i<d.length:=by omega
  have r:(i:Int)<(p.length:Int):=by omega
  rw[M.z1f.eq_1,yab b,yab c,l,q];simp only[r,decide_true,if_true,z3f,yal b,yal c,ya,yb,w1 (show i<4611686018427387904 by omega)];obtain⟨w,g⟩:∃w,d[i]=w:=⟨_,rfl⟩;obtain⟨s,f⟩:∃s,p[i]=s:=⟨_,rfl⟩;rw[g,f,zdk];by_cases c1:w=zqh
  ·subst c1;have u:=zz011;by_cases j:s=[];·subst j;have v:=zz09n;simp[u,v,FitZ]
   ·simp only[j,decide_true,decide_false,ym,yg,if_true,if_false];exact h (i+1) s m (by omega) (by omega)
  ·by_cases e:w=zqg;·subst e;simp only[c1,decide_true,decide_false,yj,yk,if_true,if_false];exact h (i+1) o s (by omega) (by omega)
   ·by_cases k:w=s;·subst k;simp only[c1,e,decide_true,decide_false,yn,yj,yk,if_true,if_false,yb];exact h (i+1) o m (by omega) (by omega)
    ·simp[c1,e,k,FitZ]
theorem ze5:∀{b a:List Z}{o m:Z}{r:Z×Z},zdk b a o m=some r→b.length=a.length
 |[],[],_,_,_,_=>rfl|w::b,s::a,o,m,r,h=>by
  rw[zdk]at h;have:b.length=a.length:=by
   split at h
   ·split at h;·cases h
    ·exact ze5 h
   ·split at h;·exact ze5 h
    ·split at h;·exact ze5 h
     ·cases h
  simp[this]|[],_::_,_,_,_,h=>by simp[zdk]at h|_::_,[],_,_,_,h=>by simp[zdk]at h
def FitR(z:Option (Bool×q00))(a:q00):Option (Z×Z)→Prop|some on=>z=some (true,{a with gOf:=on.1,zj:=on.2})|none=>∃r,z=some (false,r)
theorem zfu{r:Rw}(h:zfl r){p:List Z}(e:p.length<100000000)(a:q00):FitR (M.q2f r.toH p a) a (zdk r.sg p a.gOf a.zj):=by
 have d:=h.one;have h2:=h.len;unfold M.q2f;have f:sub r.toH.zgn 1 (r.toH.zgn.length:Int)=some ((zka r.sg).drop 1):=zan (l:=zka r.sg) (a:=1) d;rw[f];simp only[ya,yb];rw[zcv 47 (by rw[yaw];omega),h.cut];simp only[yb];by_cases hl:r.sg.length=p.length
 ·have c:(r.sg.length:Int)=(p.length:Int):=by omega
  have b:=zz07l a e hl _ 0 a.gOf a.zj rfl (ybx _);rw[yag,yag]at b;have b:FitZ (M.z1f p r.sg a 0 a.gOf a.zj) (zdk r.sg p a.gOf a.zj):=b;simp only[c,decide_true,yn,yk,if_false];cases hf:zdk r.sg p a.gOf a.zj with|some on=>rw[hf]at b;have b:M.z1f p r.sg a 0 a.gOf a.zj=some (.go on):=b;rw[b];rfl|none=>rw[hf]at b;obtain⟨x,b⟩:=b;rw[b];exact⟨x,rfl⟩
 ·have c:¬(r.sg.length:Int)=(p.length:Int):=by omega
  cases hf:zdk r.sg p a.gOf a.zj with|some on=>exact(hl (ze5 hf)).elim|none=>simp only[c,decide_false,ym,if_true];exact⟨a,rfl⟩
theorem z7f{l:List q05}(h:zf2 l)(k:Z):(z4p l k []).length<100000000:=by
 unfold z4p;split;·rename_i p a;exact(h p (List.mem_of_find?_eq_some a)).2
 ·simp
theorem zhj{c:UInt8}:∀{t:Z},(z1q c t).2.2=true→t=(z1q c t).1++c::(z1q c t).2.1
 |[],h=>by simp[cutb_nil]at h|x::r,h=>by
  rw[z42]at h⊢;by_cases e:x=c;·rw[if_pos e];simp[e]
  ·rw[if_neg e]at h⊢;have:=zhj (t:=r) h;simp only[yv,←this]
theorem zz095{k:Z}{c:UInt8}(b:no c k)(t:Z):((k++[c]).isPrefixOf t=true↔(z1q c t).2.2=true∧(z1q c t).1=k)∧((z1q c t).2.2=true∧(z1q c t).1=k→t.drop (k++[c]).length=(z1q c t).2.1):=by
 constructor
 ·constructor;·intro h;obtain⟨r,rfl⟩:=yas.1 h;rw[yt,yba,zlx r b];exact⟨rfl,rfl⟩
  ·intro⟨a,h2⟩;have:=zhj a;rw[h2]at this;exact yas.2 ⟨(z1q c t).2.1,by rw[yt,yba,←this]⟩
 ·intro⟨a,h2⟩;have:=zhj a;rw[h2]at this;conv=>lhs;rw[this]
  rw[show k++c::(z1q c t).2.1=k++[c]++(z1q c t).2.1 by simp,yae]
theorem zz0au{s:Z}(h:s.length<1000000000):M.trim s [32]=some (bare s):=zke (by omega) (by decide)
theorem zz0d7:no 61 zk1:=fun b a=>by
 have:zk1.all (fun b=>!decide (b=61))=true:=by decide
 simpa using ys.1 this b a
theorem zxp{l:List Z}(hl:l.length<1000000000)(g:∀x∈l,x.length<1000000000):∀(n i:Nat),l.length-i=n→i≤l.length→∃z,M.z3l l (i:Int)=some z∧(z=.done (zgi (l.drop i))∨z=.go ()∧zgi (l.drop i)=[]):=by
 intro n;induction n with|zero=>
  intro i hn f;have:¬(i:Int)<(l.length:Int):=by omega
  rw[M.z3l.eq_1,yad (by omega)];simp[this,zgi]|succ n h=>
  intro i hn f;have a:i<l.length:=by omega
  have d:(i:Int)<(l.length:Int):=by omega
  rw[M.z3l.eq_1,yab a];simp only[d,decide_true,if_true,z3f,yal a,ya,yb];rw[zz0au (g _ (yao a))];simp only[yb];have e:(B37:Z)=zk1++[61]:=rfl;rw[e,z7i,zgi];obtain⟨b,j⟩:=zz095 zz0d7 (bare l[i]);simp only[yb];by_cases c:(z1q 61 (bare l[i])).2.2=true∧(z1q 61 (bare l[i])).1=zk1;·rw[if_pos (b.2 c),if_pos c,←j c];exact⟨_,rfl,.inl rfl⟩
  ·rw[if_neg fun q=>c (b.1 q),if_neg c,w1 (by omega)];exact h (i+1) (by omega) (by omega)
theorem zk0{l:List q05}(hl:l.length<100000000)(hf:zf2 l):M.q1e l=some (zgh l):=by
 unfold M.q1e zgh;have f:=z7f hf z2r;have e:(B39:Z)=z2r:=rfl;rw[e,z7z z2r (by omega)];simp only[ya,yb];rw[zcv 59 (by omega)];simp only[yb];have d:=zc8 59 (z4p l z2r []);obtain⟨z,b,a⟩:=zxp (l:=z0u 59 (z4p l z2r [])) (by omega) fun x c=>by have:=z63 59 _ x c;omega _ 0 rfl (ybx _);have b:M.z3l (z0u 59 (z4p l z2r [])) 0=some z:=b;rw[yag]at a;rw[b];rcases a with rfl|⟨rfl,a⟩;·rfl
 ·rw[a];rfl
theorem znv{B:Nat}:∀l:List Z,(∀x∈l,x.length≤B)→(zgi l).length≤B
 |[],_=>ybx _|x::l,h=>by
  rw[zgi];split;·have b:=(z8l 61 (bare x)).1;have h2:=zgv x;have c:=h x (by simp);omega
  ·exact znv l fun x a=>h x (by simp[a])
theorem znu{l:List q05}(hf:zf2 l):(zgh l).length<100000000:=by have b:=z7f hf z2r;have:=znv (B:=(z4p l z2r []).length) (z0u 59 (z4p l z2r [])) fun x a=>z63 59 _ x a;unfold zgh;omega
theorem zu5:∀m:Fin 8,(!decide (z7s .i64 ((m.val:Nat):Int) 1=0))=m.val.testBit 0∧(!decide (z7s .i64 ((m.val:Nat):Int) 2=0))=m.val.testBit 1∧(!decide (z7s .i64 ((m.val:Nat):Int) 4=0))=m.val.testBit 2:=by decide+kernel
def zgc(z:Option (Rb q00 q00)):Option q00→Prop|some a=>z=some (.ok a)|none=>∃a,z=some (.pan 227 a)
theorem zkm(c:UInt8):∀s:Z,Lib.contains s [c]=s.contains c
 |[]=>by unfold Lib.contains;simp[Lib.index]|x::r=>by
  have b:=zkm c r;unfold Lib.contains at b⊢;rw[z5j];have e:=Lib.index_ge r [c];by_cases h:x=c;·simp[h]
  ·have d:¬c=x:=fun q=>h q.symm;rw[if_neg h,List.contains_cons,←b];have:(c==x)=false:=by simpa using d
   rw[this,yl];by_cases a:Lib.index r [c]=-1;·simp[a]
   ·rw[if_neg a,yi,decide_eq_true_iff,decide_eq_true_iff];omega
theorem zz06x{s:Z}(h:s.length<100000000):M.contains s [34]=some (s.contains 34):=by unfold M.contains;rw[z3k (by simp;omega),zkm];rfl
theorem zz05l(c:UInt8):decide ((c.toNat:Int)=34)=decide (c=34):=by have:(c.toNat:Int)=34↔c=34:=⟨fun e=>yb4.1 (by have:(34:UInt8).toNat=34:=rfl;omega),fun e=>by rw[e];rfl⟩;rw[yi,decide_eq_true_iff,decide_eq_true_iff,this]
theorem zza{s:Z}(h:2≤s.length)(a:s.length<100000000):ix s (yb2 .i64 ((s.length:Int)-1))=s.getLast?:=by
 have e:yb2 .i64 ((s.length:Int)-1)=((s.length-1:Nat):Int):=by rw[w64 (by omega) (by omega)];omega
 rw[e,z3f,yap]
theorem get_some{s:Z}{i:Nat}(h:i<s.length):∃c,s[i]?=some c:=⟨_,yal h⟩
theorem zix{s:Z}(h:2≤s.length):∃a b,s.head?=some a∧s.getLast?=some b∧quoted s=(decide (a=34)&&decide (b=34)):=by
 obtain⟨a,d⟩:=get_some (s:=s) (i:=0) (by omega);obtain⟨b,e⟩:=get_some (s:=s) (i:=s.length-1) (by omega);have c:s.head?=some a:=by rw[yar,d]
 have h2:s.getLast?=some b:=by rw[yap,e]
 refine⟨a,b,c,h2,?_⟩;unfold quoted;rw[c,h2];simp[h]
theorem zg7{s:Z}(h:¬2≤s.length):quoted s=false:=by unfold quoted;simp[h]
theorem zz01n{s:Z}(h:2≤s.length)(c:s.length<100000000):sub s 1 (yb2 .i64 ((s.length:Int)-1))=some (unq s):=by
 have e:yb2 .i64 ((s.length:Int)-1)=((s.length-1:Nat):Int):=by rw[w64 (by omega) (by omega)];omega
 rw[e];exact zgu (l:=s) (a:=1) (b:=s.length-1) (by omega) (by omega)
theorem zz01m(s:Z):(unq s).length≤s.length:=by unfold unq;rw[yaw,ya1];omega
def JA{α:Type}(A:Option (Jn (Rb q00 q00) α)):Option α→Prop|some s=>A=some (.go s)|none=>∃a,A=some (.done (.pan 227 a))
theorem zgc.seq{α:Type}{A:Option (Jn (Rb q00 q00) α)}{K:Jn (Rb q00 q00) α→Option (Rb q00 q00)}{x:Option α}{y:α→Option q00}(b:JA A x)(hd:∀r,K (.done r)=some r)(c:∀s,x=some s→zgc (K (.go s)) (y s)):zgc (A.bind K) (x.bind y):=by cases x with|none=>obtain⟨a,b⟩:=b;rw[b];exact⟨a,hd _⟩|some s=>have b:A=some (.go s):=b;rw[b];exact c s rfl
theorem zz03e(m:Nat)(l:List q05)(k:Int)(o n:Z):zoh m l k o n=(sesP m l).bind fun s=>(tokP m l).bind fun t=>(tagP m l).bind fun g=>some ⟨k,o,[],[],s,[],t,[],[],[],[],[],[],[],[],[],n,[],[],[],g,[],[],[],0,0⟩:=by unfold zoh;cases sesP m l<;>cases tokP m l<;>cases tagP m l<;>rfl
theorem zok{r:Rw}(O:zfl r){l:List q05}(hl:l.length<100000000)(hf:zf2 l)(k:Int)(o n:Z):zgc (M.q2i r.toH l (A0 k o n)) (zoh r.mr l k o n):=by
 obtain⟨h,i,j⟩:=zu5 ⟨r.mr,O.mkl⟩;simp only at h i j;have h:(!decide (z7s .i64 r.toH.z9e 1=0))=r.mr.testBit 0:=h;have i:(!decide (z7s .i64 r.toH.z9e 2=0))=r.mr.testBit 1:=i;have j:(!decide (z7s .i64 r.toH.z9e 4=0))=r.mr.testBit 2:=j;have F:(B16:Z)=z6n:=rfl;have G:(B36:Z)=z7o:=rfl;have H:(B34:Z)=kIf:=rfl;have I:(B1:Z)=sesB:=rfl;have D:=z7f hf z6n;have e:=z7f hf kIf;have L:=znu hf;obtain⟨t,z,A⟩:=M_ses (s:=zgh l) (by omega);unfold M.q2i;simp only[h,i,j,F,G,H,I,zk0 hl hf,z7z z6n (show l.length<1000000000 by omega),z7z kIf (show l.length<1000000000 by omega),ya,yb,z,A];rw[zz03e];refine zgc.seq ?_ (fun _=>rfl) fun s T=>?_;·unfold sesP;cases r.mr.testBit 0 with|false=>rfl|true=>cases S:zcq (zgh l)with|false=>simp only[if_true,z05,yb,yk,if_false];exact⟨_,rfl⟩|true=>rfl
 obtain⟨v,C⟩:∃v,z4p l z6n []=v:=⟨_,rfl⟩;obtain⟨u,B⟩:∃u,z4p l kIf []=u:=⟨_,rfl⟩;rw[C]at D;rw[B]at e;simp only[C,B];have p:=z7i v z7o;have w:M.q22 (v.drop 7) 33 126=some (z7c 33 126 (v.drop 7)):=z8p 33 126 (by rw[yaw];omega);have J:z7o.length=7:=rfl;refine zgc.seq ?_ (fun _=>rfl) fun t U=>?_
 ·unfold tokP;rw[C];by_cases c:r.mr.testBit 1=true∧z95 l z6n=true
  ·have cb:(z95 l z6n&&r.mr.testBit 1)=true:=by simp[c]
   rw[if_pos c];simp only[cb,if_true,p,yb];by_cases a:z7o.isPrefixOf v=true;·simp only[a,if_true,J,w,yb,true_and];cases q:z7c 33 126 (v.drop 7)with|false=>simp only[z05,yb,yk,if_false];exact⟨_,rfl⟩|true=>simp only[z0k,yb,if_true];rfl
   ·simp only[a,yk,if_false,yb,z05,false_and];exact⟨_,rfl⟩
  ·have cb:(z95 l z6n&&r.mr.testBit 1)=false:=by cases g:z95 l z6n with|false=>rfl|true=>cases h2:r.mr.testBit 1 with|false=>rfl|true=>exact(c ⟨h2,g⟩).elim
   rw[if_neg c];simp only[cb,yk,if_false];rfl
 by_cases c:r.mr.testBit 2=true∧z95 l kIf=true
 ·have cb:(z95 l kIf&&r.mr.testBit 2)=true:=by simp[c]
  have d:tagP r.mr l=if quoted u=true∧zq2 (unq u)=true then some (unq u)else none:=by unfold tagP;rw[if_pos c,B]
  rw[d];simp only[cb,if_true];by_cases a:2≤u.length
  ·have b:(2:Int)≤(u.length:Int):=by omega
   obtain⟨x,y,Q,R,N⟩:=zix a;have K:ix u 0=some x:=by rw[ztx,←yar,Q]
   simp only[b,decide_true,if_true,K,zza a e,R,yb,zz05l];rw[N];by_cases m:x=34
   ·by_cases E:y=34;·have P:=zz01m u;simp only[m,E,decide_true,if_true,yb,z0k,zz01n a e,yg,true_and];have f:M.q22 (unq u) 33 126=some (z7c 33 126 (unq u)):=z8p 33 126 (by omega);rw[f];simp only[yb];unfold zq2;cases g:z7c 33 126 (unq u)with|false=>simp only[yk,if_false,yb,z05,yj];exact⟨_,rfl⟩|true=>simp only[if_true,zz06x (show(unq u).length<100000000 by omega),yb,yq];cases h2:(unq u).contains 34 with|true=>simp only[yn,z05,yb,yk,if_false];exact⟨_,rfl⟩|false=>simp only[ym,z0k,yb,if_true];rfl
    ·simp only[m,E,decide_true,decide_false,if_true,yb,z05,yf,yk,false_and,if_false];exact⟨_,rfl⟩
   ·simp only[m,decide_false,yk,if_false,yb,z05,yj,false_and];exact⟨_,rfl⟩
  ·have b:¬(2:Int)≤(u.length:Int):=by omega
   rw[zg7 a];simp only[b,decide_false,yk,if_false,yb,z05,false_and];exact⟨_,rfl⟩
 ·have cb:(z95 l kIf&&r.mr.testBit 2)=false:=by cases g:z95 l kIf with|false=>rfl|true=>cases h2:r.mr.testBit 2 with|false=>rfl|true=>exact(c ⟨h2,g⟩).elim
  have d:tagP r.mr l=some []:=by unfold tagP;rw[if_neg c]
  rw[d];simp only[cb,yk,if_false];rfl
theorem zz07u{ps:List Pt}(p:q05)(hl:ps.length<1000):∀(n i:Nat),ps.length-i=n→i≤ps.length→∃z,M.zh (ps.map Pt.toH) p (i:Int)=some z∧((∃j:Nat,z=.done (j:Int)∧z7l (ps.drop i) p.zj=true)∨z=.go ()∧z7l (ps.drop i) p.zj=false):=by
 intro n;induction n with|zero=>
  intro i hn e;have:¬(i:Int)<((ps.map Pt.toH).length:Int):=by rw[yay];omega
  rw[M.zh.eq_1,yad (by omega)];simp only[this,decide_false,yk,if_false];exact⟨_,rfl,.inr ⟨rfl,rfl⟩⟩|succ n f=>
  intro i hn e;have a:i<ps.length:=by omega
  have d:(i:Int)<((ps.map Pt.toH).length:Int):=by rw[yay];omega
  rw[M.zh.eq_1,yab a];simp only[d,decide_true,if_true,z3f,yan,yal a,yd,ya,yb,M.q2h];have en:(Pt.toH ps[i]).zf9=ps[i].nm:=by cases ps[i]<;>rfl
  have b:z7l (ps[i]::ps.drop (i+1)) p.zj=(decide (ps[i].nm=p.zj)||z7l (ps.drop (i+1)) p.zj):=by unfold z7l;rw[List.any_cons]
  rw[en,b];by_cases c:ps[i].nm=p.zj;·grind
  ·simp only[c,decide_false,yk,if_false,yl];grind[w1]
theorem zz03v{ps:List Pt}(p:q05)(hl:ps.length<1000):M.q71 (ps.map Pt.toH) p=some (z7l ps p.zj):=by
 unfold M.q71 M.q76;obtain⟨z,a,b⟩:=zz07u p hl _ 0 rfl (ybx _);have a:M.zh (ps.map Pt.toH) p 0=some z:=a;rw[yag]at b;rw[a];rcases b with⟨j,rfl,c⟩|⟨rfl,c⟩;·simp_all
 ·simp[c]
theorem zz03k{l:List q05}{r:Rw}(h:zfl r)(a:q00)(hl:l.length<100000000):∀(n i:Nat),l.length-i=n→i≤l.length→M.z2q l r.toH a (i:Int)=some (if(l.drop i).all (fun p=>decide (zak l p.zj=1)&&z7l r.ps p.zj)=true then .go ()else .done (.pan 227 a)):=by intro n;induction n with|zero=>grind[M.z2q.eq_1,yad]|succ n j=>
  intro i hn k;have b:i<l.length:=by omega
  have e:(i:Int)<(l.length:Int):=by omega
  have f:M.q71 r.toH.z7j l[i]=some (z7l r.ps l[i].zj):=zz03v l[i] (by have:=h.psl;omega);rw[M.z2q.eq_1,yab b,yr];simp only[e,decide_true,if_true,z3f,yal b,ya,yb];rw[zfo _ (by omega)];simp only[yb,f];by_cases c:zak l l[i].zj=1
  ·have d:((zak l l[i].zj:Nat):Int)=1:=by omega
   simp only[c,d,decide_true,if_true,yb,yq];cases g:z7l r.ps l[i].zj with|false=>rfl|true=>simp only[z0k,yb,yq];rw[w1 (by omega)];exact j (i+1) (by omega) (by omega)
  ·have d:¬((zak l l[i].zj:Nat):Int)=1:=by omega
   grind[z05]
theorem z5i{t:Nat×Nat×Z}{P:Nat×Nat×Z→Prop}(h:t∈z8n)(k:P fUser)(h2:P zy8)(l:P fCode)(m:P zht)(n:P zy6)(o:P z9w)(p:P zay)(q:P ze3)(r:P zku)(a:P ze2)(b:P zf6)(c:P zhu)(d:P zy7)(e:P fName)(f:P fData)(g:P fBody)(i:P fSig)(j:P zqx):P t:=by unfold z8n at h;simp only[List.mem_cons,List.not_mem_nil,or_false]at h;rcases h with h|h|h|h|h|h|h|h|h|h|h|h|h|h|h|h|h|h<;>rw[h]<;>assumption
theorem zyc{t:Nat×Nat×Z}(h:t∈z8n)(a:q00):M.q0q t.2.1 a=some t.1:=z5i (P:=fun t=>M.q0q t.2.1 a=some t.1) h rfl rfl rfl rfl rfl rfl rfl rfl rfl rfl rfl rfl rfl rfl rfl rfl rfl rfl
theorem zye{t:Nat×Nat×Z}(h:t∈z8n)(a:q00)(v:Z):a.setAt t.1 v=some (zsl a t.1 v):=z5i (P:=fun t=>a.setAt t.1 v=some (zsl a t.1 v)) h rfl rfl rfl rfl rfl rfl rfl rfl rfl rfl rfl rfl rfl rfl rfl rfl rfl rfl
theorem zz05t{t:Nat×Nat×Z}(h:t∈z8n):ybj t.2.1 NF=false:=z5i (P:=fun t=>ybj t.2.1 NF=false) h rfl rfl rfl rfl rfl rfl rfl rfl rfl rfl rfl rfl rfl rfl rfl rfl rfl rfl
theorem zlg{t:Nat×Nat×Z}{n:Z}{w:Bool}(h:(Pt.st n t w).okB=true):t∈z8n:=by grind[Pt.okB]
theorem zz03l{l:List q05}{r:Rw}(F:zfl r)(hl:l.length<100000000)(hf:zf2 l):∀(n i:Nat)(a:q00),r.ps.length-i=n→i≤r.ps.length→zgc (M.z0m r.toH l (i:Int) a) (zum l (r.ps.drop i) a):=by
 have H:=F.psl;have A:r.toH.z7j.length=r.ps.length:=yay ..;have u:¬(1000000:Nat)=24:=by decide
 have y:¬(1000000:Nat)=25:=by decide
 intro n;induction n with|zero=>grind[M.z0m.eq_1,zum,zgc]|succ n K=>
  intro i a hn N;have g:i<r.ps.length:=by omega
  have E:(i:Int)<(r.toH.z7j.length:Int):=by rw[A];omega
  have J:ix r.toH.z7j (i:Int)=some (Pt.toH r.ps[i]):=by rw[z3f];show(r.ps.map Pt.toH)[i]?=_;rw[yan,yal g];rfl
  have e:=F.ps _ (yao g);rw[M.z0m.eq_1,yab g,zum];simp only[E,decide_true,if_true,J,ya,yb];obtain⟨p,G⟩:∃p,r.ps[i]=p:=⟨_,rfl⟩;rw[G]at e⊢;rw[z7z _ (by omega),w1 (by omega)];simp only[yb];cases p with
  |fx nm v=>
   have C:¬v=[78]:=by unfold Pt.okB at e;simpa using e
   have m:M.q2w (Pt.toH (.fx nm v)) a=some 1000000:=by unfold M.q2w Pt.toH;simp[C]
   have j:ybj (Pt.toH (.fx nm v)).z6r NF=true:=show ybj NF NF=true by decide
   have f:(Pt.toH (.fx nm v)).zci=v:=rfl;have d:(Pt.toH (.fx nm v)).zf9=nm:=rfl;simp only[m,yb,u,y,j,f,d,if_true,if_false];have k:putP l a (.fx nm v)=if z95 l nm=true∧z4p l nm []=v then some a else none:=rfl;rw[k];by_cases c:z95 l nm=true∧z4p l nm []=v;·rw[if_pos c];grind[z0k]
   ·rw[if_neg c];have cb:(z95 l nm&&decide (z4p l nm []=v))=false:=by cases E:z95 l nm with|false=>rfl|true=>grind
    simp only[cb,z05,yb];exact⟨a,rfl⟩|st nm t w=>
   have B:=zlg e;have m:M.q2w (Pt.toH (.st nm t w)) a=some 1000000:=by unfold M.q2w Pt.toH;simp
   have j:ybj (Pt.toH (.st nm t w)).z6r NF=false:=zz05t B;have hd:∀a,M.q0q (Pt.toH (.st nm t w)).z6r a=some t.1:=fun a=>zyc B a;have I:(Pt.toH (.st nm t w)).zmb=w:=rfl;have d:(Pt.toH (.st nm t w)).zf9=nm:=rfl;simp only[m,yb,u,y,j,I,d,hd,yk,if_true,if_false];have k:putP l a (.st nm t w)=if w=true then(b64D (z4p l nm [])).map (zsl a t.1)else some (zsl a t.1 (z4p l nm [])):=rfl;rw[k];have C:=z7f hf nm;cases w with|false=>simp only[yk,if_false,zye B,yb];grind|true=>simp only[if_true,zcy (show(z4p l nm []).length<100000000 by omega),yb];cases L:b64D (z4p l nm [])with|none=>simp only[Option.map_none,Option.bind_none];exact⟨a,by rfl⟩|some v=>grind[z0k,zye]
  |cn nm c=>
   have q:(nm=B67)=(c=true):=of_decide_eq_true e;have d:(Pt.toH (.cn nm c)).zf9=nm:=rfl;have f:(Pt.toH (.cn nm c)).zci=[78]:=rfl;have C:=z7f hf nm;obtain⟨x,b,D⟩:=zck (s:=z4p l nm []) 9 (by decide) (by omega);have b:M.q1w (z4p l nm []) 9=some (x,isNum 9 (z4p l nm [])):=b;have k:putP l a (.cn nm c)=if z4p l nm []=[]then some a else if isNum 9 (z4p l nm [])=true then some (setC a c ((zd0 0 (z4p l nm []):Nat):Int))else none:=rfl;rw[k];have z:¬(25:Nat)=24:=by decide
   have m:M.q2w (Pt.toH (.cn nm c)) a=some (if c=true then 25 else 24):=by unfold M.q2w;simp only[f,d,q,decide_true,yn,yk,if_false];cases c<;>rfl
   simp only[m,yb,d];by_cases o:z4p l nm []=[];·grind
   ·rw[if_neg o];cases h:isNum 9 (z4p l nm [])with
    |false=>rw[h]at b;cases c with|true=>simp only[o,if_true,z,if_false,decide_false,ym,yk,b,yb,z05];exact⟨_,rfl⟩|false=>simp only[o,if_true,if_false,decide_false,ym,yk,b,yb,z05];exact⟨_,rfl⟩
    |true=>rw[h,D h]at b;have:=K (i+1) (setC a c ((zd0 0 (z4p l nm []):Nat):Int)) (by omega) (by omega);cases c with|true=>simp only[o,if_true,z,if_false,decide_false,ym,yk,b,yb,z0k];exact this|false=>simp only[o,if_true,if_false,decide_false,ym,yk,b,yb,z0k];exact this
theorem zfv{l:List q05}{r:Rw}(c:zfl r)(hl:l.length<100000000)(hf:zf2 l)(a:q00):zgc (M.q2g r.toH l a) (zoc r.ps l a):=by unfold M.q2g;have b:=zz03k c a hl _ 0 rfl (ybx _);rw[yag]at b;have b:M.z2q l r.toH a 0=some (if zis r.ps l=true then .go ()else .done (.pan 227 a)):=b;have h2:=zz03l c hl hf _ 0 a rfl (ybx _);rw[yag]at h2;have h2:zgc (M.z0m r.toH l 0 a) (zum l r.ps a):=h2;rw[b];unfold zoc;cases zis r.ps l with|true=>exact h2|false=>exact⟨a,rfl⟩
def AskZ(z:Option (q00×Int)):Option q00→Prop|some a=>z=some (a,0)|none=>∃a,z=some (a,227)
theorem zgc.ask{z:Option (Rb q00 q00)}{x:Option q00}(h:zgc z x):AskZ (z.bind fun b=>(match b with|.pan d e=>some (e,d)|.ok c=>some (c,0):Option (q00×Int))) x:=by cases x with|some a=>have h:z=some (.ok a):=h;rw[h];rfl|none=>obtain⟨a,h⟩:=h;rw[h];exact⟨a,rfl⟩
theorem zui(s:Z):SzJ (parse s).1∧Chk (parse s).1:=by
 refine⟨zz04d s,?_⟩;rcases zru s with⟨x,a,b⟩|⟨c,a,_⟩;·rw[a];exact⟨0,b⟩
 ·rw[a];exact⟨0,zud 0⟩
theorem zol{s:Z}{f:Nat}(hf:34≤f)(a:q00):AskZ ((M.q3f f s).bind fun b=>(M.q3e b.1 [105,100]).bind fun d=>(M.q3e b.1 B25).bind fun e=>(M.q1p e.1).bind fun g=>(M.q1s (decide (b.2=0)&&decide ((b.1.zi.length:Int)=2)&&d.2&&e.2&&decide (d.1.zf=4)&&g.2) 227).bind fun h=>(match h with|.pan j=>some (a,j)|.ok l=>some ({a with zj:=d.1.z09,z02:=g.1},0):Option (q00×Int))) (zvr s a):=by
 obtain⟨k,h2⟩:=zui s;have r:([105,100]:Z)=kId:=rfl;have t:(B25:Z)=z2s:=rfl;have A:=k.parts;rw[zeb s hf,r,t];simp only[yb];rw[zcl (by omega),zcl (by omega)];simp only[yb];rw[zz040 (k.za7 z2s) (h2.za7 z2s).keys];simp only[yb];unfold zvr;by_cases c:(parse s).2=0∧(parse s).1.zi.length=2∧(za7 (parse s).1 kId).2=true∧(za7 (parse s).1 z2s).2=true∧(za7 (parse s).1 kId).1.zf=4∧(zcp (za7 (parse s).1 z2s).1).2=true
 ·rw[if_pos c];obtain⟨c1,z,m,n,o,p⟩:=c;have i:((parse s).1.zi.length:Int)=2:=by omega
  simp only[c1,i,m,n,o,p,decide_true,yg,z0k,yb];rfl
 ·rw[if_neg c];have:(decide ((parse s).2=0)&&decide (((parse s).1.zi.length:Int)=2)&&(za7 (parse s).1 kId).2&&(za7 (parse s).1 z2s).2&&decide ((za7 (parse s).1 kId).1.zf=4)&&(zcp (za7 (parse s).1 z2s).1).2)=false:=by apply yh.2;intro q;simp only[ye,decide_eq_true_eq]at q;obtain⟨⟨⟨⟨⟨u,B⟩,v⟩,w⟩,x⟩,y⟩:=q;exact c ⟨u,by omega,v,w,x,y⟩
  simp only[this,z05,yb];exact⟨a,rfl⟩
theorem zew{r:Rw}(h:zfl r):r.wh=0∨r.wh=1∨r.wh=2∨r.wh=3∨r.wh=4:=by have:=h.whl;omega
theorem zr5{r:Rw}(j:zfl r){q:q03}(B:fit q){f:Nat}(hf:34≤f){on:Z×Z}(i:zdk r.sg q.z00 [] []=some on):AskZ (M.q2e f r.toH q) (askR r q on.1 on.2):=by obtain⟨_,u,_,v,x,y,z,D⟩:=B;unfold M.q2e;have d:=zfu j (p:=q.z00) u (A0 r.kd [] []);have t:zdk r.sg q.z00 (A0 r.kd [] []).gOf (A0 r.kd [] []).zj=some on:=i;rw[t]at d;have d:M.q2f r.toH q.z00 (A0 r.kd [] [])=some (true,A0 r.kd on.1 on.2):=d;unfold A0 at d;have d:M.q2f r.toH q.z00 ⟨r.toH.zr3,[],[],[],[],[],[],[],[],[],[],[],[],[],[],[],[],[],[],[],[],[],[],[],0,0⟩=_:=d;rw[d];simp only[ya,yb];have h2:=zok j (l:=q.zp) y z r.kd on.1 on.2;unfold A0 at h2;unfold askR;cases s:zoh r.mr q.zp r.kd on.1 on.2 with|none=>rw[s]at h2;obtain⟨a,h2⟩:=h2;rw[h2];exact⟨a,rfl⟩|some a=>
  rw[s]at h2;have h2:M.q2i r.toH q.zp _=some (.ok a):=h2;rw[h2];simp only[yb];have h:r.toH.z4q=(r.wh:Int):=rfl;have m:(q.z0d.length:Int)=0↔q.z0d=[]:=by rw[←yax];omega
  have e:(decide (r.toH.z4q=2)||decide ((q.z0d.length:Int)=0))=decide (r.wh=2∨q.z0d=[]):=by
   rw[h,yi,yo,decide_eq_true_iff,decide_eq_true_iff,decide_eq_true_iff,m];constructor;·grind
   ·grind
  rw[e];by_cases c:r.wh=2∨q.z0d=[]
  ·rw[if_pos c];simp only[c,decide_true,z0k,yb];unfold zxf;rcases zew j with w|w|w|w|w
   ·have b:r.toH.z4q=0:=by rw[h,w];rfl
    simp only[b,w,decide_true,if_true];by_cases cb:q.zx=[];·simp only[cb,decide_true,z0k,yb,if_true];rfl
    ·simp only[cb,decide_false,z05,yb,if_false];exact⟨a,rfl⟩
   ·have b:r.toH.z4q=1:=by rw[h,w];rfl
    have g:¬(1:Int)=0:=by decide
    have k:¬(1:Int)=2:=by decide
    simp only[b,w,g,k,decide_false,yk,if_false,decide_true,if_true];rw[zds (by omega)];simp only[yb];obtain⟨n,A⟩:=zft q.zx;by_cases cb:(z2l q.zx).2=0;·simp only[cb,decide_true,z0k,yb,if_true];exact(zfv j (by omega) n a).ask
    ·simp only[cb,decide_false,z05,yb,if_false];exact⟨a,rfl⟩
   ·have b:r.toH.z4q=2:=by rw[h,w];rfl
    have g:¬(2:Int)=0:=by decide
    simp only[b,w,g,decide_false,yk,if_false,decide_true,if_true];by_cases cb:q.zx=[];·simp only[cb,decide_true,z0k,yb,if_true];exact(zfv j v x a).ask
    ·simp only[cb,decide_false,z05,yb,if_false];exact⟨a,rfl⟩
   ·have b:r.toH.z4q=3:=by rw[h,w];rfl
    have g:¬(3:Int)=0:=by decide
    have o:¬(3:Int)=1:=by decide
    have k:¬(3:Int)=2:=by decide
    have C:¬(3:Int)=4:=by decide
    simp only[b,w,g,o,k,C,decide_false,yk,if_false,decide_true,if_true];exact zol hf a
   ·have b:r.toH.z4q=4:=by rw[h,w];rfl
    have g:¬(4:Int)=0:=by decide
    have o:¬(4:Int)=1:=by decide
    have k:¬(4:Int)=2:=by decide
    simp only[b,w,g,o,k,decide_false,yk,if_false,decide_true,if_true];rfl
  ·rw[if_neg c];simp only[c,decide_false,z05,yb];exact⟨a,rfl⟩
theorem zz0b7{L:List Rw}(y:∀r∈L,zfl r)(hl:L.length<1000){q:q03}(s:fit q){f:Nat}(hf:34≤f):∀(n i:Nat)(e:Int),L.length-i=n→i≤L.length→¬e=0→∃z,M.z3v (L.map Rw.toH) q f e (i:Int)=some z∧((∃a,zv1 q (L.drop i) e=(a,0)∧z=.done (a,0))∨∃e',¬e'=0∧zv1 q (L.drop i) e=(zA,e')∧z=.go e'):=by
 intro n;induction n with|zero=>
  intro i e hn A h;have:¬(i:Int)<((L.map Rw.toH).length:Int):=by rw[yay];omega
  rw[M.z3v.eq_1,yad (by omega)];simp only[this,decide_false,yk,if_false];exact⟨_,rfl,.inr ⟨e,h,rfl,rfl⟩⟩|succ n j=>
  intro i e hn A h;have d:i<L.length:=by omega
  have w:(i:Int)<((L.map Rw.toH).length:Int):=by rw[yay];omega
  have t:=y _ (yao d);rw[M.z3v.eq_1,yab d,zv1];simp only[w,decide_true,if_true,z3f,yan,yal d,yd,ya,yb];rw[w1 (by omega)];have b:=zfu t (p:=q.z00) s.2.1 (A0 0 [] []);cases g:zdk L[i].sg q.z00 [] []with|none=>have k:zdk L[i].sg q.z00 (A0 0 [] []).gOf (A0 0 [] []).zj=none:=g;rw[k]at b;obtain⟨x,b⟩:=b;unfold A0 at b;rw[b];simp only[yb,ym,if_true];exact j (i+1) e (by omega) (by omega) h|some on=>
   have k:zdk L[i].sg q.z00 (A0 0 [] []).gOf (A0 0 [] []).zj=some on:=g;rw[k]at b;have b:M.q2f L[i].toH q.z00 (A0 0 [] [])=some (true,_):=b;unfold A0 at b;rw[b];simp only[yb,yn,yk,if_false];have v:L[i].toH.z9y=L[i].me:=rfl;rw[v];by_cases m:L[i].me=q.zt;·simp only[m,decide_true,yn,yk,if_false,if_true];have c:=zr5 t s hf g;cases o:askR L[i] q on.1 on.2 with|some a=>rw[o]at c;have c:M.q2e f L[i].toH q=some (a,0):=c;grind|none=>
     rw[o]at c;obtain⟨a,c⟩:=c;rw[c];have u:¬(227:Int)=0:=by decide
     simp only[yb,u,decide_false,yk,if_false];exact j (i+1) 227 (by omega) (by omega) u
   ·simp only[m,decide_false,ym,if_true,if_false];by_cases l:e=225;·simp only[l,decide_true,if_true];exact j (i+1) 226 (by omega) (by omega) (by decide)
    ·simp only[l,decide_false,yk,if_false];exact j (i+1) e (by omega) (by omega) h
theorem zi8{q:q03}(g:fit q){f:Nat}(hf:34≤f):M.q0r f q=some (zt4 q):=by
 unfold M.q0r zt4;rw[zfx];simp only[ya,yb];obtain⟨z,b,d⟩:=zz0b7 (L:=tab) (fun r h=>zfh h) (by decide) g hf _ 0 225 rfl (ybx _) (by decide);have b:M.z3v (tab.map Rw.toH) q f 225 0=some z:=b;rw[yag]at d;rw[b];rcases d with⟨a,c,rfl⟩|⟨e,_,c,rfl⟩;·grind
 ·rw[c];rfl
theorem zkx(l:List q05)(h:(form l).2=0):form l=(z4s l,0)∧(z4s l).length≤8192:=by
 unfold form at h⊢;split at h;·simp at h
 ·split at h;·simp at h
  ·rename_i a h2;rw[if_neg a,if_neg h2];exact⟨rfl,by omega⟩
theorem ze7{q:q03}(h:fit q):M.q0u q=some (zbc q):=by
 obtain⟨f1,f2,L,N,O,f6,E,f8⟩:=h;unfold M.q0u;rw[zdr N O];simp only[ya,yb,zcj];have W:=zme (l:=q.zp) (by omega) E;rw[W];have cond:∀t:Option (Z×Int),((if(!decide ((form q.z0d).2=0))=true then some true else some !z8q q.zt).bind fun y=>(if(y||decide ((q.z00.length:Int)=0)||decide (64<(q.z00.length:Int)))=true then some true else(some (za1 q.zp)).bind fun p=>some !p).bind fun z=>if(z||decide ((q.zp.length:Int)=32)&&!decide (q.zx=([]:Z))||decide (16384<(q.zx.length:Int)))=true then some (([]:Z),(224:Int))else t)=if(!zn0 q)=true then some ([],224)else t:=by
  intro t;have s:decide ((q.z00.length:Int)=0)=!decide (1≤q.z00.length):=by
   by_cases c:1≤q.z00.length
   ·have:¬(q.z00.length:Int)=0:=by omega
    rw[decide_eq_false this,decide_eq_true c];rfl
   ·have:(q.z00.length:Int)=0:=by omega
    rw[decide_eq_true this,decide_eq_false c];rfl
  have I:decide (64<(q.z00.length:Int))=!decide (q.z00.length≤64):=by
   by_cases c:q.z00.length≤64
   ·have:¬64<(q.z00.length:Int):=by omega
    simp[c,this]
   ·have:64<(q.z00.length:Int):=by omega
    simp[c,this]
  have J:decide ((q.zp.length:Int)=32)=decide (q.zp.length=32):=decide_eq_decide.2 (by omega);have K:decide (16384<(q.zx.length:Int))=!decide (q.zx.length≤16384):=by
   by_cases c:q.zx.length≤16384
   ·have:¬16384<(q.zx.length:Int):=by omega
    simp[c,this]
   ·have:16384<(q.zx.length:Int):=by omega
    simp[c,this]
  unfold zn0;rw[s,I,J,K];cases decide ((form q.z0d).2=0)<;>cases z8q q.zt<;>cases decide (1≤q.z00.length)<;>cases decide (q.z00.length≤64)<;>cases za1 q.zp<;>cases decide (q.zp.length=32)<;>cases decide (q.zx=([]:Z))<;>cases decide (q.zx.length≤16384)<;>rfl
 rw[cond];unfold zbc;cases X:zn0 q with|false=>rfl|true=>
  simp only[yn,yk,if_false,if_true];have e:=X;unfold zn0 at e;simp only[ye,decide_eq_true_eq]at e;obtain⟨⟨⟨⟨⟨⟨k1,G⟩,k3⟩,H⟩,o⟩,k6⟩,k7⟩:=e;obtain⟨P,g2⟩:=zkx _ k1;have Y:q.zt.length≤8:=by unfold z8q at G;simp at G;omega
  have d:q.zp.length≤32:=by
   unfold za1 at o;split at o;·simp at o;omega
   ·cases o
  rw[z34 (by simp;omega)];simp only[yb];have D:=z1p (a:=[]) (b:=q.zt++[32]) (by simp;omega);have D:M.q7d [] (q.zt++[32])=_:=D;rw[D];simp only[yb,ya5];have A:=zz04e H L _ 0 (q.zt++[32]) rfl (ybx _) (by simp;omega);rw[yag]at A;have p1a:M.z47 q 0 (unb (q.zt++[32]))=_:=A.1;rw[p1a];simp only[yb,P];have R:(z94 q.z00).length≤26100000000:=by have:=A.2;simp only[yau]at this;have:q.z00.length*400000000≤64*400000000:=ybq _ H;omega
  have hq:(if(!decide (z4s q.z0d=([]:Z)))=true then(cat [63] (z4s q.z0d)).bind fun C=>(M.q7d (unb (q.zt++[32]++z94 q.z00)) C).bind fun r=>some r.2 else some (unb (q.zt++[32]++z94 q.z00)))=some (unb (q.zt++[32]++z94 q.z00++if z4s q.z0d=[]then[]else 63::z4s q.z0d)):=by
   by_cases c:z4s q.z0d=[];·simp[c]
   ·have s:cat [63] (z4s q.z0d)=some (63::z4s q.z0d):=z34 (a:=[63]) (by simp;omega);rw[if_pos (by simp[c]),s,if_neg c];simp only[yb];rw[z1p (by simp;omega)];rfl
  rw[hq];simp only[yb];have S:(if z4s q.z0d=[]then([]:Z)else 63::z4s q.z0d).length≤8193:=by
   split;·simp
   ·simp;omega
  obtain⟨u,w⟩:∃u,q.zt++[32]++z94 q.z00++(if z4s q.z0d=[]then[]else 63::z4s q.z0d)=u:=⟨_,rfl⟩;have a0:u.length≤26200000000:=by rw[←w];simp only[yau,ya0];omega
  rw[w,z1p (by simp;omega)];simp only[yb];have B:=zz04f d E _ 0 (u++[32,72,84,84,80,47,49,46,49,13,10]) rfl (ybx _) (by simp;omega);rw[yag]at B;have p2a:M.z48 q 0 (unb (u++[32,72,84,84,80,47,49,46,49,13,10]))=_:=B.1;rw[p2a];simp only[yb];obtain⟨v,x⟩:∃v,u++[32,72,84,84,80,47,49,46,49,13,10]++zgo q.zp=v:=⟨_,rfl⟩;have a1:v.length≤73000000000:=by have Q:=B.2;rw[x]at Q;have:q.zp.length*400000000≤32*400000000:=ybq _ d;omega
  rw[x];have V:=z6q (n:=q.zx.length) (k:=5) (by omega) (by decide);have U:(if(!decide (q.zx=([]:Z)))=true then(M.itoa (q.zx.length:Int)).bind fun f=>(cat B17 f).bind fun j=>(cat j [13,10]).bind fun m=>(M.q7d (unb v) m).bind fun g=>some g.2 else some (unb v))=some (unb (v++if q.zx=[]then[]else clS q.zx.length)):=by
   by_cases c:q.zx=[];·simp[c]
   ·rw[if_pos (by simp[c]),if_neg c,zz05h (by omega)];simp only[yb];rw[z34 (by simp;omega)];simp only[yb];rw[z34 (by simp;omega)];simp only[yb];rw[z1p (by simp;omega)];rfl
  rw[U];simp only[yb];have T:(if q.zx=[]then([]:Z)else clS q.zx.length).length≤100:=by
   split;·simp
   ·unfold clS;simp;omega
  rw[z1p (by simp;omega)];simp only[yb];have hr:v++(if q.zx=[]then[]else clS q.zx.length)++[13,10]=z7p q:=by rw[←x,←w];rfl
  rw[hr];have i:M.q7b (unb (z7p q))=some ((z7p q).length:Int):=by unfold M.q7b;simp[zl]
  rw[i];simp only[yb];by_cases F:8192<(z7p q).length
  ·have:(8192:Int)<((z7p q).length:Int):=by omega
   simp[F,this]
  ·have:¬(8192:Int)<((z7p q).length:Int):=by omega
   simp only[this,F,decide_false,yk,if_false,z2p,yb];rw[z34 (by omega)];rfl
theorem Le.of{α:Type}{c:Prop}[Decidable c]{a:α}{b:Option α}(h:c→b=some a):Le (if c then some a else Option.none) b:=by
 split;·rename_i k;rw[h k];exact Le.refl _
 ·exact Le.none _
def fitB(q:q03):Bool:=decide (q.zt.length<100000000)&&decide (q.z00.length<100000000)&&q.z00.all (fun p=>decide (p.length<100000000))&&decide (q.z0d.length<100000000)&&q.z0d.all (fun p=>decide (p.zj.length<100000000)&&decide (p.z1y.length<100000000))&&decide (q.zp.length<100000000)&&q.zp.all (fun p=>decide (p.zj.length<100000000)&&decide (p.z1y.length<100000000))&&decide (q.zx.length<100000000)
theorem zy9{q:q03}(h:fitB q=true):fit q:=by unfold fitB at h;simp only[ye,decide_eq_true_eq,ys]at h;obtain⟨⟨⟨⟨⟨⟨⟨a,h2⟩,b⟩,c⟩,d⟩,e⟩,f⟩,g⟩:=h;exact⟨a,h2,b,c,d,e,f,g⟩
def MF.q0s(_:Nat)(s:Z):Option (q03×Int×Int):=if s.length<1000000000 then some ((zir s).1,(((zir s).2.1:Nat):Int),(zir s).2.2)else none
theorem MF.q0s.le(n:Nat)(s:Z):Le (MF.q0s n s) (M.q0s s):=Le.of fun h=>zmd h
def MF.q0r(_ f:Nat)(q:q03):Option (q00×Int):=if fitB q=true∧34≤f then some (zt4 q)else none
theorem MF.q0r.le(n f:Nat)(q:q03):Le (MF.q0r n f q) (M.q0r f q):=Le.of fun h=>zi8 (zy9 h.1) h.2
def MF.q0u(_:Nat)(q:q03):Option (Z×Int):=if fitB q=true then some (zbc q)else none
theorem MF.q0u.le(n:Nat)(q:q03):Le (MF.q0u n q) (M.q0u q):=Le.of fun h=>ze7 (zy9 h)
def MF.q3g(_ f:Nat)(v:J):Option (Z×Int):=if 17≤f∧v.sz<1000000000 then some (print v)else none
theorem MF.q3g.le(n f:Nat)(v:J):Le (MF.q3g n f v) (M.q3g f v):=Le.of fun h=>zec h.1 h.2
def MF.q3f(_ f:Nat)(s:Z):Option (J×Int):=if 34≤f then some (parse s)else none
theorem MF.q3f.le(n f:Nat)(s:Z):Le (MF.q3f n f s) (M.q3f f s):=Le.of fun h=>zeb s h
section
def zeu(a:q00)(l:List Z):List Z:=l.map fun w=>if w=zqh then a.gOf else if w=zqg then a.zj else w
def idpP:q05:=⟨z45,[105,100,112]⟩
def znj(b:Bool)(s k v:Z):List q05:=if b=true∧¬s=[]then[⟨k,v⟩]else[]
def zvl(m:Nat)(a:q00):List q05:=[idpP]++znj (m.testBit 0) a.zk z2r (zk1++[61]++a.zk)++znj (m.testBit 1) a.z0l z6n (z7o++a.z0l)++znj (m.testBit 2) a.z5r kIf ([34]++a.z5r++[34])
def z9k(n:Int):Z:=if n=0 then[]else Lib.itoa n
def zn9(nt:Int→Z)(a:q00):Pt→Z|.fx _ v=>v|.st _ t w=>if w=true then b64E (getS a t.1)else getS a t.1|.cn _ c=>nt (zjx a c)
def z5p(nt:Int→Z)(a:q00):List Pt→List q05|[]=>[]|p::l=>if zn9 nt a p=[]then z5p nt a l else⟨p.nm,zn9 nt a p⟩::z5p nt a l
def objV(a:q00):J:=obj [(kId,jT a.zj),(z2s,jFs a.z02)]
def zdn(nt:Int→Z)(r:Rw)(a:q00):Int×List q05×Z:=match r.wh with|1=>((form (z5p nt a r.ps)).2,[],(form (z5p nt a r.ps)).1)|2=>(0,z5p nt a r.ps,[])|3=>((print (objV a)).2,[],(print (objV a)).1)|4=>(0,[],a.z1e)|_=>(0,[],[])
def zdc(nt:Int→Z)(r:Rw)(a:q00):q03×Int:=(⟨r.me,zeu a r.sg,(zdn nt r a).2.1,zvl r.mr a,(zdn nt r a).2.2⟩,(zdn nt r a).1)
def z9z(nt:Int→Z)(r:Rw)(a:q00):Prop:=(zdc nt r a).2=0∧(zbc (zdc nt r a).1).2=0∧zt4 (zdc nt r a).1=(a,0)
open Classical in
noncomputable def z8u(nt:Int→Z)(a:q00):q03×Int:=match tab.find? fun r=>decide (r.kd=a.zf)with|none=>(zH,224)|some r=>if z9z nt r a then((zdc nt r a).1,0)else(zH,224)
def q00.sz(a:q00):Nat:=a.gOf.length+a.z3j.length+a.z3h.length+a.zk.length+a.z29.length+a.z0l.length+a.z1n.length+a.z08.length+a.z0o.length+a.z03.length+a.z0b.length+a.z01.length+a.zq.length+a.z04.length+a.z0t.length+a.zj.length+a.z3u.length+a.zx.length+a.z8d.length+a.z5r.length+a.z0n.length+a.z1e.length+zgl a.z02
structure zaj(a:q00):Prop where
 sz:a.sz≤8388608
 fr:I64 a.z2t
 ct:I64 a.z11
theorem zm9{t:Nat×Nat×Z}(h:t∈z8n){a:q00}(b:zaj a):(getS a t.1).length≤8388608:=by have c:=b.sz;unfold q00.sz at c;exact z5i (P:=fun t=>(getS a t.1).length≤8388608) h (show a.z3j.length≤_ by omega) (show a.z3h.length≤_ by omega) (show a.z29.length≤_ by omega) (show a.z0l.length≤_ by omega) (show a.z1n.length≤_ by omega) (show a.z08.length≤_ by omega) (show a.z0o.length≤_ by omega) (show a.z03.length≤_ by omega) (show a.z0b.length≤_ by omega) (show a.z01.length≤_ by omega) (show a.zq.length≤_ by omega) (show a.z04.length≤_ by omega) (show a.z0t.length≤_ by omega) (show a.zj.length≤_ by omega) (show a.z3u.length≤_ by omega) (show a.zx.length≤_ by omega) (show a.z8d.length≤_ by omega) (show a.z0n.length≤_ by omega)
theorem zyf{t:Nat×Nat×Z}(h:t∈z8n)(a:q00):a.zkb t.1=some (getS a t.1):=z5i (P:=fun t=>a.zkb t.1=some (getS a t.1)) h rfl rfl rfl rfl rfl rfl rfl rfl rfl rfl rfl rfl rfl rfl rfl rfl rfl rfl
theorem zz02i(s:Z):(b64E s).length≤2*s.length:=by unfold b64E;rw[zdv];omega
theorem zz0bt{a:q00}(h:zaj a)(c:Bool):I64 (zjx a c):=by
 cases c;·exact h.fr
 ·exact h.ct
theorem zyy{n:Int}(h:I64 n):(Lib.itoa n).length≤20:=by
 unfold I64 at h;unfold Lib.itoa;split;·have:=z6q (n:=n.natAbs) (k:=19) (by omega) (by decide);simp only[yav];omega
 ·have:=z6q (n:=n.toNat) (k:=19) (by omega) (by decide);omega
theorem zmq{n:Int}(h:I64 n):(z9k n).length≤20:=by
 unfold z9k;split;·simp
 ·exact zyy h
theorem zz0cw{b:List Z}(a:q00)(hl:b.length<1000000):∀(n i:Nat)(acc:List Z),b.length-i=n→i≤b.length→acc.length≤i→M.zu b a (i:Int) acc=some (acc++zeu a (b.drop i)):=by
 have f:([79,70]:Z)=zqh:=rfl;have g:(B52:Z)=zqg:=rfl
 intro n;induction n with|zero=>
  intro i acc hn l k;have:¬(i:Int)<(b.length:Int):=by omega
  rw[M.zu.eq_1,yad (by omega)];simp[this,zeu]|succ n m=>
  intro i acc hn l k;have c:i<b.length:=by omega
  have j:(i:Int)<(b.length:Int):=by omega
  rw[M.zu.eq_1,yab c,f,g];simp only[j,decide_true,if_true,z3f,yal c,ya,yb];have e:(if decide (b[i]=zqh)=true then some a.gOf else if decide (b[i]=zqg)=true then some a.zj else some b[i])=some (if b[i]=zqh then a.gOf else if b[i]=zqg then a.zj else b[i]):=by
   by_cases c1:b[i]=zqh;·simp[c1]
   ·have q:¬zqg=zqh:=fun h=>zz011 h.symm;by_cases d:b[i]=zqg;·simp[d,q]
    ·simp[c1,d]
  rw[e];simp only[yb];rw[z0h (by simp;omega),w1 (by omega)];simp only[yb];rw[m (i+1) _ (by omega) (by omega) (by simp;omega),yt];rfl
theorem zc2(nt:Int→Z)(a:q00):∀l:List Pt,(z5p nt a l).length≤l.length|[]=>ybl _|p::l=>by rw[z5p];have:=zc2 nt a l;split<;>simp<;>omega
theorem zz05a{nt:Int→Z}{a:q00}(c:zaj a)(b:∀n,I64 n→(nt n).length≤20){p:Pt}(d:p.okB=true)(e:∀n v,p=.fx n v→v.length<1000):(zn9 nt a p).length≤20000000:=by
 unfold zn9;split;·rename_i n v;have:=e n v rfl;omega
 ·have:=zm9 (zlg d) c;split;·exact ybm (zz02i _) (by omega)
  ·omega
 ·exact ybm (b _ (zz0bt c _)) (by omega)
def Pt.zpw:Pt→Bool|.fx n v=>decide (n.length<1000)&&decide (v.length<1000)|.st n _ _=>decide (n.length<1000)|.cn n _=>decide (n.length<1000)
theorem zz01f:(tab.all fun r=>r.ps.all Pt.zpw&&decide (r.me.length<1000)&&r.sg.all fun s=>decide (s.length<1000))=true:=by decide+kernel
structure RwSh(r:Rw):Prop where
 ps:∀p∈r.ps,p.zpw=true
 me:r.me.length<1000
 sg:∀s∈r.sg,s.length<1000
theorem zz01e{r:Rw}(h:r∈tab):RwSh r:=by have:=ys.1 zz01f r h;simp only[ye,decide_eq_true_eq,ys]at this;exact⟨this.1.1,this.1.2,this.2⟩
theorem zc1{nt:Int→Z}{a:q00}(f:zaj a)(c:∀n,I64 n→(nt n).length≤20):∀l:List Pt,(∀p∈l,p.okB=true)→(∀p∈l,p.zpw=true)→zf2 (z5p nt a l)
 |[],_,_=>fun p b=>by cases b|x::l,d,h2=>by
  have g:=zc1 f c l (fun p b=>d p (by simp[b])) fun p b=>h2 p (by simp[b]);have s:=h2 x (by simp);have o:=d x (by simp);rw[z5p];split;·exact g
  ·intro p b;rcases List.mem_cons.1 b with rfl|b
   ·have h:=zz05a f c o fun n v e=>by subst e;unfold Pt.zpw at s;simp only[ye,decide_eq_true_eq]at s;exact s.2
    refine⟨?_,by simp only;omega⟩;have:x.nm.length<1000:=by
     unfold Pt.zpw at s;cases x<;>simp only[ye,decide_eq_true_eq]at s;·exact s.1
     ·exact s
     ·exact s
    simp only;omega
   ·exact g p b
theorem zz0cx{r:Rw}(F:zfl r){a:q00}(C:zaj a):∀(n i:Nat)(acc:List q05),r.ps.length-i=n→i≤r.ps.length→acc.length≤i→M.zo r.toH a acc (i:Int)=some (acc++z5p z9k a (r.ps.drop i)):=by
 have O:=F.psl;have q:r.toH.z7j.length=r.ps.length:=yay ..
 intro n;induction n with|zero=>
  intro i acc hn u _;have:¬(i:Int)<(r.toH.z7j.length:Int):=by rw[q];omega
  rw[M.zo.eq_1,yad (by omega)];simp[this,z5p]|succ n G=>
  intro i acc hn u K;have e:i<r.ps.length:=by omega
  have J:(i:Int)<(r.toH.z7j.length:Int):=by rw[q];omega
  have Q:ix r.toH.z7j (i:Int)=some (Pt.toH r.ps[i]):=by rw[z3f];show(r.ps.map Pt.toH)[i]?=_;rw[yan,yal e];rfl
  have d:=F.ps _ (yao e);have key:((M.q2w (Pt.toH r.ps[i]) a).bind fun b=>if b=24 then if decide (a.z2t=0)=true then some []else(M.itoa a.z2t).bind fun h=>some h else if b=25 then if decide (a.z11=0)=true then some []else(M.itoa a.z11).bind fun j=>some j else if b=1000000 then if(Pt.toH r.ps[i]).zmb=true then(M.q0q (Pt.toH r.ps[i]).z6r a).bind fun k=>(q00.zkb a k).bind fun z=>(M.q0h z).bind fun l=>some l else if(!ybj (Pt.toH r.ps[i]).z6r NF)=true then(M.q0q (Pt.toH r.ps[i]).z6r a).bind fun m=>(q00.zkb a m).bind fun A=>some A else some (Pt.toH r.ps[i]).zci else none)=some (zn9 z9k a r.ps[i]):=by obtain⟨p,N⟩:∃p,r.ps[i]=p:=⟨_,rfl⟩;rw[N]at d⊢;cases p with
   |fx nm v=>
    have P:¬v=[78]:=by unfold Pt.okB at d;simpa using d
    have o:M.q2w (Pt.toH (.fx nm v)) a=some 1000000:=by unfold M.q2w Pt.toH;simp[P]
    have f:ybj (Pt.toH (.fx nm v)).z6r NF=true:=show ybj NF NF=true by decide
    have B:(Pt.toH (.fx nm v)).zmb=false:=rfl;have D:(Pt.toH (.fx nm v)).zci=v:=rfl;rw[o];simp[f,B,D,zn9]|st nm t w=>
    have y:=zlg d;have o:M.q2w (Pt.toH (.st nm t w)) a=some 1000000:=by unfold M.q2w Pt.toH;simp
    have f:ybj (Pt.toH (.st nm t w)).z6r NF=false:=zz05t y;have hd:M.q0q (Pt.toH (.st nm t w)).z6r a=some t.1:=zyc y a;have B:(Pt.toH (.st nm t w)).zmb=w:=rfl;have R:=zm9 y C;rw[o];cases w with|false=>simp[f,B,hd,zyf y,zn9]|true=>have L:=zhf (s:=getS a t.1) (by omega);simp[B,hd,zyf y,L,zn9]
   |cn nm c=>
    have x:(nm=B67)=(c=true):=of_decide_eq_true d;have o:M.q2w (Pt.toH (.cn nm c)) a=some (if c=true then 25 else 24):=by unfold M.q2w;have H:(Pt.toH (.cn nm c)).zci=[78]:=rfl;have I:(Pt.toH (.cn nm c)).zf9=nm:=rfl;simp only[H,I,x,decide_true,yn,yk,if_false];cases c<;>rfl
    rw[o];cases c with|true=>have u:=zx2 C.ct;by_cases g:a.z11=0<;>simp[g,u,zn9,z9k,zjx]|false=>have u:=zx2 C.fr;by_cases g:a.z2t=0<;>simp[g,u,zn9,z9k,zjx]
  have E:(Pt.toH r.ps[i]).zf9=r.ps[i].nm:=by cases r.ps[i]<;>rfl
  rw[M.zo.eq_1,yab e,z5p];simp only[ya]at key⊢;simp only[J,decide_true,if_true,Q,yb];rw[key,w1 (by omega),E];simp only[yb];by_cases g:zn9 z9k a r.ps[i]=[];·simp only[g,decide_true,yn,yk,if_false,if_true];exact G (i+1) acc (by omega) (by omega) (by omega)
  ·simp only[g,decide_false,ym,if_true,if_false];rw[z0h (by simp;omega)];simp only[yb];rw[G (i+1) _ (by omega) (by omega) (by simp;omega),yt];rfl
theorem zzv{a:q00}(b:zaj a):(objV a).sz≤30000000:=by have c:=b.sz;unfold q00.sz at c;unfold objV;have f:=zz0bz a.z02;have e:[(kId,jT a.zj),(z2s,jFs a.z02)]=opt true kId (jT a.zj)++opt true z2s (jFs a.z02):=rfl;rw[zz0ci,e,zz08t];have d:=zz06e true kId (jT a.zj);have h:=zz06e true z2s (jFs a.z02);rw[jT_sz]at d;have k1:kId.length=2:=rfl;have g:z2s.length=6:=rfl;omega
theorem req_1{r:Rw}{b:Bool}{m:Int}{s k v:Z}{q:q03}(a:(!decide (z7s .i64 r.toH.z9e m=0))=b)(c:q.z0d=[])(hl:q.zp.length<1000):M.q2k m s k v r.toH q=some ⟨q.zt,q.z00,[],q.zp++znj b s k v,q.zx⟩:=by unfold M.q2k znj;rw[a];cases b with|false=>simp|true=>
  by_cases h:s=[];·simp[h]
  ·simp only[h,decide_false,ym,yg,if_true,not_false_eq_true,and_self];rw[z0h (by simp;omega)];rfl
theorem z9m(b:Bool)(s k v:Z):(znj b s k v).length≤1:=by unfold znj;split<;>simp
theorem zgp{r:Rw}(d:zfl r)(t:RwSh r){a:q00}(m:zaj a){f:Nat}(hf:17≤f):M.q2j f r.toH a=some (zdc z9k r a):=by
 have E:=m.sz;unfold q00.sz at E;obtain⟨o,p,q⟩:=zu5 ⟨r.mr,d.mkl⟩;simp only at o p q;have o:(!decide (z7s .i64 r.toH.z9e 1=0))=r.mr.testBit 0:=o;have p:(!decide (z7s .i64 r.toH.z9e 2=0))=r.mr.testBit 1:=p;have q:(!decide (z7s .i64 r.toH.z9e 4=0))=r.mr.testBit 2:=q;have B:=d.one;have h2:=d.len;unfold M.q2j;have j:sub r.toH.zgn 1 (r.toH.zgn.length:Int)=some ((zka r.sg).drop 1):=zan (l:=zka r.sg) (a:=1) B;rw[j];simp only[ya,yb];rw[zcv 47 (by rw[yaw];omega),d.cut];simp only[yb];have g:M.zu r.sg a 0 []=some ([]++zeu a (r.sg.drop 0)):=zz0cw a (by have:=d.sgl;omega) _ 0 [] rfl (ybx _) (ybl _);rw[yag,ya5]at g;have i:M.zo r.toH a [] 0=some ([]++z5p z9k a (r.ps.drop 0)):=zz0cx d m _ 0 [] rfl (ybx _) (ybl _);rw[yag,ya5]at i;rw[g,z34 (by simp;omega)];simp only[yb];rw[req_1 o rfl (by simp)];simp only[yb];rw[z34 (by simp;omega)];simp only[yb];have L:=z9m (r.mr.testBit 0) a.zk z2r (zk1++[61]++a.zk);have l2:=z9m (r.mr.testBit 1) a.z0l z6n (z7o++a.z0l);have z:(B39:Z)=z2r:=rfl;have eS:(B37:Z)=zk1++[61]:=rfl;have y:(B16:Z)=z6n:=rfl;have eB:(B36:Z)=z7o:=rfl;have eI:(B34:Z)=kIf:=rfl;have A:q05.mk (B29:Z) ([105,100,112]:Z)=idpP:=rfl;rw[z,eS,y,eB,eI,A];rw[req_1 p rfl (by simp only[yau,ya0];omega)];simp only[yb];rw[z34 (by simp;omega)];simp only[yb];rw[z34 (by simp;omega)];simp only[yb];rw[req_1 q rfl (by simp only[yau,ya0];omega)];simp only[yb];rw[i];simp only[yb];have e:r.toH.z4q=(r.wh:Int):=rfl;unfold zdc zdn zvl;rcases zew d with w|w|w|w|w
 ·have c:r.toH.z4q=0:=by rw[e,w];rfl
  simp only[c,w];rfl
 ·have c:r.toH.z4q=1:=by rw[e,w];rfl
  have C:=zc2 z9k a r.ps;have s:=zc1 (nt:=z9k) m (fun n h=>zmq h) r.ps d.ps t.ps;have D:=d.psl;rw[zdr (by omega) s];simp only[c,w];rfl
 ·have c:r.toH.z4q=2:=by rw[e,w];rfl
  simp only[c,w];rfl
 ·have c:r.toH.z4q=3:=by rw[e,w];rfl
  have K:=zzv m;have I:=put_eq (l:=[]) (b:=true) (k:=kId) (v:=jT a.zj) (by simp);have J:=put_eq (l:=opt true kId (jT a.zj)) (b:=true) (k:=z2s) (v:=jFs a.z02) (by have:=zz092 true kId (jT a.zj);omega);have u:([105,100]:Z)=kId:=rfl;have x:(B25:Z)=z2s:=rfl;have ho:obj (opt true kId (jT a.zj)++opt true z2s (jFs a.z02))=objV a:=rfl;have G:¬(3:Int)=2:=by decide
  have F:¬(3:Int)=1:=by decide
  have H:¬(3:Int)=4:=by decide
  simp only[c,w,F,G,H,decide_true,decide_false,yk,if_true,if_false,objects_eq,text_jT,u,x,yb];rw[I];simp only[yb,ya5];rw[zvw (by omega)];simp only[yb];rw[J];simp only[yb,ho];rw[zec hf (zsz (by omega))];rfl
 ·have c:r.toH.z4q=4:=by rw[e,w];rfl
  simp only[c,w];rfl
theorem zyp{a:q00}(d:zaj a)(m:Nat):zf2 (zvl m a)∧(zvl m a).length≤4:=by
 have e:=d.sz;unfold q00.sz at e;have add_fit:∀(b:Bool)(s k v:Z),k.length<1000→v.length<100000000→zf2 (znj b s k v):=fun b s k v h h2 p c=>by
  unfold znj at c;split at c;·rw[ya4]at c;subst c;exact⟨by simp only;omega,by simp only;omega⟩
  ·cases c
 unfold zvl;refine⟨fun p c=>?_,?_⟩
 ·rcases ya2.1 c with c|c
  ·rcases ya2.1 c with c|c
   ·rcases ya2.1 c with c|c;·rw[ya4]at c;subst c;decide
    ·exact add_fit _ _ _ _ (by decide) (by simp[zk1];omega) p c
   ·exact add_fit _ _ _ _ (by decide) (by simp[z7o];omega) p c
  ·exact add_fit _ _ _ _ (by decide) (by simp;omega) p c
 ·have f:=z9m (m.testBit 0) a.zk z2r (zk1++[61]++a.zk);have l2:=z9m (m.testBit 1) a.z0l z6n (z7o++a.z0l);have g:=z9m (m.testBit 2) a.z5r kIf ([34]++a.z5r++[34]);simp only[yau,ya0]at f l2 g⊢;omega
theorem zm3:zf2 []:=fun p a=>by cases a
theorem zz038(l:List q05):(form l).1.length≤8192:=by
 unfold form;split;·simp
 ·split;·simp
  ·simp only;omega
theorem zn1{nt:Int→Z}{r:Rw}(i:zfl r)(b:RwSh r){a:q00}(d:zaj a)(g:∀n,I64 n→(nt n).length≤20):fit (zdc nt r a).1:=by
 have o:=d.sz;unfold q00.sz at o;have k:=b.me;have q:=i.sgl;have l:=zc2 nt a r.ps;have m:=i.psl;have h:=zc1 d g r.ps i.ps b.ps;obtain⟨f,j⟩:=zyp d r.mr;have e:(zdn nt r a).2.1.length<100000000∧zf2 (zdn nt r a).2.1∧(zdn nt r a).2.2.length<100000000:=by
  unfold zdn;split;·have:=zz038 (z5p nt a r.ps);exact⟨by simp,zm3,by simp only;omega⟩
  ·exact⟨by simp only;omega,h,by simp⟩
  ·have:=zz00a (objV a);exact⟨by simp,zm3,by simp only;omega⟩
  ·exact⟨by simp,zm3,by simp only;omega⟩
  ·exact⟨by simp,zm3,by simp⟩
 refine⟨?_,?_,?_,e.1,e.2.1,?_,f,e.2.2⟩;·show r.me.length<_;omega
 ·show(zeu a r.sg).length<_;unfold zeu;rw[yay];omega
 ·intro p c;have c:p∈zeu a r.sg:=c;unfold zeu at c;obtain⟨w,s,rfl⟩:=List.mem_map.1 c;have:=b.sg w s;split;·omega
  ·split<;>omega
 ·show(zvl r.mr a).length<_;omega
end
theorem znm(n:Nat):∀(k i:Nat),i<k→(z69 k n)[i]?=some (n.testBit (k-1-i))|0,i,h=>by omega|k+1,0,_=>by simp[z69]|k+1,i+1,h=>by rw[z69,List.getElem?_cons_succ,znm n k i (by omega)];congr 2;omega
theorem znl:∀(s:Z)(i:Nat)(h:i/8<s.length),(z4n s)[i]?=some (s[i/8].toNat.testBit (7-i%8))
 |[],i,h=>by simp at h|c::s,i,h=>by
  rw[zbn];by_cases a:i<8
  ·have e:i/8=0:=by omega
   rw[yaj (by rw[z2k];omega),znm _ _ _ a];simp only[e,List.getElem_cons_zero];congr 2;omega
  ·have e:i/8=(i-8)/8+1:=by omega
   have h2:(i-8)/8<s.length:=by rw[yav]at h;omega
   rw[yak (by rw[z2k];omega),z2k,znl s (i-8) h2];simp only[e,List.getElem_cons_succ];congr 2;omega
theorem zz077:∀(c:UInt8),((List.range 8).all fun k=>decide (z7s .i64 (yb2 .i64 (zez .u8 (c.toNat:Int) (k:Int))) 1=((c.toNat.testBit k).toNat:Int)))=true:=z6f (by decide+kernel)
theorem zw2{s:Z}(f:s.length<100000000){i:Nat}(e:i<1000000000):M.q4j s (i:Int)=some ((((z4n s)[i]?.getD false).toNat:Nat):Int):=by
 unfold M.q4j;have d:yb2 .i64 (8*(s.length:Int))=((8*s.length:Nat):Int):=by rw[w64 (by omega) (by omega)];omega
 rw[d];by_cases h:8*s.length≤i
 ·have a:((8*s.length:Nat):Int)≤(i:Int):=by omega
  rw[yam (by rw[zdm];omega)];simp only[a,decide_true,if_true];rfl
 ·have a:¬((8*s.length:Nat):Int)≤(i:Int):=by omega
  have h2:i/8<s.length:=by omega
  have b:yb2 .i64 (Int.tdiv (i:Int) 8)=((i/8:Nat):Int):=by rw[ybz (by omega),w64 (by omega) (by omega)];omega
  have c:yb2 .i64 (7-Int.tmod (i:Int) 8)=((7-i%8:Nat):Int):=by rw[yb0 (by omega),w64 (by omega) (by omega)];omega
  simp only[a,decide_false,yk,if_false,b,c,z3f,yal h2,ya,yb];rw[z3k (by rw[decide_eq_true_iff];omega),znl s i h2];have:=ys.1 (zz077 s[i/8]) (7-i%8) (ya3.2 (by omega));rw[decide_eq_true_eq]at this;simp only[yb,yc,this]
theorem zz09r{B:List Bool}(k j:Nat)(a:j<6):(zg6 ((B.drop k).take 6))[j]?=some (B[k+j]?.getD false):=by
 unfold zg6;by_cases h:k+j<B.length
 ·have hl:j<((B.drop k).take 6).length:=by rw[ya1,yaw];omega
  rw[yaj hl,List.getElem?_take_of_lt a,List.getElem?_drop,yal h];rfl
 ·have hl:((B.drop k).take 6).length≤j:=by rw[ya1,yaw];omega
  rw[yak hl,yam (show B.length≤k+j by omega),List.getElem?_replicate,if_pos (by rw[ya1,yaw]at hl⊢;omega)];rfl
theorem zuh{l:List Bool}(h:l.length≤6):(zg6 l).length=6:=by unfold zg6;rw[yau,yaz];omega
theorem zz09g{s:Z}(p:s.length<100000000){k:Nat}(t:k<900000000):∀(m j v:Nat),6-j=m→j≤6→v<2^j→M.z4c s (k:Int) (v:Int) (j:Int)=some ((((zg6 (((z4n s).drop k).take 6)).drop j).foldl (fun n b=>2*n+b.toNat) v:Nat):Int):=by
 have o:(zg6 (((z4n s).drop k).take 6)).length=6:=zuh (by rw[ya1];omega)
 intro m;induction m with|zero=>
  intro j v i h q;obtain rfl:j=6:=by omega
  rw[M.z4c.eq_1,yad (by omega)];simp|succ m r=>
  intro j v i h q;have d:j<6:=by omega
  have f:(j:Int)<6:=by omega
  have a:j<(zg6 (((z4n s).drop k).take 6)).length:=by omega
  have c:=zz09r (B:=z4n s) k j d;rw[yal a]at c;injection c with c;have l:2^j≤2^6:=ybr (by decide) (by omega);have g:((z4n s)[k+j]?.getD false).toNat≤1:=Bool.toNat_le _;rw[M.z4c.eq_1,yab a,yai,c];simp only[f,decide_true,if_true];rw[wadd (by omega),zw2 p (by omega)];simp only[ya,yb];have e:yb2 .i64 (yb2 .i64 (2*(v:Int))+((((z4n s)[k+j]?.getD false).toNat:Nat):Int))=((2*v+((z4n s)[k+j]?.getD false).toNat:Nat):Int):=by rw[w64 (x:=2*(v:Int)) (by omega) (by omega),w64 (by omega) (by omega)];omega
  rw[e,w1 (by omega)];exact r (j+1) _ (by omega) (by omega) (by rw[ybs];omega)
theorem zz09f{s:Z}(i:s.length<100000000):∀(m k:Nat)(acc:Z),(8*s.length-k+5)/6=m→k≤8*s.length+5→acc.length≤k→M.z4b s (unb acc) (k:Int)=some (unb (acc++zaf m ((z4n s).drop k))):=by
 intro m;have c:yb2 .i64 (8*(s.length:Int))=((8*s.length:Nat):Int):=by rw[w64 (by omega) (by omega)];omega
 induction m with|zero=>
  intro k acc h g f;have:¬(k:Int)<((8*s.length:Nat):Int):=by omega
  rw[M.z4b.eq_1,c];simp only[this,decide_false,yk,if_false,zaf,yu]|succ m j=>
  intro k acc h g f;have d:(k:Int)<((8*s.length:Nat):Int):=by omega
  have b:(zg6 (((z4n s).drop k).take 6)).length=6:=zuh (by rw[ya1];omega);have a:=zf4 (zg6 (((z4n s).drop k).take 6));rw[b]at a;have h2:=zz09g i (k:=k) (by omega) _ 0 0 rfl (ybx _) (by decide);rw[yag]at h2;have h2:M.z4c s (k:Int) 0 0=some ((bv (zg6 (((z4n s).drop k).take 6)):Nat):Int):=h2;rw[M.z4b.eq_1,c,zei];simp only[d,decide_true,if_true,h2,ya,yb,zr9 a];rw[zdf,z0h (by rw[zl,zl];simp;omega),←z0j];simp only[yb];have e:yb2 .i64 ((k:Int)+6)=((k+6:Nat):Int):=by rw[w64 (by omega) (by omega)];omega
  rw[e,j (k+6) _ (by omega) (by omega) (by simp;omega),yt,zaf,yaa];rfl
theorem zem{s:Z}(a:s.length<100000000):M.q4b s=some (b64E s):=by unfold M.q4b b64E;have h:=zz09f a _ 0 [] rfl (ybx _) (ybl _);have h:M.z4b s [] 0=_:=h;rw[h];simp only[ya,yb,ya5,yag,Nat.sub_zero,z74]
def zz8(c:UInt8):Int→Nat→Z→Int|v,_,[]=>v|v,j,x::r=>zz8 c (if x=c then(j:Int)else v) (j+1) r
theorem zz9:∀c:UInt8,decide (zz8 c (-1) 0 zu4=match unl c with|some n=>(n:Int)|none=>-1)=true:=z6f (by decide+kernel)
theorem zz0cz{s:Z}{i:Nat}{c:UInt8}(g:s[i]?=some c):∀(m j:Nat)(v:Int),64-j=m→j≤64→M.z1r s (i:Int) v (j:Int)=some (zz8 c v j (zu4.drop j)):=by
 have l:zu4.length=64:=rfl
 intro m;induction m with|zero=>
  intro j v n k;obtain rfl:j=64:=by omega
  rw[M.z1r.eq_1,yad (by omega)];simp[zz8]|succ m d=>
  intro j v n k;have a:j<zu4.length:=by omega
  have f:(j:Int)<64:=by omega
  rw[M.z1r.eq_1,zei,yab a];simp only[f,decide_true,if_true,z3f,yal a,g,ya,yb,w1 (show j<4611686018427387904 by omega)];have b:(zu4[j].toNat:Int)=(c.toNat:Int)↔zu4[j]=c:=⟨fun e=>yb4.1 (by omega),fun e=>by rw[e]⟩;rw[zz8];by_cases h:zu4[j]=c;·rw[if_pos (by simpa using b.2 h),if_pos h];exact d (j+1) _ (by omega) (by omega)
  ·rw[if_neg (by simpa using fun q=>h (b.1 q)),if_neg h];exact d (j+1) _ (by omega) (by omega)
def bI(l:List Bool):List Int:=l.map fun b=>((b.toNat:Nat):Int)
theorem zz0bb(a b:List Bool):bI (a++b)=bI a++bI b:=by simp[bI]
theorem zxe(l:List Bool):(bI l).length=l.length:=by simp[bI]
theorem zz02j:∀n:Fin 64,((List.range 6).all fun k=>decide (z7s .i64 (zez .i64 ((n.val:Nat):Int) (k:Int)) 1=((n.val.testBit k).toNat:Int)))=true:=by decide+kernel
theorem zz0d0{n:Nat}(hn:n<64):∀(j:Nat)(acc:List Bool),j≤6→acc.length+j<10000000000→M.z2e (n:Int) (bI acc) ((j:Int)-1)=some (.go (bI (acc++z69 j n))):=by intro j;induction j with|zero=>intro acc _ _;rw[M.z2e.eq_1];simp[z69]|succ j f=>
  intro acc h g;have e:((j+1:Nat):Int)-1=(j:Int):=by omega
  have d:(0:Int)≤(j:Int):=by omega
  have a:=ys.1 (zz02j ⟨n,hn⟩) j (ya3.2 (by omega));rw[decide_eq_true_eq]at a;simp only at a;rw[M.z2e.eq_1,e];simp only[d,decide_true,if_true,z3k rfl,ya,yb,a];rw[z0h (by rw[zxe];simp;omega)];simp only[yb];have b:bI acc++[(((n.testBit j).toNat:Nat):Int)]=bI (acc++[n.testBit j]):=by rw[zz0bb];rfl
  have c:yb2 .i64 ((j:Int)-1)=(j:Int)-1:=w64 (by omega) (by omega);rw[b,c,f _ (by omega) (by simp;omega),yt];rfl
theorem zz0cy{s:Z}(p:s.length<100000000):∀(t:Z)(i:Nat)(acc:List Bool),s.drop i=t→i≤s.length→acc.length≤6*i→M.z2d s (bI acc) (i:Int)=some (match zq8 t with|none=>.done ([],11)|some l=>.go (bI (acc++z6p l))):=by
 intro t;induction t with|nil=>
  intro i acc b h f;have j:s.length≤i:=yac.1 b;have:¬(i:Int)<(s.length:Int):=by omega
  rw[M.z2d.eq_1];simp[this,zq8,z6p]|cons c t o=>
  intro i acc b h f;obtain⟨k,g,hd⟩:=drop_cons b;have e:(i:Int)<(s.length:Int):=by omega
  have h2:=zz0cz g _ 0 (-1) rfl (by decide);rw[yag,of_decide_eq_true (zz9 c)]at h2;have h2:M.z1r s (i:Int) (-1) 0=_:=h2;rw[M.z2d.eq_1];simp only[e,decide_true,if_true,h2,ya,yb];rw[zq9];cases m:unl c with|none=>simp|some n=>
   have hn:=(zn8 m).1;have d:¬(n:Int)<0:=by omega
   have a:=zz0d0 hn 6 acc (ybl _) (by omega);have a:M.z2e (n:Int) (bI acc) 5=_:=a;simp only[d,decide_false,yk,if_false,a,yb];rw[w1 (by omega),o (i+1) _ hd (by omega) (by rw[yau,z2k];omega)];cases zq8 t with|none=>rfl|some l=>simp only[zbm,yt]
theorem zz0d2{B:List Bool}{k:Nat}(t:k+8≤B.length)(hB:B.length<1000000000):∀(m j v:Nat),8-j=m→j≤8→v<2^j→M.z2g (bI B) (k:Int) (v:Int) (j:Int)=some (((((B.drop k).take 8).drop j).foldl (fun n b=>2*n+b.toNat) v:Nat):Int):=by
 have p:((B.drop k).take 8).length=8:=by rw[ya1,yaw];omega
 intro m;induction m with|zero=>
  intro j v l h q;obtain rfl:j=8:=by omega
  rw[M.z2g.eq_1,yad (by omega)];simp|succ m s=>
  intro j v l h q;have i:j<8:=by omega
  have d:(j:Int)<8:=by omega
  have a:j<((B.drop k).take 8).length:=by omega
  have c:k+j<B.length:=by omega
  have g:((B.drop k).take 8)[j]=B[k+j]:=by rw[List.getElem_take,List.getElem_drop]
  have o:2^j≤2^8:=ybr (by decide) (by omega);have f:B[k+j].toNat≤1:=Bool.toNat_le _;have r:ix (bI B) ((k+j:Nat):Int)=some ((B[k+j].toNat:Nat):Int):=by rw[z3f];unfold bI;rw[yan,yal c];rfl
  rw[M.z2g.eq_1,yab a,yai,g];simp only[d,decide_true,if_true,wadd (show k+j<4611686018427387904 by omega),r,ya,yb];have e:yb2 .i64 (yb2 .i64 (2*(v:Int))+((B[k+j].toNat:Nat):Int))=((2*v+B[k+j].toNat:Nat):Int):=by rw[w64 (x:=2*(v:Int)) (by omega) (by omega),w64 (by omega) (by omega)];omega
  rw[e,w1 (by omega)];exact s (j+1) _ (by omega) (by omega) (by rw[ybs];omega)
theorem zz0d1{B:List Bool}(hB:B.length<1000000000):∀(m k:Nat)(acc:Z),(B.length-k)/8=m→k≤B.length→acc.length≤k→M.z2f (bI B) (unb acc) (k:Int)=some (unb (acc++znw m (B.drop k))):=by
 intro m;induction m with|zero=>
  intro k acc f e d;have a:yb2 .i64 ((k:Int)+8)=((k+8:Nat):Int):=by rw[w64 (by omega) (by omega)];omega
  have:¬((k+8:Nat):Int)≤((bI B).length:Int):=by rw[zxe];omega
  rw[M.z2f.eq_1,a];simp only[this,decide_false,yk,if_false,znw,yu]|succ m g=>
  intro k acc f e d;have a:yb2 .i64 ((k:Int)+8)=((k+8:Nat):Int):=by rw[w64 (by omega) (by omega)];omega
  have c:((k+8:Nat):Int)≤((bI B).length:Int):=by rw[zxe];omega
  have h2:=zz0d2 (B:=B) (k:=k) (by omega) hB _ 0 0 rfl (ybx _) (by decide);rw[yag]at h2;have h2:M.z2g (bI B) (k:Int) 0 0=some ((bv ((B.drop k).take 8):Nat):Int):=h2;have b:=zf4 ((B.drop k).take 8);rw[show((B.drop k).take 8).length=8 by rw[ya1,yaw];omega]at b;rw[M.z2f.eq_1,a];simp only[c,decide_true,if_true,h2,ya,yb];rw[zqc b,zdf,z0h (by rw[zl,zl];simp;omega),←z0j];simp only[yb];rw[g (k+8) _ (by omega) (by omega) (by simp;omega),yt,znw,yaa];rfl
theorem zfg{s:Z}(e:s.length<100000000):M.q4d s=some (match b64D s with|some t=>(t,0)|none=>([],11)):=by unfold M.q4d;have h:=zz0cy e s 0 [] rfl (ybx _) (ybl _);have h:M.z2d s [] 0=_:=h;rw[h];unfold b64D;cases d:zq8 s with|none=>rfl|some l=>
  have hl:=(zhn s l d).2;have a:=zz0d1 (B:=z6p l) (by rw[z9a];omega) _ 0 [] rfl (ybx _) (ybl _);rw[Nat.sub_zero,z9a,yag,ya5]at a;have a:M.z2f (bI (z6p l)) [] 0=_:=a;have c:=zz075 d;simp only[ya5,ya,yb,a,z74];rw[zem (by rw[zly];omega)];simp only[yb];by_cases b:zq4 ((z6p l).drop (8*(6*l.length/8)))=true;·simp[b,c.2 b]
  ·have:¬b64E (znw (6*l.length/8) (z6p l))=s:=fun q=>b (c.1 q);simp[b,this]
section
set_option maxRecDepth 1000000
noncomputable section
def MB.z1m(n:Nat)(j:Z→Int→List Z→Int→Int→Option (List Z))(c:Z)(h:Int)(b:List Z)(d:Int)(a:Int):Option (List Z):=do if decide (a≤(c.length:Int))then let f←(do if decide (a=(c.length:Int))then some true;else let e←ix c a;some (decide ((e.toNat:Int)=h)):Option Bool)if f then let i←sub c d a;let g←app 16 b [i]j c h g (yb2 .i64 (a+1)) (yb2 .i64 (a+1))else j c h b d (yb2 .i64 (a+1))else some b
def MF.z1m(n:Nat):=rc MB.z1m (fun _ _ _ _ _=>none) n
theorem MF.z1m.le:∀(n:Nat)(d:Z)(e:Int)(a:List Z)(b:Int)(c:Int),Le (MF.z1m n d e a b c) (M.z1m d e a b c):=by intro n;induction n with|zero=>intros;exact Le.none _|succ n f=>intro d e a b c;show Le (MB.z1m n (MF.z1m n) d e a b c) _;rw[M.z1m];unfold MB.z1m;repeat' first|with_reducible first|apply Le.none|apply Le.refl|apply f|apply Le.jn|apply Le.rs|apply Le.rb|apply Le.bind|apply Le.ite|intro _|dsimp only|split
def MF.q62(n:Nat)(b:Z)(c:Int):Option (List Z):=do let a←(do MF.z1m n b c ([]:List Z) 0 0:Option (List Z))some a
theorem MF.q62.le(n:Nat)(a:Z)(b:Int):Le (MF.q62 n a b) (M.q62 a b):=by unfold MF.q62 M.q62;repeat' first|with_reducible first|apply Le.none|apply Le.refl|apply MF.z1m.le n|apply Le.jn|apply Le.rs|apply Le.rb|apply Le.bind|apply Le.ite|intro _|dsimp only|split
def MB.z1b(n:Nat)(e:Z→Option Z)(a:Z):Option Z:=do let c←(do if !decide (a=[])then let b←ix a 0;some (decide ((b.toNat:Int)=32))else some false:Option Bool)if c then let d←sub a 1 (a.length:Int)e d;else some a
def MF.z1b(n:Nat):=rc MB.z1b (fun _=>none) n
theorem MF.z1b.le:∀(n:Nat)(a:Z),Le (MF.z1b n a) (M.z1b a):=by intro n;induction n with|zero=>intros;exact Le.none _|succ n b=>intro a;show Le (MB.z1b n (MF.z1b n) a) _;rw[M.z1b];unfold MB.z1b;repeat' first|with_reducible first|apply Le.none|apply Le.refl|apply b|apply Le.jn|apply Le.rs|apply Le.rb|apply Le.bind|apply Le.ite|intro _|dsimp only|split
def MB.z1c(n:Nat)(e:Z→Option Z)(a:Z):Option Z:=do let c←(do if !decide (a=[])then let b←ix a (yb2 .i64 ((a.length:Int)-1))some (decide ((b.toNat:Int)=32))else some false:Option Bool)if c then let d←sub a 0 (yb2 .i64 ((a.length:Int)-1))e d;else some a
def MF.z1c(n:Nat):=rc MB.z1c (fun _=>none) n
theorem MF.z1c.le:∀(n:Nat)(a:Z),Le (MF.z1c n a) (M.z1c a):=by intro n;induction n with|zero=>intros;exact Le.none _|succ n b=>intro a;show Le (MB.z1c n (MF.z1c n) a) _;rw[M.z1c];unfold MB.z1c;repeat' first|with_reducible first|apply Le.none|apply Le.refl|apply b|apply Le.jn|apply Le.rs|apply Le.rb|apply Le.bind|apply Le.ite|intro _|dsimp only|split
def MF.q5y(n:Nat)(c:Z):Option Z:=do let a←(do MF.z1b n c:Option Z)let b←(do MF.z1c n a:Option Z)some b
theorem MF.q5y.le(n:Nat)(a:Z):Le (MF.q5y n a) (M.q5y a):=by unfold MF.q5y M.q5y;repeat' first|with_reducible first|apply Le.none|apply Le.refl|apply MF.z1b.le n|apply MF.z1c.le n|apply Le.jn|apply Le.rs|apply Le.rb|apply Le.bind|apply Le.ite|intro _|dsimp only|split
def MB.z0q(n:Nat)(g:Z→Int→Int→Option (Jn (Z×Z×Bool) Unit))(b:Z)(f:Int)(a:Int):Option (Jn (Z×Z×Bool) Unit):=do if decide (a<(b.length:Int))then let c←ix b a;if decide ((c.toNat:Int)=f)then let d←sub b 0 a;let e←sub b (yb2 .i64 (a+1)) (b.length:Int)some (.done (d,e,true))else g b f (yb2 .i64 (a+1))else some (.go ())
def MF.z0q(n:Nat):=rc MB.z0q (fun _ _ _=>none) n
theorem MF.z0q.le:∀(n:Nat)(b:Z)(c:Int)(a:Int),Le (MF.z0q n b c a) (M.z0q b c a):=by intro n;induction n with|zero=>intros;exact Le.none _|succ n d=>intro b c a;show Le (MB.z0q n (MF.z0q n) b c a) _;rw[M.z0q];unfold MB.z0q;repeat' first|with_reducible first|apply Le.none|apply Le.refl|apply d|apply Le.jn|apply Le.rs|apply Le.rb|apply Le.bind|apply Le.ite|intro _|dsimp only|split
def MF.q6a(n:Nat)(b:Z)(d:Int):Option (Z×Z×Bool):=do let a←(do MF.z0q n b d 0:Option (Jn (Z×Z×Bool) Unit))match a with|.done r=>some r|.go c=>some (b,[],false)
theorem MF.q6a.le(n:Nat)(a:Z)(b:Int):Le (MF.q6a n a b) (M.q6a a b):=by unfold MF.q6a M.q6a;repeat' first|with_reducible first|apply Le.none|apply Le.refl|apply MF.z0q.le n|apply Le.jn|apply Le.rs|apply Le.rb|apply Le.bind|apply Le.ite|intro _|dsimp only|split
def MB.z19(n:Nat)(m:List Z→List q0f→Int→Option (List q0f))(e:List Z)(c:List q0f)(b:Int):Option (List q0f):=do if decide (b<(e.length:Int))then let i←ix e b;let f←MF.q5y n i;let a←MF.q62 n f 32;if decide ((a.length:Int)=1)then let j←ix a 0;let d←MF.q6a n j 61;let g←app 56 c [q0f.mk d.1 [] d.2.1 false]m e g (yb2 .i64 (b+1))else let k←ix a 0;let l←ix a 1;let h←app 56 c [q0f.mk k l [] (decide ((a.length:Int)=3))]m e h (yb2 .i64 (b+1))else some c
def MF.z19(n:Nat):=rc MB.z19 (fun _ _ _=>none) n
theorem MF.z19.le:∀(n:Nat)(c:List Z)(a:List q0f)(b:Int),Le (MF.z19 n c a b) (M.z19 c a b):=by intro n;induction n with|zero=>intros;exact Le.none _|succ n d=>intro c a b;show Le (MB.z19 n (MF.z19 n) c a b) _;rw[M.z19];unfold MB.z19;repeat' first|with_reducible first|apply Le.none|apply Le.refl|apply d|apply MF.q5y.le n|apply MF.q62.le n|apply MF.q6a.le n|apply Le.jn|apply Le.rs|apply Le.rb|apply Le.bind|apply Le.ite|intro _|dsimp only|split
def MF.q6k(n:Nat)(b:Z):Option (List q0f):=do if decide (b=[])then some ([]:List q0f)else let c←MF.q62 n b 44;let a←(do MF.z19 n c ([]:List q0f) 0:Option (List q0f))some a
theorem MF.q6k.le(n:Nat)(a:Z):Le (MF.q6k n a) (M.q6k a):=by unfold MF.q6k M.q6k;repeat' first|with_reducible first|apply Le.none|apply Le.refl|apply MF.q62.le n|apply MF.z19.le n|apply Le.jn|apply Le.rs|apply Le.rb|apply Le.bind|apply Le.ite|intro _|dsimp only|split
def MB.z2o(n:Nat)(j:Z→Int→q0e→Option q0e)(c:Z)(b:Int)(a:q0e):Option q0e:=do if decide (b<(c.length:Int))then let g←(do if a.zk then some true;else let d←ix c b;some (decide ((d.toNat:Int)=115)):Option Bool)let h←(do if a.z9x then some true;else let e←ix c b;some (decide ((e.toNat:Int)=98)):Option Bool)let i←(do if a.z5r then some true;else let f←ix c b;some (decide ((f.toNat:Int)=116)):Option Bool)j c (yb2 .i64 (b+1)) (q0e.mk a.zf a.zt a.z00 a.z4m g h i a.z68)else some a
def MF.z2o(n:Nat):=rc MB.z2o (fun _ _ _=>none) n
theorem MF.z2o.le:∀(n:Nat)(c:Z)(a:Int)(b:q0e),Le (MF.z2o n c a b) (M.z2o c a b):=by intro n;induction n with|zero=>intros;exact Le.none _|succ n d=>intro c a b;show Le (MB.z2o n (MF.z2o n) c a b) _;rw[M.z2o];unfold MB.z2o;repeat' first|with_reducible first|apply Le.none|apply Le.refl|apply d|apply Le.jn|apply Le.rs|apply Le.rb|apply Le.bind|apply Le.ite|intro _|dsimp only|split
def MF.q6o(n:Nat)(c:Int)(d:Z)(e:Z)(f:Z)(g:Z)(h:Z):Option q0e:=do let b←MF.q6k n h;let a←(do MF.z2o n f 0 (q0e.mk c d e g false false false b):Option q0e)some a
theorem MF.q6o.le(n:Nat)(a:Int)(b:Z)(c:Z)(d:Z)(e:Z)(f:Z):Le (MF.q6o n a b c d e f) (M.q6o a b c d e f):=by unfold MF.q6o M.q6o;repeat' first|with_reducible first|apply Le.none|apply Le.refl|apply MF.q6k.le n|apply MF.z2o.le n|apply Le.jn|apply Le.rs|apply Le.rb|apply Le.bind|apply Le.ite|intro _|dsimp only|split
def MF.q5p(n:Nat):Option (List q0e):=do let v←MF.q6o n 1 B5 B97 [] B9 B55;let w←MF.q6o n 2 B5 B63 [115] B9 B104;let x←MF.q6o n 3 B5 B69 [115] B9 B21;let y←MF.q6o n 4 B5 B64 [115] B9 []let z←MF.q6o n 5 B5 B70 [115] B9 B87;let a←MF.q6o n 6 B5 B72 [115] B9 []let b←MF.q6o n 7 B5 B89 [115] B9 []let c←MF.q6o n 8 B5 B90 [] B9 B101;let d←MF.q6o n 9 B5 B98 [] B9 B48;let e←MF.q6o n 10 [71,69,84] B71 [115] B32 B3;let f←MF.q6o n 11 B5 B33 [] B9 B4;let g←MF.q6o n 12 B5 B33 [] B9 B7;let h←MF.q6o n 13 B5 B33 [] B9 B8;let i←MF.q6o n 14 B5 B33 [] B9 B2;let j←MF.q6o n 15 B5 B91 [] B9 B6;let k←MF.q6o n 16 B5 B61 [] B9 B6;let l←MF.q6o n 17 [71,69,84] B73 [98] [] []let m←MF.q6o n 18 [71,69,84] B107 [] [] []let o←MF.q6o n 19 [71,69,84] B46 [98] B32 B27;let p←MF.q6o n 20 [71,69,84] B19 [98] [] []let q←MF.q6o n 21 B5 B46 [98] B60 []let r←MF.q6o n 22 B105 B19 [98,116] B54 []let s←MF.q6o n 23 B96 B19 [98,116] [] []let t←MF.q6o n 24 B5 B45 [98] B9 B56;let u←MF.q6o n 25 B5 B65 [98] B9 []some [v,w,x,y,z,a,b,c,d,e,f,g,h,i,j,k,l,m,o,p,q,r,s,t,u]
theorem MF.q5p.le(n:Nat):Le (MF.q5p n) M.q5p:=by unfold MF.q5p M.q5p;repeat' first|with_reducible first|apply Le.none|apply Le.refl|apply MF.q6o.le n|apply Le.jn|apply Le.rs|apply Le.rb|apply Le.bind|apply Le.ite|intro _|dsimp only|split
end
end
theorem zjl{s:Z}{i:Nat}(h:i<s.length):s.take (i+1)=s.take i++[s[i]]:=List.take_succ_eq_append_getElem h
theorem no.snoc{c x:UInt8}{s:Z}(h:no c s)(d:¬x=c):no c (s++[x]):=h.app fun b a=>by rw[ya4]at a;subst a;exact d
theorem z9q{c:UInt8}{n:Nat}(hn:n<256):(c.toNat:Int)=(n:Int)↔c=yb3 n:=by
 have h:(yb3 n).toNat=n:=by simp;omega
 constructor;·intro e;apply yb4.1;rw[h];omega
 ·rintro rfl;rw[h]
theorem zko(c:UInt8):∀{s:Z},(z1q c s).2.2=false→z1q c s=(s,[],false)
 |[],_=>rfl|x::r,h=>by
  rw[z42]at h⊢;split at h;·cases h
  ·rename_i a;rw[if_neg a,zko c (s:=r) h]
def numC(k:Nat)(s:Z):Int:=if isNum k s=true then((zd0 0 s:Nat):Int)else-1
theorem zs5{s:Z}(hl:s.length≤15):∀(n i v:Nat),s.length-i=n→i≤s.length→v<10^i→M.z52 s (v:Int) (i:Int)=some (if(s.drop i).all isD=true then .go ((zd0 v (s.drop i):Nat):Int)else .done (-1)):=by
 intro n;induction n with|zero=>
  intro i v hn h j;obtain rfl:i=s.length:=by omega
  rw[M.z52.eq_1,if_neg (by simp),List.drop_length];rfl|succ n k=>
  intro i v hn h j;have a:i<s.length:=by omega
  have o:=pow15 (n:=i) (by omega);rw[M.z52.eq_1];have f:(i:Int)<(s.length:Int):=by omega
  have d:=s[i].toNat_lt;simp only[f,decide_true,if_true,z3f,yal a,ya,yb];rw[yab a,yr];cases hd:isD s[i]with
  |false=>
   have g:¬(48≤s[i].toNat∧s[i].toNat≤57):=fun q=>by unfold isD at hd;simp[q.1,q.2]at hd
   simp only[yj,yk,if_false];by_cases c1:(s[i].toNat:Int)<48;·simp[c1]
   ·have b:57<(s[i].toNat:Int):=by omega
    simp[c1,b]|true=>
   obtain⟨l,m⟩:=zon hd;have c1:¬(s[i].toNat:Int)<48:=by omega
   have b:¬57<(s[i].toNat:Int):=by omega
   have e:yb2 .i64 (yb2 .u8 ((s[i].toNat:Int)-48))=((s[i].toNat-48:Nat):Int):=by
    have:yb2 .u8 ((s[i].toNat:Int)-48)=((s[i].toNat-48:Nat):Int):=by simp only[yb2,yb1,IntKind.signed];simp;omega
    rw[this,w64 (by omega) (by omega)]
   have c:yb2 .i64 (10*(v:Int))=((10*v:Nat):Int):=by rw[w64 (by omega) (by omega)];omega
   simp only[c1,b,decide_false,yk,if_false,yq,yb,e,c];rw[wadd (by omega),w1 (by omega),k (i+1) _ (by omega) (by omega) (by rw[ybs];omega),zdu];rfl
theorem zpj{s:Z}{k:Nat}(g:k≤15):M.q61 s (k:Int)=some (numC k s):=by unfold M.q61 numC isNum;cases s with|nil=>simp|cons c r=>
  by_cases hl:(c::r).length≤k
  ·have e:¬(k:Int)<((c::r).length:Int):=by omega
   have h:¬c::r=[]:=by simp
   have j:ix (c::r) 0=some c:=by simp[ztx]
   have f:=z9q (c:=c) (n:=48) (by decide);have f:(c.toNat:Int)=48↔c=48:=f;have g:M.z52 (c::r) 0 0=_:=zs5 (s:=c::r) (by omega) _ 0 0 rfl (ybx _) (by decide);simp only[h,e,decide_false,yp,yk,if_false,j,ya,yb,ym,yq,hl,decide_true,Bool.and_true,yaq];by_cases b:c=48
   ·subst b;have a:((48:UInt8).toNat:Int)=48:=by decide
    simp only[a,decide_true,if_true,yb,yn,yl];cases r with|nil=>rw[g];rfl|cons d t=>simp
   ·have a:¬(c.toNat:Int)=48:=fun q=>b (f.1 q);have i:¬some c=some (48:UInt8):=fun q=>b (by cases q;rfl);simp only[a,i,decide_false,yk,if_false,yb,ym,Bool.true_or,Bool.and_true];rw[g,yag];cases(c::r).all isD<;>rfl
  ·have e:(k:Int)<((c::r).length:Int):=by omega
   simp only[e,hl,decide_true,decide_false,Bool.or_true,if_true,yf,yj,yk,if_false];rfl
theorem cut_g{s:Z}(c:UInt8){F:List Z→Int→Int→Option (List Z)}(hF:∀l a i,F l a i=if decide (i≤(s.length:Int))=true then(if decide (i=(s.length:Int))=true then some true else(ix s i).bind fun k=>some (decide ((k.toNat:Int)=(c.toNat:Int)))).bind fun o=>if o=true then(sub s a i).bind fun r=>(app 16 l [r]).bind fun p=>F p (yb2 .i64 (i+1)) (yb2 .i64 (i+1))else F l a (yb2 .i64 (i+1))else some l)(h:s.length<100000000):∀(n i a:Nat)(l:List Z),s.length-i=n→i≤s.length→a≤i→l.length≤a→no c ((s.take i).drop a)→F l (a:Int) (i:Int)=some (l++z0u c (s.drop a)):=by
 intro n;induction n with|zero=>
  intro i a l hn w m hl d;obtain rfl:i=s.length:=by omega
  rw[ybe]at d;rw[hF];simp only[Int.le_refl,decide_true,if_true,yb];rw[zgu m (ybl _)];simp only[yb,ybe];rw[z0h (by simp;omega),w1 (by omega)];simp only[yb];rw[hF,if_neg (by simp;omega),zq0 d]|succ n t=>
  intro i a l hn w m hl d;have f:i<s.length:=by omega
  rw[hF];have v:(i:Int)≤(s.length:Int):=by omega
  have h2:¬(i:Int)=(s.length:Int):=by omega
  simp only[v,h2,decide_true,decide_false,yk,if_false,if_true,z3f,yal f,yb];have g:(s[i].toNat:Int)=(c.toNat:Int)↔s[i]=c:=⟨fun e=>yb4.1 (by omega),fun e=>by rw[e]⟩;rw[w1 (by omega)];by_cases j:s[i]=c
  ·rw[if_pos (by simpa using g.2 j),zgu m (by omega)];simp only[yb];rw[z0h (by simp;omega)];simp only[yb];rw[t (i+1) (i+1) _ (by omega) (by omega) (ybl _) (by simp;omega) (by rw[yad (by rw[ya1];omega)];exact fun b g=>by cases g)];have e:s.drop a=(s.take i).drop a++c::s.drop (i+1):=by
    have u:s=s.take i++s.drop i:=(ybb i s).symm;conv=>lhs;rw[u]
    rw[yz (by rw[ya1];omega),yab f,j]
   rw[e,zpy _ d];simp
  ·rw[if_neg (by simpa using fun q=>j (g.1 q)),t (i+1) a l (by omega) (by omega) (by omega) hl];rw[zjl f,yz (by rw[ya1];omega)];exact d.snoc j
theorem zqq{s:Z}(c:UInt8)(h:s.length<100000000):M.q62 s (c.toNat:Int)=some (z0u c s):=by unfold M.q62;have:M.z1m s (c.toNat:Int) [] 0 0=_:=cut_g c (F:=M.z1m s (c.toNat:Int)) fun l a i=>by rw[M.z1m.eq_1];rfl h _ 0 0 [] rfl (ybx _) (ybl _) (ybl _) (fun b d=>by simp at d);rw[this];rfl
theorem zz07k{s:Z}(c:UInt8)(h:s.length<100000000):∀(n i:Nat),s.length-i=n→i≤s.length→no c (s.take i)→M.z0q s (c.toNat:Int) (i:Int)=some (if(z1q c s).2.2=true then .done (z1q c s)else .go ()):=by
 intro n;induction n with|zero=>
  intro i hn l a;obtain rfl:i=s.length:=by omega
  rw[ybe]at a;rw[M.z0q.eq_1,if_neg (by simp),zqr a];rfl|succ n m=>
  intro i hn l a;have b:i<s.length:=by omega
  rw[M.z0q.eq_1];have k:(i:Int)<(s.length:Int):=by omega
  simp only[k,decide_true,if_true,z3f,yal b,ya,yb];have f:(s[i].toNat:Int)=(c.toNat:Int)↔s[i]=c:=⟨fun e=>yb4.1 (by omega),fun e=>by rw[e]⟩;rw[w1 (by omega)];by_cases d:s[i]=c
  ·rw[if_pos (by simpa using f.2 d),zkc (by omega)];simp only[yb];rw[zgu (by omega) (ybl _)];simp only[yb,ybe];have e:s=s.take i++c::s.drop (i+1):=by
    have g:s=s.take i++s.drop i:=(ybb i s).symm;conv=>lhs;rw[g]
    rw[yab b,d]
   have j:z1q c s=(s.take i,s.drop (i+1),true):=by
    conv=>lhs;rw[e]
    exact zlx _ a
   rw[j];rfl
  ·rw[if_neg (by simpa using fun q=>d (f.1 q)),m (i+1) (by omega) (by omega) (by rw[zjl b];exact a.snoc d)]
theorem zob{s:Z}(c:UInt8)(h:s.length<100000000):M.q6a s (c.toNat:Int)=some (z1q c s):=by unfold M.q6a;have:M.z0q s (c.toNat:Int) 0=_:=zz07k c h _ 0 rfl (ybx _) (fun b a=>by simp at a);rw[this];cases d:(z1q c s).2.2 with|true=>rfl|false=>rw[zko c d];rfl
theorem zxv:∀c:UInt8,M.q4k (c.toNat:Int) true=some (match z7b c with|some d=>(d:Int)|none=>-1):=by have:∀c:UInt8,decide (M.q4k (c.toNat:Int) true=some (match z7b c with|some d=>(d:Int)|none=>-1))=true:=z6f (by decide+kernel);intro c;exact of_decide_eq_true (this c)
theorem zz0dk:∀a b:Fin 16,yb2 .u8 (yb2 .i64 (yb2 .i64 (16*((a.val:Nat):Int))+((b.val:Nat):Int)))=(((yb3 (16*a.val+b.val)).toNat:Nat):Int):=by decide+kernel
theorem zca(a:Z)(b:UInt8):unb a++[(b.toNat:Int)]=unb (a++[b]):=by rw[z0j];rfl
theorem zz09k{s:Z}(h:s.length<100000000):∀(n i:Nat)(a:Z),s.length-i≤n→i≤s.length→a.length≤i→M.z16 s (unb a) (i:Int)=some (match z1k (s.drop i)with|some t=>.go (unb (a++t))|none=>.done ([],12)):=by intro n;induction n with|zero=>intro i a hn w v;rw[M.z16.eq_1,yad (by omega),if_neg (by simp;omega)];simp[z1k]|succ n r=>
  intro i a hn w v;by_cases g:i<s.length
  ·rw[M.z16.eq_1];have u:(i:Int)<(s.length:Int):=by omega
   simp only[u,decide_true,if_true,z3f,yal g,ya,yb];have l:=z9q (c:=s[i]) (n:=37) (by decide);have l:(s[i].toNat:Int)=37↔s[i]=37:=l;rw[yab g];by_cases m:s[i]=37
   ·have d:=l.2 m;have C:yb2 .i64 ((i:Int)+2)=((i+2:Nat):Int):=by rw[w64 (by omega) (by omega)];omega
    simp only[d,decide_true,yn,yk,if_false,C];rw[m];by_cases h2:i+2<s.length
    ·have b:¬(s.length:Int)≤((i+2:Nat):Int):=by omega
     have f:i+1<s.length:=by omega
     simp only[b,decide_false,yk,if_false];rw[w1 (by omega)];simp only[z3f,yal h2,yal f,yb,zxv];rw[yab f,yab h2,zd3];cases A:z7b s[i+1]with|none=>simp|some x=>cases B:z7b s[i+2]with|none=>simp|some y=>
       have j:=z5s _ _ A;have k:=z5s _ _ B;have o:¬(x:Int)<0:=by omega
       have p:¬(y:Int)<0:=by omega
       have e:=zz0dk ⟨x,j⟩ ⟨y,k⟩;simp only at e;simp only[o,p,decide_false,yp,yk,if_false,e];rw[z0h (by rw[zl];simp;omega),w1 (by omega)];simp only[yb];rw[zca,r (i+2+1) _ (by omega) (by omega) (by simp;omega)];cases z1k (s.drop (i+2+1))with|none=>rfl|some t=>simp
    ·have b:(s.length:Int)≤((i+2:Nat):Int):=by omega
     simp only[b,decide_true,if_true];cases hd:s.drop (i+1)with|nil=>rw[zhz]|cons z t=>have hl:=congrArg yat hd;rw[yaw,yav]at hl;have:t=[]:=yah (by omega);rw[this,zi0]
   ·have d:¬(s[i].toNat:Int)=37:=fun q=>m (l.1 q);simp only[d,decide_false,ym,if_true];rw[z0h (by rw[zl];simp;omega),w1 (by omega)];simp only[yb];rw[zca,r (i+1) _ (by omega) (by omega) (by simp;omega),zf7 m];cases z1k (s.drop (i+1))with|none=>rfl|some t=>simp
  ·rw[M.z16.eq_1,yad (by omega),if_neg (by simp;omega)];simp[z1k]
theorem z8s{s:Z}(h:s.length<100000000):M.q4f s=some (match z1k s with|some t=>(t,0)|none=>([],12)):=by unfold M.q4f;have:M.z16 s [] 0=_:=zz09k h _ 0 [] (ybl _) (ybx _) (ybl _);rw[this,yag];cases z1k s with|none=>rfl|some t=>simp[z74]
theorem zz04q{s:Z}(h:s.length<100000000):∀(n i:Nat)(a:Z),s.length-i=n→i≤s.length→a.length≤i→M.z5c s 43 32 (unb a) (i:Int)=some (unb (a++swp (s.drop i))):=by intro n;induction n with|zero=>intro i a hn m l;rw[M.z5c.eq_1,yad (by omega),if_neg (by simp;omega)];simp[swp]|succ n g=>
  intro i a hn m l;have d:i<s.length:=by omega
  rw[M.z5c.eq_1,yab d];have k:(i:Int)<(s.length:Int):=by omega
  simp only[k,decide_true,if_true,z3f,yal d,ya,yb];have e:=z9q (c:=s[i]) (n:=43) (by decide);have e:(s[i].toNat:Int)=43↔s[i]=43:=e;have j:swp (s[i]::s.drop (i+1))=(if s[i]=43 then 32 else s[i])::swp (s.drop (i+1)):=rfl;rw[j,w1 (by omega)];by_cases f:s[i]=43;·have b:=e.2 f;simp only[b,decide_true,if_true,f];rw[z0h (by rw[zl];simp;omega)];simp only[yb];have:unb a++[(32:Int)]=unb (a++[32]):=zca a 32;rw[this,g (i+1) _ (by omega) (by omega) (by simp;omega)];simp
  ·have b:¬(s[i].toNat:Int)=43:=fun q=>f (e.1 q);simp only[b,decide_false,yk,if_false,f];rw[z0h (by rw[zl];simp;omega)];simp only[yb];rw[zca,g (i+1) _ (by omega) (by omega) (by simp;omega)];simp
theorem zj0{s:Z}(h:s.length<100000000):M.q4m s 43 32=some (swp s):=by unfold M.q4m;have:M.z5c s 43 32 [] 0=_:=zz04q h _ 0 [] rfl (ybx _) (ybl _);rw[this,yag];simp[z74]
theorem zz04m{s:Z}(h:s.length<100000000):∀(n i:Nat),s.length-i=n→i≤s.length→no 61 (s.take i)→M.z3d s (i:Int)=some (((z1q 61 s).1.length:Nat):Int):=by
 intro n;induction n with|zero=>
  intro i hn m a;obtain rfl:i=s.length:=by omega
  rw[ybe]at a;rw[M.z3d.eq_1,zqr a];simp|succ n o=>
  intro i hn m a;have d:i<s.length:=by omega
  rw[M.z3d.eq_1];have l:(i:Int)<(s.length:Int):=by omega
  simp only[l,decide_true,if_true,z3f,yal d,ya,yb];have f:=z9q (c:=s[i]) (n:=61) (by decide);have f:(s[i].toNat:Int)=61↔s[i]=61:=f;by_cases g:s[i]=61
  ·have b:=f.2 g;simp only[b,decide_true,yn,yk,if_false];have e:s=s.take i++61::s.drop (i+1):=by
    have j:s=s.take i++s.drop i:=(ybb i s).symm;conv=>lhs;rw[j]
    rw[yab d,g]
   have k:z1q 61 s=(s.take i,s.drop (i+1),true):=by
    conv=>lhs;rw[e]
    exact zlx _ a
   rw[k];simp;omega
  ·have b:¬(s[i].toNat:Int)=61:=fun q=>g (f.1 q);simp only[b,decide_false,ym,if_true];rw[w1 (by omega),o (i+1) (by omega) (by omega) (by rw[zjl d];exact a.snoc g)]
theorem zkp(c:UInt8):∀s:Z,((z1q c s).2.2=true→s=(z1q c s).1++c::(z1q c s).2.1)∧((z1q c s).2.2=false→(z1q c s).1=s∧(z1q c s).2.1=[])
 |[]=>And.intro (fun h=>absurd h (by simp[cutb_nil])) fun _=>And.intro rfl rfl|x::r=>by
  obtain⟨e,h2⟩:=zkp c r;rw[z42];by_cases d:x=c;·rw[if_pos d];exact⟨fun _=>by simp[d],fun h=>by cases h⟩
  ·rw[if_neg d];exact⟨fun h=>by simp only at h⊢;rw[yv,←e h],fun h=>by simp only at h⊢;obtain⟨a,b⟩:=h2 h;exact⟨by rw[a],b⟩⟩
theorem ztc:∀s:Z,z1q 61 (swp s)=(swp (z1q 61 s).1,swp (z1q 61 s).2.1,(z1q 61 s).2.2)
 |[]=>rfl|x::r=>by
  have c:=ztc r;have b:swp (x::r)=(if x=43 then 32 else x)::swp r:=rfl;rw[b,z42,z42,c];by_cases a:x=61;·subst a;rfl
  ·rw[if_neg a];have:¬(if x=43 then 32 else x)=61:=by
    split;·decide
    ·exact a
   rw[if_neg this];rfl
theorem zz04l{l:List Z}(hl:l.length<1000000)(y:∀x∈l,x.length<1000000):∀(n i:Nat)(a:List q05),l.length-i=n→i≤l.length→a.length≤i→M.z3c l a (i:Int)=some (if(zal (l.drop i) a).2=0 then .go (zal (l.drop i) a).1 else .done (zal (l.drop i) a)):=by intro n;induction n with|zero=>intro i a hn w t;rw[M.z3c.eq_1,yad (by omega),if_neg (by simp;omega)];simp[zal]|succ n B=>
  intro i a hn w t;have d:i<l.length:=by omega
  have z:=y l[i] (yao d);rw[M.z3c.eq_1,yab d];have s:(i:Int)<(l.length:Int):=by omega
  simp only[s,decide_true,if_true,z3f,yal d,ya,yb];generalize A:l[i]=x at z⊢;unfold zal;by_cases h:x=[];·simp[h]
  ·have g:M.z3d x 0=_:=zz04m (by omega) _ 0 rfl (ybx _) (fun b c=>by simp at c);have f:=z8l 61 x;obtain⟨k,m⟩:=zkp 61 x;have p:sub x 0 (((z1q 61 x).1.length:Nat):Int)=some (z1q 61 x).1:=by rw[zkc (by omega)];cases c:(z1q 61 x).2.2 with
    |true=>
     have o:=k c;have:x.take (z1q 61 x).1.length=((z1q 61 x).1++61::(z1q 61 x).2.1).take (z1q 61 x).1.length:=by rw[←o]
     rw[this,ybd]|false=>rw[(m c).1,ybe]
   have q:(if decide ((((z1q 61 x).1.length:Nat):Int)<(x.length:Int))=true then(sub x (yb2 .i64 ((((z1q 61 x).1.length:Nat):Int)+1)) (x.length:Int)).bind fun e=>some e else some ([]:Z))=some (z1q 61 x).2.1:=by cases c:(z1q 61 x).2.2 with
    |true=>
     have j:=f.2 c;rw[if_pos (by simp;omega),w1 (by omega),zgu (by omega) (ybl _),ybe];simp only[yb];have:=k c;have r:x.drop ((z1q 61 x).1.length+1)=(z1q 61 x).2.1:=by
      have:x.drop ((z1q 61 x).1.length+1)=((z1q 61 x).1++61::(z1q 61 x).2.1).drop ((z1q 61 x).1.length+1):=by rw[←this]
      rw[this,←yaa,yae,List.drop_succ_cons,yag]
     rw[r]|false=>obtain⟨C,D⟩:=m c;rw[if_neg (by rw[C];simp),D]
   simp only[h,decide_false,yk,if_false,g,yb,p,q];rw[zj0 (by omega)];simp only[yb];rw[z8s (by rw[zjh];omega),zj0 (by omega)];simp only[yb];rw[z8s (by rw[zjh];omega)];rw[ztc];simp only[yb];cases E:z1k (swp (z1q 61 x).1)with|none=>simp|some u=>cases F:z1k (swp (z1q 61 x).2.1)with|none=>simp|some v=>simp only[decide_true,yn,yp,yk,if_false];rw[z0h (by simp;omega),w1 (by omega)];simp only[yb];exact B (i+1) _ (by omega) (by omega) (by simp;omega)
theorem ziz{s:Z}(h:s.length<1000000):M.q4e s=some (z2l s):=by
 unfold M.q4e z2l;by_cases m:8192<s.length
 ·have:8192<(s.length:Int):=by omega
  simp[this,m]
 ·have f:¬8192<(s.length:Int):=by omega
  by_cases j:s=[]
  ·subst j;have:¬(8192<([]:Z).length∨64<(z0u 38 ([]:Z)).length):=by simp[z0u]
   rw[if_neg this];rfl
  ·have k:M.z3b s [] 0 0=some ([]++z0u 38 (s.drop 0)):=cut_g 38 (F:=M.z3b s) fun l a i=>by rw[M.z3b.eq_1];rfl (by omega) _ 0 0 [] rfl (ybx _) (ybl _) (ybl _) (fun b n=>by simp at n);rw[yag,ya5]at k;simp only[f,j,decide_false,yk,if_false,ya,k,yb];by_cases e:64<(z0u 38 s).length
   ·have:64<((z0u 38 s).length:Int):=by omega
    simp[this,e]
   ·have c:¬64<((z0u 38 s).length:Int):=by omega
    have hn:¬(8192<s.length∨64<(z0u 38 s).length):=by omega
    have o:∀x∈z0u 38 s,x.length<1000000:=fun x p=>by have:=z63 38 s x p;omega
    have d:M.z3c (z0u 38 s) [] 0=_:=zz04l (by omega) o _ 0 [] rfl (ybx _) (ybl _);rw[yag]at d;rw[if_neg hn];simp only[c,decide_false,yk,if_false,d,yb];by_cases g:(zal (z0u 38 s) []).2=0;·rw[if_pos g];exact congrArg some (Prod.ext rfl g.symm)
    ·rw[if_neg g]
theorem zc5{s:Z}(d c:Nat)(k:s.length<1152921504606846976):M.q5w s (d:Int) (c:Int)=some (z7c d c s):=by
 unfold M.q5w;have j:M.z7d s (d:Int) (c:Int) 0=some (match s.findIdx? fun b=>!(decide (d≤b.toNat)&&decide (b.toNat≤c))with|some i=>.done false|none=>.go ()):=by
  refine seek (fun _=>false) () k (fun i h=>?_) ?_
  ·rw[M.z7d.eq_1];have e:(i:Int)<(s.length:Int):=by omega
   simp only[e,decide_true,if_true,z3f,yal h,ya,yb];by_cases a:d≤s[i].toNat
   ·have f:¬(s[i].toNat:Int)<(d:Int):=by omega
    by_cases b:s[i].toNat≤c
    ·have g:¬(c:Int)<(s[i].toNat:Int):=by omega
     simp[a,f,b,g]
    ·have g:(c:Int)<(s[i].toNat:Int):=by omega
     simp[a,f,b,g]
   ·have f:(s[i].toNat:Int)<(d:Int):=by omega
    simp[a,f]
  ·rw[M.z7d.eq_1];simp
 simp only[ya,j,yb];unfold z7c;rcases zm2 s fun b=>decide (d≤b.toNat)&&decide (b.toNat≤c)with⟨e,h2⟩|⟨i,e,h2⟩;·rw[e,h2]
 ·rw[e,h2]
theorem zmx{s:Z}(f:s.length<1000000000):M.q6f s=some (z8q s):=by
 unfold M.q6f z8q;have d:M.q5w s 65 90=some (z7c 65 90 s):=zc5 65 90 (by omega);have e:z7c 65 90 s=s.all isA:=rfl;rw[d,e];by_cases b:s=[];·simp[b]
 ·by_cases c:s.length≤8
  ·have a:(s.length:Int)≤8:=by omega
   simp[b,c,a]
  ·have a:¬(s.length:Int)≤8:=by omega
   simp[b,c,a]
theorem zz080(b:UInt8):(decide (97≤(b.toNat:Int))&&decide ((b.toNat:Int)≤122)||decide (48≤(b.toNat:Int))&&decide ((b.toNat:Int)≤57)||decide ((b.toNat:Int)=45))=isN b:=by have:∀b:UInt8,((decide (97≤(b.toNat:Int))&&decide ((b.toNat:Int)≤122)||decide (48≤(b.toNat:Int))&&decide ((b.toNat:Int)≤57)||decide ((b.toNat:Int)=45))==isN b)=true:=z6f (by decide+kernel);exact eq_of_beq (this b)
theorem zs7{s:Z}(e:s.length<1000000000):M.q6g s=some (zh0 s):=by
 unfold M.q6g;have d:M.z6k s 0=some (match s.findIdx? fun b=>!isN b with|some i=>.done false|none=>.go ()):=by
  refine seek (fun _=>false) () (by omega) (fun i h=>?_) ?_
  ·rw[M.z6k.eq_1];have a:(i:Int)<(s.length:Int):=by omega
   simp only[a,decide_true,if_true,z3f,yal h,ya,yb,zz080]
  ·rw[M.z6k.eq_1];simp
 simp only[ya,d,yb];unfold zh0;rcases zm2 s isN with⟨a,h2⟩|⟨i,a,h2⟩
 ·rw[a,h2];by_cases c:s.length≤32
  ·have:(s.length:Int)≤32:=by omega
   simp[c,this]
  ·have:¬(s.length:Int)≤32:=by omega
   simp[c,this]
 ·rw[a,h2];simp
def zfy(b:UInt8):Bool:=decide (b=32)
theorem zt5(s:Z):bare s=(s.reverse.dropWhile zfy).reverse.dropWhile zfy:=by
 have e:(fun b=>([32]:Z).contains b)=zfy:=by funext b;unfold zfy;simp
 unfold bare Lib.trimS Lib.trimLeftS Lib.trimRightS;rw[←e]
theorem zxx{α:Type}(p:α→Bool)(s:List α):((s.dropWhile p).reverse.dropWhile p).reverse=(s.reverse.dropWhile p).reverse.dropWhile p:=by have f:s=s.takeWhile p++s.dropWhile p:=(List.takeWhile_append_dropWhile).symm;have i:∀x∈s.takeWhile p,p x=true:=ys.1 List.all_takeWhile;generalize n:s.takeWhile p=a at f i;cases g:s.dropWhile p with
 |nil=>
  rw[g,yu]at f;have:∀x∈s.reverse,p x=true:=fun x j=>i x (by rw[←f];simpa using j);have:s.reverse.dropWhile p=[]:=by rw[zkq,ys];exact this
  rw[this];rfl|cons c r=>
  have k:¬p c=true:=by have:=List.head_dropWhile_not p (l:=s) (by rw[g];simp);simp only[g,List.head_cons]at this;simpa using this
  rw[g]at f;conv=>rhs;rw[f]
  rw[ya8,List.dropWhile_append];have b:¬(c::r).reverse.dropWhile p=[]:=fun e=>by rw[zkq,ys]at e;exact k (e c (by simp))
  have:((c::r).reverse.dropWhile p).isEmpty=false:=by cases h:(c::r).reverse.dropWhile p with|nil=>exact absurd h b|cons _ _=>rfl
  rw[this,if_neg (by simp),ya8,ya9,List.dropWhile_append_of_pos i];have d:((c::r).reverse.dropWhile p).reverse<+:c::r:=by have:=List.dropWhile_suffix p (l:=(c::r).reverse);have:=List.reverse_prefix.2 this;rwa[ya9]at this
  obtain⟨q,m⟩:=d;cases h:((c::r).reverse.dropWhile p).reverse with|nil=>rw[List.reverse_eq_nil_iff]at h;exact absurd h b|cons x y=>rw[h]at m;have j:x=c:=(List.cons.inj m).1;subst j;rw[yx,if_neg k]
theorem zz076(s:Z):bare s=((s.dropWhile zfy).reverse.dropWhile zfy).reverse:=by rw[zt5,zxx]
theorem zz04i:∀(n:Nat)(s:Z),s.length=n→n<1000000000→M.z1b s=some (s.dropWhile zfy):=by intro n;induction n with|zero=>intro s hn _;have:s=[]:=yah hn;subst this;rw[M.z1b.eq_1];rfl|succ n j=>intro s hn h;cases s with|nil=>cases hn|cons c r=>
   simp only[yav]at hn;rw[M.z1b.eq_1];have i:ix (c::r) 0=some c:=by simp[ztx]
   have d:=z9q (c:=c) (n:=32) (by decide);have d:(c.toNat:Int)=32↔c=32:=d;have f:¬c::r=[]:=by simp
   simp only[f,decide_false,ym,if_true,i,ya,yb];rw[yx];by_cases e:c=32
   ·have g:sub (c::r) 1 (((c::r).length:Nat):Int)=some r:=by have:=zgu (l:=c::r) (a:=1) (b:=(c::r).length) (by simp) (ybl _);rw[ybe]at this;exact this
    rw[if_pos (by simpa using d.2 e),g];simp only[yb];rw[j r (by omega) (by omega)];simp[zfy,e]
   ·rw[if_neg (by simpa using fun q=>e (d.1 q))];simp[zfy,e]
theorem zz04j:∀(n:Nat)(s:Z),s.length=n→n<1000000000→M.z1c s=some (s.reverse.dropWhile zfy).reverse:=by intro n;induction n with|zero=>intro s hn _;have:s=[]:=yah hn;subst this;rw[M.z1c.eq_1];rfl|succ n i=>
  intro s hn h;obtain⟨r,c,rfl⟩:∃r c,s=r++[c]:=⟨s.dropLast,s.getLast (by intro e;rw[e]at hn;cases hn),(yw _).symm⟩;simp only[yau,yav,List.length_nil]at hn;rw[M.z1c.eq_1];have d:¬r++[c]=[]:=by simp
  have hl:(r++[c]).length=r.length+1:=by simp
  have f:yb2 .i64 (((r++[c]).length:Int)-1)=((r.length:Nat):Int):=by rw[w64 (by omega) (by omega)];omega
  have g:(r++[c])[r.length]?=some c:=by simp
  have a:=z9q (c:=c) (n:=32) (by decide);have a:(c.toNat:Int)=32↔c=32:=a;simp only[d,decide_false,ym,if_true,f,z3f,g,ya,yb];rw[ya8,List.reverse_singleton,yba,yx];by_cases b:c=32;·rw[if_pos (by simpa using a.2 b),zkc (by omega)];simp only[yb];rw[ybd,i r (by omega) (by omega)];simp[zfy,b]
  ·rw[if_neg (by simpa using fun q=>b (a.1 q))];simp[zfy,b]
theorem zs3{s:Z}(h:s.length<1000000000):M.q5y s=some (bare s):=by unfold M.q5y;rw[zz04i _ s rfl h];simp only[ya,yb];have:=yy zfy (l:=s).length_le;rw[zz04j _ _ rfl (by omega),zz076];rfl
theorem zv2(s:Z):decide (bare s=s)=(decide (s=[])||!decide (s.head?=some 32)&&!decide (s.getLast?=some 32)):=by rw[zt5];cases s with|nil=>rfl|cons c r=>
  obtain⟨b,d,hd⟩:∃b d,c::r=b++[d]:=⟨(c::r).dropLast,(c::r).getLast (by simp),(yw _).symm⟩;have j:(c::r).getLast?=some d:=by rw[hd];simp
  rw[j];by_cases a:d=32
  ·subst a;have f:(c::r).reverse=32::b.reverse:=by rw[hd];simp
   have h2:=yy zfy (l:=b.reverse).length_le;have g:=yy zfy (l:=((c::r).reverse.dropWhile zfy).reverse).length_le;rw[List.length_reverse]at h2 g;have hl:(c::r).length=b.length+1:=by rw[hd];simp
   have:¬((c::r).reverse.dropWhile zfy).reverse.dropWhile zfy=c::r:=fun e=>by have e:=congrArg yat e;rw[f,yx,if_pos (by simp[zfy])]at g;rw[f,yx,if_pos (by simp[zfy])]at e;omega
   rw[decide_eq_false this];simp
  ·have f:(c::r).reverse=d::b.reverse:=by rw[hd];simp
   have i:((c::r).reverse.dropWhile zfy).reverse=c::r:=by rw[f,yx,if_neg (by simp[zfy,a]),←f,ya9]
   rw[i,yx];by_cases h:c=32
   ·subst h;have k:=yy zfy (l:=r).length_le;have:¬r.dropWhile zfy=32::r:=fun e=>by have:=congrArg yat e;rw[yav]at this;omega
    simp[zfy,this]
   ·simp[zfy,h,a]
theorem zg8{s:Z}(h:s.length<1000000000):M.q6x s=some (isVal s):=by unfold M.q6x isVal;have m:M.q5w s 32 126=some (z7c 32 126 s):=zc5 32 126 (by omega);rw[m,zv2];cases u:z7c 32 126 s with|false=>rfl|true=>simp only[ya,yb,if_true,yq];cases s with|nil=>rfl|cons c r=>
   obtain⟨f,d,hd⟩:∃f d,c::r=f++[d]:=⟨(c::r).dropLast,(c::r).getLast (by simp),(yw _).symm⟩;have p:ix (c::r) 0=some c:=by simp[ztx]
   have hl:(c::r).length=f.length+1:=by rw[hd];simp
   have l:yb2 .i64 (((c::r).length:Int)-1)=((f.length:Nat):Int):=by simp only[yav]at h hl⊢;rw[w64 (by omega) (by omega)];omega
   have t:(c::r)[f.length]?=some d:=by rw[hd];simp
   have o:(c::r).getLast?=some d:=by rw[hd];simp
   have g:=z9q (c:=c) (n:=32) (by decide);have g:(c.toNat:Int)=32↔c=32:=g;have a:=z9q (c:=d) (n:=32) (by decide);have a:(d.toNat:Int)=32↔d=32:=a;have k:¬c::r=[]:=by simp
   simp only[k,decide_false,yk,if_false,p,l,z3f,t,yb,yl,o,yaq,Option.some.injEq];by_cases q:c=32;·have i:=g.2 q;simp[q,i]
   ·have i:¬(c.toNat:Int)=32:=fun e=>q (g.1 e);by_cases j:d=32;·have b:=a.2 j;simp[q,i,j,b]
    ·have b:¬(d.toNat:Int)=32:=fun e=>j (a.1 e);simp[q,i,j,b]
theorem zz09j{l:List q05}{k:Z}(hl:l.length<1000000000):∀(m i:Nat)(v:Z)(n:Nat),l.length-i=m→i≤l.length→n≤i→M.z5k l k v (n:Int) (i:Int)=some (if n=0 then z4p (l.drop i) k v else v,((n+zak (l.drop i) k:Nat):Int)):=by intro m;induction m with|zero=>intro i v n j g hn;rw[M.z5k.eq_1,yad (by omega),if_neg (by simp;omega)];simp[z4p,zak]|succ m b=>
  intro i v n j g hn;have a:i<l.length:=by omega
  rw[M.z5k.eq_1,yab a];have f:(i:Int)<(l.length:Int):=by omega
  simp only[f,decide_true,if_true,z3f,yal a,ya,yb];rw[w1 (n:=i) (by omega),zi5];have e:zak (l[i]::l.drop (i+1)) k=(if l[i].zj=k then 1 else 0)+zak (l.drop (i+1)) k:=by unfold zak;rw[List.countP_cons];by_cases h:l[i].zj=k<;>simp[h,ybg]
  rw[e];by_cases d:l[i].zj=k
  ·simp only[d,decide_true,if_true];by_cases c:n=0;·subst c;have:((0:Nat):Int)=0:=rfl;simp only[this,decide_true,if_true];have o:yb2 .i64 (0+1)=((1:Nat):Int):=w1 (n:=0) (by decide);rw[o,b (i+1) _ 1 (by omega) (by omega) (by omega)];simp
   ·have:¬(n:Int)=0:=by omega
    simp only[this,c,decide_false,yk,if_false];rw[w1 (by omega),b (i+1) _ (n+1) (by omega) (by omega) (by omega),if_neg (by omega)];congr 3;omega
  ·simp only[d,decide_false,yk,if_false];rw[b (i+1) _ n (by omega) (by omega) (by omega)];simp
theorem zc3{l:List q05}(k:Z)(hl:l.length<1000000000):M.q4g l k=some (z4p l k [],((zak l k:Nat):Int)):=by unfold M.q4g;have h:=zz09j (k:=k) hl l.length 0 [] 0 rfl (ybx _) (ybl _);rw[yag,if_pos rfl,ybw]at h;have h:M.z5k l k [] 0 0=_:=h;rw[h];rfl
theorem z8t{l:List q05}(k:Z)(hl:l.length<1000000000):M.q66 l k=some (z4p l k [],z95 l k):=by unfold M.q66;rw[zc3 k hl];simp only[ya,yb];rw[←zm8];congr 2;exact decide_eq_decide.2 (by omega)
theorem zxj(m:Nat)(h:m<10):byt [yb2 .u8 (yb2 .i64 (48+(m:Int)))]=[yb3 (48+m)]:=by
 have:∀m:Fin 10,byt [yb2 .u8 (yb2 .i64 (48+((m.val:Nat):Int)))]=[yb3 (48+m.val)]:=by decide+kernel
 exact this ⟨m,h⟩
theorem zpk:∀(b m:Nat)(s:Z),m≤b→0<m→s.length+m<1000000000000000000→M.z1s s (m:Int)=some (Lib.decDigits m++s):=by intro b;induction b with|zero=>omega|succ b h=>
  intro m s i h2 j;have g:(0:Int)<(m:Int):=by omega
  have c:Int.tmod (m:Int) 10=((m%10:Nat):Int):=by rw[yb0 (by omega)];omega
  have d:Int.tdiv (m:Int) 10=((m/10:Nat):Int):=by rw[ybz (by omega)];omega
  rw[M.z1s];simp only[g,decide_true,Bool.true_or,if_true,c,d];rw[zxj _ (by omega),z34 (by simp;omega),w64 (by omega) (by omega)];simp only[ya,yb];by_cases a:m<10
  ·have e:m/10=0:=by omega
   have f:m%10=m:=by omega
   rw[e,f,M.z1s,Lib.decDigits,dif_pos a];simp
  ·rw[h (m/10) _ (by omega) (by omega) (by simp;omega)];conv=>rhs;rw[Lib.decDigits]
   grind
theorem zmy{n:Nat}(h:n<100000000000000000):M.q6h (n:Int)=some (Lib.decDigits n):=by
 unfold M.q6h;by_cases c:n=0
 ·subst c;have e:M.z1s [] ((0:Nat):Int)=some [48]:=by
   rw[M.z1s];have a:byt [yb2 .u8 (yb2 .i64 (48+Int.tmod ((0:Nat):Int) 10))]=[48]:=by decide+kernel
   rw[a,z34 (by simp)];have b:yb2 .i64 (Int.tdiv ((0:Nat):Int) 10)=0:=by decide+kernel
   simp only[ya,yb,b];rw[M.z1s];simp
  grind[Lib.decDigits]
 ·rw[zpk n n [] (ybl _) (by omega) (by simp;omega)];simp
theorem zpl{s:Z}(c:s.length<1000000000):M.q6m s=some (zcq s):=by
 unfold M.q6m;have tab:∀b:UInt8,(decide (65≤(b.toNat:Int))&&decide ((b.toNat:Int)≤90)||decide (97≤(b.toNat:Int))&&decide ((b.toNat:Int)≤122)||decide (48≤(b.toNat:Int))&&decide ((b.toNat:Int)≤57)||decide ((b.toNat:Int)=45)||decide ((b.toNat:Int)=95))=sesC b:=z6f (by decide+kernel);have a:M.z5y s 0=some (match s.findIdx? fun b=>!sesC b with|some i=>.done false|none=>.go ()):=by
  refine seek (fun _=>false) () (by omega) (fun i h=>?_) ?_;·rw[M.z5y];simp_all[z3f]
  ·grind[M.z5y]
 grind[zcq]
theorem zz01w{l:List Mb}{kd:Int}{tx k:Z}{v:J}(h:l.length<1000000):M.q6z ⟨kd,tx,l.map (·.2),l.map (·.1)⟩ k v=some (obj (l++[(k,v)])):=by unfold M.q6z;grind[zuy,z0h,obj]
theorem zz05c{l:List Mb}{k:Z}{v:J}(h:l.length<1000000):M.q6z (obj l) k v=some (obj (l++[(k,v)])):=zz01w h
theorem rtext_jT(s:Z):M.q6u s=some (jT s):=rfl
theorem zz00v{l:List Z}(hl:l.length<10000000):∀(n i:Nat)(a:List J),l.length-i=n→i≤l.length→a.length≤i→M.z55 l (i:Int) a=some (a++(l.drop i).map jT):=by intro n;induction n with|zero=>grind[M.z55,yad]|succ n f=>
  intro i a hn e d;have b:i<l.length:=by omega
  have c:(i:Int)<(l.length:Int):=by omega
  rw[M.z55,yab b];simp only[c,decide_true,if_true,z3f,yal b,ya,yb,rtext_jT,zuy];grind[z0h,w1]
theorem zwb{l:List Z}(hl:l.length<10000000):M.q6v l=some (jTs l):=by unfold M.q6v;have h:M.z55 l 0 []=some ([]++(l.drop 0).map jT):=zz00v hl _ 0 [] rfl (ybx _) (by simp);grind[jTs]
theorem zw9{l:List q02}(hl:zgl l<10000000):∀(n i:Nat)(a:List J)(b:List Z),l.length-i=n→i≤l.length→a.length≤i→b.length≤i→M.z4j l (i:Int) a b=some (a++(l.drop i).map fun f=>jTs f.z38,b++(l.drop i).map (·.zj)):=by
 have g:=zbw l;have d:∀f∈l,f.z38.length<10000000:=fun f hf=>by have e:f.sz≤zgl l:=zjg (List.mem_map.2 ⟨f,hf,rfl⟩);grind[zb5,q02.sz]
 intro n;induction n with|zero=>grind[M.z4j,yad]|succ n h=>
  intro i a b hn m j k;have c:i<l.length:=by omega
  have e:(i:Int)<(l.length:Int):=by omega
  rw[M.z4j,yab c];simp only[e,decide_true,if_true,z3f,yal c,ya,yb];rw[z0h (by simp;omega),zwb (d _ (by simp))];simp only[yb,zuy];rw[z0h (by simp;omega),w1 (by omega)];simp only[yb];rw[h (i+1) _ _ (by omega) (by omega) (by simp;omega) (by simp;omega),List.map_cons,List.map_cons,yt,yt];rfl
theorem zsc{l:List q02}(hl:zgl l<10000000):M.q6j l=some (jFs l):=by unfold M.q6j;have h:M.z4j l 0 [] []=some ([]++(l.drop 0).map fun f=>jTs f.z38,[]++(l.drop 0).map (·.zj)):=zw9 hl _ 0 [] [] rfl (ybx _) (by simp) (by simp);grind[jFs]
end Go.Sen
