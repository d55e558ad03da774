import Derived.Test.YtfdoofnmjehecaaGreatDoorHHnB
import Derived.Lib.TrimUEq
set_option linter.all false
namespace Go.Sen
open _root_.Option renaming bind_eq_bind → ya, bind_some → yb, map_eq_some_iff → yc, map_some → yd
open _root_.Bool renaming and_eq_true → ye, and_false → yf, and_self → yg, and_true → yh, eq_false_iff → yi, eq_iff_iff → yj, false_and → yk, false_eq_true → yl, false_or → ym, not_eq_true' → yn, not_false → yo, not_true → yp, or_eq_true → yq, or_self → yr, true_and → ys, true_or → yt
open _root_.List renaming all_cons → yu, all_eq_true → yv, append_assoc → yw, cons_append → yx, dropWhile → yy, drop_append_of_le_length → yz, drop_drop → yaa, drop_eq_getElem_cons → yab, drop_eq_nil_of_le → yac, drop_length → yad, drop_take → yae, drop_zero → yaf, foldl_cons → yag, getElem?_eq_getElem → yah, getElem?_map → yai, getElem_mem → yaj, getLast?_eq_getElem? → yak, head?_cons → yal, head?_eq_getElem? → yam, isPrefixOf_iff_prefix → yan, length_append → yao, length_cons → yap, length_drop → yaq, length_eq_zero_iff → yar, length_map → yas, length_nil → yat, length_pos_iff → yau, length_take → yav, map_cons → yaw, mem_append → yax, mem_cons → yay, mem_map → yaz, mem_singleton → ya0, nil_append → ya1, not_mem_nil → ya2, singleton_append → ya3, take_append_drop → ya4, take_length → ya5, take_succ_cons → ya6, take_zero → ya7
open _root_.Nat renaming add_comm → ya8, add_sub_cancel → ya9, beq → yba, le_refl → ybb, le_trans → ybc, mod_eq_of_lt → ybd, mul_comm → ybe, mul_le_mul_right → ybf, or_lt_two_pow → ybg, pow_le_pow_right → ybh, pow_succ → ybi, two_pow_pos → ybj, zero_add → ybk, zero_le → ybl
open _root_.Int renaming natCast_pow → ybm
open IntKind renaming bits → ybn, u64 → ybo, wrap → ybp
open _root_.UInt8 renaming ofNat → ybq, toNat_inj → ybr
open Go.Lk Go.Pe
def isAl(b:UInt8):Bool:=isA b||decide (97≤b.toNat)&&decide (b.toNat≤122)||isD b
def ztd(b:UInt8):Bool:=isAl b||decide (b=45)||decide (b=46)||decide (b=95)||decide (b=126)
def hxU(n:Nat):UInt8:=ybq (if n<10 then 48+n else 55+n)
def pctB(bl:Z)(c:UInt8):Z:=if ztd c=true then[c]else if c=32 then bl else[37,hxU (c.toNat/16),hxU (c.toNat%16)]
def pct(bl s:Z):Z:=s.flatMap (pctB bl)
theorem ztc(bl:Z)(c:UInt8)(s:Z):pct bl (c::s)=pctB bl c++pct bl s:=by simp[pct]
theorem ztb{bl:Z}(h:bl.length≤3)(c:UInt8):(pctB bl c).length≤3:=by grind[pctB]
theorem zic{bl:Z}(h:bl.length≤3):∀s:Z,(pct bl s).length≤3*s.length|[]=>by simp[pct]|c::s=>by have a:=ztb h c;have h2:=zic h s;grind[ztc]
def ixP(c:UInt8):Int:=Lib.idxFunc (fun r=>decide ((r:Int)%256=(c.toNat:Int))) true ⟨([45,46,95,126]:Z).toArray⟩
theorem M_ixP(c:UInt8):M.z16 ([45,46,95,126]:Z) (c.toNat:Int)=some (ixP c):=by rfl
def alI(x:Int):Bool:=decide (65≤x)&&decide (x≤90)||decide (97≤x)&&decide (x≤122)||decide (48≤x)&&decide (x≤57)
theorem zz05e:∀c:UInt8,(alI (c.toNat:Int)||decide (0≤ixP c))=ztd c:=z6a (by decide+kernel)
def hex2(x:Int):Option Z:=do let a←sub ([48,49,50,51,52,53,54,55,56,57,65,66,67,68,69,70]:Z) (zir .u8 x 4) (ybp .u8 (zir .u8 x 4+1))let b←cat ([37]:Z) a;let c←sub ([48,49,50,51,52,53,54,55,56,57,65,66,67,68,69,70]:Z) (z9d .u8 x 15) (ybp .u8 (z9d .u8 x 15+1))cat b c
theorem zz01y:∀c:UInt8,hex2 (c.toNat:Int)=some [37,hxU (c.toNat/16),hxU (c.toNat%16)]:=z6a (by decide+kernel)
theorem zv4{s bl:Z}(k:bl.length≤3)(u:s.length<100000000000):∀(n i:Nat)(acc:Z),s.length-i=n→i≤s.length→acc.length+3*n<900000000000→M.zp s bl (i:Int) (unb acc)=some (unb (acc++pct bl (s.drop i))):=by intro n;induction n with|zero=>grind[M.zp,z0s,pct]|succ n m=>
  intro i acc hn q p;have c:i<s.length:=by omega
  have j:(i:Int)<((unb s).length:Int):=by rw[z0s];omega
  rw[M.zp,yab c,ztc];simp only[j,decide_true,if_true,z3u,zj5,yah c,yd,ya,yb,M_ixP];rw[w1 (by omega)];have next:∀t:Z,t=pctB bl s[i]→M.zp s bl ((i+1:Nat):Int) (unb (acc++t))=some (unb (acc++(pctB bl s[i]++pct bl (s.drop (i+1))))):=by rintro t rfl;have:=ztb k s[i];rw[m (i+1) _ (by omega) (by omega) (by grind),yw]
  have d:(decide (65≤(s[i].toNat:Int))&&decide ((s[i].toNat:Int)≤90)||decide (97≤(s[i].toNat:Int))&&decide ((s[i].toNat:Int)≤122)||decide (48≤(s[i].toNat:Int))&&decide ((s[i].toNat:Int)≤57))=alI (s[i].toNat:Int):=rfl;rw[d];have l:(if alI (s[i].toNat:Int)=true then some true else some (decide (0≤ixP s[i])))=some (ztd s[i]):=by rw[←zz05e s[i]];cases alI (s[i].toNat:Int)<;>simp
  rw[l];simp only[yb];cases r:ztd s[i]with|true=>rw[if_pos rfl,z1z (by rw[z0s];omega)];simp_all[zrk,z29,pctB]|false=>
   rw[if_neg (by decide)];by_cases b:s[i]=32
   ·have:(s[i].toNat:Int)=32:=by rw[b];rfl
    rw[if_pos (by grind),z1a (by omega)];simp_all[pctB]
   ·have:¬(s[i].toNat:Int)=32:=fun e=>b (by
     have e:s[i].toNat=32:=by omega
     rw[show(32:UInt8)=ybq 32 from rfl,←e];simp);have a:=zz01y s[i];unfold hex2 at a;simp only[ya]at a;rw[if_neg (by grind)];cases f:sub ([48,49,50,51,52,53,54,55,56,57,65,66,67,68,69,70]:Z) (zir .u8 (s[i].toNat:Int) 4) (ybp .u8 (zir .u8 (s[i].toNat:Int) 4+1))with|none=>grind|some o=>rw[f]at a;simp only[yb]at a⊢;cases g:cat ([37]:Z) o with|none=>grind|some v=>rw[g]at a;simp only[yb]at a⊢;cases h:sub ([48,49,50,51,52,53,54,55,56,57,65,66,67,68,69,70]:Z) (z9d .u8 (s[i].toNat:Int) 15) (ybp .u8 (z9d .u8 (s[i].toNat:Int) 15+1))with|none=>grind|some w=>rw[h]at a;simp only[yb]at a⊢;rw[a];simp only[yb];rw[z1a (by simp;omega)];simp_all[pctB]
theorem z71{s bl:Z}(a:bl.length≤3)(b:s.length<100000000000):M.q0p s bl=some (pct bl s):=by unfold M.q0p;rw[z3a (by simp;omega)];have h:=zv4 a b _ 0 [] rfl (ybl _) (by simp;omega);have h:M.zp s bl 0 ([]:List Int)=_:=h;grind[z39]
def zv1(s:Z):Z:=pct [37,50,48] s
def pWord(s:Z):Z:=pct [43] s
theorem zg1{s:Z}(a:s.length<100000000000):M.q0n s=some (zv1 s):=by unfold M.q0n;rw[z71 (by simp) a];rfl
def fld(p:q05):Z:=pWord p.z05++[61]++pWord p.z2f
def z8d(l:List q05):Z:=Lib.join (l.map fld) [38]
def form(l:List q05):Z×Int:=if 64<l.length then([],14)else if 8192<(z8d l).length then([],14)else(z8d l,0)
def zrs(l:List q05):Prop:=∀p∈l,p.z05.length<100000000∧p.z2f.length<100000000
theorem zfl(sep:Z):∀l:List Z,(Lib.joinTail sep l).length=(l.map fun x=>x.length+sep.length).sum|[]=>rfl|x::r=>by have h:=zfl sep r;have e:Lib.joinTail sep (x::r)=sep++x++Lib.joinTail sep r:=rfl;grind
theorem zq4(l:List Z)(sep:Z):(Lib.join l sep).length≤(l.map fun x=>x.length+sep.length).sum:=by cases l with|nil=>exact ybl _|cons x r=>grind[Lib.join_cons,zfl]
theorem zz054{α:Type}(f:α→Nat)(B:Nat):∀l:List α,(∀x∈l,f x≤B)→(l.map f).sum≤l.length*B|[],_=>by simp|x::r,h=>by have b:=h x (by simp);have h2:=zz054 f B r fun y a=>h y (by simp[a]);grind[Nat.succ_mul]
theorem zz063{p:q05}(h:p.z05.length<100000000∧p.z2f.length<100000000):(fld p).length≤600000000:=by grind[zic,fld,pWord]
theorem zz01m{l:List q05}(hl:l.length<100000000)(hf:zrs l):∀(n i:Nat)(a:List Z),l.length-i=n→i≤l.length→a.length≤i→M.z0a l a (i:Int)=some (a++(l.drop i).map fld):=by intro n;induction n with|zero=>grind[M.z0a,yac]|succ n f=>
  intro i a hn h g;have b:i<l.length:=by omega
  have c:(i:Int)<(l.length:Int):=by omega
  have j:=hf l[i] (by simp);have d:=zic (bl:=[43]) (by simp) l[i].z05;have e:=zic (bl:=[43]) (by simp) l[i].z2f;rw[M.z0a,yab b];simp only[c,decide_true,if_true,z3u,yah b,ya,yb];rw[z71 (by simp) (by omega)];simp only[yb];rw[z1v (by simp;omega),z71 (by simp) (by omega)];simp only[yb];rw[z1v (by simp;omega)];simp only[yb];rw[z15 (by simp;omega),w1 (by omega)];simp only[yb];rw[f (i+1) _ (by omega) (by omega) (by simp;omega)];grind[fld,pWord]
theorem zl2{l:List q05}(hl:l.length<100000000)(hf:zrs l):M.q0i l=some (form l):=by
 unfold M.q0i form;by_cases b:64<l.length;·grind
 ·have:¬(64:Int)<(l.length:Int):=by omega
  have a:=zz01m hl hf _ 0 [] rfl (ybl _) (by simp);have a:M.z0a l [] 0=some ((l.drop 0).map fld):=a;rw[yaf]at a;simp only[this,decide_false,yl,if_false,b,ya,a,yb];have c:(z8d l).length≤140737488355328:=by
   unfold z8d;refine ybc (zq4 _ _) ?_;rw[List.map_map];refine ybc (zz054 _ 600000001 l fun p d=>?_) ?_;·have:=zz063 (hf p d);grind
   ·omega
  have e:M.join (l.map fld) [38]=some (z8d l):=by
   unfold M.join;rw[z3a];·rfl
   ·rw[ye,decide_eq_true_iff,decide_eq_true_iff];exact⟨by simp;omega,c⟩
  grind
def znh:List q05→List Z→Option (List Z)|[],a=>some a|p::r,a=>if(zss p.z05&&isVal p.z2f&&!a.contains p.z05)=true then znh r (p.z05::a)else none
def zet(l:List q05):Bool:=match znh l [z8k,zf8]with|some a=>decide (l.length≤32)&&a.contains zdp|none=>false
def zz059(z:Option (Jn Bool (List (Z×Bool)))):Option (List Z)→Prop|none=>z=some (.done false)|some a=>∃m,z=some (.go m)∧SN m a
theorem zz01u{l:List q05}(hl:l.length<1000000000)(hf:zrs l):∀(n i:Nat)(m:List (Z×Bool))(a:List Z),l.length-i=n→i≤l.length→SN m a→zz059 (M.z2b l (i:Int) m) (znh (l.drop i) a):=by
 intro n;induction n with|zero=>
  intro i m a hn e c;rw[M.z2b,yac (by omega)];have:¬(i:Int)<(l.length:Int):=by omega
  simp only[this,decide_false,yl,if_false];exact⟨m,rfl,c⟩|succ n f=>
  intro i m a hn e c;have b:i<l.length:=by omega
  have d:(i:Int)<(l.length:Int):=by omega
  have g:=hf l[i] (by simp);rw[M.z2b,yab b];simp only[d,decide_true,if_true,z3u,yah b,ya,yb,zfk];rw[zdr (by omega),c];unfold znh;simp only[yb];have:=f (i+1) (z3p m l[i].z05 true) (l[i].z05::a) (by omega) (by omega) (c.put _);rw[w1 (by omega)];cases zss l[i].z05<;>cases isVal l[i].z2f<;>cases a.contains l[i].z05<;>first|exact this|rfl
theorem zlj{l:List q05}(hl:l.length<1000000000)(hf:zrs l):M.q1n l=some (zet l):=by
 unfold M.q1n zet;have f:SN (z3p (z3p ([]:List (Z×Bool)) zf8 true) z8k true) [z8k,zf8]:=by have d:SN [] []:=fun k=>rfl;exact(d.put zf8).put z8k
 have a:=zz01u hl hf _ 0 _ _ rfl (ybl _) f;rw[yaf]at a;simp only[ya,yb];have e:M.z2b l 0 (z3p (z3p ([]:List (Z×Bool)) (B23:Z) true) (B24:Z) true)=M.z2b l ((0:Nat):Int) (z3p (z3p ([]:List (Z×Bool)) zf8 true) z8k true):=rfl;rw[e];cases c:znh l [z8k,zf8]with|none=>rw[c]at a;have a:M.z2b l ((0:Nat):Int) _=some (.done false):=a;grind|some g=>rw[c]at a;obtain⟨m,a,b⟩:=a;rw[a];simp only[yb];have h:z6r m B47 false=g.contains zdp:=b _;grind
def fit(q:q03):Prop:=q.z0k.length<100000000∧q.z0o.length<100000000∧(∀p∈q.z0o,p.length<100000000)∧q.z1o.length<100000000∧zrs q.z1o∧q.z1r.length<100000000∧zrs q.z1r∧q.z0l.length<100000000
def zg9(l:List Z):Z:=l.flatMap fun p=>47::zv1 p
theorem pathS_nil:zg9 []=[]:=rfl
theorem zv3(p:Z)(r:List Z):zg9 (p::r)=47::zv1 p++zg9 r:=rfl
def zxc(p:q05):Z:=p.z05++[58,32]++p.z2f++[13,10]
def zpw(l:List q05):Z:=l.flatMap zxc
theorem headS_nil:zpw []=[]:=rfl
theorem zuj(p:q05)(r:List q05):zpw (p::r)=zxc p++zpw r:=rfl
def clS(n:Nat):Z:=[99,111,110,116,101,110,116,45,108,101,110,103,116,104,58,32]++Lib.decDigits n++[13,10]
def zbd(q:q03):Z:=q.z0k++[32]++zg9 q.z0o++(if z8d q.z1o=[]then[]else 63::z8d q.z1o)++[32,72,84,84,80,47,49,46,49,13,10]++zpw q.z1r++(if q.z0l=[]then[]else clS q.z0l.length)++[13,10]
def zza(q:q03):Bool:=decide ((form q.z1o).2=0)&&zds q.z0k&&decide (1≤q.z0o.length)&&decide (q.z0o.length≤64)&&zet q.z1r&&!(decide (q.z1r.length=32)&&!decide (q.z0l=[]))&&decide (q.z0l.length≤16384)
def zyv(q:q03):Z×Int:=if zza q=true then if 8192<(zbd q).length then([],224)else(zbd q++q.z0l,0)else([],224)
theorem zz02y{q:q03}(hl:q.z0o.length≤64)(g:∀p∈q.z0o,p.length<100000000):∀(n i:Nat)(a:Z),q.z0o.length-i=n→i≤q.z0o.length→a.length≤500000000+i*400000000→M.z3d q (i:Int) (unb a)=some (unb (a++zg9 (q.z0o.drop i)))∧(a++zg9 (q.z0o.drop i)).length≤500000000+q.z0o.length*400000000:=by
 intro n
 induction n with|zero=>
  intro i a hn f d;rw[M.z3d,yac (by omega)];have:¬(i:Int)<(q.z0o.length:Int):=by omega
  have e:i=q.z0o.length:=by omega
  simp_all[pathS_nil]|succ n j=>
  intro i a hn f d;have b:i<q.z0o.length:=by omega
  have c:(i:Int)<(q.z0o.length:Int):=by omega
  have l:=g q.z0o[i] (by simp);have k:=zic (bl:=[37,50,48]) (by simp) q.z0o[i];rw[M.z3d,yab b];simp only[c,decide_true,if_true,z3u,yah b,ya,yb];rw[zg1 (by omega)];simp only[yb];have h:(zv1 q.z0o[i]).length≤300000000:=by unfold zv1;omega
  rw[z1v (by simp;omega)];simp only[yb];rw[z1a (by simp;omega),w1 (by omega)];simp only[yb];have:=j (i+1) (a++([47]++zv1 q.z0o[i])) (by omega) (by omega) (by simp;omega);grind[zv3]
theorem zz02z{q:q03}(hl:q.z1r.length≤32)(g:zrs q.z1r):∀(n i:Nat)(a:Z),q.z1r.length-i=n→i≤q.z1r.length→a.length≤60000000000+i*400000000→M.z3e q (i:Int) (unb a)=some (unb (a++zpw (q.z1r.drop i)))∧(a++zpw (q.z1r.drop i)).length≤60000000000+q.z1r.length*400000000:=by
 intro n
 induction n with|zero=>
  intro i a hn f d;rw[M.z3e,yac (by omega)];have:¬(i:Int)<(q.z1r.length:Int):=by omega
  have e:i=q.z1r.length:=by omega
  simp_all[headS_nil]|succ n h=>
  intro i a hn f d;have b:i<q.z1r.length:=by omega
  have c:(i:Int)<(q.z1r.length:Int):=by omega
  have j:=g q.z1r[i] (by simp);rw[M.z3e,yab b];simp only[c,decide_true,if_true,z3u,yah b,ya,yb];rw[z1v (by simp;omega)];simp only[yb];rw[z1v (by simp;omega)];simp only[yb];rw[z1v (by simp;omega)];simp only[yb];rw[z1a (by simp;omega),w1 (by omega)];simp only[yb];have:=h (i+1) (a++zxc q.z1r[i]) (by omega) (by omega) (by unfold zxc;simp;omega);grind[zxc,zuj]
theorem z7g{n k:Nat}(h:n<10^k)(a:1≤k):(Lib.decDigits n).length≤k:=by induction k generalizing n with|zero=>omega|succ k b=>grind[Lib.decDigits]
def no(c:UInt8)(s:Z):Prop:=∀b∈s,¬b=c
theorem no.cons{c x:UInt8}{r:Z}(h:no c (x::r)):¬x=c∧no c r:=⟨h x (by simp),fun b a=>h b (by simp[a])⟩
theorem no.app{c:UInt8}{s t:Z}(h:no c s)(k:no c t):no c (s++t):=fun b a=>(yax.1 a).elim (h b) (k b)
theorem zwi{c:UInt8}:∀{s:Z},no c s→z2j c s=(s,[],false)|[],_=>rfl|x::r,h=>by obtain⟨a,h2⟩:=h.cons;rw[z5m,if_neg a,zwi h2]
theorem zh1{c:UInt8}(t:Z):∀{s:Z},no c s→z2j c (s++c::t)=(s,t,true)|[],_=>by rw[ya1,z5m,if_pos rfl]|x::r,h=>by obtain⟨a,h2⟩:=h.cons;rw[yx,z5m,if_neg a,zh1 t h2]
theorem zov{c:UInt8}:∀{s:Z},no c s→z0u c s=[s]|[],_=>rfl|x::r,h=>by obtain⟨a,h2⟩:=h.cons;unfold z0u;rw[if_neg a,zov h2]
theorem zbh{c:UInt8}(t:Z):∀{s:Z},no c s→z0u c (s++c::t)=s::z0u c t
 |[],_=>by
  conv=>lhs;rw[ya1];unfold z0u
  simp|x::r,h=>by
  obtain⟨a,h2⟩:=h.cons;rw[yx];conv=>lhs;unfold z0u
  rw[if_neg a,zbh t h2]
theorem zoy:∀{s:Z},no 13 s→z3x s=[s]|[],_=>by unfold z3x;rfl|x::r,h=>by obtain⟨a,h2⟩:=h.cons;unfold z3x;rw[if_neg fun q=>a q.1,zoy h2]
theorem zow(t:Z):∀{s:Z},no 13 s→z3x (s++13::10::t)=s::z3x t
 |[],_=>by
  rw[ya1];conv=>lhs;unfold z3x
  rfl|x::r,h=>by
  obtain⟨a,h2⟩:=h.cons;rw[yx];conv=>lhs;unfold z3x
  rw[if_neg fun q=>a q.1,zow t h2]
def z7c:List Z→Z|[]=>[]|a::l=>a++l.flatMap fun x=>13::10::x
theorem zke(a b:Z)(l:List Z):z7c (a::b::l)=a++13::10::z7c (b::l):=by simp[z7c]
theorem zfx:∀(l:List Z)(a:Z),no 13 a→(∀x∈l,no 13 x)→z3x (z7c (a::l))=a::l|[],a,h,_=>by grind[z7c,zoy]|b::l,a,h,k=>by rw[zke,zow _ h,zfx l b (k b (by simp)) fun x c=>k x (by simp[c])]
def target(q:q03):Z:=zg9 q.z0o++if z8d q.z1o=[]then[]else 63::z8d q.z1o
theorem zz02r{s:Z}{a d:Nat}{c:UInt8}(h:zb8 a d s=true)(g:c.toNat<a):no c s:=fun b f e=>by grind[zb8]
theorem zz011(s:Z):bare s=yy ([32]:Z).contains (yy ([32]:Z).contains s.reverse).reverse:=by rfl
theorem zl5:∀(n u:Nat),u≤n→z7w 0 (Lib.decDigits u)=u:=by
 intro n;induction n with|zero=>
  intro u a;have:u=0:=by omega
  subst this;rw[Lib.decDigits];rfl|succ n b=>
  intro u a;rw[Lib.decDigits];split;·rename_i h;rw[z8z,zgd,z6s];simp;omega
  ·rename_i h;rw[zsb,b (u/10) (by omega),z6s];simp;omega
theorem zht{n:Nat}(k:Nat)(a:1≤k)(h:n<10^k):isNum k (Lib.decDigits n)=true:=by obtain⟨b,c,d⟩:=z3n n n (ybb _);have hl:=z7g h a;unfold isNum;simp only[ye,yn,decide_eq_false_iff_not,decide_eq_true_eq,yq];grind[Lib.decDigits]
theorem zxl(n:Nat):isVal (Lib.decDigits n)=true:=by
 obtain⟨f,g,_⟩:=z3n n n (ybb _);unfold isVal zb8;rw[ye,decide_eq_true_iff,yv];refine⟨fun b c=>?_,?_⟩;·grind[zg4]
 ·have a:∀b∈Lib.decDigits n,([32]:Z).contains b=false:=fun b c=>by have:=zg4 (f b c);simp;intro e;simp_all
  have d:∀l:Z,(∀b∈l,([32]:Z).contains b=false)→l.dropWhile ([32]:Z).contains=l:=fun l hl=>by cases l with|nil=>rfl|cons x l=>simp_all
  rw[zz011,d (Lib.decDigits n).reverse fun b c=>a b (by grind),List.reverse_reverse,d _ a]
theorem zuu{s:Z}(h:isVal s=true):no 13 s:=by unfold isVal at h;simp only[ye]at h;grind[zz02r]
def bv(l:List Bool):Nat:=l.foldl (fun n b=>2*n+b.toNat) 0
theorem bv_go(l:List Bool):∀n,l.foldl (fun n b=>2*n+b.toNat) n=n*2^l.length+bv l:=by induction l with|nil=>intro n;simp[bv]|cons b l a=>
  intro n;unfold bv;rw[yag,yag,a,a (2*0+b.toNat),yap,ybi];have:(2*n+b.toNat)*2^l.length=n*(2^l.length*2)+b.toNat*2^l.length:=by rw[Nat.add_mul,ybe 2 n,Nat.mul_assoc,ybe 2 (2^l.length)]
  rw[this,Nat.mul_zero,ybk,Nat.add_assoc]
theorem zw9(a b:List Bool):bv (a++b)=bv a*2^b.length+bv b:=by
 conv=>lhs;unfold bv
 rw[List.foldl_append,bv_go];rfl
theorem zpg(x:Bool)(l:List Bool):bv (x::l)=x.toNat*2^l.length+bv l:=by have:=zw9 [x] l;rw[show bv [x]=x.toNat from by simp[bv]]at this;exact this
theorem bv_lt(l:List Bool):bv l<2^l.length:=by induction l with|nil=>simp[bv]|cons x l a=>rw[zpg,yap,ybi];cases x<;>simp<;>omega
def zkx:Nat→Nat→List Bool|0,_=>[]|k+1,n=>n.testBit k::zkx k n
theorem zap(n:Nat):∀k,(zkx k n).length=k|0=>rfl|k+1=>by rw[zkx,yap,zap n k]
theorem zwa(n:Nat):∀k,bv (zkx k n)=n%2^k|0=>by simp[zkx,bv,Nat.mod_one]|k+1=>by rw[zkx,zpg,zap,zwa n k,ybi,Nat.mod_mul,Nat.toNat_testBit,ybe,ya8]
def ltrs:Z:=[65,66,67,68,69,70,71,72,73,74,75,76,77,78,79,80,81,82,83,84,85,86,87,88,89,90,97,98,99,100,101,102,103,104,105,106,107,108,109,110,111,112,113,114,115,116,117,118,119,120,121,122,48,49,50,51,52,53,54,55,56,57,45,95]
def ltr(n:Nat):UInt8:=ltrs[n]?.getD 0
def unl(c:UInt8):Option Nat:=ltrs.findIdx? fun x=>decide (x=c)
theorem zz08d:∀c:UInt8,(match unl c with|some n=>decide (n<64)&&decide (ltr n=c)|none=>true)=true:=z6a (by decide+kernel)
theorem zz03k{c:UInt8}{n:Nat}(h:unl c=some n):n<64∧ltr n=c:=by have:=zz08d c;rw[h]at this;simpa using this
def pad6(l:List Bool):List Bool:=l++List.replicate (6-l.length) false
def enc6:Nat→List Bool→Z|0,_=>[]|n+1,l=>ltr (bv (pad6 (l.take 6)))::enc6 n (l.drop 6)
def dec8:Nat→List Bool→Z|0,_=>[]|n+1,l=>ybq (bv (l.take 8))::dec8 n (l.drop 8)
def unls:Z→Option (List Nat)|[]=>some []|c::s=>match unl c,unls s with|some n,some l=>some (n::l)|_,_=>none
def z9h(l:List Nat):List Bool:=l.flatMap (zkx 6)
theorem zjv(n:Nat)(l:List Nat):z9h (n::l)=zkx 6 n++z9h l:=rfl
theorem zgu:∀l:List Nat,(z9h l).length=6*l.length|[]=>rfl|c::s=>by rw[zjv,yao,zap,zgu s,yap];omega
def zz055(l:List Bool):Bool:=decide (l.length<6)&&l.all (!·)
def b64D(s:Z):Option Z:=match unls s with|none=>none|some l=>if zz055 ((z9h l).drop (8*(6*l.length/8)))=true then some (dec8 (6*l.length/8) (z9h l))else none
theorem zux{n:Nat}(h:n<256):(ybq n).toNat=n:=by rw[UInt8.toNat_ofNat'];exact ybd h
def I64(n:Int):Prop:=-9223372036854775808≤n∧n≤9223372036854775807
def q02.sz(f:q02):Nat:=f.z05.length+kys f.z3t+1
def zg2(l:List q02):Nat:=(l.map (·.sz)).sum
theorem zhl(f:q02)(l:List q02):zg2 (f::l)=f.sz+zg2 l:=by simp[zg2]
theorem zgh:∀l:List q02,l.length≤zg2 l|[]=>by simp|f::l=>by have:=zgh l;rw[zhl,yap];unfold q02.sz;omega
def q07.sz(t:q07):Nat:=t.gId.length+t.zh.length+t.zca.length+zg2 t.z0y+1
def zvl(l:List q07):Nat:=(l.map (·.sz)).sum
theorem zj3(f:q07)(l:List q07):zvl (f::l)=f.sz+zvl l:=by simp[zvl]
theorem zgo:∀l:List q07,l.length≤zvl l|[]=>by simp|f::l=>by have:=zgo l;rw[zj3,yap];unfold q07.sz;omega
def q01.sz(c:q01):Nat:=c.zff.length+c.zfh.length+c.zfe.length+c.z0e.length+c.zfg.length+c.z13.length+kys c.zj+kys c.z5j
def ClOk(c:q01):Prop:=c.sz≤8388608∧I64 c.zeq∧I64 c.zep∧I64 c.z03
def q06.sz(r:q06):Nat:=r.z09.length+r.z3r.length+r.z25.length+r.z18.length+r.gId.length+r.zq.length+kys r.zj+r.zk.sz+zvl r.zy
def RpOk(r:q06):Prop:=r.sz≤8388608∧(I64 r.z2m∧I64 r.z1i∧I64 r.z0d∧I64 r.z03∧I64 r.z1q)∧I64 r.zk.zeq∧I64 r.zk.zep∧I64 r.zk.z03
theorem ziv:∀{l:List Nat}{x:Nat},x∈l→x≤l.sum
 |a::l,x,h=>by
  rw[List.sum_cons];rcases yay.1 h with rfl|h;·omega
  ·have:=ziv h;omega
theorem zmo(v:J):q04.mk v.zh v.zq v.zg v.zn=v:=by cases v;rfl
def jT(s:Z):J:=⟨4,s,[],[]⟩
def jTs(l:List Z):J:=⟨5,[],l.map jT,[]⟩
def jFs(l:List q02):J:=⟨6,[],l.map fun f=>jTs f.z3t,l.map (·.z05)⟩
def jN(n:Int):J:=⟨3,Lib.itoa n,[],[]⟩
abbrev Mb:=Z×J
def obj(l:List Mb):J:=⟨6,[],l.map (·.2),l.map (·.1)⟩
def opt(b:Bool)(k:Z)(v:J):List Mb:=if b=true then[(k,v)]else[]
theorem zqn(b:Bool)(k:Z)(v:J):(opt b k v).length≤1:=by unfold opt;split<;>simp
theorem objects_eq:M.q1y=some ⟨obj []⟩:=rfl
theorem put_eq{l:List Mb}{b:Bool}{k:Z}{v:J}(h:l.length<1000000):M.q1q ⟨obj l⟩ b k v=some ⟨obj (l++opt b k v)⟩:=by unfold M.q1q;cases b with|false=>simp[opt]|true=>simp only[if_true,zmo,ya];have a:(obj l).zn=l.map (·.1):=rfl;have c:(obj l).zg=l.map (·.2):=rfl;rw[a,c,z15 (by simp;omega)];simp only[yb];rw[z15 (by simp;omega)];simp[opt,obj]
theorem zpc{n:Int}(h:I64 n):M.itoa n=some (Lib.itoa n):=by unfold M.itoa;rw[z3a (by unfold I64 at h;simp;omega)];rfl
theorem z7v{n:Int}(h:I64 n):M.q1g n=some (jN n):=by unfold M.q1g;rw[zpc h];rfl
theorem text_jT(s:Z):M.q2r s=some (jT s):=rfl
theorem zz03g{l:List Z}(hl:l.length<10000000):∀(n i:Nat)(a:List J),l.length-i=n→i≤l.length→a.length≤i→M.z0c l (i:Int) a=some (a++(l.drop i).map jT):=by intro n;induction n with
 |zero=>
  intro i a hn e d;rw[M.z0c,yac (by omega)];have:¬(i:Int)<(l.length:Int):=by omega
  simp[this]|succ n f=>
  intro i a hn e d;have b:i<l.length:=by omega
  have c:(i:Int)<(l.length:Int):=by omega
  rw[M.z0c,yab b];simp only[c,decide_true,if_true,z3u,yah b,ya,yb,text_jT,zmo];rw[z15 (by simp;omega),w1 (by omega)];simp only[yb];rw[f (i+1) _ (by omega) (by omega) (by simp;omega),yaw,yw];rfl
theorem zeb{l:List Z}(hl:l.length<10000000):M.q2s l=some (jTs l):=by unfold M.q2s;have h:M.z0c l 0 []=some ([]++(l.drop 0).map jT):=zz03g hl _ 0 [] rfl (ybl _) (by simp);rw[h];simp[jTs]
theorem zyl{l:List q02}(hl:zg2 l<10000000):∀(n i:Nat)(a:List J)(b:List Z),l.length-i=n→i≤l.length→a.length≤i→b.length≤i→M.z2p l (i:Int) a b=some (a++(l.drop i).map fun f=>jTs f.z3t,b++(l.drop i).map (·.z05)):=by
 have g:=zgh l;have d:∀f∈l,f.z3t.length<10000000:=fun f hf=>by
  have e:f.sz≤zg2 l:=by unfold zg2;exact ziv (yaz.2 ⟨f,hf,rfl⟩)
  have h2:=z38 f.z3t;unfold q02.sz at e;omega
 intro n;induction n with
 |zero=>
  intro i a b hn k h j;rw[M.z2p,yac (by omega)];have:¬(i:Int)<(l.length:Int):=by omega
  simp[this]|succ n m=>
  intro i a b hn k h j;have c:i<l.length:=by omega
  have e:(i:Int)<(l.length:Int):=by omega
  rw[M.z2p,yab c];simp only[e,decide_true,if_true,z3u,yah c,ya,yb];rw[z15 (by simp;omega),zeb (d _ (by simp))];simp only[yb,zmo];rw[z15 (by simp;omega),w1 (by omega)];simp only[yb];rw[m (i+1) _ _ (by omega) (by omega) (by simp;omega) (by simp;omega),yaw,yaw,yw,yw];rfl
theorem zuw{l:List q02}(hl:zg2 l<10000000):M.q1x l=some (jFs l):=by unfold M.q1x;have h:M.z2p l 0 [] []=some ([]++(l.drop 0).map fun f=>jTs f.z3t,[]++(l.drop 0).map (·.z05)):=zyl hl _ 0 [] [] rfl (ybl _) (by simp) (by simp);rw[h];simp[jFs]
def kIss:Z:=[105,115,115]
def kSub:Z:=[115,117,98]
def kAud:Z:=[97,117,100]
def kCid:Z:=[99,108,105,101,110,116,95,105,100]
def kJti:Z:=[106,116,105]
def zhz:Z:=[110,111,110,99,101]
def kIat:Z:=[105,97,116]
def kExp:Z:=[101,120,112]
def z6x:Z:=[108,101,118,101,108]
def z6l:Z:=[115,99,111,112,101]
def kAct:Z:=[97,99,116]
def zau(c:q01):List Mb:=[(kIss,jT c.zff),(kSub,jT c.zfh),(kAud,jT c.zfe),(kCid,jT c.z0e),(kJti,jT c.zfg),(zhz,jT c.z13),(kIat,jN c.zeq),(kExp,jN c.zep),(z6x,jN c.z03),(z6l,jTs c.zj),(kAct,jTs c.z5j)]
def zat(c:q01):Bool:=decide (c.zff=[])&&decide (c.zfh=[])&&decide (c.zfe=[])&&decide (c.z0e=[])&&decide (c.zfg=[])&&decide (c.z13=[])&&decide (c.zeq=0)&&decide (c.zep=0)&&decide (c.z03=0)&&decide (c.zj=[])&&decide (c.z5j=[])
def zf3:List q05→(q05→Bool)→List Mb|[],_=>[]|p::r,b=>opt (b p) p.z05 (jT p.z2f)++zf3 r b
theorem zz04v{ps:List q05}(b:q05→Bool){F:Int→Int→Z→List J→List Z→Option (Int×Z×List J×List Z)}(hl:ps.length<1000)(hF:∀(i:Nat)(h:i<ps.length)(l:List Mb),l.length≤1000+i→F (i:Int) 6 [] (obj l).zg (obj l).zn=F ((i+1:Nat):Int) 6 [] (obj (l++opt (b ps[i]) ps[i].z05 (jT ps[i].z2f))).zg (obj (l++opt (b ps[i]) ps[i].z05 (jT ps[i].z2f))).zn)(d:∀l:List Mb,F (ps.length:Int) 6 [] (obj l).zg (obj l).zn=some (6,[],(obj l).zg,(obj l).zn)):∀(n i:Nat)(l:List Mb),ps.length-i=n→i≤ps.length→l.length≤1000+i→F (i:Int) 6 [] (obj l).zg (obj l).zn=some (6,[],(obj (l++zf3 (ps.drop i) b)).zg,(obj (l++zf3 (ps.drop i) b)).zn):=by
 intro n;induction n with|zero=>
  intro i l hn e c;have:i=ps.length:=by omega
  subst this;rw[yad,d];simp[zf3]|succ n f=>
  intro i l hn e c;have a:i<ps.length:=by omega
  have:=zqn (b ps[i]) ps[i].z05 (jT ps[i].z2f);rw[hF i a l c,f (i+1) _ (by omega) (by omega) (by rw[yao];omega),yab a];simp only[zf3,yw]
theorem obj_mk(l:List Mb):q04.mk 6 [] (obj l).zg (obj l).zn=obj l:=rfl
theorem zhq{c:q01}(h:ClOk c):M.q1b c=some (obj (zau c),!zat c):=by
 obtain⟨g,d,h2,j⟩:=h;unfold q01.sz at g;have k1:=z38 c.zj;have n:=z38 c.z5j;unfold M.q1b;obtain⟨ps,a⟩:∃ps,ps=[q05.mk ([105,115,115]:Z) c.zff,q05.mk ([115,117,98]:Z) c.zfh,q05.mk ([97,117,100]:Z) c.zfe,q05.mk (B3:Z) c.z0e,q05.mk ([106,116,105]:Z) c.zfg,q05.mk (B22:Z) c.z13]:=⟨_,rfl⟩;have k:ps.length=6:=by rw[a];rfl
 have b:=zz04v (ps:=ps) (fun _=>true) (F:=M.z00 c) (by rw[a];simp) fun i f l hl=>by
  rw[M.z00,←a];have d:(i:Int)<(ps.length:Int):=by omega
  simp only[d,decide_true,if_true,z3u,yah f,ya,yb,text_jT,obj_mk];rw[put_eq (by omega),w1 (by rw[a]at f;simp at f;omega)];rfl fun l=>by rw[M.z00,←a];simp _ 0 [] rfl (ybl _) (by simp);have b:M.z00 c 0 (obj []).zh (obj []).zq (obj []).zg (obj []).zn=some (6,[],(obj ([]++zf3 (ps.drop 0) fun _=>true)).zg,(obj ([]++zf3 (ps.drop 0) fun _=>true)).zn):=b;rw[yaf,ya1]at b;have m:(zf3 ps fun _=>true).length=6:=by rw[a];rfl
 simp only[objects_eq,ya,yb,b,obj_mk,z7v d,z7v h2,z7v j];rw[put_eq (by omega)];simp only[yb];rw[put_eq (by simp[opt];omega)];simp only[yb];rw[put_eq (by simp[opt];omega),zeb (by omega)];simp only[yb];rw[put_eq (by simp[opt];omega),zeb (by omega)];simp only[yb];rw[put_eq (by simp[opt];omega)];simp only[yb];rw[z1v (by omega)];simp only[yb];rw[z1v (by simp;omega)];simp only[yb];rw[z1v (by simp;omega)];simp only[yb];rw[z1v (by simp;omega)];simp only[yb];rw[z1v (by simp;omega)];simp only[yb];congr 1;refine Prod.ext ?_ ?_;·rw[a];rfl
 ·unfold zat;simp only[List.append_eq_nil_iff,Bool.decide_and];have e:∀{α:Type}[DecidableEq α](l:List α),decide ((l.length:Int)=0)=decide (l=[]):=fun l=>decide_eq_decide.2 (by rw[←yar];omega);rw[e,e]
def zab:Z:=[101,114,114,111,114]
def z94:Z:=[103,114,97,110,116]
def z6p:Z:=[97,99,99,101,115,115,95,116,111,107,101,110]
def z5a:Z:=[114,101,102,114,101,115,104,95,116,111,107,101,110]
def zup:Z:=[105,100,95,116,111,107,101,110]
def zeu:Z:=[116,101,120,116]
def z5q:Z:=[101,120,112,105,114,101,115,95,105,110]
def zac:Z:=[116,111,116,97,108]
def z6q:Z:=[97,99,116,105,118,101]
def z4f:Z:=[99,108,97,105,109,115]
def z4g:Z:=[116,104,105,110,103,115]
def kId:Z:=[105,100]
def zlq:Z:=[107,105,110,100]
def kTag:Z:=[116,97,103]
def z2n:Z:=[102,105,101,108,100,115]
def zah(t:q07):List Mb:=[(kId,jT t.gId),(zlq,jT t.zh),(kTag,jT t.zca),(z2n,jFs t.z0y)]
def zq3:J:=⟨2,[],[],[]⟩
def jL(l:List J):J:=⟨5,[],l,[]⟩
def z6z(s:Z):Bool:=!decide (s=[])
def z6y(r:q06):List Mb:=opt (!decide (r.z1i=0)) zab (jN r.z1i)++opt (z6z r.z3r) z94 (jT r.z3r)++opt (z6z r.z25) z6p (jT r.z25)++opt (z6z r.z18) z5a (jT r.z18)++opt (z6z r.gId) zup (jT r.gId)++opt (z6z r.zq) zeu (jT r.zq)++opt (!decide (r.zj=[])) z6l (jTs r.zj)++opt (!decide (r.z0d=0)) z5q (jN r.z0d)++opt (!decide (r.z03=0)) z6x (jN r.z03)++opt (!decide (r.z1q=0)) zac (jN r.z1q)++opt r.z4d z6q zq3++opt (!zat r.zk) z4f (obj (zau r.zk))++opt (!decide (r.zy=[])) z4g (jL (r.zy.map fun t=>obj (zah t)))
theorem zmf{l:List q07}{t:q07}(h:t∈l):t.sz≤zvl l:=ziv (yaz.2 ⟨t,h,rfl⟩)
theorem zz05l{r:q06}(hl:zvl r.zy<10000000):∀(n i:Nat)(a:List J),r.zy.length-i=n→i≤r.zy.length→a.length≤i→M.z0j r (i:Int) a=some (a++(r.zy.drop i).map fun t=>obj (zah t)):=by have c:=zgo r.zy;intro n;induction n with
 |zero=>
  intro i a hn f e;rw[M.z0j,yac (by omega)];have:¬(i:Int)<(r.zy.length:Int):=by omega
  simp[this]|succ n h=>
  intro i a hn f e;have b:i<r.zy.length:=by omega
  have d:(i:Int)<(r.zy.length:Int):=by omega
  have g:=zmf (l:=r.zy) (t:=r.zy[i]) (by simp);have hf:zg2 r.zy[i].z0y<10000000:=by unfold q07.sz at g;omega
  rw[M.z0j,yab b];simp only[d,decide_true,if_true,z3u,yah b,ya,yb,objects_eq,text_jT,zuw hf];rw[put_eq (by simp)];simp only[yb];rw[put_eq (by simp[opt])];simp only[yb];rw[put_eq (by simp[opt])];simp only[yb];rw[put_eq (by simp[opt])];simp only[yb,zmo];rw[z15 (by simp;omega),w1 (by omega)];simp only[yb];rw[h (i+1) _ (by omega) (by omega) (by simp;omega),yaw,yw];rfl
theorem zni{r:q06}(h:RpOk r):M.q13 r=some (obj (z6y r)):=by
 obtain⟨B,⟨L,G,H,I,J⟩,K⟩:=h;unfold q06.sz at B;have k1:=z38 r.zj;have D:ClOk r.zk:=⟨by omega,K⟩;unfold M.q13;obtain⟨ps,b⟩:∃ps,ps=[q05.mk (B26:Z) r.z3r,q05.mk (B7:Z) r.z25,q05.mk (B2:Z) r.z18,q05.mk (B13:Z) r.gId,q05.mk (B34:Z) r.zq]:=⟨_,rfl⟩;have e:∀l:List Mb,l.length≤1000→M.z0i r 0 (obj l).zh (obj l).zq (obj l).zg (obj l).zn=some (6,[],(obj (l++zf3 ps fun p=>z6z p.z2f)).zg,(obj (l++zf3 ps fun p=>z6z p.z2f)).zn):=fun l hl=>by
  have e:=zz04v (ps:=ps) (fun p=>z6z p.z2f) (F:=M.z0i r) (by rw[b];simp) fun i c l hl=>by
   rw[M.z0i,←b];have C:(i:Int)<(ps.length:Int):=by omega
   simp only[C,decide_true,if_true,z3u,yah c,ya,yb,text_jT,obj_mk];rw[put_eq (by rw[b]at c;simp at c;omega),w1 (by rw[b]at c;simp at c;omega)];rfl fun l=>by rw[M.z0i,←b];simp _ 0 l rfl (ybl _) (by omega);rw[yaf]at e;exact e
 have d:M.z0j r 0 []=some ([]++(r.zy.drop 0).map fun t=>obj (zah t)):=zz05l (by omega) _ 0 [] rfl (ybl _) (by simp);rw[yaf,ya1]at d;have o:=zqn;have N:=o (!decide (r.z1i=0)) zab (jN r.z1i);have E:(zf3 ps fun p=>z6z p.z2f).length≤5:=by rw[b];simp only[B26,B7,B2,B13,B34,zf3,yao,yat];have f:=o (z6z r.z3r) z94 (jT r.z3r);have g:=o (z6z r.z25) z6p (jT r.z25);have j:=o (z6z r.z18) z5a (jT r.z18);have k:=o (z6z r.gId) zup (jT r.gId);have m:=o (z6z r.zq) zeu (jT r.zq);unfold z94 at f;unfold z6p at g;unfold z5a at j;unfold zup at k;unfold zeu at m;omega
 have O:=o (!decide (r.zj=[])) z6l (jTs r.zj);have P:=o (!decide (r.z0d=0)) z5q (jN r.z0d);have Q:=o (!decide (r.z03=0)) z6x (jN r.z03);have R:=o (!decide (r.z1q=0)) zac (jN r.z1q);have S:=o r.z4d z6q zq3;have T:=o (!zat r.zk) z4f (obj (zau r.zk));have z:∀{α:Type}[DecidableEq α](l:List α),decide (0<(l.length:Int))=!decide (l=[]):=fun l=>by cases l with|nil=>rfl|cons a l=>simp
 have c1:(B37:Z)=zab:=rfl;have n:(B10:Z)=z6l:=rfl;have q:(B14:Z)=z5q:=rfl;have s:(B19:Z)=z6x:=rfl;have u:(B41:Z)=zac:=rfl;have v:(B29:Z)=z6q:=rfl;have w:(B30:Z)=z4f:=rfl;have x:(B27:Z)=z4g:=rfl;have y:q04.mk 2 ([]:Z) [] []=zq3:=rfl;simp only[objects_eq,ya,yb,z7v G,z7v H,z7v I,z7v J,c1,n,q,s,u,v,w,x,y,zhq D,zeb (show r.zj.length<10000000 by omega),d,z];rw[put_eq (by simp)];simp only[yb,ya1];rw[e _ (by omega)];simp only[yb,obj_mk];rw[put_eq (by rw[yao];omega)];simp only[yb];rw[put_eq (by simp only[yao];omega)];simp only[yb];rw[put_eq (by simp only[yao];omega)];simp only[yb];rw[put_eq (by simp only[yao];omega)];simp only[yb];rw[put_eq (by simp only[yao];omega)];simp only[yb];rw[put_eq (by simp only[yao];omega)];simp only[yb];rw[put_eq (by simp only[yao];omega)];simp only[yb];congr 2;rw[b];unfold z6y;have A:∀l:List q07,decide (0<((l.map fun t=>obj (zah t)).length:Int))=!decide (l=[]):=fun l=>by cases l<;>simp
 rw[A];simp only[zf3,yw,List.append_nil];rfl
def badW(b:UInt8):Bool:=decide (b.toNat<33)||decide (126<b.toNat)||decide (b=34)||decide (b=92)
theorem zz010:∀b:UInt8,zp8 b.toNat=badW b:=z6a (by decide+kernel)
theorem zvn{n:Nat}(h:128≤n):zp8 n=true:=by grind[zp8]
theorem zz06f{s:Z}:∀(f pos:Nat),s.length≤pos+f→decide (0≤Lib.idxFuncFrom zp8 true ⟨s.toArray⟩ f pos)=(s.drop pos).any badW:=by
 have b:(⟨s.toArray⟩:ByteArray).size=s.length:=by simp[ByteArray.size]
 intro f;induction f with|zero=>grind[yac,Lib.idxFuncFrom]|succ f d=>
  intro pos h;unfold Lib.idxFuncFrom;rw[b];by_cases a:pos<s.length
  ·rw[if_pos a,yab a,List.any_cons];have e:Utf8.decode ⟨s.toArray⟩ pos=Lib.decodeL (s[pos]::s.drop (pos+1)):=by rw[←Lib.decodeL_drop,←yab a]
   rw[e];by_cases hl:s[pos].toNat<128;·rw[Lib.decodeL_ascii _ _ hl];simp only[zz010];grind
   ·have c:=decode_high s[pos] (s.drop (pos+1)) hl;rw[if_pos (zvn c)];grind[badW]
  simp_all[if_neg,yac]
theorem zxb(s:Z):M.z2e s=some (s.any badW):=by grind[M.z2e,Lib.idxFunc,zz06f,ByteArray.size]
def z9b(s:Z):Bool:=decide (s.length≤128)&&Lib.validD s
def zmg(s:Z):Bool:=!decide (s=[])&&decide (s.length≤32)&&!s.any badW
def zmc(n:Int):Bool:=decide (0≤n)&&decide (n≤1099511627776)
theorem zmd{s:Z}(h:s.length<1000000000):M.q7d s=some (z9b s):=by grind[M.q7d,z9b,z3q]
theorem zme(s:Z):M.q7f s=some (zmg s):=by grind[M.q7f,zmg,zxb]
def scp:Option Z→List Z→Bool|_,[]=>true|p,a::r=>zmg a&&(match p with|none=>true|some q=>slt q a)&&scp (some a) r
def okC(c:q01):Bool:=[c.zff,c.zfh,c.zfe,c.z0e,c.zfg,c.z13].all z9b&&c.z5j.all z9b&&zmc c.zeq&&zmc c.zep&&decide (0≤c.z03)&&decide (c.z03≤9)&&decide (c.zj.length≤16)&&decide (c.z5j.length≤4)&&!decide (([]:Z)∈c.z5j)&&scp none c.zj
def ze2(l:List Z)(i:Nat):Option Z:=if i=0 then none else l[i-1]?
theorem zzy{c:q01}(hl:c.zj.length<1000000000):∀(n i:Nat),c.zj.length-i=n→i≤c.zj.length→M.z04 c (i:Int)=some (if scp (ze2 c.zj i) (c.zj.drop i)=true then .go ()else .done 142):=by intro n;induction n with|zero=>grind[M.z04,yac,scp]|succ n j=>
  intro i hn k;have a:i<c.zj.length:=by omega
  have g:(i:Int)<(c.zj.length:Int):=by omega
  rw[M.z04,yab a];simp only[g,decide_true,if_true,z3u,yah a,ya,yb,zme];have b:ze2 c.zj (i+1)=some c.zj[i]:=by unfold ze2;rw[if_neg (by omega),ya9,yah a]
  unfold scp;rw[w1 (by omega),j (i+1) (by omega) (by omega),b];cases l:zmg c.zj[i]with|false=>simp|true=>
   by_cases f:i=0;·simp_all[ze2]
   ·have h:(0:Int)<(i:Int):=by omega
    have d:ybp .i64 ((i:Int)-1)=((i-1:Nat):Int):=by rw[w64 (by omega) (by omega)];omega
    have e:ze2 c.zj i=some c.zj[i-1]:=by unfold ze2;rw[if_neg f,yah (by omega)]
    rw[e];simp only[h,decide_true,if_true,yp,yl,if_false,d,z3u,yah (show i-1<c.zj.length by omega),yb,ys];cases slt c.zj[i-1] c.zj[i]<;>simp
theorem zjo{c:q01}(h:ClOk c):M.q7c c=some (if okC c=true then 0 else 142):=by
 obtain⟨o,_⟩:=h;unfold q01.sz at o;have k1:=z38 c.zj;have v:=z38 c.z5j;have u:∀s∈c.z5j,s.length<1000000000:=fun s a=>by have:=zi0 a;omega
 unfold M.q7c;rw[z15 (by simp;omega)];simp only[ya,yb];obtain⟨l,hl⟩:∃l,l=[c.zff,c.zfh,c.zfe,c.z0e,c.zfg,c.z13]++c.z5j:=⟨_,rfl⟩;have q:l.length=6+c.z5j.length:=by rw[hl,yao];rfl
 have d:∀s∈l,s.length<1000000000:=fun s a=>by grind
 rw[←hl];have p:M.z06 l 0=some (match l.findIdx? fun s=>!z9b s with|some i=>.done 142|none=>.go ()):=by
  refine seek (fun _=>(142:Int)) () (by omega) (fun i h=>?_) ?_
  ·rw[M.z06];have b:(i:Int)<(l.length:Int):=by omega
   simp only[b,decide_true,if_true,z3u,yah h,ya,yb,zmd (d _ (yaj h))]
  ·grind[M.z06]
 rw[p];have e:okC c=(l.all z9b&&(zmc c.zeq&&zmc c.zep&&decide (0≤c.z03)&&decide (c.z03≤9)&&decide (c.zj.length≤16)&&decide (c.z5j.length≤4)&&!decide (([]:Z)∈c.z5j))&&scp none c.zj):=by rw[hl,List.all_append];unfold okC;simp only[Bool.and_assoc]
 rw[e];rcases zsl l z9b with⟨b,h2⟩|⟨i,b,h2⟩
 ·rw[b,h2];simp only[yb,ys];have t:∀n:Int,M.q7e n=some (zmc n):=fun n=>rfl;have a:=zzy (c:=c) (by omega) _ 0 rfl (ybl _);have a:M.z04 c 0=_:=a;rw[a];have r:ze2 c.zj 0=none:=rfl;rw[r,yaf];simp only[t,yb,contains_eq (ks:=c.z5j) (k:=[]) (by omega)];have f:decide (c.z03<0)=!decide (0≤c.z03):=by rw[yj];simp
  have g:decide (9<c.z03)=!decide (c.z03≤9):=by rw[yj];simp
  have j:decide (16<(c.zj.length:Int))=!decide (c.zj.length≤16):=by rw[yj];simp;omega
  have m:decide (4<(c.z5j.length:Int))=!decide (c.z5j.length≤4):=by rw[yj];simp;omega
  rw[f,g,j,m];cases zmc c.zeq<;>cases zmc c.zep<;>cases decide (0≤c.z03)<;>cases decide (c.z03≤9)<;>cases decide (c.zj.length≤16)<;>cases decide (c.z5j.length≤4)<;>cases decide (([]:Z)∈c.z5j)<;>cases scp none c.zj<;>rfl
 grind
def zz00e:List (Int×Z):=[(200,[79,75]),(201,B74),(400,B56),(401,B48),(403,B60),(404,B65),(405,B40),(409,B71),(412,B35),(413,B43),(429,B44),(431,B18),(500,B28),(503,B38),(507,B31)]
def z63(n:Int):Z:=z6r zz00e n []
theorem z7n(n:Int):M.q30 n=some (z63 n):=by rfl
theorem z4c(n:Int)(h:¬z63 n=[]):(100≤n∧n<1000)∧(z63 n).length≤40∧∀b∈z63 n,32≤b.toNat∧b.toNat≤126:=by
 have key:∀l:List (Int×Z),(∀p∈l,(100≤p.1∧p.1<1000)∧p.2.length≤40∧∀b∈p.2,32≤b.toNat∧b.toNat≤126)→¬z6r l n []=[]→(100≤n∧n<1000)∧(z6r l n []).length≤40∧∀b∈z6r l n [],32≤b.toNat∧b.toNat≤126:=by intro l;induction l with|nil=>intro _ h;exact absurd rfl h|cons p l c=>
   intro hl h;obtain⟨k,v⟩:=p;unfold z6r at h⊢;by_cases e:n=k;·simp_all
   ·rw[if_neg e]at h⊢;exact c (fun p a=>hl p (by simp[a])) h
 exact key zz00e (by decide+kernel) h
theorem zll{n:Int}(h:I64 n):(Lib.itoa n).length≤20:=by
 unfold I64 at h;unfold Lib.itoa;split;·have:=z7g (n:=n.natAbs) (k:=19) (by omega) (by decide);grind
 ·have:=z7g (n:=n.toNat) (k:=19) (by omega) (by decide);omega
def hVer:Z:=[72,84,84,80,47,49,46,49,32]
def zui:Z:=[99,111,110,116,101,110,116,45,116,121,112,101,58,32,97,112,112,108,105,99,97,116,105,111,110,47,106,115,111,110]
def zes:Z:=[115,101,116,45,99,111,111,107,105,101,58,32,115,101,115,115,105,111,110,61]
def hPath:Z:=[59,32,80,97,116,104,61,47,59,32,72,116,116,112,79,110,108,121]
def zxa:Z:=[99,111,110,116,101,110,116,45,108,101,110,103,116,104,58,32]
def z2s(st:Int):Z:=hVer++Lib.itoa st++[32]++z63 st
def zcn(a:Z):Z:=zes++a++hPath
def zcv(n:Int):Z:=zxa++Lib.itoa n
def z9r(st:Int)(a:Z)(n:Int):Z:=z2s st++[13,10]++zui++[13,10]++(if a=[]then[]else zcn a++[13,10])++zcv n++[13,10]++[13,10]
theorem zvp(n:Int):(z63 n).length≤40:=by
 by_cases h:z63 n=[];·rw[h];simp
 simp_all[z4c]
theorem z8o{st:Int}{a:Z}{n:Int}(b:I64 st)(h2:a.length<1000000000)(c:I64 n):M.q1m st a n=some (z9r st a n):=by
 have e:=zll b;have l2:=zll c;have f:=zvp st;unfold M.q1m;rw[zpc b,zpc c,z7n];simp only[ya,yb];rw[z1v (by simp;omega)];simp only[yb];rw[z1v (by simp;omega)];simp only[yb];rw[z1v (by simp;omega)];simp only[yb];rw[z1v (by simp;omega)];simp only[yb];rw[z1v (by simp;omega)];simp only[yb];rw[z1v (by simp;omega)];simp only[yb];unfold z9r z2s zcn zcv hVer zui zes hPath zxa;by_cases d:a=[];·simp only[d,decide_true,yp,yl,if_false,if_true,yb];rw[z1v (by simp;omega)];simp only[yb];rw[z1v (by simp;omega)];simp only[yb];rw[z1v (by simp;omega)];simp only[yb];rw[z1v (by simp;omega)];simp
 ·simp only[d,decide_false,yo,if_true,if_false,yb];rw[z1v (by simp;omega)];simp only[yb];rw[z1v (by simp;omega)];simp only[yb];rw[z1v (by simp;omega)];simp only[yb];rw[z1v (by simp;omega)];simp only[yb];rw[z1v (by simp;omega)];simp only[yb];rw[z1v (by simp;omega)];simp only[yb];rw[z1v (by simp;omega)];simp only[yb];rw[z1v (by simp;omega)];simp
theorem zzx:∀l m:List J,szs (l++m)=szs l+szs m|[],m=>by simp[szs]|x::l,m=>by have:=zzx l m;grind[szs]
theorem zz06v(l m:List Z):kys (l++m)=kys l+kys m:=by simp[kys]
def msz(l:List Mb):Nat:=szs (l.map (·.2))+kys (l.map (·.1))
theorem zz07f(l m:List Mb):msz (l++m)=msz l+msz m:=by grind[msz,zzx,zz06v]
theorem zyk(l:List Mb):(obj l).sz=msz l+1:=by rfl
theorem z98(b:Bool)(k:Z)(v:J):msz (opt b k v)≤v.sz+k.length+2:=by grind[opt,msz,szs,kys]
theorem jT_sz(s:Z):(jT s).sz=s.length+1:=by rw[q04.zal];simp[jT,szs,kys]
theorem zq2{n:Int}(h:I64 n):(jN n).sz≤21:=by grind[q04.zal,zll,jN,szs,kys]
theorem zxu:∀l:List Z,szs (l.map jT)≤2*kys l|[]=>by simp[szs]|s::l=>by have:=zxu l;grind[szs,jT_sz,z6c]
theorem zsu(l:List Z):(jTs l).sz≤2*kys l+1:=by have:=zxu l;rw[q04.zal];simp[jTs];have e:kys []=0:=rfl;omega
theorem zxt:∀l:List q02,szs (l.map fun f=>jTs f.z3t)+kys (l.map (·.z05))≤3*zg2 l|[]=>by simp[szs,kys]|f::l=>by have a:=zxt l;grind[zsu,szs,z6c,zhl,q02.sz]
theorem zz0a9(l:List q02):(jFs l).sz≤3*zg2 l+1:=by simp[zxt,q04.zal,jFs]
theorem zp1:∀l:List q07,szs (l.map fun t=>obj (zah t))≤40*zvl l
 |[]=>by simp[szs]|t::l=>by
  have a:=zp1 l;have h2:=zz0a9 t.z0y;have b:msz (zah t)≤(jFs t.z0y).sz+t.gId.length+t.zh.length+t.zca.length+30:=by simp[zah,msz,szs,kys,jT_sz,kId,zlq,kTag,z2n];omega
  grind[szs,zyk,zj3,q07.sz]
theorem zwd{c:q01}(h:ClOk c):msz (zau c)≤2*c.sz+300:=by obtain⟨_,a,h2,b⟩:=h;have d:=zq2 a;have e:=zq2 h2;have f:=zq2 b;have g:=zsu c.zj;have i:=zsu c.z5j;unfold q01.sz;simp[zau,msz,szs,kys,jT_sz,kIss,kSub,kAud,kCid,kJti,zhz,kIat,kExp,z6x,z6l,kAct]at*;omega
theorem ztk{r:q06}(h:RpOk r):(obj (z6y r)).sz<1000000000:=by
 obtain⟨n,⟨K,o,p,q,s⟩,u⟩:=h;unfold q06.sz at n;have I:=zwd (c:=r.zk) ⟨by omega,u⟩;have J:=zp1 r.zy;have z:=zq2 o;have A:=zq2 p;have B:=zq2 q;have C:=zq2 s;have D:=zsu r.zj;have E:=z98 (!decide (r.z1i=0)) zab (jN r.z1i);have f:=z98 (z6z r.z3r) z94 (jT r.z3r);have g:=z98 (z6z r.z25) z6p (jT r.z25);have i:=z98 (z6z r.z18) z5a (jT r.z18);have j:=z98 (z6z r.gId) zup (jT r.gId);have k:=z98 (z6z r.zq) zeu (jT r.zq);have F:=z98 (!decide (r.zj=[])) z6l (jTs r.zj);have G:=z98 (!decide (r.z0d=0)) z5q (jN r.z0d);have H:=z98 (!decide (r.z03=0)) z6x (jN r.z03);have e:=z98 (!decide (r.z1q=0)) zac (jN r.z1q);have a:=z98 r.z4d z6q zq3;have b:=z98 (!zat r.zk) z4f (obj (zau r.zk));have d:=z98 (!decide (r.zy=[])) z4g (jL (r.zy.map fun t=>obj (zah t)));have l:zq3.sz=1:=by decide
 have m:(jL (r.zy.map fun t=>obj (zah t))).sz=szs (r.zy.map fun t=>obj (zah t))+1:=by rw[q04.zal];simp[jL,kys]
 rw[jT_sz]at f g i j k;rw[l]at a;rw[m]at d;rw[zyk]at b;have L:zab.length=5:=rfl;have l2:z94.length=5:=rfl;have M:z6p.length=12:=rfl;have N:z5a.length=13:=rfl;have l5:zup.length=8:=rfl;have O:zeu.length=4:=rfl;have P:z6l.length=5:=rfl;have Q:z5q.length=10:=rfl;have l9:z6x.length=5:=rfl;have v:zac.length=5:=rfl;have w:z6q.length=6:=rfl;have x:z4f.length=6:=rfl;have y:z4g.length=6:=rfl;grind[zyk,z6y,zz07f]
def sesB:Z:=[65,66,67,68,69,70,71,72,73,74,75,76,77,78,79,80,81,82,83,84,85,86,87,88,89,90,97,98,99,100,101,102,103,104,105,106,107,108,109,110,111,112,113,114,115,116,117,118,119,120,121,122,48,49,50,51,52,53,54,55,56,57,45,95]
def sesC(b:UInt8):Bool:=isAl b||decide (b=45)||decide (b=95)
theorem zz07x:∀b:UInt8,sesB.contains b=sesC b:=z6a (by decide+kernel)
def z6m(s:Z):Bool:=s.all sesC
theorem M_ses{s:Z}(h:s.length<1000000000):∃t,M.trim s sesB=some t∧decide (t=[])=z6m s:=by refine⟨_,zjq (by omega) (by decide),?_⟩;grind[zj2,z6m,zz07x]
def z4q(n:Int):Bool:=decide (0≤n)&&decide (n<1000000000000000)
def zm3(r:q06):Bool:=z4q r.z1i&&z4q r.z0d&&z4q r.z03&&z4q r.z1q&&decide ((print (obj (z6y r))).2=0)&&!decide (z63 r.z2m=[])&&z6m r.z09&&okC r.zk
def z86(r:q06):Z:=z9r r.z2m r.z09 ((print (obj (z6y r))).1.length:Int)
def zaf(r:q06):Z×Int:=if zm3 r=true then if 8192<(z86 r).length then([],224)else(z86 r++(print (obj (z6y r))).1,0)else([],224)
theorem zo8(v:J):(print v).1.length≤16384:=by grind[print]
theorem zz032{r:q06}:M.z02 r 0=some (if(z4q r.z1i&&z4q r.z0d&&z4q r.z03&&z4q r.z1q)=true then .go ()else .done ([],224)):=by
 have step:∀(i:Nat)(x:Int),i<4→[r.z1i,r.z0d,r.z03,r.z1q][i]?=some x→M.z02 r (i:Int)=if z4q x=true then M.z02 r ((i+1:Nat):Int)else some (.done ([],224)):=by
  intro i x j c;rw[M.z02];have b:(i:Int)<([r.z1i,r.z0d,r.z03,r.z1q].length:Int):=by simp;omega
  simp only[b,decide_true,if_true,z3u,c,ya,yb];rw[w1 (by omega)];unfold z4q;by_cases a:x<0;·grind
  ·grind
 have d:M.z02 r 0=_:=step 0 _ (by decide) rfl;have e:=step 1 _ (by decide) rfl;have f:=step 2 _ (by decide) rfl;have g:=step 3 _ (by decide) rfl;have h:M.z02 r ((3+1:Nat):Int)=some (.go ()):=by rw[M.z02];simp
 rw[d,e,f,g,h];cases z4q r.z1i<;>cases z4q r.z0d<;>cases z4q r.z03<;>cases z4q r.z1q<;>rfl
theorem zli{r:q06}{f:Nat}(hf:17≤f)(h:RpOk r):M.q0v f r=some (zaf r):=by have e:=h;obtain⟨g,⟨o,w,x,y,z⟩,p⟩:=h;have n:=ztk e;unfold q06.sz at g;have j:ClOk r.zk:=⟨by omega,p⟩;have m:=zo8 (obj (z6y r));unfold M.q0v zaf zm3;rw[zz032];cases hn:z4q r.z1i&&z4q r.z0d&&z4q r.z03&&z4q r.z1q with|false=>simp|true=>
  obtain⟨t,a,d⟩:=M_ses (s:=r.z09) (by omega);unfold sesB at a;have l:∀b:Bool,decide ((if b=true then(0:Int)else 142)=0)=b:=fun b=>by simp
  simp only[if_true,ya,yb,zni e,zdv hf (show Small (obj (z6y r))from by grind[Small]),z7n,a,zjo j,ys];rw[z8o o (by omega) (by grind[I64])];have c:z9r r.z2m r.z09 ((print (obj (z6y r))).1.length:Int)=z86 r:=rfl;rw[c];cases v:decide ((print (obj (z6y r))).2=0)with|false=>simp|true=>cases u:decide (z63 r.z2m=[])with|true=>simp|false=>rw[d];cases q:z6m r.z09 with|false=>simp|true=>simp only[yp,yo,yl,if_false,yb,l,ys];cases k:okC r.zk with|false=>simp|true=>
      simp only[yp,yl,if_false,yb,if_true];by_cases i:8192<(z86 r).length
      ·have:(8192:Int)<((z86 r).length:Int):=by omega
       simp_all
      ·have:¬(8192:Int)<((z86 r).length:Int):=by omega
       simp only[this,decide_false,yl,if_false,i];grind[z1v]
def zgp(v:J)(k:Z):Z:=if(z56 v k).1.zh=4 then(z56 v k).1.zq else[]
def numM(v:J)(k:Z):Int:=(intOf (z56 v k).1).1
def tsM(v:J)(k:Z):List Z:=(z8a (z56 v k).1).1
def zl7:List J→List Z→Option (List q02)|[],_=>some []|x::xs,ks=>if(z8a x).2=true then(zl7 xs ks.tail).map (⟨ks.head?.getD [],(z8a x).1⟩::·)else none
def zad(v:J):List q02×Bool:=if v.zh=6 then match zl7 v.zg v.zn with|some l=>(l,true)|none=>([],false)else([],false)
def zek(v:J):q01:=⟨zgp v kIss,zgp v kSub,zgp v kAud,zgp v kCid,zgp v kJti,zgp v zhz,numM v kIat,numM v kExp,numM v z6x,tsM v z6l,tsM v kAct⟩
def ziz(v:J):q07:=⟨zgp v kId,zgp v zlq,zgp v kTag,(zad (z56 v z2n).1).1⟩
def z30(st:Int)(a:Z)(v:J):q06:=⟨st,numM v zab,a,zgp v z94,zgp v z6p,zgp v z5a,zgp v zup,zgp v zeu,tsM v z6l,numM v z5q,numM v z6x,numM v zac,decide ((z56 v z6q).1.zh=2),zek (z56 v z4f).1,(z56 v z4g).1.zg.map ziz⟩
def SzJ(v:J):Prop:=v.sz≤131072
theorem SzJ.parts{v:J}(h:SzJ v):v.zq.length≤131072∧v.zg.length≤131072∧v.zn.length≤131072:=by grind[SzJ,q04.zal,ziw,z38]
theorem SzJ.z56{v:J}(h:SzJ v)(k:Z):SzJ (z56 v k).1:=ybc (zew v k) h
theorem SzJ.mem{v x:J}(h:SzJ v)(a:x∈v.zg):SzJ x:=by have:=zix a;grind[SzJ,q04.zal]
theorem zt7(w:Nat):zam zuv w=0:=by rfl
def Chk(v:J):Prop:=∃w,zam v w=0
theorem Chk.mem{v x:J}(h:Chk v)(a:x∈v.zg):Chk x:=by obtain⟨w,h⟩:=h;exact⟨w+1,zgc (zbm h).2.2 x a⟩
theorem zut(v:J)(k:Z):(z56 v k).1=zuv∨(z56 v k).1∈v.zg:=by unfold z56;grind
theorem Chk.z56{v:J}(h:Chk v)(k:Z):Chk (z56 v k).1:=by
 rcases zut v k with e|e;·rw[e];exact⟨0,zt7 0⟩
 ·exact h.mem e
theorem Chk.keys{v:J}(h:Chk v):v.zh=6→v.zn.length=v.zg.length:=by obtain⟨w,h⟩:=h;exact(zlb (zbm h).2.1).1
theorem get_eq{v:J}(h:SzJ v)(k:Z):M.q25 ⟨v⟩ k=some ⟨(z56 v k).1⟩:=by unfold M.q25;rw[z8p (show v.zn.length<1000000000 by have:=h.parts;omega)];rfl
theorem z4v{v:J}(h:SzJ v)(k:Z):M.q28 ⟨v⟩ k=some (zgp v k):=by grind[M.q28,get_eq,zgp]
theorem zd1{v:J}(h:SzJ v)(k:Z):M.q26 ⟨v⟩ k=some (numM v k):=by unfold M.q26;rw[get_eq h k];simp only[ya,yb];rw[zq5 (by have:=(h.z56 k).parts;omega)];rfl
theorem zim{v:J}(h:SzJ v)(k:Z):M.q2a ⟨v⟩ k=some (tsM v k):=by unfold M.q2a;rw[get_eq h k];simp only[ya,yb];rw[z9v (by have:=(h.z56 k).parts;omega)];rfl
theorem zz064{v:J}(h:SzJ v)(e:v.zh=6)(m:v.zn.length=v.zg.length):∀(n i:Nat)(a:List q02),v.zg.length-i=n→i≤v.zg.length→a.length≤i→M.z3f v a (i:Int)=some (match zl7 (v.zg.drop i) (v.zn.drop i)with|some l=>.go (a++l)|none=>.done ([],false)):=by have o:=h.parts;intro n;induction n with|zero=>grind[M.z3f,yac,zl7]|succ n g=>
  intro i a hn k j;have c:i<v.zg.length:=by omega
  have b:i<v.zn.length:=by omega
  have d:(i:Int)<(v.zg.length:Int):=by omega
  have f:SzJ v.zg[i]:=h.mem (yaj c);rw[M.z3f,yab c,yab b];simp only[d,decide_true,if_true,z3u,yah c,yah b,ya,yb,e];rw[z9v (by have:=f.parts;omega)];simp only[yb];unfold zl7;cases p:(z8a v.zg[i]).2 with|false=>simp|true=>simp only[yp,yr,yl,if_false,if_true,List.tail_cons,yal,Option.getD_some];rw[z15 (by simp;omega),w1 (by omega)];simp only[yb];rw[g (i+1) _ (by omega) (by omega) (by simp;omega)];grind
theorem zsw{v:J}(h:SzJ v)(c:v.zh=6→v.zn.length=v.zg.length):M.q1p v=some (zad v):=by
 unfold M.q1p zad;by_cases a:v.zh=6;·have f:=zz064 h a (c a) _ 0 [] rfl (ybl _) (by simp);grind
 ·rw[if_neg a,M.z3f];cases hl:v.zg with|nil=>simp[a]|cons x l=>
   have d:SzJ x:=h.mem (by rw[hl];simp);have b:(0:Int)<((x::l).length:Int):=by simp
   have e:ix (x::l) 0=some x:=by simp[zuo]
   simp only[b,decide_true,if_true,e,ya,yb];rw[z9v (by have:=d.parts;omega)];simp[a]
theorem zz01w{v:J}(h:SzJ v)(m:Chk v):∀(n i:Nat)(a:List q07),v.zg.length-i=n→i≤v.zg.length→a.length≤i→M.z0b ⟨v⟩ (i:Int) a=some (a++(v.zg.drop i).map ziz):=by have r:=h.parts;intro n;induction n with|zero=>grind[M.z0b,yac]|succ n o=>
  intro i a hn q p;have b:i<v.zg.length:=by omega
  have l:(i:Int)<(v.zg.length:Int):=by omega
  have c:SzJ v.zg[i]:=h.mem (yaj b);have d:Chk v.zg[i]:=m.mem (yaj b);rw[M.z0b,yab b];simp only[l,decide_true,if_true,z3u,yah b,ya,yb];have g:=get_eq c z2n;unfold z2n at g;rw[g];simp only[yb];have e:=zsw (c.z56 z2n) (d.z56 z2n).keys;unfold z2n at e;rw[e];have f:=z4v c kId;have j:=z4v c zlq;have k:=z4v c kTag;unfold kId at f;unfold zlq at j;unfold kTag at k;simp only[yb,f,j,k];rw[z15 (by simp;omega),w1 (by omega)];simp only[yb];rw[o (i+1) _ (by omega) (by omega) (by simp;omega),yaw,yw];rfl
theorem zz01v{v:J}(h:SzJ v)(P:Chk v):M.q1o ⟨v⟩=some (z30 0 [] v):=by have r:M.z0b ⟨(z56 v z4g).1⟩ 0 []=some ([]++((z56 v z4g).1.zg.drop 0).map ziz):=zz01w (h.z56 z4g) (P.z56 z4g) _ 0 [] rfl (ybl _) (by simp);rw[yaf,ya1]at r;have a:=h.z56 z4f;have Q:=zd1 h zab;have R:=zd1 h z5q;have S:=zd1 h z6x;have T:=zd1 h zac;have V:=z4v h z94;have W:=z4v h z6p;have X:=z4v h z5a;have Y:=z4v h zup;have t5:=z4v h zeu;have U:=zim h z6l;have L:=get_eq h z6q;have N:=get_eq h z4f;have O:=get_eq h z4g;have c1:=z4v a kIss;have s:=z4v a kSub;have t:=z4v a kAud;have u:=z4v a kCid;have w:=z4v a kJti;have x:=z4v a zhz;have y:=zd1 a kIat;have z:=zd1 a kExp;have A:=zd1 a z6x;have b:=zim a z6l;have c:=zim a kAct;unfold M.q1o;have B:(B37:Z)=zab:=rfl;have C:(B26:Z)=z94:=rfl;have D:(B7:Z)=z6p:=rfl;have E:(B2:Z)=z5a:=rfl;have F:(B13:Z)=zup:=rfl;have G:(B34:Z)=zeu:=rfl;have H:(B10:Z)=z6l:=rfl;have I:(B14:Z)=z5q:=rfl;have K:(B19:Z)=z6x:=rfl;have d:(B41:Z)=zac:=rfl;have e:(B29:Z)=z6q:=rfl;have f:(B30:Z)=z4f:=rfl;have g:(B27:Z)=z4g:=rfl;have i:([105,115,115]:Z)=kIss:=rfl;have j:([115,117,98]:Z)=kSub:=rfl;have k:([97,117,100]:Z)=kAud:=rfl;have l:(B3:Z)=kCid:=rfl;have m:([106,116,105]:Z)=kJti:=rfl;have n:(B22:Z)=zhz:=rfl;have o:([105,97,116]:Z)=kIat:=rfl;have p:([101,120,112]:Z)=kExp:=rfl;have q:([97,99,116]:Z)=kAct:=rfl;simp only[B,C,D,E,F,G,H,I,K,d,e,f,g,i,j,k,l,m,n,o,p,q,ya,yb,Q,R,S,T,V,W,X,Y,t5,U,L,N,O,c1,s,t,u,w,x,y,z,A,b,c,r];rfl
theorem z5d{v:J}(k:Z):(zgp v k).length≤v.sz:=by grind[zew,zgp,q04.zal]
theorem zp0:∀{l:List J}{r:List Z},texts l=some r→kys r≤szs l
 |[],r,h=>by grind[texts,kys]|x::l,r,h=>by
  unfold texts at h;split at h;·obtain⟨b,a,rfl⟩:=yc.1 h;have:=zp0 a;grind[z6c,szs,q04.zal]
  ·cases h
theorem ziy(v:J):kys (z8a v).1≤v.sz:=by
 rw[q04.zal];unfold z8a;split
 ·split;·rename_i l h;have:=zp0 h;grind
  ·simp[kys]
 ·simp[kys]
theorem zz003(v:J)(k:Z):kys (tsM v k)≤v.sz:=ybc (ziy _) (zew v k)
theorem zx1:∀{l:List J}{ks:List Z}{r:List q02},zl7 l ks=some r→zg2 r≤szs l+kys ks
 |[],ks,r,h=>by grind[zl7,zg2]|x::l,ks,r,h=>by
  unfold zl7 at h;split at h;·obtain⟨c,a,rfl⟩:=yc.1 h;have h2:=zx1 a;have b:=ziy x;rw[zhl,szs];unfold q02.sz;simp only;cases ks with|nil=>grind|cons k ks=>grind[z6c]
  ·cases h
theorem zy6(v:J):zg2 (zad v).1≤v.sz:=by
 rw[q04.zal];unfold zad;split
 ·split;·rename_i l h;have:=zx1 h;grind
  ·simp[zg2]
 ·simp[zg2]
theorem zks:∀l:List J,zvl (l.map ziz)≤4*szs l|[]=>by simp[zvl]|x::l=>by have a:=zks l;have h2:=z5d (v:=x) kId;have b:=z5d (v:=x) zlq;have c:=z5d (v:=x) kTag;have d:=ybc (zy6 (z56 x z2n).1) (zew x z2n);have e:(ziz x).sz=(zgp x kId).length+(zgp x zlq).length+(zgp x kTag).length+zg2 (zad (z56 x z2n).1).1+1:=rfl;grind[zj3,szs]
theorem z81(v:J):I64 (intOf v).1:=by
 unfold intOf I64;split;·rename_i h;have a:=h.2;unfold canon at a;simp only[ye,decide_eq_true_eq]at a;obtain⟨⟨⟨_,b⟩,h2⟩,_⟩:=a;have hd:∀c∈mag v.zq,isD c=true:=yv.1 b;have:=zel (mag v.zq) 0 0 hd (by decide);rw[ybk]at this;grind[pow15,way]
 ·simp
theorem zu6(v:J):(zek v).sz≤8*v.sz:=by have a:=z5d (v:=v) kIss;have h2:=z5d (v:=v) kSub;have b:=z5d (v:=v) kAud;have c:=z5d (v:=v) kCid;grind[z5d,zz003,q01.sz,zek]
theorem zle{v:J}(h:SzJ v){st:Int}{a:Z}(b:I64 st)(k:a.length≤1000000):RpOk (z30 st a v):=by unfold SzJ at h;refine⟨?_,⟨b,z81 _,z81 _,z81 _,z81 _⟩,z81 _,z81 _,z81 _⟩;have c:=z5d (v:=v) z94;have h2:=z5d (v:=v) z6p;have d:=z5d (v:=v) z5a;have e:=z5d (v:=v) zup;have f:=z5d (v:=v) zeu;have g:=zz003 v z6l;have i:=zu6 (z56 v z4f).1;have j:=zew v z4f;grind[zks,zew,q04.zal,q06.sz,z30]
def zR:q06:=⟨0,0,[],[],[],[],[],[],[],0,0,0,false,⟨[],[],[],[],[],[],0,0,0,[],[]⟩,[]⟩
def zri(p s:Z):Z:=if p.isPrefixOf s then s.drop p.length else s
def zko(l:List Z)(i:Nat):Z:=l[i]?.getD []
def ze8(l:List Z):Z:=((zko l 0).take 12).drop 9
def zak(l:List Z):Int:=((z7w 0 (ze8 l):Nat):Int)
def z8m(l:List Z):Z:=if l.length=4 then(z2j 59 (zri zes (zko l 2))).1 else[]
def zji(l:List Z):Z:=zri zxa (zko l (l.length-1))
def z95(l:List Z):Nat:=z7w 0 (zji l)
def zxf(s:Z)(n:Nat)(st:Int)(a:Z)(k:Nat):q06×Nat×Int:=if s.length<n+k then(zR,0,223)else if(parse ((s.drop n).take k)).2=0∧zaf (z30 st a (parse ((s.drop n).take k)).1)=(s.take (n+k),0)then(z30 st a (parse ((s.drop n).take k)).1,n+k,0)else(zR,0,220)
def zk9(l:List Z)(h:Z):Bool:=decide (3≤l.length)&&decide (12<(zko l 0).length)&&isNum 3 (ze8 l)&&!decide (z63 (zak l)=[])&&z6m (z8m l)&&isNum 5 (zji l)&&decide (z95 l≤16384)&&decide (z9r (zak l) (z8m l) (z95 l:Int)=h)
def zxg(s:Z)(n:Nat)(l:List Z):q06×Nat×Int:=if zk9 l (s.take n)=true then zxf s n (zak l) (z8m l) (z95 l)else(zR,0,220)
def zdo(s:Z):q06×Nat×Int:=if z3m s=0 then(zR,0,if s.length<8192 then 223 else 220)else zxg s (z3m s) (z3x (s.take (z3m s-4)))
theorem zs7(c:UInt8)(s:Z):(z2j c s).1.length≤s.length:=by have:=(z8f c s).1;omega
theorem zj1(p s:Z):(zri p s).length≤s.length:=by unfold zri;grind
theorem zdq{s:Z}{f:Nat}(hf:34≤f)(h:s.length<1000000000):M.q0t f s=some ((zdo s).1,(((zdo s).2.1:Nat):Int),(zdo s).2.2):=by
 unfold M.q0t zdo;rw[zhr h];simp only[ya,yb];by_cases E:z3m s=0;·rw[if_pos E,E];grind[zv,zo,zR]
 ·rw[if_neg E];have hp:(0:Int)<((z3m s:Nat):Int):=by omega
  have h4:=zz042 (s:=s) (by omega);have a0:=zh5 s;simp only[hp,decide_true,yt,zv,yb];have ew:ybp .i64 (((z3m s:Nat):Int)-4)=((z3m s-4:Nat):Int):=by rw[w64 (by omega) (by omega)];omega
  rw[ew,ze9 (by omega)];simp only[yb];have a2:(s.take (z3m s-4)).length≤8192:=by rw[yav];omega
  rw[zrv (by omega)];obtain⟨H,I⟩:=zkp _ (s.take (z3m s-4)) (ybb _);obtain⟨l,hl⟩:∃l,z3x (s.take (z3m s-4))=l:=⟨_,rfl⟩;rw[hl]at H I⊢;simp only[yb];have d:∀i,i<l.length→ix l (i:Int)=some (zko l i):=fun i G=>by grind[z3u,zko]
  have p:∀i,(zko l i).length≤8192:=fun i=>by grind[zko]
  unfold zxg zk9;by_cases c1:3≤l.length
  ·have w:(3:Int)≤(l.length:Int):=by omega
   have r0:ix l 0=some (zko l 0):=d 0 (by omega);simp only[w,c1,decide_true,if_true,r0,yb,ys];by_cases T:12<(zko l 0).length
   ·have z:(12:Int)<((zko l 0).length:Int):=by omega
    have hs:sub (zko l 0) 9 12=some (ze8 l):=by have:=zbj (l:=zko l 0) (a:=9) (b:=12) (by omega) (by omega);simpa[ze8]using this
    simp only[z,T,decide_true,zv,yb,hs,ys];have J:(ze8 l).length≤3:=by unfold ze8;rw[yaq,yav];omega
    obtain⟨st,N,n2⟩:=z6t (s:=ze8 l) 3 (by decide) (by omega);have N:M.q1w (ze8 l) 3=some (st,isNum 3 (ze8 l)):=N;rw[N];simp only[yb];cases P:isNum 3 (ze8 l)with|false=>rfl|true=>have C:st=zak l:=n2 P;subst C;simp only[if_true,z7n,yb,ys];cases c4:decide (z63 (zak l)=[])with|true=>rfl|false=>
      simp only[yo,zv,yb,ys];have F:(if decide ((l.length:Int)=4)=true then(ix l 2).bind fun O=>(M.q7b O B6).bind fun u=>(M.cut u [59]).bind fun v=>some v.1 else some ([]:Z))=some (z8m l):=by
       unfold z8m;by_cases X:l.length=4
       ·have B:(l.length:Int)=4:=by omega
        have r2:ix l 2=some (zko l 2):=d 2 (by omega);have j:M.q7b (zko l 2) B6=some (zri zes (zko l 2)):=za6 _ _;have:=zj1 zes (zko l 2);have:=p 2;simp only[B,X,decide_true,if_true,r2,yb,j];grind[ztu]
       ·grind
      rw[F];simp only[yb];have Q:(z8m l).length≤8192:=by
       unfold z8m;split;·grind[zs7,zj1]
       ·simp
      obtain⟨t,r,K⟩:=M_ses (s:=z8m l) (by omega);unfold sesB at r;rw[r];simp only[yb,K];cases c5:z6m (z8m l)with|false=>rfl|true=>
       simp only[zv,yb,ys];have Y:ybp .i64 ((l.length:Int)-1)=((l.length-1:Nat):Int):=by rw[w64 (by omega) (by omega)];omega
       rw[Y,d _ (by omega)];simp only[yb];have j:M.q7b (zko l (l.length-1)) B5=some (zji l):=za6 _ _;rw[j];simp only[yb];have a1:(zji l).length≤8192:=ybc (zj1 _ _) (p _);obtain⟨m,L,m2⟩:=z6t (s:=zji l) 5 (by decide) (by omega);have L:M.q1w (zji l) 5=some (m,isNum 5 (zji l)):=L;rw[L];simp only[yb];cases U:isNum 5 (zji l)with|false=>rfl|true=>
        have em:m=((z95 l:Nat):Int):=m2 U;subst em;simp only[if_true,ys];by_cases V:z95 l≤16384
        ·have A:((z95 l:Nat):Int)≤16384:=by omega
         have R:z7w 0 (ze8 l)<1000:=by have:=zhu P (by decide);have h2:=this.2.1;have:10^(ze8 l).length≤10^3:=ybh (by decide) J;omega
         have G:I64 (zak l):=by unfold I64 zak;omega
         simp only[A,V,decide_true,if_true,ys];rw[ze9 (by omega),z8o G (by omega) (by grind[I64])];simp only[yb];cases c8:decide (z9r (zak l) (z8m l) ((z95 l:Nat):Int)=s.take (z3m s))with|false=>rfl|true=>
          simp only[zv,yb,if_true];have D:ybp .i64 ((s.length:Int)-((z3m s:Nat):Int))=((s.length-z3m s:Nat):Int):=by rw[w64 (by omega) (by omega)];omega
          rw[D];unfold zxf;by_cases W:s.length<z3m s+z95 l
          ·have:¬((z95 l:Nat):Int)≤((s.length-z3m s:Nat):Int):=by omega
           grind[zo,zR]
          ·have:((z95 l:Nat):Int)≤((s.length-z3m s:Nat):Int):=by omega
           simp only[this,decide_true,zv,yb,W,if_false];rw[wadd (by omega),zbj (by omega) (by omega)];simp only[yb];have et:(s.take (z3m s+z95 l)).drop (z3m s)=(s.drop (z3m s)).take (z95 l):=by rw[yae,Nat.add_sub_cancel_left]
           rw[et,z9u _ hf];simp only[yb];obtain⟨b,hb⟩:∃b,(s.drop (z3m s)).take (z95 l)=b:=⟨_,rfl⟩;rw[hb];by_cases y:(parse b).2=0
           ·have n:Chk (parse b).1:=by
             rcases zcy b with⟨x,e,S⟩|⟨c,e,S⟩;·rw[e];exact⟨0,S⟩
             ·simp_all
            have q:SzJ (parse b).1:=zgk b;simp only[y,decide_true,zv,yb,zz01v q n,true_and];have o:q06.mk (zak l) (z30 0 [] (parse b).1).z1i (z8m l) (z30 0 [] (parse b).1).z3r (z30 0 [] (parse b).1).z25 (z30 0 [] (parse b).1).z18 (z30 0 [] (parse b).1).gId (z30 0 [] (parse b).1).zq (z30 0 [] (parse b).1).zj (z30 0 [] (parse b).1).z0d (z30 0 [] (parse b).1).z03 (z30 0 [] (parse b).1).z1q (z30 0 [] (parse b).1).z4d (z30 0 [] (parse b).1).zk (z30 0 [] (parse b).1).zy=z30 (zak l) (z8m l) (parse b).1:=rfl;rw[o,zli (by omega) (zle q G (by omega))];simp only[yb];by_cases g:(zaf (z30 (zak l) (z8m l) (parse b).1)).2=0
            ·simp only[g,decide_true,if_true];rw[ze9 (by omega)];simp only[yb];by_cases k:(zaf (z30 (zak l) (z8m l) (parse b).1)).1=s.take (z3m s+z95 l);·have:zaf (z30 (zak l) (z8m l) (parse b).1)=(s.take (z3m s+z95 l),0):=Prod.ext k g;simp_all[zv]
             ·have:¬zaf (z30 (zak l) (z8m l) (parse b).1)=(s.take (z3m s+z95 l),0):=fun e=>k (by rw[e]);grind[zo,zR]
            ·have:¬zaf (z30 (zak l) (z8m l) (parse b).1)=(s.take (z3m s+z95 l),0):=fun e=>g (by rw[e]);grind[zo,zR]
           grind[zo,zR]
        grind[zo,zR]
   grind[zo,zR]
  grind[zo,zR]
inductive Pt where|fx(n v:Z)|st(n:Z)(t:Nat×Nat×Z)(w:Bool)|cn(n:Z)(c:Bool)
structure Rw where
 kd:Int
 me:Z
 sg:List Z
 mr:Nat
 wh:Nat
 ps:List Pt
def fUser:Nat×Nat×Z:=(2,F.q2w,[85,115,101,114])
def zwx:Nat×Nat×Z:=(3,F.q24,[80,97,115,115])
def fCode:Nat×Nat×Z:=(5,F.q1d,[67,111,100,101])
def zhb:Nat×Nat×Z:=(6,F.q2t,[84,111,107,101,110])
def zwv:Nat×Nat×Z:=(7,F.q0y,[65,99,116,111,114])
def z9o:Nat×Nat×Z:=(8,F.q1c,[67,108,105,101,110,116])
def zay:Nat×Nat×Z:=(9,F.q2p,[83,101,99,114,101,116])
def zdl:Nat×Nat×Z:=(10,F.q2b,[82,101,100,105,114,101,99,116])
def zk4:Nat×Nat×Z:=(11,F.q2o,[83,99,111,112,101])
def zdk:Nat×Nat×Z:=(12,F.q0z,[65,117,100,105,101,110,99,101])
def zem:Nat×Nat×Z:=(13,F.q1a,[67,104,97,108,108,101,110,103,101])
def zhc:Nat×Nat×Z:=(14,F.q2y,[86,101,114,105,102,105,101,114])
def zww:Nat×Nat×Z:=(15,F.q1v,[78,111,110,99,101])
def fName:Nat×Nat×Z:=(16,F.q1u,[78,97,109,101])
def fData:Nat×Nat×Z:=(17,F.q1f,[68,97,116,97])
def fBody:Nat×Nat×Z:=(18,F.q12,[66,111,100,121])
def fSig:Nat×Nat×Z:=(19,F.q2q,[83,105,103])
def zps:Nat×Nat×Z:=(21,F.q1j,[70,105,108,116,101,114])
def zhe:List (Nat×Nat×Z):=[fUser,zwx,fCode,zhb,zwv,z9o,zay,zdl,zk4,zdk,zem,zhc,zww,fName,fData,fBody,fSig,zps]
def tab:List Rw:=[⟨1,B12,[B61],0,1,[.st B77 fUser false,.st B68 zwx false]⟩,⟨2,B12,[B61,B52],1,1,[.st B52 fCode false]⟩,⟨3,B12,[B61,[107,101,121]],1,1,[.st [107,101,121] fName false,.st B79 fData true,.st [99,108,105,101,110,116] fBody true,.st [115,105,103] fSig true]⟩,⟨4,B12,[[101,110,114,111,108],B52],1,1,[]⟩,⟨5,B12,[[101,110,114,111,108],[107,101,121]],1,1,[.st B79 fData true]⟩,⟨6,B12,[[99,104,97,108,108,101,110,103,101]],1,1,[]⟩,⟨7,B12,[[108,111,103,111,117,116]],1,1,[]⟩,⟨8,B12,[[102,111,114,103,111,116]],0,1,[.st B77 fUser false]⟩,⟨9,B12,[[114,101,115,101,116]],0,1,[.st B36 zhb false,.st B68 zwx false]⟩,⟨10,[71,69,84],[[97,117,116,104,111,114,105,122,101]],1,2,[.fx B62 B52,.st B3 z9o false,.st B45 zdl false,.st B10 zk4 false,.fx B46 [83,50,53,54],.st B59 zem false,.st B22 zww false]⟩,⟨11,B12,[B36],0,1,[.fx B42 B49,.st B3 z9o false,.st B17 zay false,.st B52 fCode false,.st B45 zdl false,.st B64 zhc false]⟩,⟨12,B12,[B36],0,1,[.fx B42 B50,.st B3 z9o false,.st B17 zay false,.st B10 zk4 false,.st B55 zdk false]⟩,⟨13,B12,[B36],0,1,[.fx B42 B2,.st B3 z9o false,.st B17 zay false,.st B2 zhb false,.st B10 zk4 false]⟩,⟨14,B12,[B36],0,1,[.fx B42 B16,.st B3 z9o false,.st B17 zay false,.st B66 zhb false,.st B73 zwv false,.st B10 zk4 false,.st B55 zdk false]⟩,⟨15,B12,[[114,101,118,111,107,101]],0,1,[.st B3 z9o false,.st B17 zay false,.st B36 zhb false]⟩,⟨16,B12,[[105,110,116,114,111,115,112,101,99,116]],0,1,[.st B3 z9o false,.st B17 zay false,.st B36 zhb false]⟩,⟨17,[71,69,84],[[117,115,101,114,105,110,102,111]],2,0,[]⟩,⟨18,[71,69,84],[[107,101,121,115]],0,0,[]⟩,⟨19,[71,69,84],[B75,[79,70]],2,2,[.st [102,105,108,116,101,114] zps false,.cn B76 false,.cn B67 true]⟩,⟨20,[71,69,84],[B75,[79,70],B72],2,0,[]⟩,⟨21,B12,[B75,[79,70]],2,3,[]⟩,⟨22,[80,65,84,67,72],[B75,[79,70],B72],6,4,[]⟩,⟨23,[68,69,76,69,84,69],[B75,[79,70],B72],6,0,[]⟩,⟨24,B12,[[97,100,109,105,110],[112,97,115,115,119,111,114,100]],2,1,[.st [110,97,109,101] fName false,.st B68 zwx false]⟩,⟨25,B12,[[97,100,109,105,110],[116,117,114,110]],2,1,[]⟩]
def segN:Z:=[78,65,77,69]
def segO:Z:=[79,70]
def Pt.nm:Pt→Z|.fx n _=>n|.st n _ _=>n|.cn n _=>n
def Pt.toH:Pt→q0b|.fx n v=>⟨n,NF,v,false⟩|.st n t w=>⟨n,t.2.1,[],w⟩|.cn n _=>⟨n,NF,segN.take 1,false⟩
def segS(l:List Z):Z:=l.flatMap fun s=>47::s
def Rw.toH(r:Rw):q0a:=⟨r.kd,r.me,segS r.sg,(r.mr:Int),(r.wh:Int),r.ps.map Pt.toH⟩
theorem znl:M.q2j=some (tab.map Rw.toH):=by kernel_rfl
def zk5:List Z→List Z→Z→Z→Option (Z×Z)|[],[],o,n=>some (o,n)|w::b,s::a,o,n=>if w=segO then if s=[]then none else zk5 b a s n else if w=segN then zk5 b a o s else if w=s then zk5 b a o n else none|_,_,_,_=>none
def A0(k:Int)(o n:Z):q00:=⟨k,o,[],[],[],[],[],[],[],[],[],[],[],[],[],[],n,[],[],[],[],[],[],[],0,0⟩
def zA:q00:=A0 0 [] []
def z8r:Z:=[99,111,111,107,105,101]
def kSes:Z:=[115,101,115,115,105,111,110]
def zg5:Z:=[97,117,116,104,111,114,105,122,97,116,105,111,110]
def zxv:Z:=[66,101,97,114,101,114,32]
def kIf:Z:=[105,102,45,109,97,116,99,104]
def zmz:List Z→Z|[]=>[]|x::l=>if(z2j 61 (bare x)).2.2=true∧(z2j 61 (bare x)).1=kSes then(z2j 61 (bare x)).2.1 else zmz l
def zmy(l:List q05):Z:=zmz (z0u 59 (z7b l z8r []))
def sesP(m:Nat)(l:List q05):Option Z:=if m.testBit 0=true then if z6m (zmy l)=true then some (zmy l)else none else some []
def tokP(m:Nat)(l:List q05):Option Z:=if m.testBit 1=true∧zld l zg5=true then if zxv.isPrefixOf (z7b l zg5 [])=true∧zb8 33 126 ((z7b l zg5 []).drop 7)=true then some ((z7b l zg5 []).drop 7)else none else some []
def tagOk(s:Z):Bool:=zb8 33 126 s&&!s.contains 34
def unq(s:Z):Z:=(s.take (s.length-1)).drop 1
def quoted(s:Z):Bool:=decide (2≤s.length)&&decide (s.head?=some 34)&&decide (s.getLast?=some 34)
def tagP(m:Nat)(l:List q05):Option Z:=if m.testBit 2=true∧zld l kIf=true then if quoted (z7b l kIf [])=true∧tagOk (unq (z7b l kIf []))=true then some (unq (z7b l kIf []))else none else some []
def zxd(m:Nat)(l:List q05)(k:Int)(o n:Z):Option q00:=match sesP m l,tokP m l,tagP m l with|some s,some t,some g=>some ⟨k,o,[],[],s,[],t,[],[],[],[],[],[],[],[],[],n,[],[],[],g,[],[],[],0,0⟩|_,_,_=>none
def zch(ps:List Pt)(k:Z):Bool:=ps.any fun p=>decide (p.nm=k)
def zqp(ps:List Pt)(l:List q05):Bool:=l.all fun p=>decide (zml l p.z05=1)&&zch ps p.z05
def setS(a:q00)(c:Nat)(v:Z):q00:=(a.setAt c v).getD a
def setC(a:q00)(c:Bool)(n:Int):q00:=if c=true then{a with z4s:=n}else{a with z7j:=n}
def putP(l:List q05)(a:q00):Pt→Option q00|.fx n v=>if zld l n=true∧z7b l n []=v then some a else none|.st n t w=>if w=true then(b64D (z7b l n [])).map (setS a t.1)else some (setS a t.1 (z7b l n []))|.cn n c=>if z7b l n []=[]then some a else if isNum 9 (z7b l n [])=true then some (setC a c ((z7w 0 (z7b l n []):Nat):Int))else none
def putL(l:List q05):List Pt→q00→Option q00|[],a=>some a|p::ps,a=>(putP l a p).bind (putL l ps)
def formR(ps:List Pt)(l:List q05)(a:q00):Option q00:=if zqp ps l=true then putL l ps a else none
def jsonA(s:Z)(a:q00):Option q00:=if(parse s).2=0∧(parse s).1.zg.length=2∧(z56 (parse s).1 kId).2=true∧(z56 (parse s).1 z2n).2=true∧(z56 (parse s).1 kId).1.zh=4∧(zad (z56 (parse s).1 z2n).1).2=true then some {a with z05:=(z56 (parse s).1 kId).1.zq,z0y:=(zad (z56 (parse s).1 z2n).1).1}else none
def bodyA(r:Rw)(q:q03)(a:q00):Option q00:=match r.wh with|0=>if q.z0l=[]then some a else none|1=>if(z2y q.z0l).2=0 then formR r.ps (z2y q.z0l).1 a else none|2=>if q.z0l=[]then formR r.ps q.z1o a else none|3=>jsonA q.z0l a|_=>some {a with z4w:=q.z0l}
def askR(r:Rw)(q:q03)(o n:Z):Option q00:=match zxd r.mr q.z1r r.kd o n with|none=>none|some a=>if r.wh=2∨q.z1o=[]then bodyA r q a else none
def askL(q:q03):List Rw→Int→q00×Int|[],e=>(zA,e)|r::rs,e=>match zk5 r.sg q.z0o [] []with|none=>askL q rs e|some on=>if r.me=q.z0k then match askR r q on.1 on.2 with|some a=>(a,0)|none=>askL q rs 227 else askL q rs (if e=225 then 226 else e)
def askH(q:q03):q00×Int:=askL q tab 225
def Pt.okB:Pt→Bool|.fx _ v=>!decide (v=[78])|.st _ t _=>zhe.contains t|.cn n c=>decide ((n=B67)=(c=true))
def cns:List Pt→List Bool|[]=>[]|.cn _ c::l=>c::cns l|_::l=>cns l
def Rw.okB(r:Rw):Bool:=decide (z0u 47 ((segS r.sg).drop 1)=r.sg)&&decide (1≤(segS r.sg).length)&&decide ((segS r.sg).length<1000)&&decide (r.sg.length<100)&&decide (r.mr<8)&&decide (r.wh<5)&&decide (r.ps.length<100)&&r.ps.all Pt.okB&&decide (cns r.ps).Nodup&&(segS r.sg).all fun b=>decide (b.toNat<128)
theorem zz0bg:tab.all Rw.okB=true:=by decide+kernel
structure RwOk(r:Rw):Prop where
 cut:z0u 47 ((segS r.sg).drop 1)=r.sg
 one:1≤(segS r.sg).length
 len:(segS r.sg).length<1000
 sgl:r.sg.length<100
 mkl:r.mr<8
 whl:r.wh<5
 psl:r.ps.length<100
 ps:∀p∈r.ps,p.okB=true
 cns:(cns r.ps).Nodup
theorem Rw.ok_of{r:Rw}(h:r.okB=true):RwOk r:=by unfold Rw.okB at h;simp only[ye,decide_eq_true_eq,yv]at h;obtain⟨⟨⟨⟨⟨⟨⟨⟨⟨a,h2⟩,b⟩,c⟩,d⟩,e⟩,f⟩,g⟩,i⟩,_⟩:=h;exact⟨a,h2,b,c,d,e,f,g,i⟩
theorem zz087{r:Rw}(h:r∈tab):RwOk r:=Rw.ok_of (yv.1 zz0bg r h)
theorem zd9(x:Nat):BitVec.ofInt 64 (x:Int)=BitVec.ofNat 64 x:=by apply BitVec.eq_of_toNat_eq;rw[BitVec.toNat_ofInt,BitVec.toNat_ofNat];omega
theorem zz080{x k:Nat}(h:k≤60):zir .i64 (x:Int) (k:Int)=((x/2^k:Nat):Int):=by
 unfold zir;have a:min (k:Int).toNat (ybn .i64)=k:=by have:ybn .i64=64:=rfl;rw[this];omega
 rw[a,Int.natCast_ediv,ybm];exact Int.fdiv_eq_ediv_of_nonneg _ (by exact_mod_cast ybl (2^k))
theorem zzq{x k:Nat}(h:k≤60)(b:x*2^k<4611686018427387904):z7r .i64 (x:Int) (k:Int)=((x*2^k:Nat):Int):=by
 unfold z7r;have a:min (k:Int).toNat (ybn .i64)=k:=by have:ybn .i64=64:=rfl;rw[this];omega
 rw[a];have:(x:Int)*2^k=((x*2^k:Nat):Int):=by rw[Int.natCast_mul,ybm];rfl
 rw[this,w64 (by omega) (by omega)]
theorem zz0ar{a b i:Nat}(e:i≤60)(d:b<2^i)(h:a*2^i+b<4611686018427387904):orI .i64 (z7r .i64 (a:Int) (i:Int)) (b:Int)=((a*2^i+b:Nat):Int):=by rw[zzq e (by omega)];unfold orI;have c:ybn .i64=64:=rfl;rw[c,zd9,zd9,BitVec.toNat_or,BitVec.toNat_ofNat,BitVec.toNat_ofNat,ybd (by omega),ybd (by omega),ybe a,←Nat.two_pow_add_eq_or_of_lt d,ybe _ a,w64 (by omega) (by omega)]
theorem zz05g{x k:Nat}(b:k≤60)(e:x<4611686018427387904):z9d .i64 (x:Int) ((2^k-1:Nat):Int)=((x%2^k:Nat):Int):=by unfold z9d;have a:ybn .i64=64:=rfl;have d:2^k≤2^60:=ybh (by decide) b;have c:x%2^k≤x:=Nat.mod_le ..;rw[a,zd9,zd9,BitVec.toNat_and,BitVec.toNat_ofNat,BitVec.toNat_ofNat,ybd (by omega),ybd (by omega),Nat.and_two_pow_sub_one_eq_mod,w64 (by omega) (by omega)]
theorem zz02j{k:Nat}(a:k≤60):ybp .i64 (z7r .i64 1 (k:Int)-1)=((2^k-1:Nat):Int):=by have c:2^k≤2^60:=ybh (by decide) a;have b:1≤2^k:=Nat.one_le_two_pow;have:=zzq (x:=1) a (by omega);rw[Nat.one_mul]at this;have this:z7r .i64 1 (k:Int)=((2^k:Nat):Int):=this;rw[this,w64 (by omega) (by omega)];omega
theorem zz00f{n:Nat}(h:n<256):ybp .u8 (n:Int)=((ybq n).toNat:Int):=by rw[zux h];exact of_decide_eq_true ((by decide+kernel:∀i:Fin 256,decide (ybp .u8 ((i.val:Nat):Int)=((i.val:Nat):Int))=true) ⟨n,h⟩)
theorem zz05o(l:List Bool)(k:Nat)(h:k≤l.length):bv l/2^(l.length-k)=bv (l.take k)∧bv l%2^(l.length-k)=bv (l.drop k):=by
 have e:=zw9 (l.take k) (l.drop k);have hl:=bv_lt (l.drop k);rw[ya4,yaq]at e;rw[yaq]at hl;have a:0<2^(l.length-k):=ybj _;rw[e];constructor;·rw[ya8,Nat.add_mul_div_right _ _ a,Nat.div_eq_of_lt hl,ybk]
 ·rw[ya8,Nat.add_mul_mod_self_right,ybd hl]
theorem zs1{l:List Bool}{k:Nat}(h:l.length≤k):bv l<2^k:=Nat.lt_of_lt_of_le (bv_lt l) (ybh (by decide) h)
def ixL(c:UInt8):Int:=Lib.idxFunc (fun r=>decide ((r:Int)%256=(c.toNat:Int))) true ⟨ltrs.toArray⟩
theorem zxp:∀c:UInt8,(match unl c with|some n=>decide (ixL c=(n:Int))|none=>decide (ixL c<0))=true:=z6a (by decide+kernel)
theorem M_ixL(c:UInt8):M.z16 ltrs (c.toNat:Int)=some (ixL c):=by unfold M.z16 ixL;rfl
theorem zz027{c:UInt8}{n:Nat}(h:unl c=some n):ixL c=(n:Int):=by have:=zxp c;rw[h]at this;simpa using this
theorem zz026{c:UInt8}(h:unl c=none):ixL c<0:=by have:=zxp c;rw[h]at this;simpa using this
theorem zz02h:(B1:Z)=ltrs:=rfl
theorem zz005(c:UInt8)(s:Z):unls (c::s)=match unl c,unls s with|some n,some l=>some (n::l)|_,_=>none:=rfl
theorem drop_cons{α:Type}{s t:List α}{c:α}{i:Nat}(h:s.drop i=c::t):i<s.length∧s[i]?=some c∧s.drop (i+1)=t:=by
 have a:i<s.length:=by have:=congrArg List.length h;rw[yaq,yap]at this;omega
 rw[yab a]at h;injection h with b h2;exact⟨a,by rw[yah a,b],h2⟩
theorem zwl{B:List Bool}(h:8≤B.length):dec8 (B.length/8) B=ybq (bv (B.take 8))::dec8 ((B.drop 8).length/8) (B.drop 8)∧B.drop (8*(B.length/8))=(B.drop 8).drop (8*((B.drop 8).length/8))∧B.length%8=(B.drop 8).length%8:=by
 have hl:(B.drop 8).length=B.length-8:=yaq ..;obtain⟨n,hn⟩:∃n,B.length/8=n+1:=⟨B.length/8-1,by omega⟩;have a:(B.drop 8).length/8=n:=by omega
 rw[hn,a,dec8,yaa];refine⟨rfl,?_,by omega⟩;congr 1;omega
theorem zz060{s:Z}(T:s.length<100000000):∀(t:Z)(i:Nat)(acc:Z)(p:List Bool),s.drop i=t→i≤s.length→acc.length≤i→p.length<8→M.z0w s (unb acc) ((bv p:Nat):Int) ((p.length:Nat):Int) (i:Int)=some (match unls t with|none=>.done ([],11)|some l=>.go (unb (acc++dec8 ((p++z9h l).length/8) (p++z9h l)),((bv ((p++z9h l).drop (8*((p++z9h l).length/8))):Nat):Int),(((p++z9h l).length%8:Nat):Int))):=by
 intro t;induction t with|nil=>
  intro i acc p h H F K;have I:s.length≤i:=List.drop_eq_nil_iff.1 h;have:¬(i:Int)<((unb s).length:Int):=by rw[z0s];omega
  rw[M.z0w.eq_1];simp only[this,decide_false,yl,if_false];have y:p.length/8=0:=by omega
  have z:p.length%8=p.length:=by omega
  simp[unls,z9h,y,z,dec8]|cons c t u=>
  intro i acc p h H F K;obtain⟨J,G,hd⟩:=drop_cons h;have C:(i:Int)<((unb s).length:Int):=by rw[z0s];omega
  rw[M.z0w.eq_1,zz02h];simp only[C,decide_true,if_true,z3u,zj5,G,yd,ya,yb,M_ixL];rw[zz005];cases j:unl c with|none=>have:=zz026 j;simp[this]|some n=>
   have hn:=(zz03k j).1;have R:=zz027 j;have o:¬(n:Int)<0:=by omega
   rw[R];simp only[o,decide_false,yl,if_false];obtain⟨P,d⟩:∃P,p++zkx 6 n=P:=⟨_,rfl⟩;have D:P.length=p.length+6:=by rw[←d,yao,zap]
   have e:bv P=bv p*2^6+n:=by rw[←d,zw9,zap,zwa,ybd (show n<2^6 by omega)]
   have L:=zs1 (l:=p) (k:=8) (by omega);have ho:orI .i64 (z7r .i64 ((bv p:Nat):Int) 6) (n:Int)=((bv P:Nat):Int):=by rw[e];exact zz0ar (i:=6) (by decide) (by omega) (by omega)
   have Q:ybp .i64 (((p.length:Nat):Int)+6)=((P.length:Nat):Int):=by rw[w64 (by omega) (by omega)];omega
   have q:∀l:List Nat,p++z9h (n::l)=P++z9h l:=fun l=>by rw[zjv,←yw,d]
   rw[ho,Q,w1 (by omega)];by_cases b:8≤P.length
   ·have a:(8:Int)≤((P.length:Nat):Int):=by omega
    have m:ybp .i64 (((P.length:Nat):Int)-8)=((P.length-8:Nat):Int):=by rw[w64 (by omega) (by omega)];omega
    have g:(0:Int)≤((P.length-8:Nat):Int):=by omega
    obtain⟨N,O⟩:=zz05o P 8 b;have r:=bv_lt (P.take 8);rw[yav,Nat.min_eq_left b]at r;have E:=zs1 (l:=P) (k:=14) (by omega);simp only[a,decide_true,if_true,m,g];rw[z3a rfl];simp only[yb];rw[zz080 (by omega),N,zz00f r,zrk,z15 (by rw[z0s];simp[unb];omega),←z29];simp only[yb];rw[zz02j (by omega),zz05g (by omega) (by omega),O];have f:(P.drop 8).length=P.length-8:=yaq ..;rw[←f,u (i+1) _ (P.drop 8) hd (by omega) (by simp;omega) (by omega)];cases unls t with|none=>rfl|some l=>obtain⟨v,w,x⟩:=zwl (B:=P++z9h l) (by rw[yao];omega);have A:(P++z9h l).drop 8=P.drop 8++z9h l:=yz b;have S:(P++z9h l).take 8=P.take 8:=List.take_append_of_le_length b;simp only[q];rw[v,w,x,A,S,yw];rfl
   ·have a:¬(8:Int)≤((P.length:Nat):Int):=by omega
    simp only[a,decide_false,yl,if_false];rw[u (i+1) acc P hd (by omega) (by omega) (by omega)];cases unls t with|none=>rfl|some l=>simp only[q]
theorem zwb:∀l:List Bool,bv l=0↔l.all (!·)=true
 |[]=>by simp[bv]|x::l=>by
  have:=zwb l;rw[zpg,yu];have a:0<2^l.length:=ybj _;cases x;·simpa using this
  ·simp
theorem zco{s:Z}(i:s.length<100000000):M.q0j s=some (match b64D s with|some t=>(t,0)|none=>([],11)):=by unfold M.q0j b64D;rw[z3a (by simp;omega)];simp only[ya,yb];have h:=zz060 i s 0 [] [] rfl (ybl _) (ybb _) (by decide);have h:M.z0w s [] 0 0 0=_:=h;rw[h];cases unls s with|none=>rfl|some l=>
  simp only[ya1,yb];rw[zgu];have b:((z9h l).drop (8*(6*l.length/8))).length=6*l.length%8:=by rw[yaq,zgu];omega
  unfold zz055;rw[b];obtain⟨r,g⟩:∃r,(z9h l).drop (8*(6*l.length/8))=r:=⟨_,rfl⟩;have f:=zwb r;rw[g];clear b;generalize 6*l.length%8=k;by_cases d:k<6
  ·have a:¬(6:Int)≤(k:Int):=by omega
   by_cases c:bv r=0;·simp[d,a,c,f.1 c,zei]
   ·have e:¬((bv r:Nat):Int)=0:=by omega
    have:r.all (!·)=false:=yi.2 fun q=>c (f.2 q);simp[d,a,c,e,this]
  ·have a:(6:Int)≤(k:Int):=by omega
   simp[d,a]
theorem zdc{s:Z}(h:s.length<100000000):M.q0k s=some (z2y s):=by
 by_cases a:s.length<1000000;·exact z8w a
 ·unfold M.q0k z2y;rw[zeg 38 (by omega)];have:(decide (8192<(s.length:Int))||decide (64<((z0u 38 s).length:Int)))=true:=by rw[yq,decide_eq_true_iff];exact .inl (by omega)
  rw[if_pos (show 8192<s.length∨64<(z0u 38 s).length from .inl (by omega))];simp only[ya,yb,this,if_true]
theorem zrg(x:Z):(z2j 61 (swp x)).1.length≤x.length∧(z2j 61 (swp x)).2.1.length≤x.length:=by have:=(z8f 61 (swp x)).1;rw[zrh]at this;omega
theorem zo5{B:Nat}:∀(l:List Z)(a:List q05),(∀x∈l,x.length≤B)→(∀p∈a,p.z05.length≤B∧p.z2f.length≤B)→∀p∈(zg8 l a).1,p.z05.length≤B∧p.z2f.length≤B
 |[],a,_,c=>c|x::l,a,hl,c=>by
  unfold zg8;split;·intro p b;cases b
  ·split
   ·rename_i y z e h2;have d:=hl x (by simp);have f:=zrg x;have g:=zhj _ _ _ (ybb _) e;have l2:=zhj _ _ _ (ybb _) h2;refine zo5 l _ (fun x d=>hl x (by simp[d])) fun p b=>?_;rcases yax.1 b with b|b;·exact c p b
    ·rw[ya0]at b;subst b;exact⟨by simp only;omega,by simp only;omega⟩
   ·intro p b;cases b
theorem zna(s:Z):zrs (z2y s).1∧(z2y s).1.length≤64:=by
 refine⟨?_,znb s⟩;unfold z2y;split;·intro p a;cases a
 ·split;·intro p a;cases a
  ·rename_i c h2;intro p a;have:=zo5 (B:=8192) (z0u 38 s) [] (fun x b=>ybc (z62 38 s x b) (by omega)) (fun p a=>by cases a) p a;omega
def FitZ(z:Option (Jn (Bool×q00) (Z×Z))):Option (Z×Z)→Prop|some on=>z=some (.go on)|none=>∃r,z=some (.done (false,r))
theorem zz0b5:¬segO=segN:=by decide
theorem zz07v:¬segO=[]:=by decide
theorem zz061{p d:List Z}(a:q00)(x:p.length<100000000)(y:d.length=p.length):∀(n i:Nat)(o m:Z),p.length-i=n→i≤p.length→FitZ (M.z0z p d a (i:Int) o m) (zk5 (d.drop i) (p.drop i) o m):=by
 have l:([79,70]:Z)=segO:=rfl
 have q:(B72:Z)=segN:=rfl;intro n;induction n with|zero=>
  intro i o m hn t;have:¬(i:Int)<(p.length:Int):=by omega
  rw[M.z0z.eq_1,yac (by omega),yac (by omega)];simp[this,zk5,FitZ]|succ n h=>
  intro i o m hn t;have b:i<p.length:=by omega
  have c:i<d.length:=by omega
  have r:(i:Int)<(p.length:Int):=by omega
  rw[M.z0z.eq_1,yab b,yab c,l,q];simp only[r,decide_true,if_true,z3u,yah b,yah c,ya,yb,w1 (show i<4611686018427387904 by omega)];obtain⟨w,g⟩:∃w,d[i]=w:=⟨_,rfl⟩;obtain⟨s,f⟩:∃s,p[i]=s:=⟨_,rfl⟩;rw[g,f,zk5];by_cases c1:w=segO
  ·subst c1;have u:=zz0b5;by_cases j:s=[];·subst j;have v:=zz07v;simp[u,v,FitZ]
   ·simp only[j,decide_true,decide_false,yo,yg,if_true,if_false];exact h (i+1) s m (by omega) (by omega)
  ·by_cases e:w=segN;·subst e;simp only[c1,decide_true,decide_false,yk,yl,if_true,if_false];exact h (i+1) o s (by omega) (by omega)
   ·by_cases k:w=s;·subst k;simp only[c1,e,decide_true,decide_false,yp,yk,yl,if_true,if_false,yb];exact h (i+1) o m (by omega) (by omega)
    ·simp[c1,e,k,FitZ]
theorem zgg:∀{b a:List Z}{o m:Z}{r:Z×Z},zk5 b a o m=some r→b.length=a.length
 |[],[],_,_,_,_=>rfl|w::b,s::a,o,m,r,h=>by
  rw[zk5]at h;have:b.length=a.length:=by
   split at h
   ·split at h;·cases h
    ·exact zgg h
   ·split at h;·exact zgg h
    ·split at h;·exact zgg h
     ·cases h
  simp[this]|[],_::_,_,_,_,h=>by simp[zk5]at h|_::_,[],_,_,_,h=>by simp[zk5]at h
def FitR(z:Option (Bool×q00))(a:q00):Option (Z×Z)→Prop|some on=>z=some (true,{a with gOf:=on.1,z05:=on.2})|none=>∃r,z=some (false,r)
theorem zfi{r:Rw}(h:RwOk r){p:List Z}(e:p.length<100000000)(a:q00):FitR (M.q2d r.toH p a) a (zk5 r.sg p a.gOf a.z05):=by
 have d:=h.one;have h2:=h.len;unfold M.q2d;have f:sub r.toH.zje 1 (r.toH.zje.length:Int)=some ((segS r.sg).drop 1):=zcb (l:=segS r.sg) (a:=1) d;rw[f];simp only[ya,yb];rw[zeg 47 (by rw[yaq];omega),h.cut];simp only[yb];by_cases hl:r.sg.length=p.length
 ·have c:(r.sg.length:Int)=(p.length:Int):=by omega
  have b:=zz061 a e hl _ 0 a.gOf a.z05 rfl (ybl _);rw[yaf,yaf]at b;have b:FitZ (M.z0z p r.sg a 0 a.gOf a.z05) (zk5 r.sg p a.gOf a.z05):=b;simp only[c,decide_true,yp,yl,if_false];cases hf:zk5 r.sg p a.gOf a.z05 with|some on=>rw[hf]at b;have b:M.z0z p r.sg a 0 a.gOf a.z05=some (.go on):=b;rw[b];rfl|none=>rw[hf]at b;obtain⟨x,b⟩:=b;rw[b];exact⟨x,rfl⟩
 ·have c:¬(r.sg.length:Int)=(p.length:Int):=by omega
  cases hf:zk5 r.sg p a.gOf a.z05 with|some on=>exact(hl (zgg hf)).elim|none=>simp only[c,decide_false,yo,if_true];exact⟨a,rfl⟩
theorem zbt{l:List q05}(h:zrs l)(k:Z):(z7b l k []).length<100000000:=by
 unfold z7b;split;·rename_i p a;exact(h p (List.mem_of_find?_eq_some a)).2
 ·simp
theorem zh2{c:UInt8}:∀{t:Z},(z2j c t).2.2=true→t=(z2j c t).1++c::(z2j c t).2.1
 |[],h=>by simp[cutb_nil]at h|x::r,h=>by
  rw[z5m]at h⊢;by_cases e:x=c;·rw[if_pos e];simp[e]
  ·rw[if_neg e]at h⊢;have:=zh2 (t:=r) h;simp only[yx,←this]
theorem zz07n{k:Z}{c:UInt8}(b:no c k)(t:Z):((k++[c]).isPrefixOf t=true↔(z2j c t).2.2=true∧(z2j c t).1=k)∧((z2j c t).2.2=true∧(z2j c t).1=k→t.drop (k++[c]).length=(z2j c t).2.1):=by
 constructor
 ·constructor;·intro h;obtain⟨r,rfl⟩:=yan.1 h;rw[yw,ya3,zh1 r b];exact⟨rfl,rfl⟩
  ·intro⟨a,h2⟩;have:=zh2 a;rw[h2]at this;exact yan.2 ⟨(z2j c t).2.1,by rw[yw,ya3,←this]⟩
 ·intro⟨a,h2⟩;have:=zh2 a;rw[h2]at this;conv=>lhs;rw[this]
  rw[show k++c::(z2j c t).2.1=k++[c]++(z2j c t).2.1 by simp,List.drop_left]
theorem zz099{s:Z}(h:s.length<1000000000):M.trim s [32]=some (bare s):=zjq (by omega) (by decide)
theorem zz0b7:no 61 kSes:=fun b a=>by
 have:kSes.all (fun b=>!decide (b=61))=true:=by decide
 simpa using yv.1 this b a
theorem zwg{l:List Z}(hl:l.length<1000000000)(g:∀x∈l,x.length<1000000000):∀(n i:Nat),l.length-i=n→i≤l.length→∃z,M.z2o l (i:Int)=some z∧(z=.done (zmz (l.drop i))∨z=.go ()∧zmz (l.drop i)=[]):=by
 intro n;induction n with|zero=>
  intro i hn f;have:¬(i:Int)<(l.length:Int):=by omega
  rw[M.z2o.eq_1,yac (by omega)];simp[this,zmz]|succ n h=>
  intro i hn f;have a:i<l.length:=by omega
  have d:(i:Int)<(l.length:Int):=by omega
  rw[M.z2o.eq_1,yab a];simp only[d,decide_true,if_true,z3u,yah a,ya,yb];rw[zz099 (g _ (yaj a))];simp only[yb];have e:(B53:Z)=kSes++[61]:=rfl;rw[e,z6w,zmz];obtain⟨b,j⟩:=zz07n zz0b7 (bare l[i]);simp only[yb];by_cases c:(z2j 61 (bare l[i])).2.2=true∧(z2j 61 (bare l[i])).1=kSes;·rw[if_pos (b.2 c),if_pos c,←j c];exact⟨_,rfl,.inl rfl⟩
  ·rw[if_neg fun q=>c (b.1 q),if_neg c,w1 (by omega)];exact h (i+1) (by omega) (by omega)
theorem zjh{l:List q05}(hl:l.length<100000000)(hf:zrs l):M.q1e l=some (zmy l):=by
 unfold M.q1e zmy;have f:=zbt hf z8r;have e:(B70:Z)=z8r:=rfl;rw[e,z7m z8r (by omega)];simp only[ya,yb];rw[zeg 59 (by omega)];simp only[yb];have d:=zc3 59 (z7b l z8r []);obtain⟨z,b,a⟩:=zwg (l:=z0u 59 (z7b l z8r [])) (by omega) fun x c=>by have:=z62 59 _ x c;omega _ 0 rfl (ybl _);have b:M.z2o (z0u 59 (z7b l z8r [])) 0=some z:=b;rw[yaf]at a;rw[b];rcases a with rfl|⟨rfl,a⟩;·rfl
 ·rw[a];rfl
theorem zn0{B:Nat}:∀l:List Z,(∀x∈l,x.length≤B)→(zmz l).length≤B
 |[],_=>ybl _|x::l,h=>by
  rw[zmz];split;·have b:=(z8f 61 (bare x)).1;have h2:=zkw x;have c:=h x (by simp);omega
  ·exact zn0 l fun x a=>h x (by simp[a])
theorem zwf{l:List q05}(hf:zrs l):(zmy l).length<100000000:=by have b:=zbt hf z8r;have:=zn0 (B:=(z7b l z8r []).length) (z0u 59 (z7b l z8r [])) fun x a=>z62 59 _ x a;unfold zmy;omega
theorem zz02i:∀m:Fin 8,(!decide (z9d .i64 ((m.val:Nat):Int) 1=0))=m.val.testBit 0∧(!decide (z9d .i64 ((m.val:Nat):Int) 2=0))=m.val.testBit 1∧(!decide (z9d .i64 ((m.val:Nat):Int) 4=0))=m.val.testBit 2:=by decide+kernel
def zfz(z:Option (Rb q00 q00)):Option q00→Prop|some a=>z=some (.ok a)|none=>∃a,z=some (.pan 227 a)
theorem zjy(c:UInt8):∀s:Z,Lib.contains s [c]=s.contains c
 |[]=>by unfold Lib.contains;simp[Lib.index]|x::r=>by
  have b:=zjy c r;unfold Lib.contains at b⊢;rw[z4o];have e:=Lib.index_ge r [c];by_cases h:x=c;·simp[h]
  ·have d:¬c=x:=fun q=>h q.symm;rw[if_neg h,List.contains_cons,←b];have:(c==x)=false:=by simpa using d
   rw[this,ym];by_cases a:Lib.index r [c]=-1;·simp[a]
   ·rw[if_neg a,yj,decide_eq_true_iff,decide_eq_true_iff];omega
theorem zz05a{s:Z}(h:s.length<100000000):M.contains s [34]=some (s.contains 34):=by unfold M.contains;rw[z3a (by simp;omega),zjy];rfl
theorem zz09s(c:UInt8):decide ((c.toNat:Int)=34)=decide (c=34):=by have:(c.toNat:Int)=34↔c=34:=⟨fun e=>ybr.1 (by have:(34:UInt8).toNat=34:=rfl;omega),fun e=>by rw[e];rfl⟩;rw[yj,decide_eq_true_iff,decide_eq_true_iff,this]
theorem zz06y{s:Z}(h:2≤s.length)(a:s.length<100000000):ix s (ybp .i64 ((s.length:Int)-1))=s.getLast?:=by
 have e:ybp .i64 ((s.length:Int)-1)=((s.length-1:Nat):Int):=by rw[w64 (by omega) (by omega)];omega
 rw[e,z3u,yak]
theorem get_some{s:Z}{i:Nat}(h:i<s.length):∃c,s[i]?=some c:=⟨_,yah h⟩
theorem zqq{s:Z}(h:2≤s.length):∃a b,s.head?=some a∧s.getLast?=some b∧quoted s=(decide (a=34)&&decide (b=34)):=by
 obtain⟨a,d⟩:=get_some (s:=s) (i:=0) (by omega);obtain⟨b,e⟩:=get_some (s:=s) (i:=s.length-1) (by omega);have c:s.head?=some a:=by rw[yam,d]
 have h2:s.getLast?=some b:=by rw[yak,e]
 refine⟨a,b,c,h2,?_⟩;unfold quoted;rw[c,h2];simp[h]
theorem zoa{s:Z}(h:¬2≤s.length):quoted s=false:=by unfold quoted;simp[h]
theorem zz08f{s:Z}(h:2≤s.length)(c:s.length<100000000):sub s 1 (ybp .i64 ((s.length:Int)-1))=some (unq s):=by
 have e:ybp .i64 ((s.length:Int)-1)=((s.length-1:Nat):Int):=by rw[w64 (by omega) (by omega)];omega
 rw[e];exact zbj (l:=s) (a:=1) (b:=s.length-1) (by omega) (by omega)
theorem zz08e(s:Z):(unq s).length≤s.length:=by unfold unq;rw[yaq,yav];omega
def JA{α:Type}(A:Option (Jn (Rb q00 q00) α)):Option α→Prop|some s=>A=some (.go s)|none=>∃a,A=some (.done (.pan 227 a))
theorem zfz.seq{α:Type}{A:Option (Jn (Rb q00 q00) α)}{K:Jn (Rb q00 q00) α→Option (Rb q00 q00)}{x:Option α}{y:α→Option q00}(b:JA A x)(hd:∀r,K (.done r)=some r)(c:∀s,x=some s→zfz (K (.go s)) (y s)):zfz (A.bind K) (x.bind y):=by cases x with|none=>obtain⟨a,b⟩:=b;rw[b];exact⟨a,hd _⟩|some s=>have b:A=some (.go s):=b;rw[b];exact c s rfl
theorem zz01r(m:Nat)(l:List q05)(k:Int)(o n:Z):zxd m l k o n=(sesP m l).bind fun s=>(tokP m l).bind fun t=>(tagP m l).bind fun g=>some ⟨k,o,[],[],s,[],t,[],[],[],[],[],[],[],[],[],n,[],[],[],g,[],[],[],0,0⟩:=by unfold zxd;cases sesP m l<;>cases tokP m l<;>cases tagP m l<;>rfl
theorem znj{r:Rw}(O:RwOk r){l:List q05}(hl:l.length<100000000)(hf:zrs l)(k:Int)(o n:Z):zfz (M.q2g r.toH l (A0 k o n)) (zxd r.mr l k o n):=by
 obtain⟨h,i,j⟩:=zz02i ⟨r.mr,O.mkl⟩;simp only at h i j;have h:(!decide (z9d .i64 r.toH.zdn 1=0))=r.mr.testBit 0:=h;have i:(!decide (z9d .i64 r.toH.zdn 2=0))=r.mr.testBit 1:=i;have j:(!decide (z9d .i64 r.toH.zdn 4=0))=r.mr.testBit 2:=j;have F:(B39:Z)=zg5:=rfl;have G:(B63:Z)=zxv:=rfl;have H:(B57:Z)=kIf:=rfl;have I:(B1:Z)=sesB:=rfl;have D:=zbt hf zg5;have e:=zbt hf kIf;have L:=zwf hf;obtain⟨t,z,A⟩:=M_ses (s:=zmy l) (by omega);unfold M.q2g;simp only[h,i,j,F,G,H,I,zjh hl hf,z7m zg5 (show l.length<1000000000 by omega),z7m kIf (show l.length<1000000000 by omega),ya,yb,z,A];rw[zz01r];refine zfz.seq ?_ (fun _=>rfl) fun s T=>?_;·unfold sesP;cases r.mr.testBit 0 with|false=>rfl|true=>cases S:z6m (zmy l)with|false=>simp only[if_true,zo,yb,yl,if_false];exact⟨_,rfl⟩|true=>rfl
 obtain⟨v,C⟩:∃v,z7b l zg5 []=v:=⟨_,rfl⟩;obtain⟨u,B⟩:∃u,z7b l kIf []=u:=⟨_,rfl⟩;rw[C]at D;rw[B]at e;simp only[C,B];have p:=z6w v zxv;have w:M.q22 (v.drop 7) 33 126=some (zb8 33 126 (v.drop 7)):=z8h 33 126 (by rw[yaq];omega);have J:zxv.length=7:=rfl;refine zfz.seq ?_ (fun _=>rfl) fun t U=>?_
 ·unfold tokP;rw[C];by_cases c:r.mr.testBit 1=true∧zld l zg5=true
  ·have cb:(zld l zg5&&r.mr.testBit 1)=true:=by simp[c]
   rw[if_pos c];simp only[cb,if_true,p,yb];by_cases a:zxv.isPrefixOf v=true;·simp only[a,if_true,J,w,yb,true_and];cases q:zb8 33 126 (v.drop 7)with|false=>simp only[zo,yb,yl,if_false];exact⟨_,rfl⟩|true=>simp only[zv,yb,if_true];rfl
   ·simp only[a,yl,if_false,yb,zo,false_and];exact⟨_,rfl⟩
  ·have cb:(zld l zg5&&r.mr.testBit 1)=false:=by cases g:zld l zg5 with|false=>rfl|true=>cases h2:r.mr.testBit 1 with|false=>rfl|true=>exact(c ⟨h2,g⟩).elim
   rw[if_neg c];simp only[cb,yl,if_false];rfl
 by_cases c:r.mr.testBit 2=true∧zld l kIf=true
 ·have cb:(zld l kIf&&r.mr.testBit 2)=true:=by simp[c]
  have d:tagP r.mr l=if quoted u=true∧tagOk (unq u)=true then some (unq u)else none:=by unfold tagP;rw[if_pos c,B]
  rw[d];simp only[cb,if_true];by_cases a:2≤u.length
  ·have b:(2:Int)≤(u.length:Int):=by omega
   obtain⟨x,y,Q,R,N⟩:=zqq a;have K:ix u 0=some x:=by rw[zuo,←yam,Q]
   simp only[b,decide_true,if_true,K,zz06y a e,R,yb,zz09s];rw[N];by_cases m:x=34
   ·by_cases E:y=34;·have P:=zz08e u;simp only[m,E,decide_true,if_true,yb,zv,zz08f a e,yg,true_and];have f:M.q22 (unq u) 33 126=some (zb8 33 126 (unq u)):=z8h 33 126 (by omega);rw[f];simp only[yb];unfold tagOk;cases g:zb8 33 126 (unq u)with|false=>simp only[yl,if_false,yb,zo,yk];exact⟨_,rfl⟩|true=>simp only[if_true,zz05a (show(unq u).length<100000000 by omega),yb,ys];cases h2:(unq u).contains 34 with|true=>simp only[yp,zo,yb,yl,if_false];exact⟨_,rfl⟩|false=>simp only[yo,zv,yb,if_true];rfl
    ·simp only[m,E,decide_true,decide_false,if_true,yb,zo,yf,yl,false_and,if_false];exact⟨_,rfl⟩
   ·simp only[m,decide_false,yl,if_false,yb,zo,yk,false_and];exact⟨_,rfl⟩
  ·have b:¬(2:Int)≤(u.length:Int):=by omega
   rw[zoa a];simp only[b,decide_false,yl,if_false,yb,zo,false_and];exact⟨_,rfl⟩
 ·have cb:(zld l kIf&&r.mr.testBit 2)=false:=by cases g:zld l kIf with|false=>rfl|true=>cases h2:r.mr.testBit 2 with|false=>rfl|true=>exact(c ⟨h2,g⟩).elim
  have d:tagP r.mr l=some []:=by unfold tagP;rw[if_neg c]
  rw[d];simp only[cb,yl,if_false];rfl
theorem zz06d{ps:List Pt}(p:q05)(hl:ps.length<1000):∀(n i:Nat),ps.length-i=n→i≤ps.length→∃z,M.zi (ps.map Pt.toH) p (i:Int)=some z∧((∃j:Nat,z=.done (j:Int)∧zch (ps.drop i) p.z05=true)∨z=.go ()∧zch (ps.drop i) p.z05=false):=by
 intro n;induction n with|zero=>
  intro i hn e;have:¬(i:Int)<((ps.map Pt.toH).length:Int):=by rw[yas];omega
  rw[M.zi.eq_1,yac (by omega)];simp only[this,decide_false,yl,if_false];exact⟨_,rfl,.inr ⟨rfl,rfl⟩⟩|succ n f=>
  intro i hn e;have a:i<ps.length:=by omega
  have d:(i:Int)<((ps.map Pt.toH).length:Int):=by rw[yas];omega
  rw[M.zi.eq_1,yab a];simp only[d,decide_true,if_true,z3u,yai,yah a,yd,ya,yb,M.q2f];have en:(Pt.toH ps[i]).zhn=ps[i].nm:=by cases ps[i]<;>rfl
  have b:zch (ps[i]::ps.drop (i+1)) p.z05=(decide (ps[i].nm=p.z05)||zch (ps.drop (i+1)) p.z05):=by unfold zch;rw[List.any_cons]
  rw[en,b];by_cases c:ps[i].nm=p.z05;·grind
  ·simp only[c,decide_false,yl,if_false,ym];grind[w1]
theorem zz02c{ps:List Pt}(p:q05)(hl:ps.length<1000):M.q6x (ps.map Pt.toH) p=some (zch ps p.z05):=by
 unfold M.q6x M.q72;obtain⟨z,a,b⟩:=zz06d p hl _ 0 rfl (ybl _);have a:M.zi (ps.map Pt.toH) p 0=some z:=a;rw[yaf]at b;rw[a];rcases b with⟨j,rfl,c⟩|⟨rfl,c⟩;·simp_all
 ·simp[c]
theorem zz01z{l:List q05}{r:Rw}(h:RwOk r)(a:q00)(hl:l.length<100000000):∀(n i:Nat),l.length-i=n→i≤l.length→M.z1w l r.toH a (i:Int)=some (if(l.drop i).all (fun p=>decide (zml l p.z05=1)&&zch r.ps p.z05)=true then .go ()else .done (.pan 227 a)):=by intro n;induction n with|zero=>grind[M.z1w.eq_1,yac]|succ n j=>
  intro i hn k;have b:i<l.length:=by omega
  have e:(i:Int)<(l.length:Int):=by omega
  have f:M.q6x r.toH.z92 l[i]=some (zch r.ps l[i].z05):=zz02c l[i] (by have:=h.psl;omega);rw[M.z1w.eq_1,yab b,yu];simp only[e,decide_true,if_true,z3u,yah b,ya,yb];rw[zf9 _ (by omega)];simp only[yb,f];by_cases c:zml l l[i].z05=1
  ·have d:((zml l l[i].z05:Nat):Int)=1:=by omega
   simp only[c,d,decide_true,if_true,yb,ys];cases g:zch r.ps l[i].z05 with|false=>rfl|true=>simp only[zv,yb,ys];rw[w1 (by omega)];exact j (i+1) (by omega) (by omega)
  ·have d:¬((zml l l[i].z05:Nat):Int)=1:=by omega
   grind[zo]
theorem zen{t:Nat×Nat×Z}{P:Nat×Nat×Z→Prop}(h:t∈zhe)(k:P fUser)(h2:P zwx)(l:P fCode)(m:P zhb)(n:P zwv)(o:P z9o)(p:P zay)(q:P zdl)(r:P zk4)(a:P zdk)(b:P zem)(c:P zhc)(d:P zww)(e:P fName)(f:P fData)(g:P fBody)(i:P fSig)(j:P zps):P t:=by unfold zhe at h;simp only[yay,ya2,or_false]at h;rcases h with h|h|h|h|h|h|h|h|h|h|h|h|h|h|h|h|h|h<;>rw[h]<;>assumption
theorem zz062{t:Nat×Nat×Z}(h:t∈zhe)(a:q00):M.q0q t.2.1 a=some t.1:=zen (P:=fun t=>M.q0q t.2.1 a=some t.1) h rfl rfl rfl rfl rfl rfl rfl rfl rfl rfl rfl rfl rfl rfl rfl rfl rfl rfl
theorem zx0{t:Nat×Nat×Z}(h:t∈zhe)(a:q00)(v:Z):a.setAt t.1 v=some (setS a t.1 v):=zen (P:=fun t=>a.setAt t.1 v=some (setS a t.1 v)) h rfl rfl rfl rfl rfl rfl rfl rfl rfl rfl rfl rfl rfl rfl rfl rfl rfl rfl
theorem zz0a0{t:Nat×Nat×Z}(h:t∈zhe):yba t.2.1 NF=false:=zen (P:=fun t=>yba t.2.1 NF=false) h rfl rfl rfl rfl rfl rfl rfl rfl rfl rfl rfl rfl rfl rfl rfl rfl rfl rfl
theorem zz0au{t:Nat×Nat×Z}{n:Z}{w:Bool}(h:(Pt.st n t w).okB=true):t∈zhe:=by grind[Pt.okB]
theorem zz020{l:List q05}{r:Rw}(F:RwOk r)(hl:l.length<100000000)(hf:zrs l):∀(n i:Nat)(a:q00),r.ps.length-i=n→i≤r.ps.length→zfz (M.z0f r.toH l (i:Int) a) (putL l (r.ps.drop i) a):=by
 have H:=F.psl;have A:r.toH.z92.length=r.ps.length:=yas ..;have u:¬(1000000:Nat)=24:=by decide
 have y:¬(1000000:Nat)=25:=by decide
 intro n;induction n with|zero=>grind[M.z0f.eq_1,putL,zfz]|succ n K=>
  intro i a hn N;have g:i<r.ps.length:=by omega
  have E:(i:Int)<(r.toH.z92.length:Int):=by rw[A];omega
  have J:ix r.toH.z92 (i:Int)=some (Pt.toH r.ps[i]):=by rw[z3u];show(r.ps.map Pt.toH)[i]?=_;rw[yai,yah g];rfl
  have e:=F.ps _ (yaj g);rw[M.z0f.eq_1,yab g,putL];simp only[E,decide_true,if_true,J,ya,yb];obtain⟨p,G⟩:∃p,r.ps[i]=p:=⟨_,rfl⟩;rw[G]at e⊢;rw[z7m _ (by omega),w1 (by omega)];simp only[yb];cases p with
  |fx nm v=>
   have C:¬v=[78]:=by unfold Pt.okB at e;simpa using e
   have m:M.q2u (Pt.toH (.fx nm v)) a=some 1000000:=by unfold M.q2u Pt.toH;simp[C]
   have j:yba (Pt.toH (.fx nm v)).z90 NF=true:=show yba NF NF=true by decide
   have f:(Pt.toH (.fx nm v)).zhm=v:=rfl;have d:(Pt.toH (.fx nm v)).zhn=nm:=rfl;simp only[m,yb,u,y,j,f,d,if_true,if_false];have k:putP l a (.fx nm v)=if zld l nm=true∧z7b l nm []=v then some a else none:=rfl;rw[k];by_cases c:zld l nm=true∧z7b l nm []=v;·rw[if_pos c];grind[zv]
   ·rw[if_neg c];have cb:(zld l nm&&decide (z7b l nm []=v))=false:=by cases E:zld l nm with|false=>rfl|true=>grind
    simp only[cb,zo,yb];exact⟨a,rfl⟩|st nm t w=>
   have B:=zz0au e;have m:M.q2u (Pt.toH (.st nm t w)) a=some 1000000:=by unfold M.q2u Pt.toH;simp
   have j:yba (Pt.toH (.st nm t w)).z90 NF=false:=zz0a0 B;have hd:∀a,M.q0q (Pt.toH (.st nm t w)).z90 a=some t.1:=fun a=>zz062 B a;have I:(Pt.toH (.st nm t w)).zuh=w:=rfl;have d:(Pt.toH (.st nm t w)).zhn=nm:=rfl;simp only[m,yb,u,y,j,I,d,hd,yl,if_true,if_false];have k:putP l a (.st nm t w)=if w=true then(b64D (z7b l nm [])).map (setS a t.1)else some (setS a t.1 (z7b l nm [])):=rfl;rw[k];have C:=zbt hf nm;cases w with|false=>simp only[yl,if_false,zx0 B,yb];grind|true=>simp only[if_true,zco (show(z7b l nm []).length<100000000 by omega),yb];cases L:b64D (z7b l nm [])with|none=>simp only[Option.map_none,Option.bind_none];exact⟨a,by rfl⟩|some v=>grind[zv,zx0]
  |cn nm c=>
   have q:(nm=B67)=(c=true):=of_decide_eq_true e;have d:(Pt.toH (.cn nm c)).zhn=nm:=rfl;have f:(Pt.toH (.cn nm c)).zhm=[78]:=rfl;have C:=zbt hf nm;obtain⟨x,b,D⟩:=z6t (s:=z7b l nm []) 9 (by decide) (by omega);have b:M.q1w (z7b l nm []) 9=some (x,isNum 9 (z7b l nm [])):=b;have k:putP l a (.cn nm c)=if z7b l nm []=[]then some a else if isNum 9 (z7b l nm [])=true then some (setC a c ((z7w 0 (z7b l nm []):Nat):Int))else none:=rfl;rw[k];have z:¬(25:Nat)=24:=by decide
   have m:M.q2u (Pt.toH (.cn nm c)) a=some (if c=true then 25 else 24):=by unfold M.q2u;simp only[f,d,q,decide_true,yp,yl,if_false];cases c<;>rfl
   simp only[m,yb,d];by_cases o:z7b l nm []=[];·grind
   ·rw[if_neg o];cases h:isNum 9 (z7b l nm [])with
    |false=>rw[h]at b;cases c with|true=>simp only[o,if_true,z,if_false,decide_false,yo,yl,b,yb,zo];exact⟨_,rfl⟩|false=>simp only[o,if_true,if_false,decide_false,yo,yl,b,yb,zo];exact⟨_,rfl⟩
    |true=>rw[h,D h]at b;have:=K (i+1) (setC a c ((z7w 0 (z7b l nm []):Nat):Int)) (by omega) (by omega);cases c with|true=>simp only[o,if_true,z,if_false,decide_false,yo,yl,b,yb,zv];exact this|false=>simp only[o,if_true,if_false,decide_false,yo,yl,b,yb,zv];exact this
theorem zfj{l:List q05}{r:Rw}(c:RwOk r)(hl:l.length<100000000)(hf:zrs l)(a:q00):zfz (M.q2e r.toH l a) (formR r.ps l a):=by unfold M.q2e;have b:=zz01z c a hl _ 0 rfl (ybl _);rw[yaf]at b;have b:M.z1w l r.toH a 0=some (if zqp r.ps l=true then .go ()else .done (.pan 227 a)):=b;have h2:=zz020 c hl hf _ 0 a rfl (ybl _);rw[yaf]at h2;have h2:zfz (M.z0f r.toH l 0 a) (putL l r.ps a):=h2;rw[b];unfold formR;cases zqp r.ps l with|true=>exact h2|false=>exact⟨a,rfl⟩
def AskZ(z:Option (q00×Int)):Option q00→Prop|some a=>z=some (a,0)|none=>∃a,z=some (a,227)
theorem zfz.ask{z:Option (Rb q00 q00)}{x:Option q00}(h:zfz z x):AskZ (z.bind fun b=>(match b with|.pan d e=>some (e,d)|.ok c=>some (c,0):Option (q00×Int))) x:=by cases x with|some a=>have h:z=some (.ok a):=h;rw[h];rfl|none=>obtain⟨a,h⟩:=h;rw[h];exact⟨a,rfl⟩
theorem zz02v(s:Z):SzJ (parse s).1∧Chk (parse s).1:=by
 refine⟨zgk s,?_⟩;rcases zcy s with⟨x,a,b⟩|⟨c,a,_⟩;·rw[a];exact⟨0,b⟩
 ·rw[a];exact⟨0,zt7 0⟩
theorem znk{s:Z}{f:Nat}(hf:34≤f)(a:q00):AskZ ((M.q3c f s).bind fun b=>(M.q3b b.1 [105,100]).bind fun d=>(M.q3b b.1 B33).bind fun e=>(M.q1p e.1).bind fun g=>(M.q1s (decide (b.2=0)&&decide ((b.1.zg.length:Int)=2)&&d.2&&e.2&&decide (d.1.zh=4)&&g.2) 227).bind fun h=>(match h with|.pan j=>some (a,j)|.ok l=>some ({a with z05:=d.1.zq,z0y:=g.1},0):Option (q00×Int))) (jsonA s a):=by
 obtain⟨k,h2⟩:=zz02v s;have r:([105,100]:Z)=kId:=rfl;have t:(B33:Z)=z2n:=rfl;have A:=k.parts;rw[z9u s hf,r,t];simp only[yb];rw[z8p (by omega),z8p (by omega)];simp only[yb];rw[zsw (k.z56 z2n) (h2.z56 z2n).keys];simp only[yb];unfold jsonA;by_cases c:(parse s).2=0∧(parse s).1.zg.length=2∧(z56 (parse s).1 kId).2=true∧(z56 (parse s).1 z2n).2=true∧(z56 (parse s).1 kId).1.zh=4∧(zad (z56 (parse s).1 z2n).1).2=true
 ·rw[if_pos c];obtain⟨c1,z,m,n,o,p⟩:=c;have i:((parse s).1.zg.length:Int)=2:=by omega
  simp only[c1,i,m,n,o,p,decide_true,yg,zv,yb];rfl
 ·rw[if_neg c];have:(decide ((parse s).2=0)&&decide (((parse s).1.zg.length:Int)=2)&&(z56 (parse s).1 kId).2&&(z56 (parse s).1 z2n).2&&decide ((z56 (parse s).1 kId).1.zh=4)&&(zad (z56 (parse s).1 z2n).1).2)=false:=by apply yi.2;intro q;simp only[ye,decide_eq_true_eq]at q;obtain⟨⟨⟨⟨⟨u,B⟩,v⟩,w⟩,x⟩,y⟩:=q;exact c ⟨u,by omega,v,w,x,y⟩
  simp only[this,zo,yb];exact⟨a,rfl⟩
theorem zz03t{r:Rw}(h:RwOk r):r.wh=0∨r.wh=1∨r.wh=2∨r.wh=3∨r.wh=4:=by have:=h.whl;omega
theorem zpz{r:Rw}(j:RwOk r){q:q03}(B:fit q){f:Nat}(hf:34≤f){on:Z×Z}(i:zk5 r.sg q.z0o [] []=some on):AskZ (M.q2c f r.toH q) (askR r q on.1 on.2):=by obtain⟨_,u,_,v,x,y,z,D⟩:=B;unfold M.q2c;have d:=zfi j (p:=q.z0o) u (A0 r.kd [] []);have t:zk5 r.sg q.z0o (A0 r.kd [] []).gOf (A0 r.kd [] []).z05=some on:=i;rw[t]at d;have d:M.q2d r.toH q.z0o (A0 r.kd [] [])=some (true,A0 r.kd on.1 on.2):=d;unfold A0 at d;have d:M.q2d r.toH q.z0o ⟨r.toH.zug,[],[],[],[],[],[],[],[],[],[],[],[],[],[],[],[],[],[],[],[],[],[],[],0,0⟩=_:=d;rw[d];simp only[ya,yb];have h2:=znj j (l:=q.z1r) y z r.kd on.1 on.2;unfold A0 at h2;unfold askR;cases s:zxd r.mr q.z1r r.kd on.1 on.2 with|none=>rw[s]at h2;obtain⟨a,h2⟩:=h2;rw[h2];exact⟨a,rfl⟩|some a=>
  rw[s]at h2;have h2:M.q2g r.toH q.z1r _=some (.ok a):=h2;rw[h2];simp only[yb];have h:r.toH.z5o=(r.wh:Int):=rfl;have m:(q.z1o.length:Int)=0↔q.z1o=[]:=by rw[←yar];omega
  have e:(decide (r.toH.z5o=2)||decide ((q.z1o.length:Int)=0))=decide (r.wh=2∨q.z1o=[]):=by
   rw[h,yj,yq,decide_eq_true_iff,decide_eq_true_iff,decide_eq_true_iff,m];constructor;·grind
   ·grind
  rw[e];by_cases c:r.wh=2∨q.z1o=[]
  ·rw[if_pos c];simp only[c,decide_true,zv,yb];unfold bodyA;rcases zz03t j with w|w|w|w|w
   ·have b:r.toH.z5o=0:=by rw[h,w];rfl
    simp only[b,w,decide_true,if_true];by_cases cb:q.z0l=[];·simp only[cb,decide_true,zv,yb,if_true];rfl
    ·simp only[cb,decide_false,zo,yb,if_false];exact⟨a,rfl⟩
   ·have b:r.toH.z5o=1:=by rw[h,w];rfl
    have g:¬(1:Int)=0:=by decide
    have k:¬(1:Int)=2:=by decide
    simp only[b,w,g,k,decide_false,yl,if_false,decide_true,if_true];rw[zdc (by omega)];simp only[yb];obtain⟨n,A⟩:=zna q.z0l;by_cases cb:(z2y q.z0l).2=0;·simp only[cb,decide_true,zv,yb,if_true];exact(zfj j (by omega) n a).ask
    ·simp only[cb,decide_false,zo,yb,if_false];exact⟨a,rfl⟩
   ·have b:r.toH.z5o=2:=by rw[h,w];rfl
    have g:¬(2:Int)=0:=by decide
    simp only[b,w,g,decide_false,yl,if_false,decide_true,if_true];by_cases cb:q.z0l=[];·simp only[cb,decide_true,zv,yb,if_true];exact(zfj j v x a).ask
    ·simp only[cb,decide_false,zo,yb,if_false];exact⟨a,rfl⟩
   ·have b:r.toH.z5o=3:=by rw[h,w];rfl
    have g:¬(3:Int)=0:=by decide
    have o:¬(3:Int)=1:=by decide
    have k:¬(3:Int)=2:=by decide
    have C:¬(3:Int)=4:=by decide
    simp only[b,w,g,o,k,C,decide_false,yl,if_false,decide_true,if_true];exact znk hf a
   ·have b:r.toH.z5o=4:=by rw[h,w];rfl
    have g:¬(4:Int)=0:=by decide
    have o:¬(4:Int)=1:=by decide
    have k:¬(4:Int)=2:=by decide
    simp only[b,w,g,o,k,decide_false,yl,if_false,decide_true,if_true];rfl
  ·rw[if_neg c];simp only[c,decide_false,zo,yb];exact⟨a,rfl⟩
theorem zz09k{L:List Rw}(y:∀r∈L,RwOk r)(hl:L.length<1000){q:q03}(s:fit q){f:Nat}(hf:34≤f):∀(n i:Nat)(e:Int),L.length-i=n→i≤L.length→¬e=0→∃z,M.z2w (L.map Rw.toH) q f e (i:Int)=some z∧((∃a,askL q (L.drop i) e=(a,0)∧z=.done (a,0))∨∃e',¬e'=0∧askL q (L.drop i) e=(zA,e')∧z=.go e'):=by
 intro n;induction n with|zero=>
  intro i e hn A h;have:¬(i:Int)<((L.map Rw.toH).length:Int):=by rw[yas];omega
  rw[M.z2w.eq_1,yac (by omega)];simp only[this,decide_false,yl,if_false];exact⟨_,rfl,.inr ⟨e,h,rfl,rfl⟩⟩|succ n j=>
  intro i e hn A h;have d:i<L.length:=by omega
  have w:(i:Int)<((L.map Rw.toH).length:Int):=by rw[yas];omega
  have t:=y _ (yaj d);rw[M.z2w.eq_1,yab d,askL];simp only[w,decide_true,if_true,z3u,yai,yah d,yd,ya,yb];rw[w1 (by omega)];have b:=zfi t (p:=q.z0o) s.2.1 (A0 0 [] []);cases g:zk5 L[i].sg q.z0o [] []with|none=>have k:zk5 L[i].sg q.z0o (A0 0 [] []).gOf (A0 0 [] []).z05=none:=g;rw[k]at b;obtain⟨x,b⟩:=b;unfold A0 at b;rw[b];simp only[yb,yo,if_true];exact j (i+1) e (by omega) (by omega) h|some on=>
   have k:zk5 L[i].sg q.z0o (A0 0 [] []).gOf (A0 0 [] []).z05=some on:=g;rw[k]at b;have b:M.q2d L[i].toH q.z0o (A0 0 [] [])=some (true,_):=b;unfold A0 at b;rw[b];simp only[yb,yp,yl,if_false];have v:L[i].toH.z9p=L[i].me:=rfl;rw[v];by_cases m:L[i].me=q.z0k;·simp only[m,decide_true,yp,yl,if_false,if_true];have c:=zpz t s hf g;cases o:askR L[i] q on.1 on.2 with|some a=>rw[o]at c;have c:M.q2c f L[i].toH q=some (a,0):=c;grind|none=>
     rw[o]at c;obtain⟨a,c⟩:=c;rw[c];have u:¬(227:Int)=0:=by decide
     simp only[yb,u,decide_false,yl,if_false];exact j (i+1) 227 (by omega) (by omega) u
   ·simp only[m,decide_false,yo,if_true,if_false];by_cases l:e=225;·simp only[l,decide_true,if_true];exact j (i+1) 226 (by omega) (by omega) (by decide)
    ·simp only[l,decide_false,yl,if_false];exact j (i+1) e (by omega) (by omega) h
theorem zpy{q:q03}(g:fit q){f:Nat}(hf:34≤f):M.q0r f q=some (askH q):=by
 unfold M.q0r askH;rw[znl];simp only[ya,yb];obtain⟨z,b,d⟩:=zz09k (L:=tab) (fun r h=>zz087 h) (by decide) g hf _ 0 225 rfl (ybl _) (by decide);have b:M.z2w (tab.map Rw.toH) q f 225 0=some z:=b;rw[yaf]at d;rw[b];rcases d with⟨a,c,rfl⟩|⟨e,_,c,rfl⟩;·grind
 ·rw[c];rfl
theorem zud(l:List q05)(h:(form l).2=0):form l=(z8d l,0)∧(z8d l).length≤8192:=by
 unfold form at h⊢;split at h;·simp at h
 ·split at h;·simp at h
  ·rename_i a h2;rw[if_neg a,if_neg h2];exact⟨rfl,by omega⟩
theorem zlh{q:q03}(h:fit q):M.q0u q=some (zyv q):=by
 obtain⟨f1,f2,L,N,O,f6,E,f8⟩:=h;unfold M.q0u;rw[zl2 N O];simp only[ya,yb,zcd];have W:=zlj (l:=q.z1r) (by omega) E;rw[W];have cond:∀t:Option (Z×Int),((if(!decide ((form q.z1o).2=0))=true then some true else some !zds q.z0k).bind fun y=>(if(y||decide ((q.z0o.length:Int)=0)||decide (64<(q.z0o.length:Int)))=true then some true else(some (zet q.z1r)).bind fun p=>some !p).bind fun z=>if(z||decide ((q.z1r.length:Int)=32)&&!decide (q.z0l=([]:Z))||decide (16384<(q.z0l.length:Int)))=true then some (([]:Z),(224:Int))else t)=if(!zza q)=true then some ([],224)else t:=by
  intro t;have s:decide ((q.z0o.length:Int)=0)=!decide (1≤q.z0o.length):=by
   by_cases c:1≤q.z0o.length
   ·have:¬(q.z0o.length:Int)=0:=by omega
    rw[decide_eq_false this,decide_eq_true c];rfl
   ·have:(q.z0o.length:Int)=0:=by omega
    rw[decide_eq_true this,decide_eq_false c];rfl
  have I:decide (64<(q.z0o.length:Int))=!decide (q.z0o.length≤64):=by
   by_cases c:q.z0o.length≤64
   ·have:¬64<(q.z0o.length:Int):=by omega
    simp[c,this]
   ·have:64<(q.z0o.length:Int):=by omega
    simp[c,this]
  have J:decide ((q.z1r.length:Int)=32)=decide (q.z1r.length=32):=decide_eq_decide.2 (by omega);have K:decide (16384<(q.z0l.length:Int))=!decide (q.z0l.length≤16384):=by
   by_cases c:q.z0l.length≤16384
   ·have:¬16384<(q.z0l.length:Int):=by omega
    simp[c,this]
   ·have:16384<(q.z0l.length:Int):=by omega
    simp[c,this]
  unfold zza;rw[s,I,J,K];cases decide ((form q.z1o).2=0)<;>cases zds q.z0k<;>cases decide (1≤q.z0o.length)<;>cases decide (q.z0o.length≤64)<;>cases zet q.z1r<;>cases decide (q.z1r.length=32)<;>cases decide (q.z0l=([]:Z))<;>cases decide (q.z0l.length≤16384)<;>rfl
 rw[cond];unfold zyv;cases X:zza q with|false=>rfl|true=>
  simp only[yp,yl,if_false,if_true];have e:=X;unfold zza at e;simp only[ye,decide_eq_true_eq]at e;obtain⟨⟨⟨⟨⟨⟨k1,G⟩,k3⟩,H⟩,o⟩,k6⟩,k7⟩:=e;obtain⟨P,g2⟩:=zud _ k1;have Y:q.z0k.length≤8:=by unfold zds at G;simp at G;omega
  have d:q.z1r.length≤32:=by
   unfold zet at o;split at o;·simp at o;omega
   ·cases o
  rw[z1v (by simp;omega)];simp only[yb];have D:=z1a (a:=[]) (b:=q.z0k++[32]) (by simp;omega);have D:M.q78 [] (q.z0k++[32])=_:=D;rw[D];simp only[yb,ya1];have A:=zz02y H L _ 0 (q.z0k++[32]) rfl (ybl _) (by simp;omega);rw[yaf]at A;have p1a:M.z3d q 0 (unb (q.z0k++[32]))=_:=A.1;rw[p1a];simp only[yb,P];have R:(zg9 q.z0o).length≤26100000000:=by have:=A.2;simp only[yao]at this;have:q.z0o.length*400000000≤64*400000000:=ybf _ H;omega
  have hq:(if(!decide (z8d q.z1o=([]:Z)))=true then(cat [63] (z8d q.z1o)).bind fun C=>(M.q78 (unb (q.z0k++[32]++zg9 q.z0o)) C).bind fun r=>some r.2 else some (unb (q.z0k++[32]++zg9 q.z0o)))=some (unb (q.z0k++[32]++zg9 q.z0o++if z8d q.z1o=[]then[]else 63::z8d q.z1o)):=by
   by_cases c:z8d q.z1o=[];·simp[c]
   ·have s:cat [63] (z8d q.z1o)=some (63::z8d q.z1o):=z1v (a:=[63]) (by simp;omega);rw[if_pos (by simp[c]),s,if_neg c];simp only[yb];rw[z1a (by simp;omega)];rfl
  rw[hq];simp only[yb];have S:(if z8d q.z1o=[]then([]:Z)else 63::z8d q.z1o).length≤8193:=by
   split;·simp
   ·simp;omega
  obtain⟨u,w⟩:∃u,q.z0k++[32]++zg9 q.z0o++(if z8d q.z1o=[]then[]else 63::z8d q.z1o)=u:=⟨_,rfl⟩;have a0:u.length≤26200000000:=by rw[←w];simp only[yao,List.length_singleton];omega
  rw[w,z1a (by simp;omega)];simp only[yb];have B:=zz02z d E _ 0 (u++[32,72,84,84,80,47,49,46,49,13,10]) rfl (ybl _) (by simp;omega);rw[yaf]at B;have p2a:M.z3e q 0 (unb (u++[32,72,84,84,80,47,49,46,49,13,10]))=_:=B.1;rw[p2a];simp only[yb];obtain⟨v,x⟩:∃v,u++[32,72,84,84,80,47,49,46,49,13,10]++zpw q.z1r=v:=⟨_,rfl⟩;have a1:v.length≤73000000000:=by have Q:=B.2;rw[x]at Q;have:q.z1r.length*400000000≤32*400000000:=ybf _ d;omega
  rw[x];have V:=z7g (n:=q.z0l.length) (k:=5) (by omega) (by decide);have U:(if(!decide (q.z0l=([]:Z)))=true then(M.itoa (q.z0l.length:Int)).bind fun f=>(cat B5 f).bind fun j=>(cat j [13,10]).bind fun m=>(M.q78 (unb v) m).bind fun g=>some g.2 else some (unb v))=some (unb (v++if q.z0l=[]then[]else clS q.z0l.length)):=by
   by_cases c:q.z0l=[];·simp[c]
   ·rw[if_pos (by simp[c]),if_neg c,zru (by omega)];simp only[yb];rw[z1v (by simp;omega)];simp only[yb];rw[z1v (by simp;omega)];simp only[yb];rw[z1a (by simp;omega)];rfl
  rw[U];simp only[yb];have T:(if q.z0l=[]then([]:Z)else clS q.z0l.length).length≤100:=by
   split;·simp
   ·unfold clS;simp;omega
  rw[z1a (by simp;omega)];simp only[yb];have hr:v++(if q.z0l=[]then[]else clS q.z0l.length)++[13,10]=zbd q:=by rw[←x,←w];rfl
  rw[hr];have i:M.q76 (unb (zbd q))=some ((zbd q).length:Int):=by unfold M.q76;simp[z0s]
  rw[i];simp only[yb];by_cases F:8192<(zbd q).length
  ·have:(8192:Int)<((zbd q).length:Int):=by omega
   simp[F,this]
  ·have:¬(8192:Int)<((zbd q).length:Int):=by omega
   simp only[this,F,decide_false,yl,if_false,z39,yb];rw[z1v (by omega)];rfl
theorem Le.of{α:Type}{c:Prop}[Decidable c]{a:α}{b:Option α}(h:c→b=some a):Le (if c then some a else Option.none) b:=by
 split;·rename_i k;rw[h k];exact Le.refl _
 ·exact Le.none _
def fitB(q:q03):Bool:=decide (q.z0k.length<100000000)&&decide (q.z0o.length<100000000)&&q.z0o.all (fun p=>decide (p.length<100000000))&&decide (q.z1o.length<100000000)&&q.z1o.all (fun p=>decide (p.z05.length<100000000)&&decide (p.z2f.length<100000000))&&decide (q.z1r.length<100000000)&&q.z1r.all (fun p=>decide (p.z05.length<100000000)&&decide (p.z2f.length<100000000))&&decide (q.z0l.length<100000000)
theorem zwy{q:q03}(h:fitB q=true):fit q:=by unfold fitB at h;simp only[ye,decide_eq_true_eq,yv]at h;obtain⟨⟨⟨⟨⟨⟨⟨a,h2⟩,b⟩,c⟩,d⟩,e⟩,f⟩,g⟩:=h;exact⟨a,h2,b,c,d,e,f,g⟩
def MF.q0s(_:Nat)(s:Z):Option (q03×Int×Int):=if s.length<1000000000 then some ((zib s).1,(((zib s).2.1:Nat):Int),(zib s).2.2)else none
theorem MF.q0s.le(n:Nat)(s:Z):Le (MF.q0s n s) (M.q0s s):=Le.of fun h=>zlg h
def MF.q0r(_ f:Nat)(q:q03):Option (q00×Int):=if fitB q=true∧34≤f then some (askH q)else none
theorem MF.q0r.le(n f:Nat)(q:q03):Le (MF.q0r n f q) (M.q0r f q):=Le.of fun h=>zpy (zwy h.1) h.2
def MF.q0u(_:Nat)(q:q03):Option (Z×Int):=if fitB q=true then some (zyv q)else none
theorem MF.q0u.le(n:Nat)(q:q03):Le (MF.q0u n q) (M.q0u q):=Le.of fun h=>zlh (zwy h)
def MF.q3d(_ f:Nat)(v:J):Option (Z×Int):=if 17≤f∧v.sz<1000000000 then some (print v)else none
theorem MF.q3d.le(n f:Nat)(v:J):Le (MF.q3d n f v) (M.q3d f v):=Le.of fun h=>zdv h.1 h.2
def MF.q3c(_ f:Nat)(s:Z):Option (J×Int):=if 34≤f then some (parse s)else none
theorem MF.q3c.le(n f:Nat)(s:Z):Le (MF.q3c n f s) (M.q3c f s):=Le.of fun h=>z9u s h
def z4t(st:Int)(a:Z)(n:Nat):List Z:=zui::((if a=[]then[]else[zcn a])++[zcv (n:Int)])
theorem zho(st:Int)(a:Z)(n:Nat):z9r st a (n:Int)=z7c (z2s st::z4t st a n)++[13,10,13,10]:=by unfold z9r z7c z4t;by_cases h:a=[]<;>simp[h]
theorem ztn:∀b:UInt8,sesC b=true→¬b=13∧¬b=59:=by have:∀b:UInt8,(!sesC b||!decide (b=13)&&!decide (b=59))=true:=z6a (by decide+kernel);grind
theorem zid{s:Z}(h:z6m s=true):no 13 s∧no 59 s:=by unfold z6m at h;have c:=yv.1 h;exact⟨fun b a=>(ztn b (c b a)).1,fun b a=>(ztn b (c b a)).2⟩
theorem zz03z(n:Nat):no 13 (Lib.decDigits n):=zuu (zxl n)
theorem zkf{s:Z}(h:s.all (fun b=>!decide (b=13))=true):no 13 s:=fun b a=>by grind
theorem zp2{n:Nat}(a:100≤n)(h2:n<1000):(Lib.decDigits n).length=3:=by rw[Lib.decDigits,dif_neg (by omega),yao,Lib.decDigits,dif_neg (by omega),yao,Lib.decDigits,dif_pos (by omega)];rfl
theorem zz07m(p s:Z):zri p (p++s)=s:=by unfold zri;simp
theorem zxe{st:Int}{a:Z}{n:Nat}(i:¬z63 st=[])(l:z6m a=true)(hn:n≤16384):zk9 (z2s st::z4t st a n) (z9r st a (n:Int))=true∧zak (z2s st::z4t st a n)=st∧z8m (z2s st::z4t st a n)=a∧z95 (z2s st::z4t st a n)=n:=by
 obtain⟨⟨w1,o⟩,_,_⟩:=z4c st i;obtain⟨m,rfl⟩:∃m:Nat,st=m:=⟨st.toNat,by omega⟩;have g:=zp2 (n:=m) (by omega) (by omega);have b:zko (z2s (m:Int)::z4t (m:Int) a n) 0=z2s (m:Int):=rfl;have f:ze8 (z2s (m:Int)::z4t (m:Int) a n)=Lib.decDigits m:=by unfold ze8;rw[b];unfold z2s;rw[z5p];have:hVer.length=9:=rfl;rw[yw,yw,List.take_append,List.drop_append];simp[this,g]
 have en:zak (z2s (m:Int)::z4t (m:Int) a n)=(m:Int):=by unfold zak;rw[f,zl5 m m (ybb _)]
 have c:z8m (z2s (m:Int)::z4t (m:Int) a n)=a:=by
  unfold z8m z4t;by_cases h:a=[];·simp[h]
  ·rw[if_neg h];have j:zko (z2s (m:Int)::zui::([zcn a]++[zcv (n:Int)])) 2=zcn a:=rfl;have k:(z2s (m:Int)::zui::([zcn a]++[zcv (n:Int)])).length=4:=rfl;rw[if_pos k,j];unfold zcn;rw[yw,zz07m];have:hPath=59::B58:=rfl;simp_all[zh1,zid]
 have d:zji (z2s (m:Int)::z4t (m:Int) a n)=Lib.decDigits n:=by
  unfold zji z4t;by_cases h:a=[];·rw[if_pos h];rfl
  ·rw[if_neg h];rfl
 have e:z95 (z2s (m:Int)::z4t (m:Int) a n)=n:=by unfold z95;rw[d,zl5 n n (ybb _)]
 refine⟨?_,en,c,e⟩;unfold zk9;rw[en,c,e,f,d,b,l,zht 3 (by decide) (by omega),zht 5 (by decide) (by omega)];have hl:12<(z2s (m:Int)).length:=by have:hVer.length=9:=rfl;unfold z2s;rw[z5p];simp only[yao,this,g,yap,yat];have:0<(z63 (m:Int)).length:=yau.2 i;omega
 grind[z4t]
theorem zz07u{st:Int}{c:Z}{n:Nat}(f:¬z63 st=[])(d:z6m c=true):no 13 (z2s st)∧∀x∈z4t st c n,no 13 x∧¬x=[]:=by
 obtain⟨⟨w1,h⟩,_,i⟩:=z4c st f;obtain⟨m,rfl⟩:∃m:Nat,st=m:=⟨st.toNat,by omega⟩;refine⟨?_,fun x a=>?_⟩;·unfold z2s;rw[z5p];refine(((zkf (by decide)).app (zz03z m)).app (zkf (by decide))).app fun b g e=>?_;subst e;grind
 ·unfold z4t at a;rcases yay.1 a with rfl|a;·exact⟨zkf (by decide),by decide⟩
  ·rcases yax.1 a with a|a
   ·split at a;·cases a
    ·rw[ya0]at a;subst a;refine⟨((zkf (by decide)).app (zid d).1).app (zkf (by decide)),?_⟩;grind[zcn,zes]
   ·rw[ya0]at a;subst a;refine⟨(zkf (by decide)).app (by simp[z5p,zz03z]),?_⟩;grind[zcv,zxa]
theorem zon{l:List q02}(h:zg2 l<100000000):∀(n i:Nat),l.length-i=n→i≤l.length→M.z1p l l (i:Int)=some (.go ()):=by have hl:=zgh l;intro n;induction n with|zero=>grind[M.z1p]|succ n f=>
  intro i hn d;have a:i<l.length:=by omega
  have b:(i:Int)<(l.length:Int):=by omega
  have c:l[i].sz≤zg2 l:=ziv (yaz.2 ⟨l[i],yaj a,rfl⟩);have e:=z38 l[i].z3t;unfold q02.sz at c;rw[M.z1p];simp only[b,decide_true,if_true,z3u,yah a,ya,yb,yp,yl,if_false,z8j (l:=l[i].z3t) (by omega)];grind[w1]
theorem zm9{l:List q02}(h:zg2 l<100000000):M.q5o l l=some true:=by unfold M.q5o;have:M.z1p l l 0=some (.go ()):=zon h _ 0 rfl (ybl _);simp[this]
theorem zqy{c:q01}(a:c.zj.length<1000000000)(h2:c.z5j.length<1000000000):M.q5a c c=some true:=by grind[M.q5a,z8j]
theorem zra{r:q06}(h:zvl r.zy<100000000):∀(n i:Nat),r.zy.length-i=n→i≤r.zy.length→M.z1y r r (i:Int)=some (.go ()):=by have hl:=zgo r.zy;intro n;induction n with|zero=>grind[M.z1y]|succ n e=>
  intro i hn d;have a:i<r.zy.length:=by omega
  have b:(i:Int)<(r.zy.length:Int):=by omega
  have c:r.zy[i].sz≤zvl r.zy:=zmf (yaj a);unfold q07.sz at c;rw[M.z1y];simp only[b,decide_true,if_true,z3u,yah a,ya,yb,yp,yl,if_false,zm9 (l:=r.zy[i].z0y) (by omega)];grind[w1]
theorem zop{r:q06}(h:RpOk r):M.q5q r r=some true:=by
 obtain⟨a,_⟩:=h;unfold q06.sz at a;have k1:=z38 r.zj;have c:=z38 r.zk.zj;have k3:=z38 r.zk.z5j;have b:kys r.zk.zj+kys r.zk.z5j≤r.zk.sz:=by unfold q01.sz;omega
 unfold M.q5q;have:M.z1y r r 0=some (.go ()):=zra (by omega) _ 0 rfl (ybl _);grind[z8j,zqy]
theorem ztq{s:Z}{i:Nat}(h:i≤(s.take 8192).length)(b:4≤i):(s.take i).drop (i-4)=[13,10,13,10]↔Lib.occAt (s.take 8192) zcp (i-4)=true:=by
 have hl:zcp.length=4:=rfl;have a:=h;rw[yav]at a;rw[Lib.occAt_iff_take _ _ _ (by rw[hl];omega),hl];have e:((s.take 8192).drop (i-4)).take 4=(s.take i).drop (i-4):=by rw[yae,List.take_take,yae,show i-(i-4)=4 by omega,show min 4 (8192-(i-4))=4 by omega]
 rw[e];unfold zcp;simp
theorem ze4{s:Z}(h:s.length<1000000000):∀(n i:Nat),(s.take 8192).length+1-i=n→4≤i→M.z3w s (i:Int)=if i≤(s.take 8192).length then if Lib.occAt (s.take 8192) zcp (i-4)=true then some (.done (i:Int))else M.z3w s ((i+1:Nat):Int)else some (.go ()):=by
 intro n i hn c;have hl:(s.take 8192).length=min 8192 s.length:=yav;rw[M.z3w.eq_1];by_cases b:i≤(s.take 8192).length
 ·have f:(i:Int)≤(s.length:Int):=by omega
  have h2:(i:Int)≤8192:=by omega
  have d:ybp .i64 ((i:Int)-4)=((i-4:Nat):Int):=by rw[w64 (by omega) (by omega)];omega
  simp only[f,h2,decide_true,ys,if_true,b,d,ya];rw[zbj (by omega) (by omega),w1 (by omega)];simp only[yb];by_cases a:(s.take i).drop (i-4)=[13,10,13,10];·rw[if_pos (by simpa using a),if_pos ((ztq b c).1 a)]
  ·rw[if_neg (by simpa using a),if_neg fun e=>a ((ztq b c).2 e)]
 ·rw[if_neg b,if_neg];simp only[ye,decide_eq_true_eq];omega
theorem zv8{s:Z}(h:s.length<1000000000):M.q5z s=some ((z3m s:Nat):Int):=by
 have k:zcp.length=4:=rfl;unfold M.q5z z3m;rcases Lib.index_spec (s.take 8192) zcp with⟨c,h2⟩|⟨j,c,h2,f,g⟩
 ·have key:∀(n i:Nat),(s.take 8192).length+1-i=n→4≤i→M.z3w s (i:Int)=some (.go ()):=by intro n;induction n with|zero=>intro i hn a;rw[ze4 h _ i hn a,if_neg (by omega)]|succ n d=>intro i hn a;rw[ze4 h _ i hn a,if_pos (by omega),if_neg (by rw[h2 _ (by omega)];simp),d (i+1) (by omega) (by omega)]
  have e:M.z3w s 4=some (.go ()):=key _ 4 rfl (ybb _);rw[e,c];rfl
 ·have b:=Lib.occAt_room f;have b:j+4≤(s.take 8192).length:=by
   rcases b with b|b;·omega
   ·cases b
  have key:∀(n i:Nat),j+4-i=n→4≤i→i≤j+4→M.z3w s (i:Int)=some (.done ((j+4:Nat):Int)):=by
   intro n;induction n with|zero=>
    intro i hn a l;obtain rfl:i=j+4:=by omega
    rw[ze4 h _ _ rfl a,if_pos b,if_pos (by rw[ya9];exact f)]|succ n d=>intro i hn a l;rw[ze4 h _ i rfl a,if_pos (by omega),if_neg (by rw[g _ (by omega)];simp),d (i+1) (by omega) (by omega) (by omega)]
  have e:M.z3w s 4=some (.done ((j+4:Nat):Int)):=key _ 4 rfl (ybb _) (by omega);rw[e,c,if_pos (by omega)];simp
theorem zoz{s:Z}{i:Nat}(h:i<s.length):s.take (i+1)=s.take i++[s[i]]:=List.take_succ_eq_append_getElem h
theorem no.snoc{c x:UInt8}{s:Z}(h:no c s)(d:¬x=c):no c (s++[x]):=h.app fun b a=>by rw[ya0]at a;subst a;exact d
theorem zph{c:UInt8}{n:Nat}(hn:n<256):(c.toNat:Int)=(n:Int)↔c=ybq n:=by
 have h:(ybq n).toNat=n:=by simp;omega
 constructor;·intro e;apply ybr.1;rw[h];omega
 ·rintro rfl;rw[h]
theorem zz2{s:Z}(h:s.length<100000000):∀(n i a:Nat)(l:List Z),s.length-i=n→i≤s.length→a≤i→l.length≤a→no 10 ((s.take i).drop a)→M.z4p s 10 l (a:Int) (i:Int)=some (l++z0u 10 (s.drop a)):=by
 intro n;induction n with|zero=>
  intro i a l hn r k hl d;obtain rfl:i=s.length:=by omega
  rw[ya5]at d;rw[M.z4p.eq_1];simp only[Int.le_refl,decide_true,if_true,ya,yb];rw[zbj k (ybb _)];simp only[yb,ya5];rw[z15 (by simp;omega),w1 (by omega)];simp only[yb];rw[M.z4p.eq_1,if_neg (by simp;omega),zov d]|succ n m=>
  intro i a l hn r k hl d;have f:i<s.length:=by omega
  rw[M.z4p.eq_1];have p:(i:Int)≤(s.length:Int):=by omega
  have h2:¬(i:Int)=(s.length:Int):=by omega
  simp only[p,h2,decide_true,decide_false,yl,if_false,if_true,z3u,yah f,ya,yb];have g:=zph (c:=s[i]) (n:=10) (by decide);have g:(s[i].toNat:Int)=10↔s[i]=10:=g;rw[w1 (by omega)];by_cases j:s[i]=10
  ·rw[if_pos (by simpa using g.2 j),zbj k (by omega)];simp only[yb];rw[z15 (by simp;omega)];simp only[yb];rw[m (i+1) (i+1) _ (by omega) (by omega) (ybb _) (by simp;omega) (by rw[yac (by rw[yav];omega)];exact fun b g=>by cases g)];have e:s.drop a=(s.take i).drop a++10::s.drop (i+1):=by
    have o:s=s.take i++s.drop i:=(ya4 i s).symm;conv=>lhs;rw[o]
    rw[yz (by rw[yav];omega),yab f,j]
   rw[e,zbh _ d];simp
  ·rw[if_neg (by simpa using fun q=>j (g.1 q)),m (i+1) a l (by omega) (by omega) (by omega) hl];rw[zoz f,yz (by rw[yav];omega)];exact d.snoc j
theorem zv7{s:Z}(h:s.length<100000000):M.q5x s 10=some (z0u 10 s):=by unfold M.q5x;have:M.z4p s 10 [] 0 0=_:=zz2 h _ 0 0 [] rfl (ybl _) (ybb _) (ybb _) (fun b a=>by simp at a);rw[this];rfl
theorem zr3{s:Z}(h:s.length<100000000):∀(n i:Nat),s.length-i=n→i≤s.length→no 59 (s.take i)→M.z4a s 59 (i:Int)=some (if(z2j 59 s).2.2=true then .done (z2j 59 s)else .go ()):=by
 intro n;induction n with|zero=>
  intro i hn l a;obtain rfl:i=s.length:=by omega
  rw[ya5]at a;rw[M.z4a.eq_1,if_neg (by simp),zwi a];rfl|succ n m=>
  intro i hn l a;have b:i<s.length:=by omega
  rw[M.z4a.eq_1];have k:(i:Int)<(s.length:Int):=by omega
  simp only[k,decide_true,if_true,z3u,yah b,ya,yb];have d:=zph (c:=s[i]) (n:=59) (by decide);have d:(s[i].toNat:Int)=59↔s[i]=59:=d;rw[w1 (by omega)];by_cases f:s[i]=59
  ·rw[if_pos (by simpa using d.2 f),ze9 (by omega)];simp only[yb];rw[zbj (by omega) (ybb _)];simp only[yb,ya5];have e:s=s.take i++59::s.drop (i+1):=by
    have g:s=s.take i++s.drop i:=(ya4 i s).symm;conv=>lhs;rw[g]
    rw[yab b,f]
   have j:z2j 59 s=(s.take i,s.drop (i+1),true):=by
    conv=>lhs;rw[e]
    exact zh1 _ a
   rw[j];rfl
  ·rw[if_neg (by simpa using fun q=>f (d.1 q)),m (i+1) (by omega) (by omega) (by rw[zoz b];exact a.snoc f)]
theorem zk0(c:UInt8):∀{s:Z},(z2j c s).2.2=false→z2j c s=(s,[],false)
 |[],_=>rfl|x::r,h=>by
  rw[z5m]at h⊢;split at h;·cases h
  ·rename_i a;rw[if_neg a,zk0 c (s:=r) h]
theorem zoi{s:Z}(h:s.length<100000000):M.q64 s 59=some (z2j 59 s):=by unfold M.q64;have:M.z4a s 59 0=_:=zr3 h _ 0 rfl (ybl _) (fun b a=>by simp at a);rw[this];cases c:(z2j 59 s).2.2 with|true=>rfl|false=>rw[zk0 59 c];rfl
def zvu(k:Nat)(s:Z):Int:=if isNum k s=true then((z7w 0 s:Nat):Int)else-1
theorem zr2{s:Z}(hl:s.length≤15):∀(n i v:Nat),s.length-i=n→i≤s.length→v<10^i→M.z48 s (v:Int) (i:Int)=some (if(s.drop i).all isD=true then .go ((z7w v (s.drop i):Nat):Int)else .done (-1)):=by
 intro n;induction n with|zero=>
  intro i v hn h j;obtain rfl:i=s.length:=by omega
  rw[M.z48.eq_1,if_neg (by simp),yad];rfl|succ n k=>
  intro i v hn h j;have a:i<s.length:=by omega
  have o:=pow15 (n:=i) (by omega);rw[M.z48.eq_1];have f:(i:Int)<(s.length:Int):=by omega
  have d:=s[i].toNat_lt;simp only[f,decide_true,if_true,z3u,yah a,ya,yb];rw[yab a,yu];cases hd:isD s[i]with
  |false=>
   have g:¬(48≤s[i].toNat∧s[i].toNat≤57):=fun q=>by unfold isD at hd;simp[q.1,q.2]at hd
   simp only[yk,yl,if_false];by_cases c1:(s[i].toNat:Int)<48;·simp[c1]
   ·have b:57<(s[i].toNat:Int):=by omega
    simp[c1,b]|true=>
   obtain⟨l,m⟩:=zg4 hd;have c1:¬(s[i].toNat:Int)<48:=by omega
   have b:¬57<(s[i].toNat:Int):=by omega
   have e:ybp .i64 (ybp .u8 ((s[i].toNat:Int)-48))=((s[i].toNat-48:Nat):Int):=by
    have:ybp .u8 ((s[i].toNat:Int)-48)=((s[i].toNat-48:Nat):Int):=by simp only[ybp,ybn,IntKind.signed];simp;omega
    rw[this,w64 (by omega) (by omega)]
   have c:ybp .i64 (10*(v:Int))=((10*v:Nat):Int):=by rw[w64 (by omega) (by omega)];omega
   simp only[c1,b,decide_false,yl,if_false,ys,yb,e,c];rw[wadd (by omega),w1 (by omega),k (i+1) _ (by omega) (by omega) (by rw[ybi];omega),z8z];rfl
theorem zft{s:Z}{k:Nat}(g:k≤15):M.q5w s (k:Int)=some (zvu k s):=by unfold M.q5w zvu isNum;cases s with|nil=>simp|cons c r=>
  by_cases hl:(c::r).length≤k
  ·have e:¬(k:Int)<((c::r).length:Int):=by omega
   have h:¬c::r=[]:=by simp
   have j:ix (c::r) 0=some c:=by simp[zuo]
   have f:=zph (c:=c) (n:=48) (by decide);have f:(c.toNat:Int)=48↔c=48:=f;have g:M.z48 (c::r) 0 0=_:=zr2 (s:=c::r) (by omega) _ 0 0 rfl (ybl _) (by decide);simp only[h,e,decide_false,yr,yl,if_false,j,ya,yb,yo,ys,hl,decide_true,yh,yal];by_cases b:c=48
   ·subst b;have a:((48:UInt8).toNat:Int)=48:=by decide
    simp only[a,decide_true,if_true,yb,yp,ym];cases r with|nil=>rw[g];rfl|cons d t=>simp
   ·have a:¬(c.toNat:Int)=48:=fun q=>b (f.1 q);have i:¬some c=some (48:UInt8):=fun q=>b (by cases q;rfl);simp only[a,i,decide_false,yl,if_false,yb,yo,yt,yh];rw[g,yaf];cases(c::r).all isD<;>rfl
  ·have e:(k:Int)<((c::r).length:Int):=by omega
   simp only[e,hl,decide_true,decide_false,Bool.or_true,if_true,yf,yk,yl,if_false];rfl
theorem zkk{k:Nat}(s:Z)(b:k≤5):-1≤zvu k s∧zvu k s<100000:=by
 unfold zvu;split
 ·rename_i h;have a:=(zhu h (by omega)).2.1;have h2:s.length≤k:=by unfold isNum at h;simp at h;omega
  have:10^s.length≤10^5:=ybh (by decide) (by omega);omega
 ·omega
theorem zt8{k n:Nat}(a:1≤k)(h:n<10^k):zvu k (Lib.decDigits n)=n:=by unfold zvu;rw[if_pos (zht k a h),zl5 n n (ybb _)]
theorem z84{a b:Nat}(c:a<18446744073709551616)(d:b<18446744073709551616):orI .u64 (a:Int) (b:Int)=((a|||b:Nat):Int):=by
 have h:a|||b<2^64:=ybg (by omega) (by omega);have e:(BitVec.ofInt ybo.bits (a:Int)|||BitVec.ofInt ybo.bits (b:Int)).toNat=a|||b:=by show(BitVec.ofInt 64 (a:Int)|||BitVec.ofInt 64 (b:Int)).toNat=a|||b;rw[BitVec.toNat_or,BitVec.ofInt_natCast,BitVec.ofInt_natCast,BitVec.toNat_ofNat,BitVec.toNat_ofNat,ybd (by omega),ybd (by omega)]
 grind[orI,wu64]
theorem zz00y{a b:Nat}(c:a<18446744073709551616)(d:b<18446744073709551616):z9d .u64 (a:Int) (b:Int)=((a&&&b:Nat):Int):=by
 have h:a&&&b<2^64:=Nat.and_lt_two_pow _ (by omega);have e:(BitVec.ofInt ybo.bits (a:Int)&&&BitVec.ofInt ybo.bits (b:Int)).toNat=a&&&b:=by show(BitVec.ofInt 64 (a:Int)&&&BitVec.ofInt 64 (b:Int)).toNat=a&&&b;rw[BitVec.toNat_and,BitVec.ofInt_natCast,BitVec.ofInt_natCast,BitVec.toNat_ofNat,BitVec.toNat_ofNat,ybd (by omega),ybd (by omega)]
 grind[z9d,wu64]
theorem za4{a k:Nat}(c:k≤64)(b:a*2^k<18446744073709551616):z7r .u64 (a:Int) ((k:Nat):Int)=((a*2^k:Nat):Int):=by
 have e:min ((k:Nat):Int).toNat ybo.bits=k:=by show min ((k:Nat):Int).toNat 64=k;omega
 grind[z7r,wu64]
def hiB:Nat:=9259542123273814144
theorem zz02k:∀b:Fin 256,∀i:Fin 8,b.val*2^(8*i.val)&&&hiB=0→b.val<128:=by decide+kernel
theorem zfp{b:UInt8}(i:Nat)(a:i<8)(h:b.toNat*2^(8*i)&&&hiB=0):b.toNat<128:=zz02k ⟨b.toNat,zfq⟩ ⟨i,a⟩ h
theorem zar{b:UInt8}(i:Nat)(d:i<8):b.toNat*2^(8*i)<18446744073709551616:=by have a:=zfq (b:=b);have h2:2^(8*i)≤2^56:=ybh (by decide) (by omega);have c:b.toNat*2^(8*i)≤255*2^56:=Nat.mul_le_mul (by omega) h2;omega
theorem zf1{a b:Nat}(c:a<18446744073709551616)(d:b<18446744073709551616):a|||b<18446744073709551616:=by have h:a|||b<2^64:=ybg (by omega) (by omega);simpa using h
theorem zd5{s:Z}(h:8≤s.length):∃W:Nat,W<18446744073709551616∧M.word (unb s)=some (W:Int)∧(W&&&hiB=0→∀b∈s.take 8,b.toNat<128):=by
 obtain⟨b0,a,c,d,f,g,i,j,r,rfl⟩:∃b0 a c d f g i j r,s=b0::a::c::d::f::g::i::j::r:=by match s,h with|b0::a::c::d::f::g::i::j::r,_=>simp
 have w:∀b:UInt8,ybp .u64 (b.toNat:Int)=(b.toNat:Int):=fun b=>wu64 (by omega) (by grind[zfq]);have l0:=zar (b:=b0) 0 (by decide);have m:=zar (b:=a) 1 (by decide);have l2:=zar (b:=c) 2 (by decide);have n:=zar (b:=d) 3 (by decide);have o:=zar (b:=f) 4 (by decide);have l5:=zar (b:=g) 5 (by decide);have p:=zar (b:=i) 6 (by decide);have q:=zar (b:=j) 7 (by decide);have S:z7r .u64 (a.toNat:Int) 8=_:=za4 (k:=8*1) (by decide) m;have T:z7r .u64 (c.toNat:Int) 16=_:=za4 (k:=8*2) (by decide) l2;have U:z7r .u64 (d.toNat:Int) 24=_:=za4 (k:=8*3) (by decide) n;have V:z7r .u64 (f.toNat:Int) 32=_:=za4 (k:=8*4) (by decide) o;have X:z7r .u64 (g.toNat:Int) 40=_:=za4 (k:=8*5) (by decide) l5;have Y:z7r .u64 (i.toNat:Int) 48=_:=za4 (k:=8*6) (by decide) p;have s7:z7r .u64 (j.toNat:Int) 56=_:=za4 (k:=8*7) (by decide) q;have z0:b0.toNat<18446744073709551616:=by have:=zfq (b:=b0);omega
 have v:=zf1 z0 m;have x:=zf1 v l2;have y:=zf1 x n;have z:=zf1 y o;have A:=zf1 z l5;have B:=zf1 A p;have R:=zf1 B q;refine⟨_,R,?_,?_⟩
 ·unfold M.word;have e:unb (b0::a::c::d::f::g::i::j::r)=(b0.toNat:Int)::(a.toNat:Int)::(c.toNat:Int)::(d.toNat:Int)::(f.toNat:Int)::(g.toNat:Int)::(i.toNat:Int)::(j.toNat:Int)::unb r:=rfl;rw[e];have I:∀(l:List Int),ix l 0=l[0]?:=fun l=>by simp[ix]
  have J:∀(l:List Int),ix l 1=l[1]?:=fun l=>by simp[ix]
  have K:∀(l:List Int),ix l 2=l[2]?:=fun l=>by simp[ix]
  have L:∀(l:List Int),ix l 3=l[3]?:=fun l=>by simp[ix]
  have N:∀(l:List Int),ix l 4=l[4]?:=fun l=>by simp[ix]
  have O:∀(l:List Int),ix l 5=l[5]?:=fun l=>by simp[ix]
  have P:∀(l:List Int),ix l 6=l[6]?:=fun l=>by simp[ix]
  have Q:∀(l:List Int),ix l 7=l[7]?:=fun l=>by simp[ix]
  simp only[I,J,K,L,N,O,P,Q,List.getElem?_cons_zero,List.getElem?_cons_succ,ya,yb,w,S,T,U,V,X,Y,s7];rw[z84 z0 m,z84 v l2,z84 x n,z84 y o,z84 z l5,z84 A p,z84 B q]
 ·intro u;simp only[Lib.or_mask]at u;obtain⟨⟨⟨⟨⟨⟨⟨h0,C⟩,h2⟩,D⟩,E⟩,F⟩,G⟩,H⟩:=u;intro b t;simp only[ya6,ya7,yay,ya2,or_false]at t;rcases t with rfl|rfl|rfl|rfl|rfl|rfl|rfl|rfl;·exact zfp 0 (by decide) (by grind)
  ·exact zfp 1 (by decide) C
  ·exact zfp 2 (by decide) h2
  ·exact zfp 3 (by decide) D
  ·exact zfp 4 (by decide) E
  ·exact zfp 5 (by decide) F
  ·exact zfp 6 (by decide) G
  ·exact zfp 7 (by decide) H
theorem zz03j(s:Z)(k:Nat):(unb s).drop k=unb (s.drop k):=by simp[unb]
theorem z89{s:Z}{k:Nat}(h:k≤s.length):sub (unb s) (k:Int) ((unb s).length:Int)=some (unb (s.drop k)):=by grind[zcb,z0s,zz03j]
theorem zz06c:(9259542123273814144:Int)=((hiB:Nat):Int):=rfl
theorem zw3{W:Nat}(h:W<18446744073709551616):decide (z9d .u64 (W:Int) 9259542123273814144=0)=decide (W&&&hiB=0):=by rw[zz06c,zz00y h (by decide)];simp
theorem z9g{s:Z}{a b:Nat}(c:∀x∈s.take a,x.toNat<128)(d:∀x∈(s.drop a).take b,x.toNat<128):∀x∈s.take (a+b),x.toNat<128:=by grind
theorem zro:∀(n:Nat)(s:Z),s.length≤n→∃k,M.za7 (unb s)=some (unb (s.drop k))∧∀b∈s.take k,b.toNat<128:=by intro n;induction n with|zero=>intro s z;refine⟨0,?_,by simp⟩;grind[M.za7.eq_1,z0s]|succ n A=>
  intro s z;rw[M.za7.eq_1];by_cases y:32<s.length
  ·have j:(32:Int)<((unb s).length:Int):=by rw[z0s];omega
   have x:sub (unb s) 8 ((unb s).length:Int)=some (unb (s.drop 8)):=z89 (k:=8) (by omega);have g:sub (unb s) 16 ((unb s).length:Int)=some (unb (s.drop 16)):=z89 (k:=16) (by omega);have h:sub (unb s) 24 ((unb s).length:Int)=some (unb (s.drop 24)):=z89 (k:=24) (by omega);have i:sub (unb s) 32 ((unb s).length:Int)=some (unb (s.drop 32)):=z89 (k:=32) (by omega);obtain⟨W0,c,p,u⟩:=zd5 (s:=s) (by omega);obtain⟨l,d,q,c1⟩:=zd5 (s:=s.drop 8) (by simp;omega);obtain⟨m,e,r,v⟩:=zd5 (s:=s.drop 16) (by simp;omega);obtain⟨o,f,t,w⟩:=zd5 (s:=s.drop 24) (by simp;omega);simp only[j,decide_true,if_true,x,g,h,i,p,q,r,t,ya,yb];rw[z84 c d,z84 e f,z84 (zf1 c d) (zf1 e f),zw3 (zf1 (zf1 c d) (zf1 e f))];by_cases a:(W0|||l|||(m|||o))&&&hiB=0;·simp only[a,decide_true,if_true];obtain⟨k,k1,B⟩:=A (s.drop 32) (by simp;omega);simp only[Lib.or_mask]at a;refine⟨32+k,by simp_all,z9g ?_ B⟩;have C:=z9g (u a.1.1) (c1 a.1.2);have D:=z9g C (v a.2.1);exact z9g D (w a.2.2)
   ·simp only[a,decide_false,yl,if_false];exact⟨0,by simp,by simp⟩
  ·have j:¬(32:Int)<((unb s).length:Int):=by rw[z0s];omega
   exact⟨0,by simp[j],by simp⟩
theorem zz01i{c:Nat}(h:c<256):ix utf8First (c:Int)=some ((Lib.firstT c:Nat):Int):=by simp_all[z3u,utf8First]
theorem zz09g{i:Nat}(h:i<16):ix zd4 (i:Int)=some ⟨((Lib.accLo i:Nat):Int),((Lib.accHi i:Nat):Int)⟩:=by grind[z3u,zd4]
theorem zz01j(c:Nat):Lib.firstT c<256:=by
 unfold Lib.firstT;repeat' split
 all_goals omega
theorem zz00x:∀b:Fin 256,ybp .i64 (z9d .u8 ((b.val:Nat):Int) 7)=((b.val%8:Nat):Int):=by decide+kernel
theorem shr4{n:Nat}:zir .u8 (n:Int) 4=((n/16:Nat):Int):=by have e:min (4:Int).toNat IntKind.u8.bits=4:=rfl;unfold zir;grind
theorem zst{s:Z}{i:Nat}(h:i<s.length):ix (unb s) (i:Int)=some (((s.getD i 0).toNat:Nat):Int):=by grind[z3u,zj5]
def VK(b:Bool):Jn Bool Unit:=if b=true then .go ()else .done false
set_option maxRecDepth 100000 in
set_option maxHeartbeats 2000000 in
theorem zrn:∀(n:Nat)(s:Z),s.length≤n→M.z6i (unb s)=some (VK (Lib.validD s)):=by intro n;induction n with|zero=>intro s V;obtain rfl:s=[]:=List.eq_nil_of_length_eq_zero (by omega);rw[M.z6i.eq_1];rfl|succ n ih=>
  intro s V;by_cases m:s=[];·grind
  have o:0<s.length:=yau.2 m;rw[M.z6i.eq_1];have S:(0:Int)<((unb s).length:Int):=by rw[z0s];omega
  have x0:ix (unb s) 0=some (((s.getD 0 0).toNat:Nat):Int):=zst (i:=0) o;simp only[S,decide_true,if_true,x0,ya,yb];by_cases U:(s.getD 0 0).toNat<128
  ·have j:(((s.getD 0 0).toNat:Nat):Int)<128:=by omega
   have B:sub (unb s) 1 ((unb s).length:Int)=some (unb (s.drop 1)):=z89 (k:=1) (by omega);have v:(s.drop 1).length<s.length:=by simp;omega
   have a0:∀b∈s.take 1,b.toNat<128:=by
    obtain⟨c,r,rfl⟩:∃c r,s=c::r:=by cases s with|nil=>grind|cons c r=>simp
    intro b C;simp only[ya6,ya7,ya0]at C;subst C;simpa using U
   have fin:∀k:Nat,(∀b∈(s.drop 1).take k,b.toNat<128)→((M.z6i (unb ((s.drop 1).drop k))).bind fun r=>some (Jn.done r:Jn (Jn Bool Unit) Unit))=some (.done (VK (Lib.validD s))):=fun k hk=>by grind[Lib.validD_ascii]
   simp only[j,decide_true,if_true,B,yb];generalize s.drop 1=t at B v fin;by_cases h8:8<t.length
   ·have l:(8:Int)<((unb t).length:Int):=by rw[z0s];omega
    obtain⟨W0,p,K,L⟩:=zd5 (s:=t) (by omega);simp only[l,decide_true,if_true,K,yb];rw[zw3 p];by_cases D:W0&&&hiB=0
    ·have R:sub (unb t) 8 ((unb t).length:Int)=some (unb (t.drop 8)):=z89 (k:=8) (by omega);simp only[D,decide_true,if_true,R,yb];have E:=L D;by_cases T:16<(t.drop 8).length
     ·have d:(16:Int)<((unb (t.drop 8)).length:Int):=by rw[z0s];omega
      obtain⟨I,x,z,c1⟩:=zd5 (s:=t.drop 8) (by omega);obtain⟨J,y,A,N⟩:=zd5 (s:=(t.drop 8).drop 8) (by grind);have u:sub (unb (t.drop 8)) 8 ((unb (t.drop 8)).length:Int)=some (unb ((t.drop 8).drop 8)):=z89 (k:=8) (by omega);have q:sub (unb (t.drop 8)) 16 ((unb (t.drop 8)).length:Int)=some (unb ((t.drop 8).drop 16)):=z89 (k:=16) (by omega);simp only[d,decide_true,if_true,u,z,A,yb];rw[z84 x y,zw3 (zf1 x y)];by_cases a:(I|||J)&&&hiB=0;·simp only[a,decide_true,if_true,q,yb];obtain⟨k,k1,W⟩:=zro _ ((t.drop 8).drop 16) (ybb _);simp only[Lib.or_mask]at a;have w:=z9g (c1 a.1) (N a.2);have X:=z9g w W;have Y:=z9g E X;have f:=fin (8+(8+8+k)) Y;grind[yaa]
      ·have f:=fin 8 E;grind
     ·have d:¬(16:Int)<((unb (t.drop 8)).length:Int):=by rw[z0s];omega
      grind
    ·have f:=fin 0 (by simp);grind
   ·have l:¬(8:Int)<((unb t).length:Int):=by rw[z0s];omega
    have f:=fin 0 (by simp);grind
  ·have j:¬(((s.getD 0 0).toNat:Nat):Int)<128:=by omega
   have g:=zfq (b:=s.getD 0 0);have hF:=zz01j (s.getD 0 0).toNat;have e:=zz00x ⟨Lib.firstT (s.getD 0 0).toNat,hF⟩;simp only at e;rw[Lib.validD_lead s m (by omega)];simp only[j,decide_false,yl,if_false,yb,zz01i g,shr4,zz09g (i:=Lib.firstT (s.getD 0 0).toNat/16) (by omega),e];generalize Lib.firstT (s.getD 0 0).toNat%8=sz;generalize Lib.accLo (Lib.firstT (s.getD 0 0).toNat/16)=lo;generalize Lib.accHi (Lib.firstT (s.getD 0 0).toNat/16)=hi;have hl:((unb s).length:Int)=(s.length:Int):=by rw[z0s]
   have F:1<s.length→ix (unb s) 1=some (((s.getD 1 0).toNat:Nat):Int):=fun h=>zst (i:=1) h;have G:2<s.length→ix (unb s) 2=some (((s.getD 2 0).toNat:Nat):Int):=fun h=>zst (i:=2) h;have H:3<s.length→ix (unb s) 3=some (((s.getD 3 0).toNat:Nat):Int):=fun h=>zst (i:=3) h;have O:2≤s.length→sub (unb s) 2 ((unb s).length:Int)=some (unb (s.drop 2)):=fun h=>z89 (k:=2) h;have P:3≤s.length→sub (unb s) 3 ((unb s).length:Int)=some (unb (s.drop 3)):=fun h=>z89 (k:=3) h;have Q:4≤s.length→sub (unb s) 4 ((unb s).length:Int)=some (unb (s.drop 4)):=fun h=>z89 (k:=4) h;rw[hl]at O P Q;simp only[hl];generalize(s.getD 1 0).toNat=z at F;generalize(s.getD 2 0).toNat=A at G;generalize(s.getD 3 0).toNat=b3 at H;unfold Lib.checkN;have no:some (Jn.done false:Jn Bool Unit)=some (VK false):=rfl;by_cases z2:sz=2;·grind
   ·have z2i:¬((sz:Nat):Int)=2:=by omega
    simp only[z2,z2i,decide_false,yl,if_false];by_cases z3:sz=3;·grind
    ·have z3i:¬((sz:Nat):Int)=3:=by omega
     simp only[z3,z3i,decide_false,yl,if_false];by_cases z4:sz=4
     ·have z4i:((sz:Nat):Int)=4:=by omega
      simp only[z4,z4i,decide_true,if_true];by_cases w:s.length<4;·grind
      ·have q1i:¬(s.length:Int)<4:=by omega
       simp only[w,q1i,decide_false,yl,if_false,false_or,F (by omega),G (by omega),H (by omega),yb];grind
     grind
theorem zz03s(s:Z):M.valid (unb s)=some (Lib.validD s):=by unfold M.valid;have b:sub (unb s) 0 ((unb s).length:Int)=some (unb s):=zcb (a:=0) (ybl _);have h:((unb s).length:Int)≤((unb s).length:Int):=Int.le_refl _;rw[z3a (by simp)];simp only[ya,yb,b,zrn _ s (ybb _)];cases Lib.validD s<;>rfl
theorem bindR{α:Type}(x:Option α):(x.bind fun a=>some a)=x:=by simp
theorem zz05p(m:Nat)(h:m<10):byt [ybp .u8 (ybp .i64 (48+(m:Int)))]=[ybq (48+m)]:=by
 have:∀m:Fin 10,byt [ybp .u8 (ybp .i64 (48+((m.val:Nat):Int)))]=[ybq (48+m.val)]:=by decide+kernel
 exact this ⟨m,h⟩
theorem zoj:∀(b m:Nat)(s:Z),m≤b→0<m→s.length+m<1000000000000000000→M.z2c s (m:Int)=some (Lib.decDigits m++s):=by intro b;induction b with|zero=>omega|succ b h=>
  intro m s i h2 j;have g:(0:Int)<(m:Int):=by omega
  have c:Int.tmod (m:Int) 10=((m%10:Nat):Int):=by rw[Int.tmod_eq_emod_of_nonneg (by omega)];omega
  have d:Int.tdiv (m:Int) 10=((m/10:Nat):Int):=by rw[Int.tdiv_eq_ediv_of_nonneg (by omega)];omega
  rw[M.z2c];simp only[g,decide_true,yt,if_true,c,d];rw[zz05p _ (by omega),z1v (by simp;omega),w64 (by omega) (by omega)];simp only[ya,yb];by_cases a:m<10
  ·have e:m/10=0:=by omega
   have f:m%10=m:=by omega
   rw[e,f,M.z2c,Lib.decDigits,dif_pos a];simp
  ·rw[h (m/10) _ (by omega) (by omega) (by simp;omega)];conv=>rhs;rw[Lib.decDigits]
   grind
theorem za2{n:Nat}(h:n<100000000000000000):M.q6d (n:Int)=some (Lib.decDigits n):=by
 unfold M.q6d;by_cases c:n=0
 ·subst c;have e:M.z2c [] ((0:Nat):Int)=some [48]:=by
   rw[M.z2c];have a:byt [ybp .u8 (ybp .i64 (48+Int.tmod ((0:Nat):Int) 10))]=[48]:=by decide+kernel
   rw[a,z1v (by simp)];have b:ybp .i64 (Int.tdiv ((0:Nat):Int) 10)=0:=by decide+kernel
   simp only[ya,yb,b];rw[M.z2c];simp
  grind[Lib.decDigits]
 ·rw[zoj n n [] (ybb _) (by omega) (by simp;omega)];simp
theorem zbb(n:Int):M.q6w n=some (z63 n):=by unfold M.q6w z63 zz00e;simp only[z6r,apply_ite (some:Z→Option Z),decide_eq_true_eq]
theorem zfu{s:Z}(c:s.length<1000000000):M.q6i s=some (z6m s):=by
 unfold M.q6i;have tab:∀b:UInt8,(decide (65≤(b.toNat:Int))&&decide ((b.toNat:Int)≤90)||decide (97≤(b.toNat:Int))&&decide ((b.toNat:Int)≤122)||decide (48≤(b.toNat:Int))&&decide ((b.toNat:Int)≤57)||decide ((b.toNat:Int)=45)||decide ((b.toNat:Int)=95))=sesC b:=z6a (by decide+kernel);have a:M.z55 s 0=some (match s.findIdx? fun b=>!sesC b with|some i=>.done false|none=>.go ()):=by
  refine seek (fun _=>false) () (by omega) (fun i h=>?_) ?_;·rw[M.z55];simp_all[z3u]
  ·grind[M.z55]
 grind[z6m]
theorem z5x{s:Z}(h:s.length<1000000000):M.q5c s=some (z9b s):=by grind[M.q5c,z9b,z3q]
theorem zqz{s:Z}(e:s.length<1000000000):M.q5b s=some (zmg s):=by
 unfold M.q5b;have tab:∀b:UInt8,(decide ((b.toNat:Int)<33)||decide ((b.toNat:Int)=34)||decide ((b.toNat:Int)=92)||decide (126<(b.toNat:Int)))=badW b:=z6a (by decide+kernel);have c:M.z5w s 0=some (match s.findIdx? badW with|some i=>.done false|none=>.go ()):=by
  refine seek (fun _=>false) () (by omega) (fun i h=>?_) ?_;·rw[M.z5w];simp_all[z3u]
  ·grind[M.z5w]
 simp only[ya,c,yb];have a:=List.findIdx?_isSome (xs:=s) (p:=badW);unfold zmg;rw[←a];cases hf:s.findIdx? badW with|some i=>simp|none=>
  simp only[Option.isSome_none,yo,yh];congr 1;have d:decide (1≤(s.length:Int))=!decide (s=[]):=by cases s<;>simp;omega
  grind
theorem zz3{c:q01}(hl:c.sz≤100000000):∀(n i:Nat)(b:Bool),c.zj.length-i=n→i≤c.zj.length→M.z2r c b (i:Int)=some (b&&scp (ze2 c.zj i) (c.zj.drop i)):=by
 have k1:=z38 c.zj;have u:c.zj.length≤100000000:=by unfold q01.sz at hl;omega
 have l:∀s∈c.zj,s.length<1000000000:=fun s h=>by have:=zi0 h;grind[q01.sz]
 intro n;induction n with|zero=>grind[M.z2r,yac,scp]|succ n m=>
  intro i b hn r;have a:i<c.zj.length:=by omega
  have k:(i:Int)<(c.zj.length:Int):=by omega
  have d:ze2 c.zj (i+1)=some c.zj[i]:=by unfold ze2;rw[if_neg (by omega),ya9,yah a]
  rw[M.z2r,yab a];simp only[k,decide_true,if_true,z3u,yah a,ya,yb,zqz (l _ (yaj a))];rw[w1 (by omega)];unfold scp;have key:((if b=true then some (zmg c.zj[i])else some false).bind fun e=>(if e=true then if decide ((i:Int)=0)=true then some true else(ix c.zj (ybp .i64 ((i:Int)-1))).bind fun g=>some (slt g c.zj[i])else some false).bind fun f=>M.z2r c f ((i+1:Nat):Int))=M.z2r c (b&&(zmg c.zj[i]&&match ze2 c.zj i with|none=>true|some q=>slt q c.zj[i])) ((i+1:Nat):Int):=by cases b with|false=>rfl|true=>cases v:zmg c.zj[i]with|false=>rfl|true=>
     by_cases j:i=0;·grind[ze2]
     ·have t:¬(i:Int)=0:=by omega
      have o:ybp .i64 ((i:Int)-1)=((i-1:Nat):Int):=by rw[w64 (by omega) (by omega)];omega
      have p:ze2 c.zj i=some c.zj[i-1]:=by unfold ze2;rw[if_neg j,yah (by omega)]
      grind[z3u]
  rw[key,m (i+1) _ (by omega) (by omega),d];grind
theorem zz4{c:q01}(hl:c.sz≤100000000):∀(n i:Nat)(b:Bool),c.z5j.length-i=n→i≤c.z5j.length→M.z3j c b (i:Int)=some (b&&(c.z5j.drop i).all fun s=>z9b s&&!decide (s=[])):=by
 have k1:=z38 c.z5j;have g:c.z5j.length≤100000000:=by unfold q01.sz at hl;omega
 have e:∀s∈c.z5j,s.length<1000000000:=fun s h=>by have:=zi0 h;grind[q01.sz]
 intro n;induction n with|zero=>grind[M.z3j,yac]|succ n j=>
  intro i b hn f;have a:i<c.z5j.length:=by omega
  have d:(i:Int)<(c.z5j.length:Int):=by omega
  rw[M.z3j,yab a];simp only[d,decide_true,if_true,z3u,yah a,ya,yb,z5x (e _ (yaj a))];rw[w1 (by omega),yu];grind[M.z3j]
theorem zog{c:q01}(h:ClOk c):M.q59 c=some (if okC c=true then 0 else 142):=by
 obtain⟨j,_⟩:=h;have f:c.sz≤100000000:=by omega
 unfold q01.sz at j;unfold M.q59;rw[z5x (s:=c.zff) (by omega),z5x (s:=c.zfh) (by omega),z5x (s:=c.zfe) (by omega),z5x (s:=c.z0e) (by omega),z5x (s:=c.zfg) (by omega),z5x (s:=c.z13) (by omega)];have g:∀b,M.z2r c b 0=some (b&&scp none c.zj):=fun b=>zz3 f _ 0 b rfl (ybl _);have i:∀b,M.z3j c b 0=some (b&&c.z5j.all fun s=>z9b s&&!decide (s=[])):=fun b=>zz4 f _ 0 b rfl (ybl _);have k:∀(a b:Bool),(if a=true then some b else some false)=some (a&&b):=fun a b=>by grind
 simp only[ya,yb,k,g,i];have m:decide ((c.zj.length:Int)≤16)=decide (c.zj.length≤16):=decide_eq_decide.2 (by omega);have n:decide ((c.z5j.length:Int)≤4)=decide (c.z5j.length≤4):=decide_eq_decide.2 (by omega);have o:(c.z5j.all fun s=>z9b s&&!decide (s=[]))=(c.z5j.all z9b&&!decide (([]:Z)∈c.z5j)):=by rw[yj];simp only[yv,ye,yn,decide_eq_false_iff_not];exact⟨fun q=>⟨fun s d=>(q s d).1,fun d=>(q _ d).2 rfl⟩,fun q s d=>⟨q.1 s d,fun e=>q.2 (e▸d)⟩⟩
 have l:okC c=(z9b c.zff&&z9b c.zfh&&z9b c.zfe&&z9b c.z0e&&z9b c.zfg&&z9b c.z13&&decide (0≤c.zeq)&&decide (c.zeq≤1099511627776)&&decide (0≤c.zep)&&decide (c.zep≤1099511627776)&&decide (0≤c.z03)&&decide (c.z03≤9)&&decide (c.zj.length≤16)&&decide (c.z5j.length≤4)&&scp none c.zj&&(c.z5j.all z9b&&!decide (([]:Z)∈c.z5j))):=by unfold okC zmc;simp only[yu,List.all_nil,yh];ac_rfl
 grind
theorem zz037(l:List Z)(hl:l.length<1000000000):M.q4r l []=some (decide (l=[])):=by cases l with|nil=>grind[z8j]|cons a l=>rfl
theorem zzm{c:q01}(a:c.zj.length<1000000000)(h2:c.z5j.length<1000000000):M.q5a c ⟨[],[],[],[],[],[],0,0,0,[],[]⟩=some (zat c):=by grind[M.q5a,zat,zz037]
theorem zrq{l:List Mb}{kd:Int}{a k:Z}{v:J}(h:l.length<1000000):M.q6v ⟨kd,a,l.map (·.2),l.map (·.1)⟩ k v=some (obj (l++[(k,v)])):=by unfold M.q6v;grind[zmo,z15,obj]
theorem z3s{l:List Mb}{k:Z}{v:J}(h:l.length<1000000):M.q6v (obj l) k v=some (obj (l++[(k,v)])):=zrq h
theorem zbz{n:Int}(h:z4q n=true):M.q5y n=some (jN n):=by unfold z4q at h;simp only[ye,decide_eq_true_eq]at h;obtain⟨m,rfl⟩:∃m:Nat,n=m:=⟨n.toNat,by omega⟩;grind[M.q5y,jN,za2,z5p]
theorem za0{l:List Mb}{k:Z}{n:Int}(h:l.length<1000000)(hn:z4q n=true):M.q6e (obj l) k n=some (obj (l++opt (!decide (n=0)) k (jN n))):=by
 unfold M.q6e;by_cases a:n=0;·grind[opt]
 simp_all[zbz,z3s,opt]
theorem ziq{l:List Mb}{k s:Z}(h:l.length<1000000):M.q6l (obj l) k s=some (obj (l++opt (z6z s) k (jT s))):=by
 unfold M.q6l z6z;by_cases a:s=[];·grind[opt]
 ·have b:M.q6q s=some (jT s):=rfl;simp_all[z3s,opt]
theorem rtext_jT(s:Z):M.q6q s=some (jT s):=rfl
theorem zzg{l:List Z}(hl:l.length<10000000):∀(n i:Nat)(a:List J),l.length-i=n→i≤l.length→a.length≤i→M.z4b l (i:Int) a=some (a++(l.drop i).map jT):=by intro n;induction n with|zero=>grind[M.z4b,yac]|succ n f=>
  intro i a hn e d;have b:i<l.length:=by omega
  have c:(i:Int)<(l.length:Int):=by omega
  rw[M.z4b,yab b];simp only[c,decide_true,if_true,z3u,yah b,ya,yb,rtext_jT,zmo];grind[z15,w1]
theorem zc1{l:List Z}(hl:l.length<10000000):M.q6r l=some (jTs l):=by unfold M.q6r;have h:M.z4b l 0 []=some ([]++(l.drop 0).map jT):=zzg hl _ 0 [] rfl (ybl _) (by simp);grind[jTs]
theorem zvc{l:List q02}(hl:zg2 l<10000000):∀(n i:Nat)(a:List J)(b:List Z),l.length-i=n→i≤l.length→a.length≤i→b.length≤i→M.z3l l (i:Int) a b=some (a++(l.drop i).map fun f=>jTs f.z3t,b++(l.drop i).map (·.z05)):=by
 have g:=zgh l;have d:∀f∈l,f.z3t.length<10000000:=fun f hf=>by have e:f.sz≤zg2 l:=ziv (yaz.2 ⟨f,hf,rfl⟩);grind[z38,q02.sz]
 intro n;induction n with|zero=>grind[M.z3l,yac]|succ n h=>
  intro i a b hn m j k;have c:i<l.length:=by omega
  have e:(i:Int)<(l.length:Int):=by omega
  rw[M.z3l,yab c];simp only[e,decide_true,if_true,z3u,yah c,ya,yb];rw[z15 (by simp;omega),zc1 (d _ (by simp))];simp only[yb,zmo];rw[z15 (by simp;omega),w1 (by omega)];simp only[yb];rw[h (i+1) _ _ (by omega) (by omega) (by simp;omega) (by simp;omega),yaw,yaw,yw,yw];rfl
theorem zr7{l:List q02}(hl:zg2 l<10000000):M.q6f l=some (jFs l):=by unfold M.q6f;have h:M.z3l l 0 [] []=some ([]++(l.drop 0).map fun f=>jTs f.z3t,[]++(l.drop 0).map (·.z05)):=zvc hl _ 0 [] [] rfl (ybl _) (by simp) (by simp);grind[jFs]
theorem zm1{c:q01}(h:ClOk c)(d:z4q c.zeq=true)(h2:z4q c.zep=true)(e:z4q c.z03=true):M.q5v c=some (obj (zau c)):=by obtain⟨b,_⟩:=h;unfold q01.sz at b;have k1:=z38 c.zj;have f:=z38 c.z5j;have a:q04.mk 0 ([]:Z) [] []=⟨0,[],([]:List Mb).map (·.2),([]:List Mb).map (·.1)⟩:=rfl;unfold M.q5v;simp only[rtext_jT,zbz d,zbz h2,zbz e,zc1 (show c.zj.length<10000000 by omega),zc1 (show c.z5j.length<10000000 by omega),ya,yb];rw[a,zrq (by simp)];simp only[yb];rw[z3s (by simp)];simp only[yb];rw[z3s (by simp)];simp only[yb];rw[z3s (by simp)];simp only[yb];rw[z3s (by simp)];simp only[yb];rw[z3s (by simp)];simp only[yb];rw[z3s (by simp)];simp only[yb];rw[z3s (by simp)];simp only[yb];rw[z3s (by simp)];simp only[yb];rw[z3s (by simp)];simp only[yb];rw[z3s (by simp)];rfl
theorem zz031{r:q06}(hl:zvl r.zy<10000000):∀(n i:Nat)(a:List J),r.zy.length-i=n→i≤r.zy.length→a.length≤i→M.z50 r (i:Int) a=some (a++(r.zy.drop i).map fun t=>obj (zah t)):=by have c:=zgo r.zy;have d:q04.mk 0 ([]:Z) [] []=⟨0,[],([]:List Mb).map (·.2),([]:List Mb).map (·.1)⟩:=rfl;intro n;induction n with|zero=>grind[M.z50,yac]|succ n g=>
  intro i a hn j h;have b:i<r.zy.length:=by omega
  have e:(i:Int)<(r.zy.length:Int):=by omega
  have f:=zmf (l:=r.zy) (t:=r.zy[i]) (by simp);have hf:zg2 r.zy[i].z0y<10000000:=by unfold q07.sz at f;omega
  rw[M.z50,yab b];simp only[e,decide_true,if_true,z3u,yah b,ya,yb,rtext_jT,zr7 hf];rw[d,zrq (by simp)];simp only[yb];rw[z3s (by simp)];simp only[yb];rw[z3s (by simp)];simp only[yb];rw[z3s (by simp)];simp only[yb,zmo];rw[z15 (by simp;omega),w1 (by omega)];simp only[yb];rw[g (i+1) _ (by omega) (by omega) (by simp;omega),yaw,yw];rfl
theorem zr0{r:q06}(h:RpOk r)(q:okC r.zk=true)(hf:(z4q r.z1i&&z4q r.z0d&&z4q r.z03&&z4q r.z1q)=true):M.q5f r=some (obj (z6y r)):=by
 obtain⟨L,⟨W,X,Y,i4,i5⟩,O⟩:=h;unfold q06.sz at L;simp only[ye]at hf;obtain⟨⟨⟨G,H⟩,I⟩,K⟩:=hf;have k1:=z38 r.zj;have s:ClOk r.zk:=⟨by omega,O⟩;have k2:=z38 r.zk.zj;have k3:=z38 r.zk.z5j;have N:kys r.zk.zj+kys r.zk.z5j≤r.zk.sz:=by unfold q01.sz;omega
 have d:z4q r.zk.zeq=true∧z4q r.zk.zep=true∧z4q r.zk.z03=true:=by unfold okC at q;simp only[ye,decide_eq_true_eq]at q;obtain⟨⟨⟨⟨⟨⟨⟨⟨⟨_,_⟩,u⟩,h2⟩,U⟩,V⟩,_⟩,_⟩,_⟩,_⟩:=q;unfold zmc at u h2;simp only[ye,decide_eq_true_eq]at u h2;unfold z4q;simp only[ye,decide_eq_true_eq];omega
 have e:M.z50 r 0 []=some ([]++(r.zy.drop 0).map fun t=>obj (zah t)):=zz031 (by omega) _ 0 [] rfl (ybl _) (by simp);rw[yaf,ya1]at e;have E:∀{α:Type}[DecidableEq α](l:List α),decide (0<(l.length:Int))=!decide (l=[]):=fun l=>by cases l with|nil=>rfl|cons a l=>simp
 have p:q04.mk 6 ([]:Z) [] []=obj []:=rfl;have f:∀(l:List Mb)(b:Bool)(k:Z)(v:J),l.length<1000000→(if b=true then M.q6v (obj l) k v else some (obj l))=some (obj (l++opt b k v)):=fun l b k v hl=>by grind[z3s,opt]
 have F:∀l:List q07,decide (0<(l.length:Int))=!decide (l=[]):=fun l=>by simp_all
 unfold M.q5f;have o:=zqn;have o1:=o (!decide (r.z1i=0)) zab (jN r.z1i);have P:=o (z6z r.z3r) z94 (jT r.z3r);have Q:=o (z6z r.z25) z6p (jT r.z25);have R:=o (z6z r.z18) z5a (jT r.z18);have S:=o (z6z r.gId) zup (jT r.gId);have T:=o (z6z r.zq) zeu (jT r.zq);have o2:=o (!decide (r.zj=[])) z6l (jTs r.zj);have o3:=o (!decide (r.z0d=0)) z5q (jN r.z0d);have o4:=o (!decide (r.z03=0)) z6x (jN r.z03);have o5:=o (!decide (r.z1q=0)) zac (jN r.z1q);have o6:=o r.z4d z6q zq3;have o7:=o (!zat r.zk) z4f (obj (zau r.zk));have c1:(B37:Z)=zab:=rfl;have w:(B10:Z)=z6l:=rfl;have x:(B14:Z)=z5q:=rfl;have y:(B19:Z)=z6x:=rfl;have z:(B41:Z)=zac:=rfl;have A:(B29:Z)=z6q:=rfl;have B:(B30:Z)=z4f:=rfl;have C:(B27:Z)=z4g:=rfl;have D:q04.mk 2 ([]:Z) [] []=zq3:=rfl;have g:(B26:Z)=z94:=rfl;have i:(B7:Z)=z6p:=rfl;have j:(B2:Z)=z5a:=rfl;have m:(B13:Z)=zup:=rfl;have n:(B34:Z)=zeu:=rfl;simp only[p,c1,w,x,y,z,A,B,C,D,g,i,j,m,n,ya,zc1 (show r.zj.length<10000000 by omega),yb,e,zzm (c:=r.zk) (by omega) (by omega),zm1 s d.1 d.2.1 d.2.2,bindR,E,F];rw[za0 (by simp) G];simp only[yb,ya1];rw[ziq (by omega)];simp only[yb];rw[ziq (by grind)];simp only[yb];rw[ziq (by grind)];simp only[yb];rw[ziq (by grind)];simp only[yb];rw[ziq (by grind)];simp only[yb];rw[f _ _ _ _ (by grind)];simp only[yb];rw[za0 (by grind) H];simp only[yb];rw[za0 (by grind) I];simp only[yb];rw[za0 (by grind) K];simp only[yb];rw[f _ _ _ _ (by grind)];simp only[yb];rw[f _ _ _ _ (by grind)];simp only[yb];rw[f _ _ _ _ (by grind)];rfl
theorem zij{st:Nat}{a:Z}{n:Nat}(d:st<1000000)(h2:a.length<1000000000)(e:n<1000000):M.q5e (st:Int) a (n:Int)=some (z9r (st:Int) a (n:Int)):=by
 have b:I64 (st:Int):=by unfold I64;omega
 have c:I64 (n:Int):=by unfold I64;omega
 have:=z8o b h2 c;rw[←this];unfold M.q5e M.q1m;rw[za2 (by omega),za2 (by omega),zru (by omega),zru (by omega),zbb,z7n]
theorem zoh{r:q06}{f:Nat}(hf:17≤f)(h:RpOk r):M.q5j f r=some (zaf r):=by
 have k:=h;obtain⟨l,⟨y,A,B,C,D⟩,v⟩:=h;have u:=ztk k;unfold q06.sz at l;have o:ClOk r.zk:=⟨by omega,v⟩;have t:=zo8 (obj (z6y r));have c:∀n:Int,M.q63 n=some (z4q n):=fun n=>rfl;have p:∀b:Bool,decide ((if b=true then(0:Int)else 142)=0)=b:=fun b=>by simp
 have i:∀(a b:Bool),(if a=true then some true else some !b)=some !(!a&&b):=fun a b=>by grind
 unfold M.q5j;simp only[zbb,zfu (s:=r.z09) (by omega),c,zog o,ya,yb,p,i,Bool.not_not];unfold zaf;obtain⟨z,d⟩:∃z,z=(!decide (z63 r.z2m=[])&&z6m r.z09&&z4q r.z1i&&z4q r.z0d&&z4q r.z03&&z4q r.z1q&&okC r.zk):=⟨_,rfl⟩;rw[←d];have e:zm3 r=(z&&decide ((print (obj (z6y r))).2=0)):=by rw[d];unfold zm3;ac_rfl
 rw[e];cases z with|false=>rfl|true=>
  have d:=d.symm;simp only[ye,yn,decide_eq_false_iff_not]at d;obtain⟨⟨⟨⟨⟨⟨w,F⟩,z3⟩,G⟩,z5⟩,H⟩,x⟩:=d;obtain⟨⟨w1,E⟩,_⟩:=z4c _ w;obtain⟨m,q⟩:∃m:Nat,r.z2m=m:=⟨r.z2m.toNat,by omega⟩;simp only[yp,yl,if_false,zr0 k x (by grind),yb,zod hf (show Small (obj (z6y r))from by grind[Small]),ys];have g:M.q5e r.z2m r.z09 ((print (obj (z6y r))).1.length:Int)=some (z86 r):=by unfold z86;rw[q];exact zij (by omega) (by omega) (by omega)
  rw[g];simp only[yb];cases decide ((print (obj (z6y r))).2=0)with|false=>rfl|true=>
   by_cases j:8192<(z86 r).length
   ·have:(8192:Int)<((z86 r).length:Int):=by omega
    simp[this,j]
   ·have:¬(8192:Int)<((z86 r).length:Int):=by omega
    simp only[this,decide_false,yp,yr,yl,if_false,j,if_true];grind[z1v]
end Go.Sen
