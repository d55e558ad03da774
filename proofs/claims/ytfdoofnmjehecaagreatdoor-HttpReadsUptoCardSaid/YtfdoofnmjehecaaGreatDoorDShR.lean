import Derived.Test.YtfdoofnmjehecaaGreatDoorDShD
set_option linter.all false
section
namespace Go.Sen
open _root_.Option renaming bind_eq_bind → ya, bind_some → yb
open _root_.Bool renaming false_and → yc, false_eq_true → yd, not_false → ye, true_and → yf
open _root_.List renaming drop_take → yg, length_take → yh
open IntKind renaming wrap → yi
open Go.Lk Go.Pe
theorem zef {s:Z} {i:Nat} (h:i≤(s.take 8192).length) (h4:4≤i):((s.take i).drop (i - 4)=[13,10,13,10])↔Lib.occAt (s.take 8192) z62 (i - 4)=true:=by
 have hl:z62.length=4:=rfl
 have hh:=h
 rw [yh] at hh
 rw [Lib.occAt_iff_take _ _ _ (by rw [hl];omega),hl]
 have e:((s.take 8192).drop (i - 4)).take 4=(s.take i).drop (i - 4):=by
  rw [yg,List.take_take,yg,show i - (i - 4)=4 by omega,show min 4 (8192 - (i - 4))=4 by omega]
 rw [e]
 unfold z62
 simp
theorem z9f {s:Z} (h:s.length<1000000000):∀ (n i:Nat),(s.take 8192).length+1 - i=n→4≤i →
  M.z2v s (i:Int)=(if i≤(s.take 8192).length then (if Lib.occAt (s.take 8192) z62 (i - 4)=true then some (.done (i:Int)) else M.z2v s ((i+1:Nat):Int)) else some (.go ())):=by
 intro n i hn h4
 have hl:(s.take 8192).length=min 8192 s.length:=yh
 rw [M.z2v.eq_1]
 by_cases hi:i≤(s.take 8192).length
 ·have h1:((i:Int)≤(s.length:Int)):=by omega
  have h2:((i:Int)≤8192):=by omega
  have ew:yi .i64 ((i:Int) - 4)=((i - 4:Nat):Int):=by rw [w64 (by omega) (by omega)];omega
  simp only [h1,h2,decide_true,yf,if_true,hi,ew,ya]
  rw [zc1 (by omega) (by omega),w1 (by omega)]
  simp only [yb]
  by_cases hc:(s.take i).drop (i - 4)=[13,10,13,10]
  ·rw [if_pos (by simpa using hc),if_pos ((zef hi h4).1 hc)]
  ·rw [if_neg (by simpa using hc),if_neg fun e=>hc ((zef hi h4).2 e)]
 ·rw [if_neg hi,if_neg]
  simp only [Bool.and_eq_true,decide_eq_true_eq]
  omega
theorem zkp {s:Z} (h:s.length<1000000000):M.q5s s=some ((z4q s:Nat):Int):=by
 have hcl:z62.length=4:=rfl
 unfold M.q5s z4q
 rcases Lib.index_spec (s.take 8192) z62 with ⟨h1,h2⟩|⟨j,h1,h2,h3,h4⟩
 ·have key:∀ (n i:Nat),(s.take 8192).length+1 - i=n→4≤i→M.z2v s (i:Int)=some (.go ()):=by
   intro n
   induction n with
   | zero =>
    intro i hn hi
    rw [z9f h _ i hn hi,if_neg (by omega)]
   | succ n ih =>
    intro i hn hi
    rw [z9f h _ i hn hi,if_pos (by omega),if_neg (by rw [h2 _ (by omega)];simp),ih (i+1) (by omega) (by omega)]
  have k4:M.z2v s 4=some (.go ()):=key _ 4 rfl (Nat.le_refl _)
  rw [k4,h1]
  rfl
 ·have hr:=Lib.occAt_room h3
  have hr:j+4≤(s.take 8192).length:=by
   rcases hr with hr|hr
   ·omega
   ·cases hr
  have key:∀ (n i:Nat),j+4 - i=n→4≤i→i≤j+4→M.z2v s (i:Int)=some (.done ((j+4:Nat):Int)):=by
   intro n
   induction n with
   | zero =>
    intro i hn hi hj
    obtain rfl:i=j+4:=by omega
    rw [z9f h _ _ rfl hi,if_pos hr,if_pos (by rw [Nat.add_sub_cancel];exact h3)]
   | succ n ih =>
    intro i hn hi hj
    rw [z9f h _ i rfl hi,if_pos (by omega),if_neg (by rw [h4 _ (by omega)];simp),ih (i+1) (by omega) (by omega) (by omega)]
  have k4:M.z2v s 4=some (.done ((j+4:Nat):Int)):=key _ 4 rfl (Nat.le_refl _) (by omega)
  rw [k4,h1,if_pos (by omega)]
  simp
theorem z9j {s:Z} {i:Nat} (h:i<s.length):s.take (i+1)=s.take i++[s[i]]:=List.take_succ_eq_append_getElem h
theorem no.snoc {c x:UInt8} {s:Z} (h:no c s) (hx:¬x=c):no c (s++[x]):=h.app fun b hb=>by rw [List.mem_singleton] at hb;subst hb;exact hx
theorem z57 {c:UInt8} {n:Nat} (hn:n<256):((c.toNat:Int)=(n:Int))↔c=UInt8.ofNat n:=by
 have h:(UInt8.ofNat n).toNat=n:=by simp;omega
 constructor
 ·intro e
  apply UInt8.toNat_inj.1
  rw [h]
  omega
 ·rintro rfl
  rw [h]
theorem zcu (c:UInt8):∀ {s:Z},(z18 c s).2.2=false→z18 c s=(s,[],false)
 | [],_=>rfl
 | x::r,h=>by
  rw [z2q] at h ⊢
  split at h
  ·cases h
  ·rename_i hx
   rw [if_neg hx,zcu c (s:=r) h]
def zvx (k:Nat) (s:Z):Int:=if isNum k s=true then ((z8w 0 s:Nat):Int) else -1
theorem zhy {s:Z} (hl:s.length≤15):∀ (n i v:Nat),s.length - i=n→i≤s.length→v<10 ^ i→M.z2x s (v:Int) (i:Int)=some (if (s.drop i).all isD=true then .go ((z8w v (s.drop i):Nat):Int) else .done (-1)):=by
 intro n
 induction n with
 | zero =>
  intro i v hn hi hv
  obtain rfl:i=s.length:=by omega
  rw [M.z2x.eq_1,if_neg (by simp),List.drop_length]
  rfl
 | succ n ih =>
  intro i v hn hi hv
  have hlt:i<s.length:=by omega
  have hp:=zsb (n:=i) (by omega)
  rw [M.z2x.eq_1]
  have h1:((i:Int)<(s.length:Int)):=by omega
  have h256:=s[i].toNat_lt
  simp only [h1,decide_true,if_true,zak,List.getElem?_eq_getElem hlt,ya,yb]
  rw [List.drop_eq_getElem_cons hlt,List.all_cons]
  cases hd:isD s[i] with
  | false =>
   have hd':¬(48≤s[i].toNat∧s[i].toNat≤57):=fun q=>by
    unfold isD at hd
    simp [q.1,q.2] at hd
   simp only [yc,yd,if_false]
   by_cases c1:(s[i].toNat:Int)<48
   ·simp [c1]
   ·have c2:57<(s[i].toNat:Int):=by omega
    simp [c1,c2]
  | true =>
   obtain ⟨d1,d2⟩:=zfn hd
   have c1:¬(s[i].toNat:Int)<48:=by omega
   have c2:¬57<(s[i].toNat:Int):=by omega
   have e8:yi .i64 (yi .u8 ((s[i].toNat:Int) - 48))=((s[i].toNat - 48:Nat):Int):=by
    have:yi .u8 ((s[i].toNat:Int) - 48)=((s[i].toNat - 48:Nat):Int):=by
     simp only [yi,IntKind.bits,IntKind.signed]
     simp
     omega
    rw [this,w64 (by omega) (by omega)]
   have e10:yi .i64 (10*(v:Int))=((10*v:Nat):Int):=by rw [w64 (by omega) (by omega)];omega
   simp only [c1,c2,decide_false,yd,if_false,yf,yb,e8,e10]
   rw [zx9 (by omega),w1 (by omega),ih (i+1) _ (by omega) (by omega) (by rw [Nat.pow_succ];omega),z8x]
   rfl
theorem zg8 {s:Z} {k:Nat} (hk:k≤15):M.q5p s (k:Int)=some (zvx k s):=by
 unfold M.q5p zvx isNum
 cases s with
 | nil=>simp
 | cons c r =>
  by_cases hl:(c::r).length≤k
  ·have h1:¬((k:Int)<((c::r).length:Int)):=by omega
   have hne:¬(c::r)=[]:=by simp
   have i0:ix (c::r) 0=some c:=by simp [zoh]
   have hb:=z57 (c:=c) (n:=48) (by decide)
   have hb:((c.toNat:Int)=48)↔c=48:=hb
   have hk:M.z2x (c::r) 0 0=_:=zhy (s:=c::r) (by omega) _ 0 0 rfl (Nat.zero_le _) (by decide)
   simp only [hne,h1,decide_false,Bool.or_self,yd,if_false,i0,ya,yb,ye,yf,hl,decide_true,Bool.and_true,List.head?_cons]
   by_cases h48:c=48
   ·subst h48
    have e48:(((48:UInt8).toNat:Int)=48):=by decide
    simp only [e48,decide_true,if_true,yb,Bool.not_true,Bool.false_or]
    cases r with
    | nil=>rw [hk];rfl
    | cons d t=>simp
   ·have e48:¬((c.toNat:Int)=48):=fun q=>h48 (hb.1 q)
    have e2:¬(some c=some (48:UInt8)):=fun q=>h48 (by cases q;rfl)
    simp only [e48,e2,decide_false,yd,if_false,yb,ye,Bool.true_or,Bool.and_true]
    rw [hk,List.drop_zero]
    cases (c::r).all isD<;>rfl
  ·have h1:((k:Int)<((c::r).length:Int)):=by omega
   simp only [h1,hl,decide_true,decide_false,Bool.or_true,if_true,Bool.and_false,yc,yd,if_false]
   rfl
end Go.Sen
end
section
namespace Go.Sen
open _root_.Option renaming bind_eq_bind → ya, bind_some → yb
open _root_.Bool renaming false_eq_true → yc, not_false → yd, not_true → ye
open _root_.List renaming drop_append_of_le_length → yf, drop_eq_getElem_cons → yg, drop_eq_nil_of_le → yh, drop_zero → yi, getElem?_eq_getElem → yj, length_take → yk, take_append_drop → yl, take_length → ym
open _root_.Nat renaming le_refl → yn, zero_le → yo
open IntKind renaming wrap → yp
open _root_.UInt8 renaming toNat_inj → yq
open Go.Lk Go.Pe
theorem zu8 {s:Z} (c:UInt8) {F:List Z→Int→Int→Option (List Z)}
  (hF:∀ l a i,F l a i=(if (decide (i≤(s.length:Int)))=true then (if decide (i=(s.length:Int))=true then some true else (ix s i).bind fun c42=>some (decide ((c42.toNat:Int)=(c.toNat:Int)))).bind fun j41=>if j41=true then (sub s a i).bind fun s43=>(app 16 l [s43]).bind fun l44=>F l44 (yp .i64 (i+1)) (yp .i64 (i+1)) else F l a (yp .i64 (i+1)) else some l))
  (h:s.length<100000000):∀ (n i a:Nat) (l:List Z),s.length - i=n→i≤s.length→a≤i→l.length≤a→no c ((s.take i).drop a)→F l (a:Int) (i:Int)=some (l++z16 c (s.drop a)):=by
 intro n
 induction n with
 | zero =>
  intro i a l hn hi ha hl hno
  obtain rfl:i=s.length:=by omega
  rw [ym] at hno
  rw [hF]
  simp only [Int.le_refl,decide_true,if_true,yb]
  rw [zc1 ha (yn _)]
  simp only [yb,ym]
  rw [z4p (by simp;omega),w1 (by omega)]
  simp only [yb]
  rw [hF,if_neg (by simp;omega),zgm hno]
 | succ n ih =>
  intro i a l hn hi ha hl hno
  have hlt:i<s.length:=by omega
  rw [hF]
  have h1:((i:Int)≤(s.length:Int)):=by omega
  have h2:¬((i:Int)=(s.length:Int)):=by omega
  simp only [h1,h2,decide_true,decide_false,yc,if_false,if_true,zak,yj hlt,yb]
  have hb:((s[i].toNat:Int)=(c.toNat:Int))↔s[i]=c:=⟨fun e=>yq.1 (by omega),fun e=>by rw [e]⟩
  rw [w1 (by omega)]
  by_cases hc:s[i]=c
  ·rw [if_pos (by simpa using hb.2 hc),zc1 ha (by omega)]
   simp only [yb]
   rw [z4p (by simp;omega)]
   simp only [yb]
   rw [ih (i+1) (i+1) _ (by omega) (by omega) (yn _) (by simp;omega) (by rw [yh (by rw [yk];omega)];exact fun b hb=>by cases hb)]
   have e:s.drop a=(s.take i).drop a++c::s.drop (i+1):=by
    have e1:s=s.take i++s.drop i:=(yl i s).symm
    conv=>lhs;rw [e1]
    rw [yf (by rw [yk];omega),yg hlt,hc]
   rw [e,zgk _ hno]
   simp
  ·rw [if_neg (by simpa using fun q=>hc (hb.1 q)),ih (i+1) a l (by omega) (by omega) (by omega) hl]
   rw [z9j hlt,yf (by rw [yk];omega)]
   exact hno.snoc hc
theorem zlm {s:Z} (c:UInt8) (h:s.length<100000000):M.q5q s (c.toNat:Int)=some (z16 c s):=by
 unfold M.q5q
 have:M.z42 s (c.toNat:Int) [] 0 0=_:=zu8 c (F:=M.z42 s (c.toNat:Int)) (fun l a i=>by rw [M.z42.eq_1];rfl) h _ 0 0 [] rfl (yo _) (yn _) (yn _) (fun b hb=>by simp at hb)
 rw [this]
 rfl
theorem zrb {s:Z} (c:UInt8) (h:s.length<100000000):∀ (n i:Nat),s.length - i=n→i≤s.length→no c (s.take i)→M.z2y s (c.toNat:Int) (i:Int)=some (if (z18 c s).2.2=true then .done (z18 c s) else .go ()):=by
 intro n
 induction n with
 | zero =>
  intro i hn hi hno
  obtain rfl:i=s.length:=by omega
  rw [ym] at hno
  rw [M.z2y.eq_1,if_neg (by simp),zh0 hno]
  rfl
 | succ n ih =>
  intro i hn hi hno
  have hlt:i<s.length:=by omega
  rw [M.z2y.eq_1]
  have h1:((i:Int)<(s.length:Int)):=by omega
  simp only [h1,decide_true,if_true,zak,yj hlt,ya,yb]
  have hb:((s[i].toNat:Int)=(c.toNat:Int))↔s[i]=c:=⟨fun e=>yq.1 (by omega),fun e=>by rw [e]⟩
  rw [w1 (by omega)]
  by_cases hc:s[i]=c
  ·rw [if_pos (by simpa using hb.2 hc),zib (by omega)]
   simp only [yb]
   rw [zc1 (by omega) (yn _)]
   simp only [yb,ym]
   have e:s=s.take i++c::s.drop (i+1):=by
    have e1:s=s.take i++s.drop i:=(yl i s).symm
    conv=>lhs;rw [e1]
    rw [yg hlt,hc]
   have ec:z18 c s=(s.take i,s.drop (i+1),true):=by
    conv=>lhs;rw [e]
    exact zgz _ hno
   rw [ec]
   rfl
  ·rw [if_neg (by simpa using fun q=>hc (hb.1 q)),ih (i+1) (by omega) (by omega) (by rw [z9j hlt];exact hno.snoc hc)]
theorem zfa {s:Z} (c:UInt8) (h:s.length<100000000):M.q5w s (c.toNat:Int)=some (z18 c s):=by
 unfold M.q5w
 have:M.z2y s (c.toNat:Int) 0=_:=zrb c h _ 0 rfl (yo _) (fun b hb=>by simp at hb)
 rw [this]
 cases hc:(z18 c s).2.2 with
 | true=>rfl
 | false=>rw [zcu c hc];rfl
theorem zlq:∀ c:UInt8,M.q4a (c.toNat:Int) true=some (match zc7 c with|some d=>(d:Int)|none => -1):=by
 have:∀ c:UInt8,decide (M.q4a (c.toNat:Int) true=some (match zc7 c with|some d=>(d:Int)|none => -1))=true:=zb4 (by decide +kernel)
 intro c
 exact of_decide_eq_true (this c)
theorem zvf:∀ a b:Fin 16,yp .u8 (yp .i64 (yp .i64 (16*((a.val:Nat):Int))+((b.val:Nat):Int)))=(((UInt8.ofNat (16*a.val+b.val)).toNat:Nat):Int):=by decide +kernel
theorem zan (a:Z) (b:UInt8):unb a++[(b.toNat:Int)]=unb (a++[b]):=by rw [za2];rfl
theorem zsi {s:Z} (h:s.length<100000000):∀ (n i:Nat) (a:Z),s.length - i≤n→i≤s.length→a.length≤i→M.z10 s (unb a) (i:Int)=some (match z1d (s.drop i) with|some t => .go (unb (a++t))|none => .done ([],12)):=by
 intro n
 induction n with
 | zero =>
  intro i a hn hi ha
  rw [M.z10.eq_1,yh (by omega),if_neg (by simp;omega)]
  simp [z1d]
 | succ n ih =>
  intro i a hn hi ha
  by_cases hlt:i<s.length
  ·rw [M.z10.eq_1]
   have h1:((i:Int)<(s.length:Int)):=by omega
   simp only [h1,decide_true,if_true,zak,yj hlt,ya,yb]
   have hb:=z57 (c:=s[i]) (n:=37) (by decide)
   have hb:((s[i].toNat:Int)=37)↔s[i]=37:=hb
   rw [yg hlt]
   by_cases hc:s[i]=37
   ·have hc':=hb.2 hc
    have w2:yp .i64 ((i:Int)+2)=((i+2:Nat):Int):=by rw [w64 (by omega) (by omega)];omega
    simp only [hc',decide_true,ye,yc,if_false,w2]
    rw [hc]
    by_cases h2:i+2<s.length
    ·have h2':¬((s.length:Int)≤((i+2:Nat):Int)):=by omega
     have hl1:i+1<s.length:=by omega
     simp only [h2',decide_false,yc,if_false]
     rw [w1 (by omega)]
     simp only [zak,yj h2,yj hl1,yb,zlq]
     rw [yg hl1,yg h2,zb7]
     cases hx:zc7 s[i+1] with
     | none=>simp
     | some x =>
      cases hy:zc7 s[i+2] with
      | none=>simp
      | some y =>
       have hx16:=zdw _ _ hx
       have hy16:=zdw _ _ hy
       have hxn:¬((x:Int)<0):=by omega
       have hyn:¬((y:Int)<0):=by omega
       have e:=zvf ⟨x,hx16⟩ ⟨y,hy16⟩
       simp only at e
       simp only [hxn,hyn,decide_false,Bool.or_self,yc,if_false,e]
       rw [z4p (by rw [z3m];simp;omega),w1 (by omega)]
       simp only [yb]
       rw [zan,ih (i+2+1) _ (by omega) (by omega) (by simp;omega)]
       cases z1d (s.drop (i+2+1)) with
       | none=>rfl
       | some t=>simp
    ·have h2':((s.length:Int)≤((i+2:Nat):Int)):=by omega
     simp only [h2',decide_true,if_true]
     cases hd:s.drop (i+1) with
     | nil=>rw [zfc]
     | cons z t =>
      have hl:=congrArg List.length hd
      rw [List.length_drop,List.length_cons] at hl
      have:t=[]:=List.eq_nil_of_length_eq_zero (by omega)
      rw [this,zfd]
   ·have hc':¬((s[i].toNat:Int)=37):=fun q=>hc (hb.1 q)
    simp only [hc',decide_false,yd,if_true]
    rw [z4p (by rw [z3m];simp;omega),w1 (by omega)]
    simp only [yb]
    rw [zan,ih (i+1) _ (by omega) (by omega) (by simp;omega),zd3 hc]
    cases z1d (s.drop (i+1)) with
    | none=>rfl
    | some t=>simp
  ·rw [M.z10.eq_1,yh (by omega),if_neg (by simp;omega)]
   simp [z1d]
theorem z4d {s:Z} (h:s.length<100000000):M.q44 s=some (match z1d s with|some t=>(t,0)|none=>([],12)):=by
 unfold M.q44
 have:M.z10 s [] 0=_:=zsi h _ 0 [] (yn _) (yo _) (yn _)
 rw [this,yi]
 cases z1d s with
 | none=>rfl
 | some t=>simp [zat]
theorem zp1 {s:Z} (h:s.length<100000000):∀ (n i:Nat) (a:Z),s.length - i=n→i≤s.length→a.length≤i→M.z39 s 43 32 (unb a) (i:Int)=some (unb (a++swp (s.drop i))):=by
 intro n
 induction n with
 | zero =>
  intro i a hn hi ha
  rw [M.z39.eq_1,yh (by omega),if_neg (by simp;omega)]
  simp [swp]
 | succ n ih =>
  intro i a hn hi ha
  have hlt:i<s.length:=by omega
  rw [M.z39.eq_1,yg hlt]
  have h1:((i:Int)<(s.length:Int)):=by omega
  simp only [h1,decide_true,if_true,zak,yj hlt,ya,yb]
  have hb:=z57 (c:=s[i]) (n:=43) (by decide)
  have hb:((s[i].toNat:Int)=43)↔s[i]=43:=hb
  have ec:swp (s[i]::s.drop (i+1))=(if s[i]=43 then 32 else s[i])::swp (s.drop (i+1)):=rfl
  rw [ec,w1 (by omega)]
  by_cases hc:s[i]=43
  ·have hc':=hb.2 hc
   simp only [hc',decide_true,if_true,hc]
   rw [z4p (by rw [z3m];simp;omega)]
   simp only [yb]
   have:unb a++[(32:Int)]=unb (a++[32]):=zan a 32
   rw [this,ih (i+1) _ (by omega) (by omega) (by simp;omega)]
   simp
  ·have hc':¬((s[i].toNat:Int)=43):=fun q=>hc (hb.1 q)
   simp only [hc',decide_false,yc,if_false,hc]
   rw [z4p (by rw [z3m];simp;omega)]
   simp only [yb]
   rw [zan,ih (i+1) _ (by omega) (by omega) (by simp;omega)]
   simp
theorem zbq {s:Z} (h:s.length<100000000):M.q4c s 43 32=some (swp s):=by
 unfold M.q4c
 have:M.z39 s 43 32 [] 0=_:=zp1 h _ 0 [] rfl (yo _) (yn _)
 rw [this,yi]
 simp [zat]
theorem zp0 {s:Z} (h:s.length<100000000):∀ (n i:Nat),s.length - i=n→i≤s.length→no 61 (s.take i)→M.z25 s (i:Int)=some (((z18 61 s).1.length:Nat):Int):=by
 intro n
 induction n with
 | zero =>
  intro i hn hi hno
  obtain rfl:i=s.length:=by omega
  rw [ym] at hno
  rw [M.z25.eq_1,zh0 hno]
  simp
 | succ n ih =>
  intro i hn hi hno
  have hlt:i<s.length:=by omega
  rw [M.z25.eq_1]
  have h1:((i:Int)<(s.length:Int)):=by omega
  simp only [h1,decide_true,if_true,zak,yj hlt,ya,yb]
  have hb:=z57 (c:=s[i]) (n:=61) (by decide)
  have hb:((s[i].toNat:Int)=61)↔s[i]=61:=hb
  by_cases hc:s[i]=61
  ·have hc':=hb.2 hc
   simp only [hc',decide_true,ye,yc,if_false]
   have e:s=s.take i++61::s.drop (i+1):=by
    have e1:s=s.take i++s.drop i:=(yl i s).symm
    conv=>lhs;rw [e1]
    rw [yg hlt,hc]
   have ec:z18 61 s=(s.take i,s.drop (i+1),true):=by
    conv=>lhs;rw [e]
    exact zgz _ hno
   rw [ec]
   simp
   omega
  ·have hc':¬((s[i].toNat:Int)=61):=fun q=>hc (hb.1 q)
   simp only [hc',decide_false,yd,if_true]
   rw [w1 (by omega),ih (i+1) (by omega) (by omega) (by rw [z9j hlt];exact hno.snoc hc)]
theorem zcv (c:UInt8):∀ s:Z,((z18 c s).2.2=true→s=(z18 c s).1++c::(z18 c s).2.1)∧((z18 c s).2.2=false→(z18 c s).1=s∧(z18 c s).2.1=[])
 | []=>And.intro (fun h=>absurd h (by simp [cutb_nil])) (fun _=>And.intro rfl rfl)
 | x::r=>by
  obtain ⟨h1,h2⟩:=zcv c r
  rw [z2q]
  by_cases hx:x=c
  ·rw [if_pos hx]
   exact ⟨fun _=>by simp [hx],fun h=>by cases h⟩
  ·rw [if_neg hx]
   exact ⟨fun h=>by simp only at h ⊢;rw [List.cons_append,←h1 h],fun h=>by simp only at h ⊢;obtain ⟨a,b⟩:=h2 h;exact ⟨by rw [a],b⟩⟩
theorem zis:∀ s:Z,z18 61 (swp s)=(swp (z18 61 s).1,swp (z18 61 s).2.1,(z18 61 s).2.2)
 | []=>rfl
 | x::r=>by
  have ih:=zis r
  have ec:swp (x::r)=(if x=43 then 32 else x)::swp r:=rfl
  rw [ec,z2q,z2q,ih]
  by_cases hx:x=61
  ·subst hx
   rfl
  ·rw [if_neg hx]
   have:¬(if x=43 then 32 else x)=61:=by
    split
    ·decide
    ·exact hx
   rw [if_neg this]
   rfl
theorem zoz {l:List Z} (hl:l.length<1000000) (hm:∀ x∈l,x.length<1000000):∀ (n i:Nat) (a:List q05),l.length - i=n→i≤l.length→a.length≤i →
  M.z22 l a (i:Int)=some (if (z88 (l.drop i) a).2=0 then .go (z88 (l.drop i) a).1 else .done (z88 (l.drop i) a)):=by
 intro n
 induction n with
 | zero =>
  intro i a hn hi ha
  rw [M.z22.eq_1,yh (by omega),if_neg (by simp;omega)]
  simp [z88]
 | succ n ih =>
  intro i a hn hi ha
  have hlt:i<l.length:=by omega
  have hx:=hm l[i] (List.getElem_mem hlt)
  rw [M.z22.eq_1,yg hlt]
  have h1:((i:Int)<(l.length:Int)):=by omega
  simp only [h1,decide_true,if_true,zak,yj hlt,ya,yb]
  generalize hxe:l[i]=x at hx ⊢
  unfold z88
  by_cases he:x=[]
  ·simp [he]
  ·have hk3:M.z25 x 0=_:=zp0 (by omega) _ 0 rfl (yo _) (fun b hb=>by simp at hb)
   have hcl:=(z5i 61 x)
   obtain ⟨p1,p2⟩:=zcv 61 x
   have e1:sub x 0 (((z18 61 x).1.length:Nat):Int)=some (z18 61 x).1:=by
    rw [zib (by omega)]
    cases hb:(z18 61 x).2.2 with
    | true =>
     have e0:=p1 hb
     have:x.take (z18 61 x).1.length=((z18 61 x).1++61::(z18 61 x).2.1).take (z18 61 x).1.length:=by rw [←e0]
     rw [this,List.take_left]
    | false=>rw [(p2 hb).1,ym]
   have e2:(if decide ((((z18 61 x).1.length:Nat):Int)<(x.length:Int))=true then (sub x (yp .i64 ((((z18 61 x).1.length:Nat):Int)+1)) (x.length:Int)).bind fun s636=>some s636 else some ([]:Z))=some (z18 61 x).2.1:=by
    cases hb:(z18 61 x).2.2 with
    | true =>
     have hlen:=hcl.2 hb
     rw [if_pos (by simp;omega),w1 (by omega),zc1 (by omega) (yn _),ym]
     simp only [yb]
     have:=p1 hb
     have e3:x.drop ((z18 61 x).1.length+1)=(z18 61 x).2.1:=by
      have:x.drop ((z18 61 x).1.length+1)=((z18 61 x).1++61::(z18 61 x).2.1).drop ((z18 61 x).1.length+1):=by rw [←this]
      rw [this,←List.drop_drop,List.drop_left,List.drop_succ_cons,yi]
     rw [e3]
    | false =>
     obtain ⟨q1,q2⟩:=p2 hb
     rw [if_neg (by rw [q1];simp),q2]
   simp only [he,decide_false,yc,if_false,hk3,yb,e1,e2]
   rw [zbq (by omega)]
   simp only [yb]
   rw [z4d (by rw [zee];omega),zbq (by omega)]
   simp only [yb]
   rw [z4d (by rw [zee];omega)]
   rw [zis]
   simp only [yb]
   cases f1:z1d (swp (z18 61 x).1) with
   | none=>simp
   | some u =>
    cases f2:z1d (swp (z18 61 x).2.1) with
    | none=>simp
    | some v =>
     simp only [decide_true,ye,Bool.or_self,yc,if_false]
     rw [z4p (by simp;omega),w1 (by omega)]
     simp only [yb]
     exact ih (i+1) _ (by omega) (by omega) (by simp;omega)
theorem zbp {s:Z} (h:s.length<1000000):M.q43 s=some (z3l s):=by
 unfold M.q43 z3l
 by_cases h8:8192<s.length
 ·have:(8192<(s.length:Int)):=by omega
  simp [this,h8]
 ·have h8':¬(8192<(s.length:Int)):=by omega
  by_cases he:s=[]
  ·subst he
   have:¬(8192<([]:Z).length∨64<(z16 38 ([]:Z)).length):=by simp [z16]
   rw [if_neg this]
   rfl
  ·have hk:M.z1z s [] 0 0=some ([]++z16 38 (s.drop 0)):=zu8 38 (F:=M.z1z s) (fun l a i=>by rw [M.z1z.eq_1];rfl) (by omega) _ 0 0 [] rfl (yo _) (yn _) (yn _) (fun b hb=>by simp at hb)
   rw [yi,List.nil_append] at hk
   simp only [h8',he,decide_false,yc,if_false,ya,hk,yb]
   by_cases h64:64<(z16 38 s).length
   ·have:(64<((z16 38 s).length:Int)):=by omega
    simp [this,h64]
   ·have h64':¬(64<((z16 38 s).length:Int)):=by omega
    have hn:¬(8192<s.length∨64<(z16 38 s).length):=by omega
    have hm:∀ x∈z16 38 s,x.length<1000000:=fun x hx=>by have:=z4l 38 s x hx;omega
    have hk2:M.z22 (z16 38 s) [] 0=_:=zoz (by omega) hm _ 0 [] rfl (yo _) (yn _)
    rw [yi] at hk2
    rw [if_neg hn]
    simp only [h64',decide_false,yc,if_false,hk2,yb]
    by_cases hz:(z88 (z16 38 s) []).2=0
    ·rw [if_pos hz]
     exact congrArg some (Prod.ext rfl hz.symm)
    ·rw [if_neg hz]
end Go.Sen
end
