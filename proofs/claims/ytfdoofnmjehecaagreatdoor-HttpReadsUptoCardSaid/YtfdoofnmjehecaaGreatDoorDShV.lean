import Derived.Test.YtfdoofnmjehecaaGreatDoorDShR
set_option linter.all false
section
namespace Go.Sen
open _root_.Option renaming bind_eq_bind → ya, bind_some → yb
open _root_.Bool renaming false_eq_true → yc, not_false → yd
open _root_.List renaming all_eq_true → ye, dropLast_concat_getLast → yf, dropWhile_cons → yg, dropWhile_sublist → yh, eq_nil_of_length_eq_zero → yi, getElem?_eq_getElem → yj, length_cons → yk, reverse_append → yl, reverse_reverse → ym
open IntKind renaming wrap → yn
open Go.Lk Go.Pe
theorem z9z {s:Z} (lo hi:Nat) (hs:s.length<1152921504606846976):M.q5l s (lo:Int) (hi:Int)=some (z86 lo hi s):=by
 unfold M.q5l
 have hk:M.z4k s (lo:Int) (hi:Int) 0=some (match s.findIdx? (fun b => !(decide (lo≤b.toNat)&&decide (b.toNat≤hi))) with|some i => .done false|none => .go ()):=by
  refine zx7 (fun _=>false) () hs (fun i h => ?_) ?_
  ·rw [M.z4k.eq_1]
   have h1:((i:Int)<(s.length:Int)):=by omega
   simp only [h1,decide_true,if_true,zak,yj h,ya,yb]
   by_cases a:lo≤(s[i]).toNat
   ·have a':¬(((s[i]).toNat:Int)<(lo:Int)):=by omega
    by_cases b:(s[i]).toNat≤hi
    ·have b':¬((hi:Int)<((s[i]).toNat:Int)):=by omega
     simp [a,a',b,b']
    ·have b':((hi:Int)<((s[i]).toNat:Int)):=by omega
     simp [a,a',b,b']
   ·have a':(((s[i]).toNat:Int)<(lo:Int)):=by omega
    simp [a,a']
  ·rw [M.z4k.eq_1]
   simp
 simp only [ya,hk,yb]
 unfold z86
 rcases zds s (fun b=>decide (lo≤b.toNat)&&decide (b.toNat≤hi)) with ⟨h1,h2⟩|⟨i,h1,h2⟩
 ·rw [h1,h2]
 ·rw [h1,h2]
theorem ze7 {s:Z} (hs:s.length<1000000000):M.q62 s=some (z96 s):=by
 unfold M.q62 z96
 have h1:M.q5l s 65 90=some (z86 65 90 s):=z9z 65 90 (by omega)
 have e:z86 65 90 s=s.all isA:=rfl
 rw [h1,e]
 by_cases h0:s=[]
 ·simp [h0]
 ·by_cases h8:s.length≤8
  ·have h8':((s.length:Int)≤8):=by omega
   simp [h0,h8,h8']
  ·have h8':¬((s.length:Int)≤8):=by omega
   simp [h0,h8,h8']
theorem zrj (b:UInt8):((((decide (97≤(b.toNat:Int)))&&(decide ((b.toNat:Int)≤122)))||((decide (48≤(b.toNat:Int)))&&(decide ((b.toNat:Int)≤57))))||(decide ((b.toNat:Int)=45)))=isN b:=by
 have:∀ b:UInt8,(((((decide (97≤(b.toNat:Int)))&&(decide ((b.toNat:Int)≤122)))||((decide (48≤(b.toNat:Int)))&&(decide ((b.toNat:Int)≤57))))||(decide ((b.toNat:Int)=45)))==isN b)=true:=zb4 (by decide +kernel)
 exact eq_of_beq (this b)
theorem zhz {s:Z} (hs:s.length<1000000000):M.q63 s=some (zep s):=by
 unfold M.q63
 have hk:M.z3z s 0=some (match s.findIdx? (fun b => !isN b) with|some i => .done false|none => .go ()):=by
  refine zx7 (fun _=>false) () (by omega) (fun i h => ?_) ?_
  ·rw [M.z3z.eq_1]
   have h1:((i:Int)<(s.length:Int)):=by omega
   simp only [h1,decide_true,if_true,zak,yj h,ya,yb,zrj]
  ·rw [M.z3z.eq_1]
   simp
 simp only [ya,hk,yb]
 unfold zep
 rcases zds s isN with ⟨h1,h2⟩|⟨i,h1,h2⟩
 ·rw [h1,h2]
  by_cases h32:s.length≤32
  ·have:((s.length:Int)≤32):=by omega
   simp [h32,this]
  ·have:¬((s.length:Int)≤32):=by omega
   simp [h32,this]
 ·rw [h1,h2]
  simp
def zab (b:UInt8):Bool:=decide (b=32)
theorem zil (s:Z):bare s=(s.reverse.dropWhile zab).reverse.dropWhile zab:=by
 have e:(fun b=>([32]:Z).contains b)=zab:=by
  funext b
  unfold zab
  simp
 unfold bare Lib.trimS Lib.trimLeftS Lib.trimRightS
 rw [←e]
theorem zls {α:Type} (p:α→Bool) (s:List α):((s.dropWhile p).reverse.dropWhile p).reverse=(s.reverse.dropWhile p).reverse.dropWhile p:=by
 have hs:s=s.takeWhile p++s.dropWhile p:=(List.takeWhile_append_dropWhile).symm
 have ha:∀ x∈s.takeWhile p,p x=true:=ye.1 List.all_takeWhile
 generalize hA:s.takeWhile p=a at hs ha
 cases hm:s.dropWhile p with
 | nil =>
  rw [hm,List.append_nil] at hs
  have:∀ x∈s.reverse,p x=true:=fun x hx=>ha x (by rw [←hs];simpa using hx)
  have:s.reverse.dropWhile p=[]:=by
   rw [zcw,ye]
   exact this
  rw [this]
  rfl
 | cons c r =>
  have hc:¬p c=true:=by
   have:=List.head_dropWhile_not p (l:=s) (by rw [hm];simp)
   simp only [hm,List.head_cons] at this
   simpa using this
  rw [hm] at hs
  conv=>rhs;rw [hs]
  rw [yl,List.dropWhile_append]
  have hne:¬((c::r).reverse.dropWhile p)=[]:=fun e=>by
   rw [zcw,ye] at e
   exact hc (e c (by simp))
  have:((c::r).reverse.dropWhile p).isEmpty=false:=by
   cases h:(c::r).reverse.dropWhile p with
   | nil=>exact absurd h hne
   | cons _ _=>rfl
  rw [this,if_neg (by simp),yl,ym,List.dropWhile_append_of_pos ha]
  have hpre:((c::r).reverse.dropWhile p).reverse <+: (c::r):=by
   have:=List.dropWhile_suffix p (l:=(c::r).reverse)
   have:=List.reverse_prefix.2 this
   rwa [ym] at this
  obtain ⟨q,hq⟩:=hpre
  cases h:((c::r).reverse.dropWhile p).reverse with
  | nil =>
   rw [List.reverse_eq_nil_iff] at h
   exact absurd h hne
  | cons x y =>
   rw [h] at hq
   have hx:x=c:=(List.cons.inj hq).1
   subst hx
   rw [yg,if_neg hc]
theorem zr3 (s:Z):bare s=((s.dropWhile zab).reverse.dropWhile zab).reverse:=by rw [zil,zls]
theorem zov:∀ (n:Nat) (s:Z),s.length=n→n<1000000000→M.z3x s=some (s.dropWhile zab):=by
 intro n
 induction n with
 | zero =>
  intro s hn _
  have:s=[]:=yi hn
  subst this
  rw [M.z3x.eq_1]
  rfl
 | succ n ih =>
  intro s hn h
  cases s with
  | nil=>cases hn
  | cons c r =>
   simp only [yk] at hn
   rw [M.z3x.eq_1]
   have i0:ix (c::r) 0=some c:=by simp [zoh]
   have hb:=z57 (c:=c) (n:=32) (by decide)
   have hb:((c.toNat:Int)=32)↔c=32:=hb
   have hne:¬(c::r)=[]:=by simp
   simp only [hne,decide_false,yd,if_true,i0,ya,yb]
   rw [yg]
   by_cases hc:c=32
   ·have hs:sub (c::r) 1 (((c::r).length:Nat):Int)=some r:=by
     have:=zc1 (l:=c::r) (a:=1) (b:=(c::r).length) (by simp) (Nat.le_refl _)
     rw [List.take_length] at this
     exact this
    rw [if_pos (by simpa using hb.2 hc),hs]
    simp only [yb]
    rw [ih r (by omega) (by omega)]
    simp [zab,hc]
   ·rw [if_neg (by simpa using fun q=>hc (hb.1 q))]
    simp [zab,hc]
theorem zow:∀ (n:Nat) (s:Z),s.length=n→n<1000000000→M.z3y s=some (s.reverse.dropWhile zab).reverse:=by
 intro n
 induction n with
 | zero =>
  intro s hn _
  have:s=[]:=yi hn
  subst this
  rw [M.z3y.eq_1]
  rfl
 | succ n ih =>
  intro s hn h
  obtain ⟨r,c,rfl⟩:∃ r c,s=r++[c]:=⟨s.dropLast,s.getLast (by intro e;rw [e] at hn;cases hn),(yf _).symm⟩
  simp only [List.length_append,yk,List.length_nil] at hn
  rw [M.z3y.eq_1]
  have hne:¬(r++[c])=[]:=by simp
  have hl:(r++[c]).length=r.length+1:=by simp
  have ew:yn .i64 (((r++[c]).length:Int) - 1)=((r.length:Nat):Int):=by rw [w64 (by omega) (by omega)];omega
  have i0:(r++[c])[r.length]? = some c:=by simp
  have hb:=z57 (c:=c) (n:=32) (by decide)
  have hb:((c.toNat:Int)=32)↔c=32:=hb
  simp only [hne,decide_false,yd,if_true,ew,zak,i0,ya,yb]
  rw [yl,List.reverse_singleton,List.singleton_append,yg]
  by_cases hc:c=32
  ·rw [if_pos (by simpa using hb.2 hc),zib (by omega)]
   simp only [yb]
   rw [List.take_left,ih r (by omega) (by omega)]
   simp [zab,hc]
  ·rw [if_neg (by simpa using fun q=>hc (hb.1 q))]
   simp [zab,hc]
theorem zhx {s:Z} (h:s.length<1000000000):M.q5n s=some (bare s):=by
 unfold M.q5n
 rw [zov _ s rfl h]
 simp only [ya,yb]
 have:=(yh zab (l:=s)).length_le
 rw [zow _ _ rfl (by omega),zr3]
 rfl
theorem zjx (s:Z):decide (bare s=s)=(decide (s=[])||(!decide (s.head? = some 32) && !decide (s.getLast? = some 32))):=by
 rw [zil]
 cases s with
 | nil=>rfl
 | cons c r =>
  obtain ⟨r',d,hd⟩:∃ r' d,c::r=r'++[d]:=⟨(c::r).dropLast,(c::r).getLast (by simp),(yf _).symm⟩
  have hg:(c::r).getLast? = some d:=by rw [hd];simp
  rw [hg]
  by_cases h32:d=32
  ·subst h32
   have hr:(c::r).reverse=32::r'.reverse:=by rw [hd];simp
   have h2:=(yh zab (l:=r'.reverse)).length_le
   have h3:=(yh zab (l:=((c::r).reverse.dropWhile zab).reverse)).length_le
   rw [List.length_reverse] at h2 h3
   have hl:(c::r).length=r'.length+1:=by rw [hd];simp
   have:¬((c::r).reverse.dropWhile zab).reverse.dropWhile zab=c::r:=fun e=>by
    have e:=congrArg List.length e
    rw [hr,yg,if_pos (by simp [zab])] at h3
    rw [hr,yg,if_pos (by simp [zab])] at e
    omega
   rw [decide_eq_false this]
   simp
  ·have hr:(c::r).reverse=d::r'.reverse:=by rw [hd];simp
   have e1:((c::r).reverse.dropWhile zab).reverse=c::r:=by
    rw [hr,yg,if_neg (by simp [zab,h32]),←hr,ym]
   rw [e1,yg]
   by_cases hc:c=32
   ·subst hc
    have h1:=(yh zab (l:=r)).length_le
    have:¬r.dropWhile zab=32::r:=fun e=>by
     have:=congrArg List.length e
     rw [yk] at this
     omega
    simp [zab,this]
   ·simp [zab,hc,h32]
theorem zga {s:Z} (h:s.length<1000000000):M.q6m s=some (isVal s):=by
 unfold M.q6m isVal
 have h1:M.q5l s 32 126=some (z86 32 126 s):=z9z 32 126 (by omega)
 rw [h1,zjx]
 cases ha:z86 32 126 s with
 | false=>rfl
 | true =>
  simp only [ya,yb,if_true,Bool.true_and]
  cases s with
  | nil=>rfl
  | cons c r =>
   obtain ⟨r',d,hd⟩:∃ r' d,c::r=r'++[d]:=⟨(c::r).dropLast,(c::r).getLast (by simp),(yf _).symm⟩
   have i0:ix (c::r) 0=some c:=by simp [zoh]
   have hl:(c::r).length=r'.length+1:=by rw [hd];simp
   have ew:yn .i64 (((c::r).length:Int) - 1)=((r'.length:Nat):Int):=by simp only [yk] at h hl ⊢;rw [w64 (by omega) (by omega)];omega
   have i1:(c::r)[r'.length]? = some d:=by rw [hd];simp
   have hg:(c::r).getLast? = some d:=by rw [hd];simp
   have hb:=z57 (c:=c) (n:=32) (by decide)
   have hb:((c.toNat:Int)=32)↔c=32:=hb
   have hb2:=z57 (c:=d) (n:=32) (by decide)
   have hb2:((d.toNat:Int)=32)↔d=32:=hb2
   have hne:¬(c::r)=[]:=by simp
   simp only [hne,decide_false,yc,if_false,i0,ew,zak,i1,yb,Bool.false_or,hg,List.head?_cons,Option.some.injEq]
   by_cases q:c=32
   ·have q':=hb.2 q
    simp [q,q']
   ·have q':¬((c.toNat:Int)=32):=fun e=>q (hb.1 e)
    by_cases q2:d=32
    ·have q2':=hb2.2 q2
     simp [q,q',q2,q2']
    ·have q2':¬((d.toNat:Int)=32):=fun e=>q2 (hb2.1 e)
     simp [q,q',q2,q2']
theorem zsh {l:List q05} {k:Z} (hl:l.length<1000000000):∀ (m i:Nat) (v:Z) (n:Nat),l.length - i=m→i≤l.length→n≤i →
  M.z3c l k v (n:Int) (i:Int)=some (if n=0 then zrg (l.drop i) k v else v,((n+zqc (l.drop i) k:Nat):Int)):=by
 intro m
 induction m with
 | zero =>
  intro i v n hm hi hn
  rw [M.z3c.eq_1,List.drop_eq_nil_of_le (by omega),if_neg (by simp;omega)]
  simp [zrg,zqc]
 | succ m ih =>
  intro i v n hm hi hn
  have hlt:i<l.length:=by omega
  rw [M.z3c.eq_1,List.drop_eq_getElem_cons hlt]
  have h1:((i:Int)<(l.length:Int)):=by omega
  simp only [h1,decide_true,if_true,zak,yj hlt,ya,yb]
  rw [w1 (n:=i) (by omega),zm4]
  have eN:zqc (l[i]::l.drop (i+1)) k=(if l[i].z13=k then 1 else 0)+zqc (l.drop (i+1)) k:=by
   unfold zqc
   rw [List.countP_cons]
   by_cases h:l[i].z13=k<;>simp [h,Nat.add_comm]
  rw [eN]
  by_cases hk:l[i].z13=k
  ·simp only [hk,decide_true,if_true]
   by_cases h0:n=0
   ·subst h0
    have:(((0:Nat):Int)=0):=rfl
    simp only [this,decide_true,if_true]
    have w0:yn .i64 (0+1)=((1:Nat):Int):=w1 (n:=0) (by decide)
    rw [w0,ih (i+1) _ 1 (by omega) (by omega) (by omega)]
    simp
   ·have:¬((n:Int)=0):=by omega
    simp only [this,h0,decide_false,yc,if_false]
    rw [w1 (by omega),ih (i+1) _ (n+1) (by omega) (by omega) (by omega),if_neg (by omega)]
    congr 3
    omega
  ·simp only [hk,decide_false,yc,if_false]
   rw [ih (i+1) _ n (by omega) (by omega) (by omega)]
   simp
theorem zko {l:List q05} (k:Z) (hl:l.length<1000000000):M.q45 l k=some (zrg l k [],((zqc l k:Nat):Int)):=by
 unfold M.q45
 have h:=zsh (k:=k) hl l.length 0 [] 0 rfl (Nat.zero_le _) (Nat.le_refl _)
 rw [List.drop_zero,if_pos rfl,Nat.zero_add] at h
 have h:M.z3c l k [] 0 0=_:=h
 rw [h]
 rfl
theorem zad {l:List q05} (k:Z) (hl:l.length<1000000000):M.q5t l k=some (zrg l k [],zqd l k):=by
 unfold M.q5t
 rw [zko k hl]
 simp only [ya,yb]
 rw [←zoc]
 congr 2
 exact decide_eq_decide.2 (by omega)
end Go.Sen
end
section
namespace Go.Sen
open _root_.Option renaming bind_eq_bind → ya, bind_some → yb
open _root_.Bool renaming false_eq_true → yc, not_true → yd
open _root_.List renaming length_drop → ye
open Go.Lk Go.Pe
theorem zsj {l:List Z} (hl:l.length<2000000) (hm:∀ x∈l,x.length<1000000):∀ (n i:Nat) (a:List Z),l.length - i=n→i≤l.length→a.length≤i →
  M.z43 l (i:Int) a=some (match zl3 (l.drop i) with|some r => .go (a++r)|none => .done (⟨[],[],[],[],[]⟩,false)):=by
 intro n
 induction n with
 | zero =>
  intro i a hn hi ha
  rw [M.z43.eq_1,List.drop_eq_nil_of_le (by omega),if_neg (by simp;omega)]
  simp [zl3]
 | succ n ih =>
  intro i a hn hi ha
  have hlt:i<l.length:=by omega
  have hx:=hm l[i] (List.getElem_mem hlt)
  rw [M.z43.eq_1,List.drop_eq_getElem_cons hlt,zg4]
  have h1:((i:Int)<(l.length:Int)):=by omega
  simp only [h1,decide_true,if_true,zak,List.getElem?_eq_getElem hlt,ya,yb]
  rw [z4d (by omega)]
  cases hp:z1d l[i] with
  | none=>simp
  | some t =>
   simp only [yb,decide_true,yd,yc,if_false]
   rw [z4p (by simp;omega),w1 (by omega)]
   simp only [yb]
   rw [ih (i+1) _ (by omega) (by omega) (by simp;omega)]
   cases zl3 (l.drop (i+1))<;>simp
def zl7 (z:Option (q03 × Bool)) (t:Option q03):Prop := ∃ q b,z=some (q,b)∧(match t with|some x=>b=true∧q=x|none=>b=false)
theorem zl7.no {q:q03}:zl7 (some (q,false)) none:=⟨q,false,rfl,rfl⟩
theorem zkq {s:Z} (h:s.length<1000000):zl7 (M.q6l s) (zl4 s):=by
 unfold M.q6l zl4
 have hcut:M.q5q s 32=some (z16 32 s):=zlm 32 (by omega)
 rw [hcut]
 have hmem:=z4l 32 s
 obtain ⟨l,hl⟩:∃ l,z16 32 s=l:=⟨_,rfl⟩
 rw [hl] at hmem ⊢
 simp only [ya,yb]
 match l,hmem with
 | [],_=>exact zl7.no
 | [a],_=>exact zl7.no
 | [a,b],_=>exact zl7.no
 | a::b::c::d::t,_ =>
  have:¬(((a::b::c::d::t).length:Int)=3):=by simp;omega
  simp only [this,decide_false,Bool.not_false,if_true,yb]
  exact zl7.no
 | [a,b,c],hmem =>
  have hb:=hmem b (by simp)
  have ha:=hmem a (by simp)
  have hon:M.q5l b 33 126=some (z86 33 126 b):=z9z 33 126 (by omega)
  have e3:((([a,b,c]:List Z).length:Int)=3):=by simp
  have i0:ix [a,b,c] 0=some a:=by simp [zoh]
  have i1:ix [a,b,c] 1=some b:=by simp [zwq]
  have i2:ix [a,b,c] 2=some c:=by simp [ix]
  simp only [e3,decide_true,yd,yc,if_false,i0,i1,i2,yb,ze7 (s:=a) (by omega),hon]
  have key:∀ k:Bool→Option (q03 × Bool),((if (!z96 a)=true then some true else some (!decide (c=[72,84,84,80,47,49,46,49]))).bind fun j43=>(if j43=true then some true else some (decide (b=([]:Z)))).bind fun j47=>(if j47=true then some true else (ix b 0).bind fun c54=>some (!decide ((c54.toNat:Int)=47))).bind fun j52=>(if j52=true then some true else some (!z86 33 126 b)).bind k)=k (!zeg a b c):=by
   intro k
   unfold zeg zfl
   cases hm:z96 a with
   | false=>rfl
   | true =>
    by_cases hc:c=[72,84,84,80,47,49,46,49]
    ·cases b with
     | nil=>simp [hc]
     | cons x r =>
      have hb:=z57 (c:=x) (n:=47) (by decide)
      have hb:((x.toNat:Int)=47)↔x=47:=hb
      have i00:ix (x::r) 0=some x:=by simp [zoh]
      have hne:¬(x::r)=[]:=by simp
      simp only [hc,hne,decide_true,decide_false,yd,yc,if_false,yb,i00,Bool.true_and]
      by_cases hx:x=47
      ·have hx':=hb.2 hx
       subst hx
       simp
      ·have h1:¬((x.toNat:Int)=47):=fun q=>hx (hb.1 q)
       have h2:¬((x::r).head? = some (47:UInt8)):=fun q=>hx (by cases q;rfl)
       rw [decide_eq_false h1,decide_eq_false h2]
       rfl
    ·simp [hc]
  rw [key]
  cases ht:zeg a b c with
  | false=>exact zl7.no
  | true =>
   have hhd:b.head? = some 47:=by unfold zeg at ht;simp at ht;exact ht.1.2
   have hcl:=z5i 63 b
   have hc1:1≤(z18 63 b).1.length:=by
    cases b with
    | nil=>cases hhd
    | cons x r =>
     cases hhd
     rw [z2q,if_neg (by decide)]
     simp
   have hf:M.q5w b 63=some (z18 63 b):=zfa 63 (by omega)
   have hs:sub (z18 63 b).1 1 ((z18 63 b).1.length:Int)=some ((z18 63 b).1.drop 1):=zpu (l:=(z18 63 b).1) (a:=1) hc1
   have hc2:M.q5q ((z18 63 b).1.drop 1) 47=some (z16 47 ((z18 63 b).1.drop 1)):=zlm 47 (by rw [ye];omega)
   simp only [yd,yc,if_false,hf,yb,hs,hc2,if_true]
   have hk:=zsj (l:=z16 47 ((z18 63 b).1.drop 1)) (by have:=za0 47 ((z18 63 b).1.drop 1);rw [ye] at this;omega) (fun x hx=>by have:=z4l 47 _ x hx;rw [ye] at this;omega) _ 0 [] rfl (Nat.zero_le _) (Nat.le_refl _)
   have hk:M.z43 (z16 47 ((z18 63 b).1.drop 1)) 0 []=_:=hk
   rw [hk,List.drop_zero]
   cases zl3 (z16 47 ((z18 63 b).1.drop 1)) with
   | none=>exact zl7.no
   | some l =>
    simp only [yb,List.nil_append]
    rw [zbp (by omega)]
    simp only [yb]
    by_cases h1:(z3l (z18 63 b).2.1).2=0
    ·by_cases h2:l.length≤64
     ·have h2':((l.length:Int)≤64):=by omega
      simp only [h1,h2,h2',decide_true,if_true,yb,and_self]
      exact ⟨_,_,rfl,rfl,rfl⟩
     ·have h2':¬((l.length:Int)≤64):=by omega
      simp only [h1,h2,h2',decide_true,decide_false,if_true,yb,and_false,if_false]
      exact zl7.no
    ·simp only [h1,decide_false,yc,if_false,yb,false_and]
     exact zl7.no
end Go.Sen
end
section
namespace Go.Sen
open _root_.Option renaming bind_eq_bind → ya, bind_some → yb
open _root_.Bool renaming and_false → yc, false_eq_true → yd, not_true → ye
open _root_.List renaming drop_eq_getElem_cons → yf, drop_eq_nil_of_le → yg, getElem?_eq_getElem → yh, getElem?_take → yi, head?_drop → yj, length_take → yk
open IntKind renaming wrap → yl
open _root_.UInt8 renaming toNat_inj → ym
open Go.Lk Go.Pe
theorem znc:∀ c:UInt8,(if 65≤(c.toNat:Int)∧(c.toNat:Int)≤90 then yl .u8 ((c.toNat:Int)+32) else (c.toNat:Int))=(((zl0 c).toNat:Nat):Int):=by
 have:∀ c:UInt8,decide ((if 65≤(c.toNat:Int)∧(c.toNat:Int)≤90 then yl .u8 ((c.toNat:Int)+32) else (c.toNat:Int))=(((zl0 c).toNat:Nat):Int))=true:=zb4 (by decide +kernel)
 exact fun c=>of_decide_eq_true (this c)
theorem zgc:∀ (t a:Z),a.length+t.length<1000000000→M.z2l (unb (a++t)) ((a.length:Nat):Int)=some (unb (a++low t))
 | [],a,h=>by
  rw [M.z2l.eq_1,List.append_nil,if_neg (by rw [z3m];simp)]
  simp [low]
 | c::r,a,h=>by
  simp only [List.length_cons] at h
  have ih:=zgc r (a++[zl0 c]) (by simp;omega)
  rw [M.z2l.eq_1]
  have h1:(((a.length:Nat):Int)<((unb (a++c::r)).length:Int)):=by rw [z3m];simp;omega
  have i0:ix (unb (a++c::r)) ((a.length:Nat):Int)=some (c.toNat:Int):=by rw [zak,zte];simp
  have hs:∀ v:UInt8,zjq (unb (a++c::r)) ((a.length:Nat):Int) (v.toNat:Int)=some (unb ((a++[v])++r)):=fun v=>by
   unfold zjq
   rw [if_pos ⟨by omega,by rw [z3m];simp;omega⟩]
   simp [unb,List.set_append]
  have tab:=znc c
  simp only [List.length_append,List.length_singleton] at ih
  simp only [h1,decide_true,if_true,i0,ya,yb]
  rw [w1 (by omega)]
  have el:low (c::r)=zl0 c::low r:=rfl
  have ea:∀ v:UInt8,(a++[v])++low r=a++v::low r:=fun v=>by simp
  by_cases c1:65≤(c.toNat:Int)
  ·by_cases c2:(c.toNat:Int)≤90
   ·rw [if_pos ⟨c1,c2⟩] at tab
    simp only [c1,c2,decide_true,if_true,yb,tab,hs]
    rw [ih,el,ea]
   ·rw [if_neg (by omega)] at tab
    have hc:c=zl0 c:=ym.1 (by omega)
    simp only [c1,c2,decide_true,decide_false,yd,if_true,if_false,yb]
    have e0:a++c::r=(a++[zl0 c])++r:=by rw [←hc];simp
    rw [e0,ih,el,ea]
  ·rw [if_neg (by omega)] at tab
   have hc:c=zl0 c:=ym.1 (by omega)
   simp only [c1,decide_false,yd,if_false,yb]
   have e0:a++c::r=(a++[zl0 c])++r:=by rw [←hc];simp
   rw [e0,ih,el,ea]
theorem zg9 {s:Z} (h:s.length<1000000000):M.q6h s=some (low s):=by
 unfold M.q6h
 rw [z5t (by simp;omega)]
 have:M.z2l (unb s) 0=some (unb (low s)):=zgc s [] (by simpa using h)
 simp [this,zat]
def glue (cur:Z):List Z→List Z
 | []=>[cur]
 | h::t=>(cur++h)::t
theorem zn2 {s:Z} {n:Nat} (hn:n≤s.length) (hs:s.length<100000000) (h4:4≤n) (he:(s.take n).drop (n - 4)=[13,10,13,10]):∀ (m i a:Nat) (l:List Z),n - i≤m→i≤n - 4→a≤i→l.length≤a →
  M.z2c (n:Int) s l (a:Int) (i:Int)=some (l++glue ((s.take i).drop a) (z2g ((s.take (n - 4)).drop i))):=by
 have ew:yl .i64 ((n:Int) - 2)=((n - 2:Nat):Int):=by rw [w64 (by omega) (by omega)];omega
 have at0:∀ j,j<4→s[n - 4+j]? = ([13,10,13,10]:Z)[j]?:=fun j hj=>by
  rw [←he,List.getElem?_drop,yi,if_pos (by omega)]
 intro m
 induction m with
 | zero=>intro i a l hm hi;omega
 | succ m ih =>
  intro i a l hm hi ha hl
  rw [M.z2c.eq_1,ew]
  have h1:((i:Int)<((n - 2:Nat):Int)):=by omega
  have hlt:i<s.length:=by omega
  have hlt2:i+1<s.length:=by omega
  have w2:yl .i64 ((i:Int)+2)=((i+2:Nat):Int):=by rw [w64 (by omega) (by omega)];omega
  have b13:=z57 (c:=s[i]) (n:=13) (by decide)
  have b13:((s[i].toNat:Int)=13)↔s[i]=13:=b13
  have b10:=z57 (c:=s[i+1]) (n:=10) (by decide)
  have b10:((s[i+1].toNat:Int)=10)↔s[i+1]=10:=b10
  simp only [h1,decide_true,if_true,zak,yh hlt,ya,yb]
  rw [w1 (n:=i) (by omega),w1 (n:=i+1) (by omega),w2]
  simp only [zak,yh hlt2,yb]
  have hsub:sub s (a:Int) (i:Int)=some ((s.take i).drop a):=zc1 ha (by omega)
  by_cases hi4:i=n - 4
  ·subst hi4
   have e0:=at0 0 (by decide)
   have e1:=at0 1 (by decide)
   rw [Nat.add_zero,yh hlt] at e0
   rw [yh hlt2] at e1
   have e0:s[n - 4]=13:=Option.some.inj e0
   have e1:s[n - 4+1]=10:=Option.some.inj e1
   have q0:=b13.2 e0
   have q1:=b10.2 e1
   simp only [q0,q1,decide_true,if_true,yb,hsub]
   rw [z4p (by simp;omega)]
   simp only [yb]
   rw [M.z2c.eq_1,ew,if_neg (by simp;omega)]
   have:(s.take (n - 4)).drop (n - 4)=[]:=yg (by rw [yk];omega)
   rw [this]
   have:z2g []=[[]]:=by unfold z2g;rfl
   rw [this]
   simp [glue]
  ·have hlt4:i<(s.take (n - 4)).length:=by rw [yk];omega
   have hd:(s.take (n - 4)).drop i=s[i]::(s.take (n - 4)).drop (i+1):=by
    rw [yf hlt4,List.getElem_take]
   have hcur:(s.take (i+1)).drop a=(s.take i).drop a++[s[i]]:=by
    rw [z9j hlt,List.drop_append_of_le_length (by rw [yk];omega)]
   have hhd:s[i]=13→(s[i+1]=10↔((s.take (n - 4)).drop (i+1)).head? = some 10):=fun _=>by
    rw [yj,yi]
    by_cases q:i+1<n - 4
    ·rw [if_pos q,yh hlt2]
     exact ⟨fun e=>by rw [e],fun e=>Option.some.inj e⟩
    ·have hq:i+1=n - 4:=by omega
     rw [if_neg q]
     have e0:=at0 0 (by decide)
     rw [Nat.add_zero,←hq,yh hlt2] at e0
     have e0:s[i+1]=13:=Option.some.inj e0
     rw [e0]
     simp
   rw [hd]
   conv=>rhs;unfold z2g
   have next:M.z2c (n:Int) s l (a:Int) ((i+1:Nat):Int)=some (l++glue ((s.take (i+1)).drop a) (z2g ((s.take (n - 4)).drop (i+1)))):=ih (i+1) a l (by omega) (by omega) (by omega) hl
   have glue1:glue ((s.take (i+1)).drop a) (z2g ((s.take (n - 4)).drop (i+1)))=glue ((s.take i).drop a) (match z2g ((s.take (n - 4)).drop (i+1)) with
     | []=>[[s[i]]]
     | h::t=>(s[i]::h)::t):=by
    rw [hcur]
    cases z2g ((s.take (n - 4)).drop (i+1))<;>simp [glue]
   by_cases c1:s[i]=13
   ·have q0:=b13.2 c1
    by_cases c2:s[i+1]=10
    ·have q1:=b10.2 c2
     have hp:=(hhd c1).1 c2
     simp only [q0,q1,decide_true,if_true,yb,hsub]
     rw [z4p (by simp;omega)]
     simp only [yb]
     have hi2:i+2≤n - 4:=by
      rw [yj] at hp
      have:=(List.getElem?_eq_some_iff.1 hp).1
      rw [yk] at this
      omega
     have e2:((i+1+1:Nat):Int)=((i+2:Nat):Int):=rfl
     rw [e2,ih (i+2) (i+2) _ (by omega) hi2 (Nat.le_refl _) (by simp;omega),if_pos ⟨c1,hp⟩,List.drop_drop]
     have e3:(s.take (i+2)).drop (i+2)=[]:=yg (by rw [yk];omega)
     rw [e3]
     obtain ⟨x,y,e⟩:=z7l ((s.take (n - 4)).drop (i+2))
     have e4:i+1+1=i+2:=rfl
     rw [e4,e]
     simp [glue]
    ·have q1:¬((s[i+1].toNat:Int)=10):=fun e=>c2 (b10.1 e)
     have hp:¬((s.take (n - 4)).drop (i+1)).head? = some 10:=fun e=>c2 ((hhd c1).2 e)
     simp only [q0,q1,decide_true,decide_false,yd,if_true,if_false,yb]
     rw [next,glue1,if_neg fun e=>hp e.2]
     cases z2g ((s.take (n - 4)).drop (i+1))<;>rfl
   ·have q0:¬((s[i].toNat:Int)=13):=fun e=>c1 (b13.1 e)
    simp only [q0,decide_false,yd,if_false,yb]
    rw [next,glue1,if_neg fun e=>c1 e.1]
    cases z2g ((s.take (n - 4)).drop (i+1))<;>rfl
def Seen (ps:List q05) (sn:List Z):Prop := ∀ k,sn.contains k=(decide (k=z4h)||zqd ps k)
theorem Seen.put {ps:List q05} {sn:List Z} (h:Seen ps sn) (k v:Z):Seen (ps++[⟨k,v⟩]) (k::sn):=fun k'=>by
 rw [List.contains_cons,h k']
 unfold zqd
 rw [List.any_append]
 by_cases e:k'=k
 ·subst e;simp
 ·have e2:¬k=k':=fun q=>e q.symm
  simp [e,e2]
def zq2 (z:Option (Jn (q03 × Int × Int) ((List q05) × Int × (List q05)))):Except Int (Nat × List q05 × List Z)→Prop
 | .error e=>z=some (.done (zH,0,e))
 | .ok (b,hd,sn)=>∃ ps,z=some (.go (ps,(b:Int),hd))∧Seen ps sn∧ps.length≤1000000
theorem zoy {l:List Z} (hl:l.length<1000000) (hm:∀ x∈l,x.length<1000000):∀ (n i b:Nat) (ps hd:List q05) (sn:List Z),l.length - (i+1)=n→i+1≤l.length→hd.length≤i→ps.length≤i→Seen ps sn →
  zq2 (M.z2d l ps (b:Int) ((i+1:Nat):Int) hd) (z7h (l.drop (i+1)) i b hd sn):=by
 intro n
 induction n with
 | zero =>
  intro i b ps hd sn hn hi ha hp hs
  rw [M.z2d.eq_1,yg (by omega),if_neg (by simp;omega)]
  exact ⟨ps,rfl,hs,by omega⟩
 | succ n ih =>
  intro i b ps hd sn hn hi ha hp hs
  have hlt:i+1<l.length:=by omega
  have h1:(((i+1:Nat):Int)<(l.length:Int)):=by omega
  have hx:=hm l[i+1] (List.getElem_mem hlt)
  rw [M.z2d.eq_1,yf hlt]
  simp only [h1,decide_true,if_true,zak,yh hlt,ya,yb]
  unfold z7h
  by_cases h32:32≤i
  ·have:(32:Int)<((i+1:Nat):Int):=by omega
   rw [if_pos h32,if_pos (by simpa using this)]
   rfl
  ·have:¬(32:Int)<((i+1:Nat):Int):=by omega
   rw [if_neg h32,if_neg (by simpa using this)]
   generalize hxe:l[i+1]=x at hx ⊢
   have hc:=(z5i 58 x).1
   have hbl:=zdj (z18 58 x).2.1
   have hf:M.q5w x 58=some (z18 58 x):=zfa 58 (by omega)
   have hlow:(low (z18 58 x).1).length=(z18 58 x).1.length:=by unfold low;rw [List.length_map]
   rw [hf]
   simp only [yb]
   rw [zg9 (by omega)]
   simp only [yb]
   rw [zhx (by omega)]
   simp only [yb]
   rw [zad _ (by omega)]
   simp only [yb]
   rw [zhz (by omega),zga (s:=bare (z18 58 x).2.1) (by omega)]
   have key:∀ (K:Bool→Option (Jn (q03 × Int × Int) ((List q05) × Int × (List q05)))),((if (!(z18 58 x).2.2)=true then some true else (some (zep (low (z18 58 x).1))).bind fun a339=>some (!a339)).bind fun j338=>(if j338=true then some true else (some (isVal (bare (z18 58 x).2.1))).bind fun a345=>some (!a345)).bind K)=K (!((z18 58 x).2.2&&zep (low (z18 58 x).1)&&isVal (bare (z18 58 x).2.1))):=by
    intro K
    cases (z18 58 x).2.2<;>cases zep (low (z18 58 x).1)<;>cases isVal (bare (z18 58 x).2.1)<;>rfl
   rw [key]
   have hsn:=hs (low (z18 58 x).1)
   unfold zx4
   rw [hsn]
   have te:([116,114,97,110,115,102,101,114,45,101,110,99,111,100,105,110,103]:Z)=z4h:=rfl
   have cl:([99,111,110,116,101,110,116,45,108,101,110,103,116,104]:Z)=ziq:=rfl
   rw [te,cl]
   cases hall:((z18 58 x).2.2&&zep (low (z18 58 x).1)&&isVal (bare (z18 58 x).2.1)) with
   | false=>rfl
   | true =>
    by_cases ht:low (z18 58 x).1=z4h
    ·simp only [ht,decide_true,Bool.or_true,Bool.true_or,if_true,ye,yc,yd,if_false]
     rfl
    ·cases hh:zqd ps (low (z18 58 x).1) with
     | true =>
      simp only [ht,decide_false,Bool.or_true,Bool.true_or,if_true,ye,yc,yd,if_false]
      rfl
     | false =>
      simp only [ht,decide_false,Bool.or_false,ye,Bool.not_false,Bool.and_self,yd,if_false,if_true]
      rw [z4p (by simp;omega),w1 (by omega)]
      simp only [yb]
      have hput:=hs.put (low (z18 58 x).1) (bare (z18 58 x).2.1)
      by_cases hk:low (z18 58 x).1=ziq
      ·have hcnt:M.q5p (bare (z18 58 x).2.1) 9=some (zvx 9 (bare (z18 58 x).2.1)):=zg8 (k:=9) (by decide)
       simp only [hk,decide_true,if_true,hcnt,yb]
       unfold zvx
       cases hnum:isNum 9 (bare (z18 58 x).2.1) with
       | false=>rfl
       | true =>
        have h0:¬((((z8w 0 (bare (z18 58 x).2.1):Nat):Int))<0):=by omega
        simp only [if_true,h0,decide_false,yd,if_false]
        have:=ih (i+1) (z8w 0 (bare (z18 58 x).2.1)) _ hd _ (by omega) (by omega) (by omega) (by simp;omega) hput
        rw [hk] at this
        exact this
      ·simp only [hk,decide_false,yd,if_false]
       rw [z4p (by simp;omega)]
       simp only [yb]
       exact ih (i+1) b _ _ _ (by omega) (by omega) (by simp;omega) (by simp;omega) hput
end Go.Sen
end
