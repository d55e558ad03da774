import Derived.Test.YtfdoofnmjehecaaGreatDoorDShB
import Derived.Lib.MapLaws
import Derived.Lib.TrimAscii
import Derived.Lib.TrimU
import Derived.Test.YtfdoofnmjehecaaGreatDoorDHtP7
import Derived.Lib.TrimUEq
set_option linter.all false
section
namespace Go.Sen
open _root_.Option renaming bind_eq_bind → ya, bind_some → yb
open _root_.Bool renaming and_eq_true → yc
open _root_.List renaming length_cons → yd, length_drop → ye, length_nil → yf, length_take → yg, mem_append → yh, tail_cons → yi
open Go.Lk Go.Pe
def z62:Z:=[13,10,13,10]
def z4q (s:Z):Nat:=if 0≤Lib.index (s.take 8192) z62 then (Lib.index (s.take 8192) z62).toNat+4 else 0
theorem zh5 (s:Z):z4q s≤s.length∧z4q s≤8192:=by
 unfold z4q
 split
 ·rename_i h
  have:=Lib.index_room (s.take 8192) z62 h
  have h2:(s.take 8192).length=min 8192 s.length:=yg
  simp only [z62,yd,yf] at this
  rw [h2] at this
  have e:((Lib.index (s.take 8192) [13,10,13,10]).toNat:Int)=Lib.index (s.take 8192) [13,10,13,10]:=by
   unfold z62 at h
   omega
  unfold z62
  omega
 ·omega
theorem zq8 {s:Z} (h:0<z4q s):4≤z4q s:=by
 unfold z4q at h ⊢
 split at h
 ·rw [if_pos ‹_›];omega
 ·omega
theorem zhc {s:Z} (h:s.length<1000000000):M.q1f s=some ((z4q s:Nat):Int):=by
 unfold M.q1f z4q
 have e:zs1 (s.length:Int) 8192=((min s.length 8192:Nat):Int):=by unfold zs1;split<;>omega
 rw [e,zib (Nat.min_le_left _ _)]
 have e2:s.take (min s.length 8192)=s.take 8192:=by rw [List.take_eq_take_iff];omega
 have e3:M.z4f (s.take 8192) z62=some (Lib.index (s.take 8192) z62):=by
  unfold M.z4f
  rw [z5t (by simp;omega)]
  rfl
 rw [e2]
 unfold z62 at e3 ⊢
 simp only [ya,yb,e3]
 by_cases h0:0≤Lib.index (s.take 8192) [13,10,13,10]
 ·have hr:=Lib.index_room (s.take 8192) [13,10,13,10] h0
  have h2:(s.take 8192).length=min 8192 s.length:=yg
  rw [h2] at hr
  simp only [yd,yf] at hr
  simp only [h0,decide_true,if_true]
  rw [w64 (by omega) (by omega)]
  congr 1
  omega
 ·simp [h0]
def zl3:List Z→Option (List Z)
 | []=>some []
 | p::r=>match z1d p,zl3 r with
  | some x,some l=>some (x::l)
  | _,_=>none
theorem zg4 (p:Z) (r:List Z):zl3 (p::r)=match z1d p,zl3 r with
  | some x,some l=>some (x::l)
  | _,_=>none:=rfl
def zfl:Z:=[72,84,84,80,47,49,46,49]
def zeg (a b c:Z):Bool:=z96 a&&decide (c=zfl)&&decide (b.head? = some 47)&&z86 33 126 b
def zl4 (s:Z):Option q03:=match z16 32 s with
 | [a,b,c]=>if zeg a b c=true then (match zl3 (z16 47 ((z18 63 b).1.drop 1)) with
  | some l=>if (z3l (z18 63 b).2.1).2=0∧l.length≤64 then some ⟨a,l,(z3l (z18 63 b).2.1).1,[],[]⟩ else none
  | none=>none) else none
 | _=>none
theorem z2f (e:Int):M.q1p true e=some (.ok ()):=by simp [M.q1p]
theorem z1i (e:Int):M.q1p false e=some (.pan e):=by simp [M.q1p]
theorem z0m {l:List Z} (hl:l.length<2000000) (hm:∀ x∈l,x.length<1000000):∀ (n i:Nat) (a:List Z),l.length - i=n→i≤l.length→a.length≤i →
  M.z0m l (i:Int) a=some (match zl3 (l.drop i) with|some r => .go (a++r)|none => .done (.pan 220)):=by
 intro n
 induction n with
 | zero =>
  intro i a hn hi ha
  rw [M.z0m,List.drop_eq_nil_of_le (by omega)]
  have:¬((i:Int)<(l.length:Int)):=by omega
  simp [this,zl3]
 | succ n ih =>
  intro i a hn hi ha
  have hlt:i<l.length:=by omega
  have h1:((i:Int)<(l.length:Int)):=by omega
  have hx:=hm l[i] (by simp)
  rw [M.z0m,List.drop_eq_getElem_cons hlt]
  simp only [h1,decide_true,if_true,zak,List.getElem?_eq_getElem hlt,ya,yb]
  rw [z3n (by omega)]
  simp only [yb]
  rw [zg4]
  cases h2:z1d l[i] with
  | none =>
   have:(decide ((12:Int)=0))=false:=by decide
   simp only [this,z1i,yb]
  | some x =>
   have:(decide ((0:Int)=0))=true:=by decide
   rw [this,z2f]
   simp only [yb]
   rw [z4p (by simp;omega),w1 (by omega)]
   simp only [yb]
   rw [ih (i+1) _ (by omega) (by omega) (by simp;omega)]
   cases zl3 (l.drop (i+1))<;>simp
theorem zwn (b:Z):M.q73 b [47]=some (decide (b.head? = some 47)):=by
 rw [zfk,zch]
theorem zhd {s:Z} (h:s.length<1000000):M.q2r s=some (match zl4 s with|some q => .ok q|none => .pan 220):=by
 unfold M.q2r zl4
 rw [zgv 32 (by omega)]
 have hmem:=z4l 32 s
 obtain ⟨l,hl⟩:∃ l,z16 32 s=l:=⟨_,rfl⟩
 rw [hl] at hmem ⊢
 simp only [ya,yb]
 match l,hmem with
 | [],_=>simp [z1i]
 | [a],_=>simp [z1i]
 | [a,b],_=>simp [z1i]
 | a::b::c::d::t,_ =>
  have:¬(((a::b::c::d::t).length:Int)=3):=by simp;omega
  simp only [this,decide_false,Bool.false_eq_true,if_false,yb,z1i]
 | [a,b,c],hmem =>
  have hb:=hmem b (by simp)
  have hon:M.q1x b 33 126=some (z86 33 126 b):=zaa 33 126 (by omega)
  have e3:((([a,b,c]:List Z).length:Int)=3):=by simp
  have i0:ix [a,b,c] 0=some a:=by simp [zoh]
  have i1:ix [a,b,c] 1=some b:=by simp [zwq]
  have i2:ix [a,b,c] 2=some c:=by simp [ix]
  simp only [e3,decide_true,if_true,i0,i1,i2,yb,zcf,zwn,hon]
  have key:∀ k:Bool→Option (Rs q03),k (zeg a b c)=((if z96 a=true then some (decide (c=zfl)) else some false).bind fun j13=>(if j13=true then some (decide (b.head? = some 47)) else some false).bind fun j19=>(if j19=true then some (z86 33 126 b) else some false).bind k):=by
   intro k
   unfold zeg
   cases z96 a<;>cases decide (c=zfl)<;>cases decide (b.head? = some 47)<;>simp
  unfold zfl at key
  rw [←key fun j27=>_]
  cases ht:zeg a b c with
  | false=>simp [z1i]
  | true =>
   have hhd:b.head? = some 47:=by unfold zeg at ht;simp at ht;exact ht.1.2
   have hcl:=z5i 63 b
   have hc1:1≤(z18 63 b).1.length:=by
    cases b with
    | nil=>cases hhd
    | cons x r =>
     cases hhd
     rw [z2q,if_neg (by decide)]
     simp
   simp only [z2f,yb,if_true]
   rw [zl6 63 (by omega)]
   simp only [yb]
   have hs:=zpu (l:=(z18 63 b).1) (a:=1) hc1
   have hs:sub (z18 63 b).1 1 ((z18 63 b).1.length:Int)=some ((z18 63 b).1.drop 1):=hs
   rw [hs]
   simp only [yb]
   rw [zgv 47 (by simp;omega)]
   simp only [yb]
   have hk:=z0m (l:=z16 47 ((z18 63 b).1.drop 1)) (by have:=za0 47 ((z18 63 b).1.drop 1);rw [ye] at this;omega) (fun x hx=>by have:=z4l 47 _ x hx;rw [ye] at this;omega) _ 0 [] rfl (Nat.zero_le _) (by simp)
   have hk:M.z0m (z16 47 ((z18 63 b).1.drop 1)) 0 []=_:=hk
   rw [hk,List.drop_zero]
   cases zl3 (z16 47 ((z18 63 b).1.drop 1)) with
   | none=>simp
   | some l =>
    simp only [yb,List.nil_append]
    rw [z9q (by omega)]
    simp only [yb]
    by_cases hz:(z3l (z18 63 b).2.1).2=0∧l.length≤64
    ·have:(decide ((z3l (z18 63 b).2.1).2=0)&&decide ((l.length:Int)≤64))=true:=by
      rw [yc,decide_eq_true_iff,decide_eq_true_iff]
      omega
     rw [this,z2f]
     simp [hz]
    ·have:(decide ((z3l (z18 63 b).2.1).2=0)&&decide ((l.length:Int)≤64))=false:=by
      rw [Bool.and_eq_false_iff,decide_eq_false_iff_not,decide_eq_false_iff_not]
      by_cases q:(z3l (z18 63 b).2.1).2=0
      ·exact .inr fun q2=>hz ⟨q,by omega⟩
      ·exact .inl q
     rw [this,z1i]
     simp only [yb]
     rw [if_neg hz]
def zl0 (b:UInt8):UInt8:=if isA b=true then b+32 else b
def low (s:Z):Z:=s.map zl0
theorem zs0:∀ b:UInt8,(!decide (b.toNat<128)||decide (Lib.encodeRune (zhq (b.toNat:Int))=[zl0 b]))=true:=zb4 (by decide +kernel)
theorem zup (x:Nat):0≤zhq (x:Int):=by unfold zhq;split<;>omega
theorem zdb:∀ s:Z,(∀ b∈s,b.toNat<128)→Lib.mapD zhq s=low s
 | [],_=>rfl
 | b::r,h=>by
  have hb:=h b (by simp)
  rw [Lib.mapD_step _ _ (by simp),Lib.decodeL_ascii b r hb]
  simp only [List.drop_one,yi]
  rw [if_pos (zup _),zdb r fun x hx=>h x (by simp [hx])]
  have:=zs0 b
  simp only [hb,decide_true,Bool.not_true,Bool.false_or,decide_eq_true_eq] at this
  rw [this]
  rfl
theorem zh4 {x:Int} (h:128≤x):∃ b∈Lib.encodeRune x,128≤b.toNat:=by
 unfold Lib.encodeRune Lib.encodeRuneZ
 rw [if_neg (by omega)]
 split
 ·refine ⟨(192+x / 64).toNat.toUInt8,by simp,?_⟩
  simp
  omega
 ·split
  ·refine ⟨(224+x / 4096).toNat.toUInt8,by simp,?_⟩
   simp
   omega
  ·split
   ·refine ⟨(240+x / 262144).toNat.toUInt8,by simp,?_⟩
    simp
    omega
   ·exact ⟨239,by simp,by decide⟩
theorem decode_high (b:UInt8) (r:Z) (h:¬b.toNat<128):128≤(Lib.decodeL (b::r)).1:=by
 have e:(⟨(b::r).toArray⟩:ByteArray).get! 0=b:=by simp [ByteArray.get!]
 unfold Lib.decodeL Utf8.decode
 simp only [Nat.add_zero,e,Nat.zero_add]
 rw [if_neg (by omega)]
 split
 ·split
  ·rename_i h1;simpa using h1
  ·simp [Utf8.runeError]
 ·split
  ·split
   ·rename_i h1
    simp only [yc,decide_eq_true_eq] at h1
    simp only
    omega
   ·simp [Utf8.runeError]
  ·split
   ·split
    ·rename_i h1
     simp only [yc,decide_eq_true_eq] at h1
     simp only
     omega
    ·simp [Utf8.runeError]
   ·simp [Utf8.runeError]
theorem zmm:∀ (n:Nat) (s:Z),s.length≤n→(∃ b∈s,¬b.toNat<128)→∃ b∈Lib.mapD zhq s,¬b.toNat<128:=by
 intro n
 induction n with
 | zero =>
  intro s hn h
  have:s=[]:=List.eq_nil_of_length_eq_zero (by omega)
  subst this
  obtain ⟨b,hb,_⟩:=h
  cases hb
 | succ n ih =>
  intro s hn h
  cases s with
  | nil=>obtain ⟨b,hb,_⟩:=h;cases hb
  | cons c r =>
   rw [Lib.mapD_step _ _ (by simp)]
   by_cases hc:c.toNat<128
   ·rw [Lib.decodeL_ascii c r hc]
    simp only [List.drop_one,yi]
    obtain ⟨b,hb,h2⟩:=ih r (by simp at hn;omega) (by
     obtain ⟨b,hb,h2⟩:=h
     rcases List.mem_cons.1 hb with rfl|hb
     ·exact (h2 hc).elim
     ·exact ⟨b,hb,h2⟩)
    exact ⟨b,yh.2 (.inr hb),h2⟩
   ·have h1:=decode_high c r hc
    have e:zhq ((Lib.decodeL (c::r)).1:Int)=((Lib.decodeL (c::r)).1:Int):=by unfold zhq;rw [if_neg (by omega)]
    rw [e,if_pos (by omega)]
    obtain ⟨b,hb,h2⟩:=zh4 (x:=((Lib.decodeL (c::r)).1:Int)) (by omega)
    exact ⟨b,yh.2 (.inl hb),by omega⟩
theorem zrk {b:UInt8} (h:isN b=true):b.toNat<128:=by
 unfold isN isD at h
 simp at h
 rcases h with (h|h)|h
 ·omega
 ·omega
 ·subst h;decide
theorem zmo (s:Z):zep (Lib.mapD zhq s)=zep (low s)∧(zep (low s)=true→Lib.mapD zhq s=low s):=by
 by_cases h:∀ b∈s,b.toNat<128
 ·rw [zdb s h]
  exact ⟨rfl,fun _=>rfl⟩
 ·have h:∃ b∈s,¬b.toNat<128:=by
   simpa using h
  have no:∀ t:Z,(∃ b∈t,¬b.toNat<128)→zep t=false:=fun t ⟨b,hb,h2⟩=>by
   have:t.all isN=false:=by
    rw [List.all_eq_false]
    exact ⟨b,hb,fun q=>h2 (zrk q)⟩
   unfold zep
   rw [this,Bool.and_false]
  have h1:=no _ (zmm _ s (Nat.le_refl _) h)
  have h2:zep (low s)=false:=no _ (by
   obtain ⟨b,hb,h2⟩:=h
   refine ⟨zl0 b,List.mem_map.2 ⟨b,hb,rfl⟩,?_⟩
   unfold zl0
   rw [if_neg (by unfold isA;simp;omega)]
   exact h2)
  rw [h1,h2]
  exact ⟨rfl,fun q=>by cases q⟩
theorem zjv {s:Z} (h:s.length<1000000000):M.z3v s=some (Lib.mapD zhq s):=by
 unfold M.z3v
 rw [z5t (by simp;omega)]
 rfl
end Go.Sen
end
section
namespace Go.Sen
open _root_.Option renaming bind_eq_bind → ya, bind_some → yb
open _root_.Bool renaming false_eq_true → yc
open _root_.List renaming dropWhile_sublist → yd, length_cons → ye, length_drop → yf
open IntKind renaming wrap → yg
open Go.Lk Go.Pe
theorem zjd {K:Type} [DecidableEq K] (k k':K):∀ l:List (K × Bool),z4s (z2t l k true) k' false=if k'=k then true else z4s l k' false
 | []=>by unfold z2t z4s z4s;rfl
 | (a,b)::r=>by
  have ih:=zjd k k' r
  unfold z2t
  by_cases h:k=a
  ·subst h
   rw [if_pos rfl]
   unfold z4s
   by_cases h2:k'=k<;>simp [h2]
  ·rw [if_neg h]
   unfold z4s
   by_cases h2:k'=a
   ·subst h2
    rw [if_pos rfl,if_pos rfl,if_neg (Ne.symm h)]
   ·rw [if_neg h2,if_neg h2,ih]
def z4h:Z:=[116,114,97,110,115,102,101,114,45,101,110,99,111,100,105,110,103]
def ziq:Z:=[99,111,110,116,101,110,116,45,108,101,110,103,116,104]
def z6a:Z:=[104,111,115,116]
def zx4 (row:Z) (sn:List Z):Option (Z × Z) :=
 if ((z18 58 row).2.2&&zep (low (z18 58 row).1)&&isVal (bare (z18 58 row).2.1) && !sn.contains (low (z18 58 row).1))=true then some (low (z18 58 row).1,bare (z18 58 row).2.1) else none
def z7h:List Z→Nat→Nat→List q05→List Z→Except Int (Nat × List q05 × List Z)
 | [],_,b,hd,sn => .ok (b,hd,sn)
 | row::r,i,b,hd,sn=>if 32≤i then .error 222 else match zx4 row sn with
  | none => .error 220
  | some (k,v)=>if k=ziq then (if isNum 9 v=true then z7h r (i+1) (z8w 0 v) hd (k::sn) else .error 220) else z7h r (i+1) b (hd++[⟨k,v⟩]) (k::sn)
def zH:q03:=⟨[],[],[],[],[]⟩
def SN (m:List (Z × Bool)) (sn:List Z):Prop := ∀ k,z4s m k false=sn.contains k
theorem SN.put {m:List (Z × Bool)} {sn:List Z} (h:SN m sn) (k:Z):SN (z2t m k true) (k::sn):=fun k'=>by
 rw [zjd,List.contains_cons,h k']
 by_cases e:k'=k<;>simp [e]
def zty (z:Option (Jn (q03 × Int × Int) (Int × (List q05) × (List (Z × Bool))))):Except Int (Nat × List q05 × List Z)→Prop
 | .error e=>z=some (.done (zH,0,e))
 | .ok (b,hd,sn)=>∃ m,z=some (.go ((b:Int),hd,m))∧SN m sn
theorem zdj (s:Z):(bare s).length≤s.length:=by
 unfold bare Lib.trimS Lib.trimLeftS Lib.trimRightS
 refine Nat.le_trans (yd _).length_le ?_
 rw [List.length_reverse]
 exact Nat.le_trans (yd _).length_le (by simp)
theorem zot {l:List Z} (hl:l.length<1000000) (hm:∀ x∈l,x.length<1000000):∀ (n i b:Nat) (hd:List q05) (m:List (Z × Bool)) (sn:List Z),l.length - i=n→i≤l.length→hd.length≤i→SN m sn →
  zty (M.z06 l (b:Int) (i:Int) hd m) (z7h (l.drop i) i b hd sn):=by
 intro n
 induction n with
 | zero =>
  intro i b hd m sn hn hi ha hs
  rw [M.z06,List.drop_eq_nil_of_le (by omega)]
  have:¬((i:Int)<(l.length:Int)):=by omega
  simp only [this,decide_false,yc,if_false]
  exact ⟨m,rfl,hs⟩
 | succ n ih =>
  intro i b hd m sn hn hi ha hs
  have hlt:i<l.length:=by omega
  have h1:((i:Int)<(l.length:Int)):=by omega
  have hx:=hm l[i] (by simp)
  have hc:=(z5i 58 l[i]).1
  rw [M.z06,List.drop_eq_getElem_cons hlt]
  simp only [h1,decide_true,if_true,zak,List.getElem?_eq_getElem hlt,ya,yb]
  unfold z7h
  by_cases h32:32≤i
  ·have:¬((i:Int)<32):=by omega
   rw [if_pos h32]
   simp only [this,decide_false,z1i,yb]
   rfl
  ·have:((i:Int)<32):=by omega
   rw [if_neg h32]
   simp only [this,decide_true,z2f,yb]
   rw [zl6 58 (by omega)]
   simp only [yb]
   rw [zjv (by omega)]
   simp only [yb]
   rw [zif (by omega) (by decide)]
   simp only [yb,zfm]
   obtain ⟨e1,e2⟩:=zmo (z18 58 l[i]).1
   have hv:M.q2t (Lib.trimS (z18 58 l[i]).2.1 [32])=some (isVal (bare (z18 58 l[i]).2.1)):=zdy (by have:=zdj (z18 58 l[i]).2.1;unfold bare at this;omega)
   rw [hv,e1]
   -- what must hold,as one
   have key:∀ (a b c d:Bool) (k:Bool→Option (Jn (q03 × Int × Int) (Int × (List q05) × (List (Z × Bool))))),((if a=true then some b else some false).bind fun j=>(if j=true then some c else some false).bind fun j=>(if j=true then some d else some false).bind k)=k (a&&b&&c&&d):=by
    intro a b c d k
    cases a<;>cases b<;>cases c<;>cases d<;>rfl
   simp only [yb]
   rw [key]
   unfold zx4
   by_cases hn:zep (low (z18 58 l[i]).1)=true
   ·rw [e2 hn,hs]
    cases hall:((z18 58 l[i]).2.2&&zep (low (z18 58 l[i]).1)&&isVal (bare (z18 58 l[i]).2.1) && !sn.contains (low (z18 58 l[i]).1)) with
    | false =>
     simp only [z1i,yb,yc,if_false]
     rfl
    | true =>
     simp only [z2f,yb,if_true]
     have hb:Lib.trimS (z18 58 l[i]).2.1 [32]=bare (z18 58 l[i]).2.1:=rfl
     rw [hb]
     by_cases hk:low (z18 58 l[i]).1=ziq
     ·have hk':low (z18 58 l[i]).1=[99,111,110,116,101,110,116,45,108,101,110,103,116,104]:=hk
      rw [if_pos hk]
      obtain ⟨v,h2,h3⟩:=zcg (s:=bare (z18 58 l[i]).2.1) 9 (by decide) (by have:=zdj (z18 58 l[i]).2.1;omega)
      have h2:M.q1t (bare (z18 58 l[i]).2.1) 9=some (v,isNum 9 (bare (z18 58 l[i]).2.1)):=h2
      simp only [hk',decide_true,Bool.not_true,yc,if_false,h2,yb]
      cases hnum:isNum 9 (bare (z18 58 l[i]).2.1) with
      | false =>
       simp only [z1i,yb,yc,if_false]
       rfl
      | true =>
       simp only [z2f,yb,if_true]
       rw [h3 hnum,w1 (by omega)]
       have:=ih (i+1) (z8w 0 (bare (z18 58 l[i]).2.1)) hd _ _ (by omega) (by omega) (by omega) (hs.put (low (z18 58 l[i]).1))
       rw [hk'] at this
       exact this
     ·have hk':¬low (z18 58 l[i]).1=[99,111,110,116,101,110,116,45,108,101,110,103,116,104]:=hk
      rw [if_neg hk]
      simp only [hk',decide_false,Bool.not_false,if_true]
      rw [z4p (by simp;omega),w1 (by omega)]
      simp only [yb]
      exact ih (i+1) b _ _ _ (by omega) (by omega) (by simp;omega) (hs.put (low (z18 58 l[i]).1))
   ·have hn:zep (low (z18 58 l[i]).1)=false:=by simpa using hn
    simp only [hn,Bool.and_false,Bool.false_and,z1i,yb,yc,if_false]
    rfl
def zji (s:Z) (n:Nat) (q:q03):Except Int (Nat × List q05 × List Z)→q03 × Nat × Int
 | .error e=>(zH,0,e)
 | .ok (b,hd,sn)=>if sn.contains z6a=false then (zH,0,220) else if 16384<b then (zH,0,221) else if s.length<n+b then (zH,0,223) else (⟨q.zw,q.z0z,q.z1g,hd,(s.drop n).take b⟩,n+b,0)
def zjj (s:Z) (n:Nat) (l:List Z):q03 × Nat × Int:=match zl4 (l.head?.getD []) with
 | none=>(zH,0,220)
 | some q=>zji s n q (z7h (l.drop 1) 0 0 [] [z4h])
def z5e (s:Z):q03 × Nat × Int:=if z4q s=0 then (zH,0,if s.length<8192 then 223 else 222) else zjj s (z4q s) (z2g (s.take (z4q s - 4)))
theorem za1:∀ (n:Nat) (s:Z),s.length≤n→(z2g s).length≤s.length+1∧∀ x∈z2g s,x.length≤s.length:=by
 intro n
 induction n with
 | zero =>
  intro s hn
  have:s=[]:=List.eq_nil_of_length_eq_zero (by omega)
  subst this
  unfold z2g
  simp
 | succ n ih =>
  intro s hn
  cases s with
  | nil=>unfold z2g;simp
  | cons x r =>
   simp only [ye] at hn
   unfold z2g
   split
   ·obtain ⟨h1,h2⟩:=ih (r.drop 1) (by rw [yf];omega)
    rw [yf] at h1 h2
    refine ⟨by rw [ye,ye];omega,fun y hy => ?_⟩
    rcases List.mem_cons.1 hy with rfl|hy
    ·simp
    ·have:=h2 y hy;rw [ye];omega
   ·obtain ⟨h1,h2⟩:=ih r (by omega)
    obtain ⟨a,t,e⟩:=z7l r
    rw [e] at h1 h2
    rw [e]
    simp only [ye] at h1 ⊢
    refine ⟨by omega,fun y hy => ?_⟩
    rcases List.mem_cons.1 hy with rfl|hy
    ·have:=h2 a (by simp);rw [ye];omega
    ·have:=h2 y (by simp [hy]);omega
theorem zdf {s:Z} {q:q03} (h:zl4 s=some q):q.z1y=[]∧q.z08=[]:=by
 unfold zl4 at h
 split at h
 ·split at h
  ·split at h
   ·split at h
    ·cases h;exact ⟨rfl,rfl⟩
    ·cases h
   ·cases h
  ·cases h
 ·cases h
theorem zdx {s:Z} (h:s.length<1000000000):M.q0s s=some ((z5e s).1,(((z5e s).2.1:Nat):Int),(z5e s).2.2):=by
 unfold M.q0s z5e
 rw [zhc h]
 have hz:∀ e:Int,(q03.mk ([]:Z) [] [] [] ([]:Z),(0:Int),e)=(zH,((0:Nat):Int),e):=fun e=>rfl
 simp only [ya,yb]
 by_cases h0:z4q s=0
 ·rw [if_pos h0,h0]
  by_cases h1:s.length<8192
  ·have:((s.length:Int)<8192):=by omega
   simp [this,h1,z2f,z1i,zH]
  ·have:¬((s.length:Int)<8192):=by omega
   simp [this,h1,z1i,zH]
 ·rw [if_neg h0]
  have hp:(0:Int)<((z4q s:Nat):Int):=by omega
  have h4:=zq8 (s:=s) (by omega)
  have hle:=zh5 s
  simp only [hp,decide_true,Bool.true_or,z2f,yb]
  have ew:yg .i64 (((z4q s:Nat):Int) - 4)=((z4q s - 4:Nat):Int):=by rw [w64 (by omega) (by omega)];omega
  rw [ew,zib (by omega)]
  simp only [yb]
  have hlt:(s.take (z4q s - 4)).length≤8192:=by rw [List.length_take];omega
  rw [znq (by omega)]
  obtain ⟨hs1,hs2⟩:=za1 _ (s.take (z4q s - 4)) (Nat.le_refl _)
  obtain ⟨a,t,e⟩:=z7l (s.take (z4q s - 4))
  rw [e] at hs1 hs2 ⊢
  have i0:ix (a::t) 0=some a:=by simp [zoh]
  simp only [yb,i0]
  have ha:=hs2 a (by simp)
  rw [zhd (by omega)]
  unfold zjj
  simp only [List.head?_cons,Option.getD_some,yb]
  cases hq:zl4 a with
  | none=>simp [zH]
  | some q =>
   obtain ⟨q1,q2⟩:=zdf hq
   have hsub:sub (a::t) 1 ((a::t).length:Int)=some t:=by
    have:=zpu (l:=a::t) (a:=1) (by simp)
    simpa using this
   simp only [ye] at hs1
   have hk:=zot (l:=t) (by omega) (fun x hx=>by have:=hs2 x (by simp [hx]);omega) _ 0 0 [] (z2t [] z4h true) [z4h] rfl (Nat.zero_le _) (by simp) (fun k=>by
    unfold z2t z4s z4s
    by_cases q:k=z4h<;>simp [q])
   rw [List.drop_zero] at hk
   have e2:(a::t).drop 1=t:=rfl
   rw [e2]
   simp only [yb,hsub,q1]
   have em:z2t ([]:List (Z × Bool)) ([116,114,97,110,115,102,101,114,45,101,110,99,111,100,105,110,103]:Z) true=z2t [] z4h true:=rfl
   rw [em]
   unfold zji
   cases hr:z7h t 0 0 [] [z4h] with
   | error er =>
    rw [hr] at hk
    have hk:M.z06 t 0 0 [] (z2t [] z4h true)=some (.done (zH,0,er)):=hk
    rw [hk]
    rfl
   | ok x =>
    obtain ⟨b,hd,sn⟩:=x
    rw [hr] at hk
    obtain ⟨m,hk,hsn⟩:=hk
    have hk:M.z06 t 0 0 [] (z2t [] z4h true)=some (.go ((b:Int),hd,m)):=hk
    rw [hk]
    simp only [yb]
    have hh:z4s m [104,111,115,116] false=sn.contains z6a:=hsn _
    rw [hh]
    cases sn.contains z6a with
    | false=>simp [z1i,zH]
    | true =>
     simp only [z2f,yb,Bool.true_eq_false,if_false]
     by_cases hb:16384<b
     ·have:¬((b:Int)≤16384):=by omega
      simp [this,hb,z1i,zH]
     ·have:((b:Int)≤16384):=by omega
      simp only [this,decide_true,z2f,yb,hb,if_false]
      have ew2:yg .i64 ((s.length:Int) - ((z4q s:Nat):Int))=((s.length - z4q s:Nat):Int):=by rw [w64 (by omega) (by omega)];omega
      rw [ew2]
      by_cases hb2:s.length<z4q s+b
      ·have:¬((b:Int)≤((s.length - z4q s:Nat):Int)):=by omega
       simp [this,hb2,z1i,zH]
      ·have:((b:Int)≤((s.length - z4q s:Nat):Int)):=by omega
       simp only [this,decide_true,z2f,yb,hb2,if_false]
       rw [zx9 (by omega),zc1 (by omega) (by omega)]
       simp only [yb]
       rw [List.drop_take]
       have:z4q s+b - z4q s=b:=by omega
       rw [this]
end Go.Sen
end
section
namespace Go.Sen
open Go.Lk Go.Pe
end Go.Sen
end
section
namespace Go.Sen
open Go.Lk Go.Pe
def isAl (b:UInt8):Bool:=isA b||(decide (97≤b.toNat)&&decide (b.toNat≤122))||isD b
def plainB (b:UInt8):Bool:=isAl b||decide (b=45)||decide (b=46)||decide (b=95)||decide (b=126)
def hxU (n:Nat):UInt8:=UInt8.ofNat (if n<10 then 48+n else 55+n)
def pctB (bl:Z) (c:UInt8):Z:=if plainB c=true then [c] else if c=32 then bl else [37,hxU (c.toNat / 16),hxU (c.toNat % 16)]
def pct (bl s:Z):Z:=s.flatMap (pctB bl)
def pPath (s:Z):Z:=pct [37,50,48] s
def pWord (s:Z):Z:=pct [43] s
def fld (p:q05):Z:=pWord p.z13++[61]++pWord p.z3b
def formS (l:List q05):Z:=Lib.join (l.map fld) [38]
def pathS (l:List Z):Z:=l.flatMap fun p=>47::pPath p
end Go.Sen
end
section
namespace Go.Sen
open Go.Lk Go.Pe
def badW (b:UInt8):Bool:=decide (b.toNat<33)||decide (126<b.toNat)||decide (b=34)||decide (b=92)
def textS (s:Z):Bool:=decide (s.length≤128)&&Lib.validD s
def wordS (s:Z):Bool := !decide (s=[])&&decide (s.length≤32) && !s.any badW
def tickS (n:Int):Bool:=decide (0≤n)&&decide (n≤1099511627776)
def scp:Option Z→List Z→Bool
 | _,[]=>true
 | p,a::r=>wordS a&&(match p with
  | none=>true
  | some q=>slt q a)&&scp (some a) r
def okC (c:q01):Bool:=[c.zc4,c.zc6,c.zc3,c.zy,c.zc5,c.z0h].all textS&&c.zdv.all textS&&tickS c.zkc&&tickS c.zkb&&decide (0≤c.z1p)&&decide (c.z1p≤9)&&decide (c.z05.length≤16)&&decide (c.zdv.length≤4) && !decide (([]:Z)∈c.zdv)&&scp none c.z05
end Go.Sen
end
section
namespace Go.Sen
open _root_.Option renaming bind_eq_bind → ya, bind_some → yb
open _root_.List renaming length_nil → yc
open Go.Lk Go.Pe
theorem zkv {l:List q05} (hl:l.length<1000000000):∀ (n i:Nat),l.length - i=n→i≤l.length→M.z3k l l (i:Int)=some (.go ()):=by
 intro n
 induction n with
 | zero =>
  intro i hn hi
  rw [M.z3k]
  have:¬((i:Int)<(l.length:Int)):=by omega
  simp [this]
 | succ n ih =>
  intro i hn hi
  have hlt:i<l.length:=by omega
  rw [M.z3k]
  have h1:((i:Int)<(l.length:Int)):=by omega
  simp only [h1,decide_true,if_true,zak,List.getElem?_eq_getElem hlt,ya,yb,Bool.and_self,Bool.not_true,Bool.false_eq_true,if_false]
  rw [w1 (by omega),ih (i+1) (by omega) (by omega)]
theorem zbw {l:List q05} (hl:l.length<1000000000):M.q47 l l=some true:=by
 unfold M.q47
 have:M.z3k l l 0=some (.go ()):=zkv hl _ 0 rfl (Nat.zero_le _)
 simp [this]
def zig (q:q03):Prop:=q.z0z.length<1000000000∧q.z1g.length<1000000000∧q.z1y.length<1000000000
theorem zi6 {q:q03} (h:zig q):M.q5i q q=some true:=by
 unfold M.q5i
 simp only [decide_true,if_true,zgg h.1,zbw h.2.1,zbw h.2.2,ya,yb,Bool.and_self]
theorem zg2:∀ (l:List Z) (a:List q05),(z88 l a).1.length≤a.length+l.length
 | [],a=>by simp [z88]
 | p::r,a=>by
  unfold z88
  split
  ·simp
  ·split
   ·rename_i x y _ _
    have:=zg2 r (a++[⟨x,y⟩])
    simp at this ⊢
    omega
   ·simp
theorem zfb (s:Z):(z3l s).1.length≤64:=by
 unfold z3l
 split
 ·simp
 ·rename_i h
  split
  ·simp
  ·have:=zg2 (z16 38 s) []
   simp only [yc,Nat.zero_add] at this
   omega
theorem zpw {s:Z} {q:q03} (h:zl4 s=some q):q.z0z.length≤64∧q.z1g.length≤64:=by
 unfold zl4 at h
 split at h
 ·split at h
  ·split at h
   ·split at h
    ·rename_i hz
     cases h
     exact ⟨hz.2,zfb _⟩
    ·cases h
   ·cases h
  ·cases h
 ·cases h
theorem zbt:∀ (l:List Z) (i b:Nat) (hd:List q05) (sn:List Z),∀ b' hd' sn',z7h l i b hd sn = .ok (b',hd',sn')→hd'.length≤hd.length+l.length
 | [],i,b,hd,sn,b',hd',sn',h=>by
  unfold z7h at h
  cases h
  simp
 | row::r,i,b,hd,sn,b',hd',sn',h=>by
  unfold z7h at h
  split at h
  ·cases h
  ·split at h
   ·cases h
   ·split at h
    ·split at h
     ·have:=zbt r _ _ _ _ _ _ _ h
      rw [List.length_cons]
      omega
     ·cases h
    ·have:=zbt r _ _ _ _ _ _ _ h
     rw [List.length_append] at this
     simp at this ⊢
     omega
theorem zi3:∀ (l:List Z) (i b:Nat) (hd:List q05) (sn:List Z),∀ e,z7h l i b hd sn = .error e→e=222∨e=220
 | [],i,b,hd,sn,e,h=>by unfold z7h at h;cases h
 | row::r,i,b,hd,sn,e,h=>by
  unfold z7h at h
  split at h
  ·cases h;exact .inl rfl
  ·split at h
   ·cases h;exact .inr rfl
   ·split at h
    ·split at h
     ·exact zi3 r _ _ _ _ _ h
     ·cases h;exact .inr rfl
    ·exact zi3 r _ _ _ _ _ h
theorem zg3 {s:Z} (hs:s.length<1000000000):(∃ e,z5e s=(zH,0,e)∧(e=220∨e=221∨e=222∨e=223))∨∃ q n,z5e s=(q,n,0)∧zig q∧1≤n∧n≤s.length:=by
 unfold z5e
 by_cases h0:z4q s=0
 ·rw [if_pos h0]
  by_cases h1:s.length<8192
  ·exact .inl ⟨_,rfl,by rw [if_pos h1];exact .inr (.inr (.inr rfl))⟩
  ·exact .inl ⟨_,rfl,by rw [if_neg h1];exact .inr (.inr (.inl rfl))⟩
 ·rw [if_neg h0]
  unfold zjj
  cases hq:zl4 ((z2g (s.take (z4q s - 4))).head?.getD []) with
  | none=>exact .inl ⟨_,rfl,.inl rfl⟩
  | some q =>
   simp only
   unfold zji
   cases hr:z7h ((z2g (s.take (z4q s - 4))).drop 1) 0 0 [] [z4h] with
   | error e =>
    refine .inl ⟨e,rfl,?_⟩
    rcases zi3 _ _ _ _ _ _ hr with h|h
    ·exact .inr (.inr (.inl h))
    ·exact .inl h
   | ok x =>
    obtain ⟨b,hd,sn⟩:=x
    simp only
    have hh:=zbt _ _ _ _ _ _ _ _ hr
    have hl:=(za1 _ (s.take (z4q s - 4)) (Nat.le_refl _)).1
    have hle:=zh5 s
    rw [List.length_take] at hl
    rw [List.length_drop] at hh
    simp only [yc,Nat.zero_add] at hh
    split
    ·exact .inl ⟨_,rfl,.inl rfl⟩
    ·split
     ·exact .inl ⟨_,rfl,.inr (.inl rfl)⟩
     ·split
      ·exact .inl ⟨_,rfl,.inr (.inr (.inr rfl))⟩
      ·obtain ⟨t1,t2⟩:=zpw hq
       exact .inr ⟨_,_,rfl,⟨by simp only;omega,by simp only;omega,by simp only;omega⟩,by omega,by omega⟩
end Go.Sen
end
section
namespace Go.Sen
open _root_.List renaming cons_append → ya, nil_append → yb
open Go.Lk Go.Pe
def no (c:UInt8) (s:Z):Prop := ∀ b∈s,¬b=c
theorem no.cons {c x:UInt8} {r:Z} (h:no c (x::r)):¬x=c∧no c r:=⟨h x (by simp),fun b hb=>h b (by simp [hb])⟩
theorem no.app {c:UInt8} {s t:Z} (h:no c s) (k:no c t):no c (s++t):=fun b hb=>(List.mem_append.1 hb).elim (h b) (k b)
theorem zh0 {c:UInt8}:∀ {s:Z},no c s→z18 c s=(s,[],false)
 | [],_=>rfl
 | x::r,h=>by
  obtain ⟨h1,h2⟩:=h.cons
  rw [z2q,if_neg h1,zh0 h2]
theorem zgz {c:UInt8} (t:Z):∀ {s:Z},no c s→z18 c (s++c::t)=(s,t,true)
 | [],_=>by rw [yb,z2q,if_pos rfl]
 | x::r,h=>by
  obtain ⟨h1,h2⟩:=h.cons
  rw [ya,z2q,if_neg h1,zgz t h2]
theorem zgm {c:UInt8}:∀ {s:Z},no c s→z16 c s=[s]
 | [],_=>rfl
 | x::r,h=>by
  obtain ⟨h1,h2⟩:=h.cons
  unfold z16
  rw [if_neg h1,zgm h2]
theorem zgk {c:UInt8} (t:Z):∀ {s:Z},no c s→z16 c (s++c::t)=s::z16 c t
 | [],_=>by
  conv=>lhs;rw [yb];unfold z16
  rw [if_pos rfl]
 | x::r,h=>by
  obtain ⟨h1,h2⟩:=h.cons
  rw [ya]
  conv=>lhs;unfold z16
  rw [if_neg h1,zgk t h2]
def target (q:q03):Z:=pathS q.z0z++(if formS q.z1g=[] then [] else 63::formS q.z1g)
end Go.Sen
end
section
namespace Go.Sen
open Go.Lk Go.Pe
def zrc:List J→List Z→Option (List q02)
 | [],_=>some []
 | x::xs,ks=>if (textsOf x).2=true then (zrc xs ks.tail).map (⟨ks.head?.getD [],(textsOf x).1⟩ :: ·) else none
end Go.Sen
end
section
namespace Go.Sen
open Go.Lk Go.Pe
end Go.Sen
end
