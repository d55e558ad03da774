import Derived.Test.YtfdoofnmjehecaaGreatDoorShB
import Derived.Lib.MapLaws
import Derived.Lib.TrimAscii
import Derived.Lib.TrimU
set_option linter.all false
section
namespace Go.Sen
open _root_.Option renaming bind_eq_bind → ya, bind_some → yb
open _root_.Bool renaming and_eq_true → yc
open _root_.List renaming length_cons → yd, length_drop → ye, length_nil → yf, length_take → yg, mem_append → yh, tail_cons → yi
open Go.Lk Go.Pe
def z9q:List UInt8:=[13,10,13,10]
def z5f (s:List UInt8):Nat:=if 0≤Lib.index (s.take 8192) z9q then (Lib.index (s.take 8192) z9q).toNat+4 else 0
theorem zg0 (s:List UInt8):z5f s≤s.length∧z5f s≤8192:=by
 unfold z5f
 split
 ·rename_i h
  have:=Lib.index_room (s.take 8192) z9q h
  have h2:(s.take 8192).length=min 8192 s.length:=yg
  simp only [z9q,yd,yf] at this
  rw [h2] at this
  have e:((Lib.index (s.take 8192) [13,10,13,10]).toNat:Int)=Lib.index (s.take 8192) [13,10,13,10]:=by
   unfold z9q at h
   omega
  unfold z9q
  omega
 ·omega
theorem zsz {s:List UInt8} (h:0<z5f s):4≤z5f s:=by
 unfold z5f at h ⊢
 split at h
 ·rw [if_pos ‹_›];omega
 ·omega
theorem zga {s:List UInt8} (h:s.length<1000000000):M.q1f s=some ((z5f s:Nat):Int):=by
 unfold M.q1f z5f
 have e:zqo (s.length:Int) 8192=((min s.length 8192:Nat):Int):=by unfold zqo;split<;>omega
 rw [e,zol (Nat.min_le_left _ _)]
 have e2:s.take (min s.length 8192)=s.take 8192:=by rw [List.take_eq_take_iff];omega
 have e3:M.z3w (s.take 8192) z9q=some (Lib.index (s.take 8192) z9q):=by
  unfold M.z3w
  rw [z5u (by simp;omega)]
  rfl
 rw [e2]
 unfold z9q at e3 ⊢
 simp only [ya,yb,e3]
 by_cases h0:0≤Lib.index (s.take 8192) [13,10,13,10]
 ·have hr:=Lib.index_room (s.take 8192) [13,10,13,10] h0
  have h2:(s.take 8192).length=min 8192 s.length:=yg
  rw [h2] at hr
  simp only [yd,yf] at hr
  simp only [h0,decide_true,if_true]
  rw [w64 (by omega) (by omega)]
  congr 1
  omega
 ·simp [h0]
def zph:List (List UInt8)→Option (List (List UInt8))
 | []=>some []
 | p::r=>match z1z p,zph r with
  | some x,some l=>some (x::l)
  | _,_=>none
theorem zls (p:List UInt8) (r:List (List UInt8)):zph (p::r)=match z1z p,zph r with
  | some x,some l=>some (x::l)
  | _,_=>none:=rfl
def zhy:List UInt8:=[72,84,84,80,47,49,46,49]
def zma (a b c:List UInt8):Bool:=zen a&&decide (c=zhy)&&decide (b.head? = some 47)&&zf1 33 126 b
def zmk (s:List UInt8):Option q03:=match z2p 32 s with
 | [a,b,c]=>if zma a b c=true then (match zph (z2p 47 ((z36 63 b).1.drop 1)) with
  | some l=>if (z42 (z36 63 b).2.1).2=0∧l.length≤64 then some ⟨a,l,(z42 (z36 63 b).2.1).1,[],[]⟩ else none
  | none=>none) else none
 | _=>none
theorem z2h (e:Int):M.q1p true e=some (.ok ()):=by simp [M.q1p]
theorem z1r (e:Int):M.q1p false e=some (.pan e):=by simp [M.q1p]
theorem z0w {l:List (List UInt8)} (hl:l.length<2000000) (hm:∀ x∈l,x.length<1000000):∀ (n i:Nat) (a:List (List UInt8)),l.length - i=n→i≤l.length→a.length≤i →
  M.z0w l (i:Int) a=some (match zph (l.drop i) with|some r => .go (a++r)|none => .done (.pan 220)):=by
 intro n
 induction n with
 | zero =>
  intro i a hn hi ha
  rw [M.z0w,List.drop_eq_nil_of_le (by omega)]
  have:¬((i:Int)<(l.length:Int)):=by omega
  simp [this,zph]
 | succ n ih =>
  intro i a hn hi ha
  have hlt:i<l.length:=by omega
  have h1:((i:Int)<(l.length:Int)):=by omega
  have hx:=hm l[i] (by simp)
  rw [M.z0w,List.drop_eq_getElem_cons hlt]
  simp only [h1,decide_true,if_true,zse,List.getElem?_eq_getElem hlt,ya,yb]
  rw [z3f (by omega)]
  simp only [yb]
  rw [zls]
  cases h2:z1z l[i] with
  | none =>
   have:(decide ((12:Int)=0))=false:=by decide
   simp only [this,z1r,yb]
  | some x =>
   have:(decide ((0:Int)=0))=true:=by decide
   rw [this,z2h]
   simp only [yb]
   rw [zdz (by simp;omega),w1 (by omega)]
   simp only [yb]
   rw [ih (i+1) _ (by omega) (by omega) (by simp;omega)]
   cases zph (l.drop (i+1))<;>simp
theorem zvo (b:List UInt8):M.q72 b [47]=some (decide (b.head? = some 47)):=by
 rw [zel,zbp]
theorem zgb {s:List UInt8} (h:s.length<1000000):M.q2q s=some (match zmk s with|some q => .ok q|none => .pan 220):=by
 unfold M.q2q zmk
 rw [zfq 32 (by omega)]
 have hmem:=z7c 32 s
 obtain ⟨l,hl⟩:∃ l,z2p 32 s=l:=⟨_,rfl⟩
 rw [hl] at hmem ⊢
 simp only [ya,yb]
 match l,hmem with
 | [],_=>simp [z1r]
 | [a],_=>simp [z1r]
 | [a,b],_=>simp [z1r]
 | a::b::c::d::t,_ =>
  have:¬(((a::b::c::d::t).length:Int)=3):=by simp;omega
  simp only [this,decide_false,Bool.false_eq_true,if_false,yb,z1r]
 | [a,b,c],hmem =>
  have hb:=hmem b (by simp)
  have hon:M.q1x b 33 126=some (zf1 33 126 b):=z9j 33 126 (by omega)
  have e3:((([a,b,c]:List (List UInt8)).length:Int)=3):=by simp
  have i0:ix [a,b,c] 0=some a:=by simp [zvr]
  have i1:ix [a,b,c] 1=some b:=by simp [zwg]
  have i2:ix [a,b,c] 2=some c:=by simp [ix]
  simp only [e3,decide_true,if_true,i0,i1,i2,yb,zbn,zvo,hon]
  have key:∀ k:Bool→Option (Rs q03),k (zma a b c)=((if zen a=true then some (decide (c=zhy)) else some false).bind fun j13=>(if j13=true then some (decide (b.head? = some 47)) else some false).bind fun j19=>(if j19=true then some (zf1 33 126 b) else some false).bind k):=by
   intro k
   unfold zma
   cases zen a<;>cases decide (c=zhy)<;>cases decide (b.head? = some 47)<;>simp
  unfold zhy at key
  rw [←key fun j27=>_]
  cases ht:zma a b c with
  | false=>simp [z1r]
  | true =>
   have hhd:b.head? = some 47:=by unfold zma at ht;simp at ht;exact ht.1.2
   have hcl:=z8a 63 b
   have hc1:1≤(z36 63 b).1.length:=by
    cases b with
    | nil=>cases hhd
    | cons x r =>
     cases hhd
     rw [z6b,if_neg (by decide)]
     simp
   simp only [z2h,yb,if_true]
   rw [zjv 63 (by omega)]
   simp only [yb]
   have hs:=zrt (l:=(z36 63 b).1) (a:=1) hc1
   have hs:sub (z36 63 b).1 1 ((z36 63 b).1.length:Int)=some ((z36 63 b).1.drop 1):=hs
   rw [hs]
   simp only [yb]
   rw [zfq 47 (by simp;omega)]
   simp only [yb]
   have hk:=z0w (l:=z2p 47 ((z36 63 b).1.drop 1)) (by have:=zcn 47 ((z36 63 b).1.drop 1);rw [ye] at this;omega) (fun x hx=>by have:=z7c 47 _ x hx;rw [ye] at this;omega) _ 0 [] rfl (Nat.zero_le _) (by simp)
   have hk:M.z0w (z2p 47 ((z36 63 b).1.drop 1)) 0 []=_:=hk
   rw [hk,List.drop_zero]
   cases zph (z2p 47 ((z36 63 b).1.drop 1)) with
   | none=>simp
   | some l =>
    simp only [yb,List.nil_append]
    rw [z92 (by omega)]
    simp only [yb]
    by_cases hz:(z42 (z36 63 b).2.1).2=0∧l.length≤64
    ·have:(decide ((z42 (z36 63 b).2.1).2=0)&&decide ((l.length:Int)≤64))=true:=by
      rw [yc,decide_eq_true_iff,decide_eq_true_iff]
      omega
     rw [this,z2h]
     simp [hz]
    ·have:(decide ((z42 (z36 63 b).2.1).2=0)&&decide ((l.length:Int)≤64))=false:=by
      rw [Bool.and_eq_false_iff,decide_eq_false_iff_not,decide_eq_false_iff_not]
      by_cases q:(z42 (z36 63 b).2.1).2=0
      ·exact .inr fun q2=>hz ⟨q,by omega⟩
      ·exact .inl q
     rw [this,z1r]
     simp only [yb]
     rw [if_neg hz]
def zus (b:UInt8):UInt8:=if isA b=true then b+32 else b
def low (s:List UInt8):List UInt8:=s.map zus
theorem zqn:∀ b:UInt8,(!decide (b.toNat<128)||decide (Lib.encodeRune (zgp (b.toNat:Int))=[zus b]))=true:=zhu (by decide +kernel)
theorem ztn (x:Nat):0≤zgp (x:Int):=by unfold zgp;split<;>omega
theorem zci:∀ s:List UInt8,(∀ b∈s,b.toNat<128)→Lib.mapD zgp s=low s
 | [],_=>rfl
 | b::r,h=>by
  have hb:=h b (by simp)
  rw [Lib.mapD_step _ _ (by simp),Lib.decodeL_ascii b r hb]
  simp only [List.drop_one,yi]
  rw [if_pos (ztn _),zci r fun x hx=>h x (by simp [hx])]
  have:=zqn b
  simp only [hb,decide_true,Bool.not_true,Bool.false_or,decide_eq_true_eq] at this
  rw [this]
  rfl
theorem zfz {x:Int} (h:128≤x):∃ b∈Lib.encodeRune x,128≤b.toNat:=by
 unfold Lib.encodeRune Lib.encodeRuneZ
 rw [if_neg (by omega)]
 split
 ·refine ⟨(192+x / 64).toNat.toUInt8,by simp,?_⟩
  simp
  omega
 ·split
  ·refine ⟨(224+x / 4096).toNat.toUInt8,by simp,?_⟩
   simp
   omega
  ·split
   ·refine ⟨(240+x / 262144).toNat.toUInt8,by simp,?_⟩
    simp
    omega
   ·exact ⟨239,by simp,by decide⟩
theorem decode_high (b:UInt8) (r:List UInt8) (h:¬b.toNat<128):128≤(Lib.decodeL (b::r)).1:=by
 have e:(⟨(b::r).toArray⟩:ByteArray).get! 0=b:=by simp [ByteArray.get!]
 unfold Lib.decodeL Utf8.decode
 simp only [Nat.add_zero,e,Nat.zero_add]
 rw [if_neg (by omega)]
 split
 ·split
  ·rename_i h1;simpa using h1
  ·simp [Utf8.runeError]
 ·split
  ·split
   ·rename_i h1
    simp only [yc,decide_eq_true_eq] at h1
    simp only
    omega
   ·simp [Utf8.runeError]
  ·split
   ·split
    ·rename_i h1
     simp only [yc,decide_eq_true_eq] at h1
     simp only
     omega
    ·simp [Utf8.runeError]
   ·simp [Utf8.runeError]
theorem zlh:∀ (n:Nat) (s:List UInt8),s.length≤n→(∃ b∈s,¬b.toNat<128)→∃ b∈Lib.mapD zgp s,¬b.toNat<128:=by
 intro n
 induction n with
 | zero =>
  intro s hn h
  have:s=[]:=List.eq_nil_of_length_eq_zero (by omega)
  subst this
  obtain ⟨b,hb,_⟩:=h
  cases hb
 | succ n ih =>
  intro s hn h
  cases s with
  | nil=>obtain ⟨b,hb,_⟩:=h;cases hb
  | cons c r =>
   rw [Lib.mapD_step _ _ (by simp)]
   by_cases hc:c.toNat<128
   ·rw [Lib.decodeL_ascii c r hc]
    simp only [List.drop_one,yi]
    obtain ⟨b,hb,h2⟩:=ih r (by simp at hn;omega) (by
     obtain ⟨b,hb,h2⟩:=h
     rcases List.mem_cons.1 hb with rfl|hb
     ·exact (h2 hc).elim
     ·exact ⟨b,hb,h2⟩)
    exact ⟨b,yh.2 (.inr hb),h2⟩
   ·have h1:=decode_high c r hc
    have e:zgp ((Lib.decodeL (c::r)).1:Int)=((Lib.decodeL (c::r)).1:Int):=by unfold zgp;rw [if_neg (by omega)]
    rw [e,if_pos (by omega)]
    obtain ⟨b,hb,h2⟩:=zfz (x:=((Lib.decodeL (c::r)).1:Int)) (by omega)
    exact ⟨b,yh.2 (.inl hb),by omega⟩
theorem zq8 {b:UInt8} (h:isN b=true):b.toNat<128:=by
 unfold isN isD at h
 simp at h
 rcases h with (h|h)|h
 ·omega
 ·omega
 ·subst h;decide
theorem zlj (s:List UInt8):zjq (Lib.mapD zgp s)=zjq (low s)∧(zjq (low s)=true→Lib.mapD zgp s=low s):=by
 by_cases h:∀ b∈s,b.toNat<128
 ·rw [zci s h]
  exact ⟨rfl,fun _=>rfl⟩
 ·have h:∃ b∈s,¬b.toNat<128:=by
   simpa using h
  have no:∀ t:List UInt8,(∃ b∈t,¬b.toNat<128)→zjq t=false:=fun t ⟨b,hb,h2⟩=>by
   have:t.all isN=false:=by
    rw [List.all_eq_false]
    exact ⟨b,hb,fun q=>h2 (zq8 q)⟩
   unfold zjq
   rw [this,Bool.and_false]
  have h1:=no _ (zlh _ s (Nat.le_refl _) h)
  have h2:zjq (low s)=false:=no _ (by
   obtain ⟨b,hb,h2⟩:=h
   refine ⟨zus b,List.mem_map.2 ⟨b,hb,rfl⟩,?_⟩
   unfold zus
   rw [if_neg (by unfold isA;simp;omega)]
   exact h2)
  rw [h1,h2]
  exact ⟨rfl,fun q=>by cases q⟩
theorem zim {s:List UInt8} (h:s.length<1000000000):M.z3o s=some (Lib.mapD zgp s):=by
 unfold M.z3o
 rw [z5u (by simp;omega)]
 rfl
end Go.Sen
end
section
namespace Go.Sen
open _root_.Option renaming bind_eq_bind → ya, bind_some → yb
open _root_.Bool renaming false_eq_true → yc
open _root_.List renaming dropWhile_sublist → yd, length_cons → ye, length_drop → yf
open IntKind renaming wrap → yg
open Go.Lk Go.Pe
theorem zi5 {K:Type} [DecidableEq K] (k k':K):∀ l:List (K × Bool),z4a (z2t l k true) k' false=if k'=k then true else z4a l k' false
 | []=>by unfold z2t z4a z4a;rfl
 | (a,b)::r=>by
  have ih:=zi5 k k' r
  unfold z2t
  by_cases h:k=a
  ·subst h
   rw [if_pos rfl]
   unfold z4a
   by_cases h2:k'=k<;>simp [h2]
  ·rw [if_neg h]
   unfold z4a
   by_cases h2:k'=a
   ·subst h2
    rw [if_pos rfl,if_pos rfl,if_neg (Ne.symm h)]
   ·rw [if_neg h2,if_neg h2,ih]
def z7k:List UInt8:=[116,114,97,110,115,102,101,114,45,101,110,99,111,100,105,110,103]
def zov:List UInt8:=[99,111,110,116,101,110,116,45,108,101,110,103,116,104]
def z9v:List UInt8:=[104,111,115,116]
def zwn (row:List UInt8) (sn:List (List UInt8)):Option (List UInt8 × List UInt8) :=
 if ((z36 58 row).2.2&&zjq (low (z36 58 row).1)&&isVal (bare (z36 58 row).2.1) && !sn.contains (low (z36 58 row).1))=true then some (low (z36 58 row).1,bare (z36 58 row).2.1) else none
def z8t:List (List UInt8)→Nat→Nat→List q05→List (List UInt8)→Except Int (Nat × List q05 × List (List UInt8))
 | [],_,b,hd,sn => .ok (b,hd,sn)
 | row::r,i,b,hd,sn=>if 32≤i then .error 222 else match zwn row sn with
  | none => .error 220
  | some (k,v)=>if k=zov then (if isNum 9 v=true then z8t r (i+1) (z9r 0 v) hd (k::sn) else .error 220) else z8t r (i+1) b (hd++[⟨k,v⟩]) (k::sn)
def zH:q03:=⟨[],[],[],[],[]⟩
def SN (m:List (List UInt8 × Bool)) (sn:List (List UInt8)):Prop := ∀ k,z4a m k false=sn.contains k
theorem SN.put {m:List (List UInt8 × Bool)} {sn:List (List UInt8)} (h:SN m sn) (k:List UInt8):SN (z2t m k true) (k::sn):=fun k'=>by
 rw [zi5,List.contains_cons,h k']
 by_cases e:k'=k<;>simp [e]
def zsl (z:Option (Jn (q03 × Int × Int) (Int × (List q05) × (List ((List UInt8) × Bool))))):Except Int (Nat × List q05 × List (List UInt8))→Prop
 | .error e=>z=some (.done (zH,0,e))
 | .ok (b,hd,sn)=>∃ m,z=some (.go ((b:Int),hd,m))∧SN m sn
theorem zhf (s:List UInt8):(bare s).length≤s.length:=by
 unfold bare Lib.trimS Lib.trimLeftS Lib.trimRightS
 refine Nat.le_trans (yd _).length_le ?_
 rw [List.length_reverse]
 exact Nat.le_trans (yd _).length_le (by simp)
theorem znr {l:List (List UInt8)} (hl:l.length<1000000) (hm:∀ x∈l,x.length<1000000):∀ (n i b:Nat) (hd:List q05) (m:List (List UInt8 × Bool)) (sn:List (List UInt8)),l.length - i=n→i≤l.length→hd.length≤i→SN m sn →
  zsl (M.z0b l (b:Int) (i:Int) hd m) (z8t (l.drop i) i b hd sn):=by
 intro n
 induction n with
 | zero =>
  intro i b hd m sn hn hi ha hs
  rw [M.z0b,List.drop_eq_nil_of_le (by omega)]
  have:¬((i:Int)<(l.length:Int)):=by omega
  simp only [this,decide_false,yc,if_false]
  exact ⟨m,rfl,hs⟩
 | succ n ih =>
  intro i b hd m sn hn hi ha hs
  have hlt:i<l.length:=by omega
  have h1:((i:Int)<(l.length:Int)):=by omega
  have hx:=hm l[i] (by simp)
  have hc:=(z8a 58 l[i]).1
  rw [M.z0b,List.drop_eq_getElem_cons hlt]
  simp only [h1,decide_true,if_true,zse,List.getElem?_eq_getElem hlt,ya,yb]
  unfold z8t
  by_cases h32:32≤i
  ·have:¬((i:Int)<32):=by omega
   rw [if_pos h32]
   simp only [this,decide_false,z1r,yb]
   rfl
  ·have:((i:Int)<32):=by omega
   rw [if_neg h32]
   simp only [this,decide_true,z2h,yb]
   rw [zjv 58 (by omega)]
   simp only [yb]
   rw [zim (by omega)]
   simp only [yb]
   rw [zha (by omega) (by decide)]
   simp only [yb,zem]
   obtain ⟨e1,e2⟩:=zlj (z36 58 l[i]).1
   have hv:M.q2s (Lib.trimS (z36 58 l[i]).2.1 [32])=some (isVal (bare (z36 58 l[i]).2.1)):=zd4 (by have:=zhf (z36 58 l[i]).2.1;unfold bare at this;omega)
   rw [hv,e1]
   -- what must hold,as one
   have key:∀ (a b c d:Bool) (k:Bool→Option (Jn (q03 × Int × Int) (Int × (List q05) × (List ((List UInt8) × Bool))))),((if a=true then some b else some false).bind fun j=>(if j=true then some c else some false).bind fun j=>(if j=true then some d else some false).bind k)=k (a&&b&&c&&d):=by
    intro a b c d k
    cases a<;>cases b<;>cases c<;>cases d<;>rfl
   simp only [yb]
   rw [key]
   unfold zwn
   by_cases hn:zjq (low (z36 58 l[i]).1)=true
   ·rw [e2 hn,hs]
    cases hall:((z36 58 l[i]).2.2&&zjq (low (z36 58 l[i]).1)&&isVal (bare (z36 58 l[i]).2.1) && !sn.contains (low (z36 58 l[i]).1)) with
    | false =>
     simp only [z1r,yb,yc,if_false]
     rfl
    | true =>
     simp only [z2h,yb,if_true]
     have hb:Lib.trimS (z36 58 l[i]).2.1 [32]=bare (z36 58 l[i]).2.1:=rfl
     rw [hb]
     by_cases hk:low (z36 58 l[i]).1=zov
     ·have hk':low (z36 58 l[i]).1=[99,111,110,116,101,110,116,45,108,101,110,103,116,104]:=hk
      rw [if_pos hk]
      obtain ⟨v,h2,h3⟩:=zbo (s:=bare (z36 58 l[i]).2.1) 9 (by decide) (by have:=zhf (z36 58 l[i]).2.1;omega)
      have h2:M.q1t (bare (z36 58 l[i]).2.1) 9=some (v,isNum 9 (bare (z36 58 l[i]).2.1)):=h2
      simp only [hk',decide_true,Bool.not_true,yc,if_false,h2,yb]
      cases hnum:isNum 9 (bare (z36 58 l[i]).2.1) with
      | false =>
       simp only [z1r,yb,yc,if_false]
       rfl
      | true =>
       simp only [z2h,yb,if_true]
       rw [h3 hnum,w1 (by omega)]
       have:=ih (i+1) (z9r 0 (bare (z36 58 l[i]).2.1)) hd _ _ (by omega) (by omega) (by omega) (hs.put (low (z36 58 l[i]).1))
       rw [hk'] at this
       exact this
     ·have hk':¬low (z36 58 l[i]).1=[99,111,110,116,101,110,116,45,108,101,110,103,116,104]:=hk
      rw [if_neg hk]
      simp only [hk',decide_false,Bool.not_false,if_true]
      rw [zdz (by simp;omega),w1 (by omega)]
      simp only [yb]
      exact ih (i+1) b _ _ _ (by omega) (by omega) (by simp;omega) (hs.put (low (z36 58 l[i]).1))
   ·have hn:zjq (low (z36 58 l[i]).1)=false:=by simpa using hn
    simp only [hn,Bool.and_false,Bool.false_and,z1r,yb,yc,if_false]
    rfl
def zia (s:List UInt8) (n:Nat) (q:q03):Except Int (Nat × List q05 × List (List UInt8))→q03 × Nat × Int
 | .error e=>(zH,0,e)
 | .ok (b,hd,sn)=>if sn.contains z9v=false then (zH,0,220) else if 16384<b then (zH,0,221) else if s.length<n+b then (zH,0,223) else (⟨q.z0e,q.z1p,q.z2n,hd,(s.drop n).take b⟩,n+b,0)
def zib (s:List UInt8) (n:Nat) (l:List (List UInt8)):q03 × Nat × Int:=match zmk (l.head?.getD []) with
 | none=>(zH,0,220)
 | some q=>zia s n q (z8t (l.drop 1) 0 0 [] [z7k])
def z4d (s:List UInt8):q03 × Nat × Int:=if z5f s=0 then (zH,0,if s.length<8192 then 223 else 222) else zib s (z5f s) (z3r (s.take (z5f s - 4)))
theorem zco:∀ (n:Nat) (s:List UInt8),s.length≤n→(z3r s).length≤s.length+1∧∀ x∈z3r s,x.length≤s.length:=by
 intro n
 induction n with
 | zero =>
  intro s hn
  have:s=[]:=List.eq_nil_of_length_eq_zero (by omega)
  subst this
  unfold z3r
  simp
 | succ n ih =>
  intro s hn
  cases s with
  | nil=>unfold z3r;simp
  | cons x r =>
   simp only [ye] at hn
   unfold z3r
   split
   ·obtain ⟨h1,h2⟩:=ih (r.drop 1) (by rw [yf];omega)
    rw [yf] at h1 h2
    refine ⟨by rw [ye,ye];omega,fun y hy => ?_⟩
    rcases List.mem_cons.1 hy with rfl|hy
    ·simp
    ·have:=h2 y hy;rw [ye];omega
   ·obtain ⟨h1,h2⟩:=ih r (by omega)
    obtain ⟨a,t,e⟩:=zfg r
    rw [e] at h1 h2
    rw [e]
    simp only [ye] at h1 ⊢
    refine ⟨by omega,fun y hy => ?_⟩
    rcases List.mem_cons.1 hy with rfl|hy
    ·have:=h2 a (by simp);rw [ye];omega
    ·have:=h2 y (by simp [hy]);omega
theorem zjn {s:List UInt8} {q:q03} (h:zmk s=some q):q.z22=[]∧q.z0c=[]:=by
 unfold zmk at h
 split at h
 ·split at h
  ·split at h
   ·split at h
    ·cases h;exact ⟨rfl,rfl⟩
    ·cases h
   ·cases h
  ·cases h
 ·cases h
theorem z8h {s:List UInt8} (h:s.length<1000000000):M.q0s s=some ((z4d s).1,(((z4d s).2.1:Nat):Int),(z4d s).2.2):=by
 unfold M.q0s z4d
 rw [zga h]
 have hz:∀ e:Int,(q03.mk ([]:List UInt8) [] [] [] ([]:List UInt8),(0:Int),e)=(zH,((0:Nat):Int),e):=fun e=>rfl
 simp only [ya,yb]
 by_cases h0:z5f s=0
 ·rw [if_pos h0,h0]
  by_cases h1:s.length<8192
  ·have:((s.length:Int)<8192):=by omega
   simp [this,h1,z2h,z1r,zH]
  ·have:¬((s.length:Int)<8192):=by omega
   simp [this,h1,z1r,zH]
 ·rw [if_neg h0]
  have hp:(0:Int)<((z5f s:Nat):Int):=by omega
  have h4:=zsz (s:=s) (by omega)
  have hle:=zg0 s
  simp only [hp,decide_true,Bool.true_or,z2h,yb]
  have ew:yg .i64 (((z5f s:Nat):Int) - 4)=((z5f s - 4:Nat):Int):=by rw [w64 (by omega) (by omega)];omega
  rw [ew,zol (by omega)]
  simp only [yb]
  have hlt:(s.take (z5f s - 4)).length≤8192:=by rw [List.length_take];omega
  rw [zmn (by omega)]
  obtain ⟨hs1,hs2⟩:=zco _ (s.take (z5f s - 4)) (Nat.le_refl _)
  obtain ⟨a,t,e⟩:=zfg (s.take (z5f s - 4))
  rw [e] at hs1 hs2 ⊢
  have i0:ix (a::t) 0=some a:=by simp [zvr]
  simp only [yb,i0]
  have ha:=hs2 a (by simp)
  rw [zgb (by omega)]
  unfold zib
  simp only [List.head?_cons,Option.getD_some,yb]
  cases hq:zmk a with
  | none=>simp [zH]
  | some q =>
   obtain ⟨q1,q2⟩:=zjn hq
   have hsub:sub (a::t) 1 ((a::t).length:Int)=some t:=by
    have:=zrt (l:=a::t) (a:=1) (by simp)
    simpa using this
   simp only [ye] at hs1
   have hk:=znr (l:=t) (by omega) (fun x hx=>by have:=hs2 x (by simp [hx]);omega) _ 0 0 [] (z2t [] z7k true) [z7k] rfl (Nat.zero_le _) (by simp) (fun k=>by
    unfold z2t z4a z4a
    by_cases q:k=z7k<;>simp [q])
   rw [List.drop_zero] at hk
   have e2:(a::t).drop 1=t:=rfl
   rw [e2]
   simp only [yb,hsub,q1]
   have em:z2t ([]:List ((List UInt8) × Bool)) ([116,114,97,110,115,102,101,114,45,101,110,99,111,100,105,110,103]:List UInt8) true=z2t [] z7k true:=rfl
   rw [em]
   unfold zia
   cases hr:z8t t 0 0 [] [z7k] with
   | error er =>
    rw [hr] at hk
    have hk:M.z0b t 0 0 [] (z2t [] z7k true)=some (.done (zH,0,er)):=hk
    rw [hk]
    rfl
   | ok x =>
    obtain ⟨b,hd,sn⟩:=x
    rw [hr] at hk
    obtain ⟨m,hk,hsn⟩:=hk
    have hk:M.z0b t 0 0 [] (z2t [] z7k true)=some (.go ((b:Int),hd,m)):=hk
    rw [hk]
    simp only [yb]
    have hh:z4a m [104,111,115,116] false=sn.contains z9v:=hsn _
    rw [hh]
    cases sn.contains z9v with
    | false=>simp [z1r,zH]
    | true =>
     simp only [z2h,yb,Bool.true_eq_false,if_false]
     by_cases hb:16384<b
     ·have:¬((b:Int)≤16384):=by omega
      simp [this,hb,z1r,zH]
     ·have:((b:Int)≤16384):=by omega
      simp only [this,decide_true,z2h,yb,hb,if_false]
      have ew2:yg .i64 ((s.length:Int) - ((z5f s:Nat):Int))=((s.length - z5f s:Nat):Int):=by rw [w64 (by omega) (by omega)];omega
      rw [ew2]
      by_cases hb2:s.length<z5f s+b
      ·have:¬((b:Int)≤((s.length - z5f s:Nat):Int)):=by omega
       simp [this,hb2,z1r,zH]
      ·have:((b:Int)≤((s.length - z5f s:Nat):Int)):=by omega
       simp only [this,decide_true,z2h,yb,hb2,if_false]
       rw [zxp (by omega),zru (by omega) (by omega)]
       simp only [yb]
       rw [List.drop_take]
       have:z5f s+b - z5f s=b:=by omega
       rw [this]
end Go.Sen
end
