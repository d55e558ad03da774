import Derived.Test.YtfdoofnmjehecaaGreatDoorUHnB
set_option linter.all false
namespace Go.Sen
open _root_.Option renaming bind_eq_bind → ya, bind_some → yb, getD_some → yc, map_some → yd
open _root_.Bool renaming and_eq_true → ye, and_self → yf, eq_false_iff → yg, eq_iff_iff → yh, false_and → yi, false_eq_true → yj, not_eq_true' → yk, not_false → yl, not_true → ym, or_eq_true → yn, true_and → yo
open _root_.List renaming all_eq_true → yp, append_assoc → yq, append_nil → yr, cons_append → ys, contains_eq_mem → yt, dropWhile → yu, dropWhile_cons → yv, dropWhile_sublist → yw, drop_append_of_le_length → yx, drop_drop → yy, drop_eq_getElem_cons → yz, drop_eq_nil_iff → yaa, drop_eq_nil_of_le → yab, drop_left → yac, drop_zero → yad, flatMap_cons → yae, foldl_cons → yaf, getElem?_eq_getElem → yag, getElem?_map → yah, getElem_mem → yai, getLast?_eq_getElem? → yaj, head?_cons → yak, head?_eq_getElem? → yal, isPrefixOf → yam, isPrefixOf_iff_prefix → yan, length → yao, length_append → yap, length_cons → yaq, length_drop → yar, length_map → yas, length_replicate → yat, length_reverse → yau, length_singleton → yav, length_take → yaw, map_congr_left → yax, map_cons → yay, mem_append → yaz, mem_cons → ya0, mem_flatMap → ya1, mem_map → ya2, mem_of_find?_eq_some → ya3, mem_singleton → ya4, nil_append → ya5, not_mem_nil → ya6, replicate → ya7, reverse_cons → ya8, reverse_reverse → ya9, singleton_append → yba, tail_cons → ybb, take_append_drop → ybc, take_append_of_le_length → ybd, take_left → ybe, take_of_length_le → ybf
open _root_.Nat renaming add_comm → ybg, add_mul_div_right → ybh, add_mul_mod_self_right → ybi, beq → ybj, div_eq_of_lt → ybk, le_refl → ybl, le_trans → ybm, min_eq_left → ybn, mod_eq_of_lt → ybo, mul_comm → ybp, pow_le_pow_right → ybq, pow_succ → ybr, two_pow_pos → ybs, zero_add → ybt, zero_le → ybu
open _root_.Int renaming natCast_pow → ybv
open IntKind renaming bits → ybw, wrap → ybx
open _root_.UInt8 renaming ofNat → yby
open Go.Lk Go.Pe
def no (c:UInt8) (s:Z):Prop := ∀ b∈s,¬b=c
theorem no.cons {c x:UInt8} {r:Z} (h:no c (x::r)):¬x=c∧no c r:=⟨h x (by simp),fun b hb=>h b (by simp [hb])⟩
theorem no.app {c:UInt8} {s t:Z} (h:no c s) (k:no c t):no c (s++t):=fun b hb=>(yaz.1 hb).elim (h b) (k b)
theorem zs2 {c:UInt8}:∀ {s:Z},no c s→z2f c s=(s,[],false)
 | [],_=>rfl
 | x::r,h=>by
  obtain ⟨h1,h2⟩:=h.cons
  rw [z4h,if_neg h1,zs2 h2]
theorem ze0 {c:UInt8} (t:Z):∀ {s:Z},no c s→z2f c (s++c::t)=(s,t,true)
 | [],_=>by rw [ya5,z4h,if_pos rfl]
 | x::r,h=>by
  obtain ⟨h1,h2⟩:=h.cons
  rw [ys,z4h,if_neg h1,ze0 t h2]
theorem zbq {c:UInt8}:∀ {s:Z},no c s→z15 c s=[s]
 | [],_=>rfl
 | x::r,h=>by
  obtain ⟨h1,h2⟩:=h.cons
  unfold z15
  rw [if_neg h1,zbq h2]
theorem z8t {c:UInt8} (t:Z):∀ {s:Z},no c s→z15 c (s++c::t)=s::z15 c t
 | [],_=>by
  conv=>lhs;rw [ya5];unfold z15
  rw [if_pos rfl]
 | x::r,h=>by
  obtain ⟨h1,h2⟩:=h.cons
  rw [ys]
  conv=>lhs;unfold z15
  rw [if_neg h1,z8t t h2]
theorem zll:∀ {s:Z},no 13 s→z3u s=[s]
 | [],_=>by unfold z3u;rfl
 | x::r,h=>by
  obtain ⟨h1,h2⟩:=h.cons
  unfold z3u
  rw [if_neg fun q=>h1 q.1,zll h2]
theorem zlj (t:Z):∀ {s:Z},no 13 s→z3u (s++13::10::t)=s::z3u t
 | [],_=>by
  rw [ya5]
  conv=>lhs;unfold z3u
  rw [if_pos ⟨rfl,rfl⟩]
  rfl
 | x::r,h=>by
  obtain ⟨h1,h2⟩:=h.cons
  rw [ys]
  conv=>lhs;unfold z3u
  rw [if_neg fun q=>h1 q.1,zlj t h2]
def z3c:List Z→Z
 | []=>[]
 | a::l=>a++l.flatMap fun x=>13::10::x
theorem zgx (a b:Z) (l:List Z):z3c (a::b::l)=a++13::10::z3c (b::l):=by simp [z3c]
theorem zd3:∀ (l:List Z) (a:Z),no 13 a→(∀ x∈l,no 13 x)→z3u (z3c (a::l))=a::l
 | [],a,h,_=>by
  have:z3c [a]=a:=by simp [z3c]
  rw [this,zll h]
 | b::l,a,h,k=>by rw [zgx,zlj _ h,zd3 l b (k b (by simp)) fun x hx=>k x (by simp [hx])]
theorem zom (x:UInt8) (r:Z) (h:¬x=13):Lib.index (x::r) z56=if Lib.index r z56 = -1 then -1 else Lib.index r z56+1:=by
 rw [Lib.index]
 have:(z56).isPrefixOf (x::r)=false:=by simp [z56,yam,Ne.symm h]
 rw [this]
 simp
theorem zei {r:Z} {i:Nat} (hi:Lib.index r z56=i):∀ {a:Z},no 13 a→Lib.index (a++r) z56=((a.length+i:Nat):Int)
 | [],_=>by rw [ya5,hi,List.length_nil,ybt]
 | x::a,h=>by
  obtain ⟨h1,h2⟩:=h.cons
  have ih:=zei hi h2
  rw [ys,zom _ _ h1,ih,if_neg (by omega),yaq]
  omega
theorem zt2 (t:Z):Lib.index (13::10::13::10::t) z56=0:=by
 rw [Lib.index]
 have:(z56).isPrefixOf (13::10::13::10::t)=true:=by simp [z56,yam]
 rw [this]
 simp
theorem zt3 {r:Z} {x:UInt8} {i:Nat} (hx:¬x=13) (hi:Lib.index (x::r) z56=i):Lib.index (13::10::x::r) z56=((i+2:Nat):Int):=by
 have h1:Lib.index (10::x::r) z56=((i+1:Nat):Int):=by rw [zom _ _ (by decide),hi,if_neg (by omega)];omega
 rw [Lib.index]
 have:(z56).isPrefixOf (13::10::x::r)=false:=by simp [z56,yam,Ne.symm hx]
 rw [this,h1]
 simp
 omega
theorem zeh (t:Z):∀ (l:List Z) (a:Z),no 13 a→(∀ x∈l,no 13 x∧¬x=[])→Lib.index (z3c (a::l)++13::10::13::10::t) z56=((z3c (a::l)).length:Nat)
 | [],a,h,_=>by
  have e:z3c [a]=a:=by simp [z3c]
  rw [e]
  have:=zei (r:=13::10::13::10::t) (i:=0) (zt2 t) h
  simpa using this
 | b::l,a,h,k=>by
  obtain ⟨kb,kn⟩:=k b (by simp)
  have ih:=zeh t l b kb fun x hx=>k x (by simp [hx])
  cases b with
  | nil=>exact absurd rfl kn
  | cons x b =>
   have hx:=(kb.cons).1
   have e:z3c ((x::b)::l)++13::10::13::10::t=x::(b++((l.flatMap fun x=>13::10::x)++13::10::13::10::t)):=by simp [z3c]
   rw [zgx,yq,ys,ys]
   rw [e] at ih ⊢
   rw [zei (zt3 hx ih) h,yap,yaq,yaq]
theorem zq3 {l:List Z} {a:Z} (t:Z) (h:no 13 a) (k:∀ x∈l,no 13 x∧¬x=[]) (hl:(z3c (a::l)).length+4≤8192):zbt (z3c (a::l)++13::10::13::10::t)=(z3c (a::l)).length+4:=by
 unfold zbt
 have e:(z3c (a::l)++13::10::13::10::t).take 8192=z3c (a::l)++13::10::13::10::t.take (8192 - (z3c (a::l)).length - 4):=by
  rw [List.take_append,ybf (by omega)]
  congr 1
  have:8192 - (z3c (a::l)).length=(8192 - (z3c (a::l)).length - 4)+4:=by omega
  rw [this]
  simp
 rw [e,zeh _ l a h k,if_pos (by omega)]
 omega
theorem zc6:∀ n:Fin 16,z7g (hxU n.val)=some n.val∧z4s (hxU n.val)=true:=by decide +kernel
theorem z6v:∀ b:UInt8,z4s b=true→33≤b.toNat∧b.toNat≤126∧¬b=37∧¬b=43∧¬b=47∧¬b=63∧¬b=61∧¬b=38:=by
 have:∀ b:UInt8,(!z4s b||(decide (33≤b.toNat)&&decide (b.toNat≤126) && !decide (b=37) && !decide (b=43) && !decide (b=47) && !decide (b=63) && !decide (b=61) && !decide (b=38)))=true:=z5t (by decide +kernel)
 intro b h
 have:=this b
 rw [h] at this
 simpa [and_assoc] using this
theorem zxz (bl:Z) (c b:UInt8) (h:b∈zqw bl c):z4s b=true∨b=37∨b∈bl:=by
 unfold zqw at h
 split at h
 ·rename_i hp
  rw [ya4] at h
  subst h
  exact .inl hp
 ·split at h
  ·exact .inr (.inr h)
  ·have h1:=(zc6 ⟨c.toNat / 16,by have:=c.toNat_lt;omega⟩).2
   have h2:=(zc6 ⟨c.toNat % 16,by omega⟩).2
   simp only [ya0,ya6,or_false] at h
   rcases h with rfl|rfl|rfl
   ·exact .inr (.inl rfl)
   ·exact .inl h1
   ·exact .inl h2
theorem zui (bl s:Z) (b:UInt8) (h:b∈pct bl s):z4s b=true∨b=37∨b∈bl:=by
 unfold pct at h
 obtain ⟨c,_,h⟩:=ya1.1 h
 exact zxz bl c b h
theorem zkt {s:Z} {b:UInt8} (h:b∈z7n s):z4s b=true∨b=37:=by
 rcases zui _ _ _ h with h|h|h
 ·exact .inl h
 ·exact .inr h
 ·simp only [ya0,ya6,or_false] at h
  rcases h with rfl|rfl|rfl
  ·exact .inr rfl
  ·exact .inl (by decide)
  ·exact .inl (by decide)
theorem zez {s:Z} {b:UInt8} (h:b∈zg2 s):z4s b=true∨b=37∨b=43:=by
 rcases zui _ _ _ h with h|h|h
 ·exact .inl h
 ·exact .inr (.inl h)
 ·exact .inr (.inr (by simpa using h))
theorem zok (c:UInt8) (r:Z):z1f ([37,hxU (c.toNat / 16),hxU (c.toNat % 16)]++r)=(z1f r).map (c :: ·):=by
 have h1:=(zc6 ⟨c.toNat / 16,by have:=c.toNat_lt;omega⟩).1
 have h2:=(zc6 ⟨c.toNat % 16,by omega⟩).1
 have e:yby (16*(c.toNat / 16)+c.toNat % 16)=c:=by rw [Nat.div_add_mod];exact UInt8.ofNat_toNat
 simp only [ys,ya5]
 rw [z7e]
 simp only at h1 h2
 rw [h1,h2]
 simp only [e]
theorem zcs:∀ s:Z,z1f (z7n s)=some s
 | []=>rfl
 | c::s=>by
  have ih:=zcs s
  unfold z7n at ih ⊢
  rw [zdj]
  unfold zqw
  split
  ·rename_i hp
   have:=(z6v c hp).2.2.1
   rw [yba,z6s this,ih]
   rfl
  ·split
   ·rename_i hc
    subst hc
    have h5:z7g 50=some 2:=by decide
    have h0:z7g 48=some 0:=by decide
    simp only [ys,ya5]
    rw [z7e,h5,h0,ih]
    rfl
   ·rw [zok,ih]
    rfl
theorem znl (a b:Z):swp (a++b)=swp a++swp b:=by simp [swp]
theorem zz00i {a:Z} (h:no 43 a):swp a=a:=by
 unfold swp
 conv=>rhs;rw [←List.map_id a]
 exact yax fun b hb=>by rw [if_neg (h b hb)];rfl
theorem zct:∀ s:Z,z1f (swp (zg2 s))=some s
 | []=>rfl
 | c::s=>by
  have ih:=zct s
  unfold zg2 at ih ⊢
  rw [zdj,znl]
  unfold zqw
  split
  ·rename_i hp
   have h1:=(z6v c hp).2.2.1
   have h2:=(z6v c hp).2.2.2.1
   have:swp [c]=[c]:=zz00i fun b hb=>by rw [ya4] at hb;subst hb;exact h2
   rw [this,yba,z6s h1,ih]
   rfl
  ·split
   ·rename_i hc
    subst hc
    have:swp [43]=[32]:=by decide
    rw [this,yba,z6s (by decide),ih]
    rfl
   ·have h1:=(z6v _ (zc6 ⟨c.toNat / 16,by have:=c.toNat_lt;omega⟩).2).2.2.2.1
    have h2:=(z6v _ (zc6 ⟨c.toNat % 16,by omega⟩).2).2.2.2.1
    simp only at h1 h2
    have:swp [37,hxU (c.toNat / 16),hxU (c.toNat % 16)]=[37,hxU (c.toNat / 16),hxU (c.toNat % 16)]:=zz00i fun b hb=>by
     simp only [ya0,ya6,or_false] at hb
     rcases hb with rfl|rfl|rfl
     ·decide
     ·exact h1
     ·exact h2
    rw [this,zok,ih]
    rfl
theorem zz06v {c:UInt8} {s:Z} (h32:¬c=32) (h:no c s):no c (swp s):=fun b hb=>by
 obtain ⟨x,hx,rfl⟩:=ya2.1 hb
 split
 ·exact fun e=>h32 e.symm
 ·exact h x hx
theorem zii {c:UInt8} (s:Z) (h1:z4s c=false) (h2:¬c=37) (h3:¬c=43):no c (zg2 s):=fun b hb e=>by
 subst e
 rcases zez hb with h|h|h
 ·rw [h1] at h;cases h
 ·exact h2 h
 ·exact h3 h
theorem zp5 {c:UInt8} (s:Z) (h1:z4s c=false) (h2:¬c=37):no c (z7n s):=fun b hb e=>by
 subst e
 rcases zkt hb with h|h
 ·rw [h1] at h;cases h
 ·exact h2 h
theorem zz012 (p:q05):z2f 61 (swp (fld p))=(swp (zg2 p.zu),swp (zg2 p.z1t),true):=by
 unfold fld
 rw [znl,znl,yq]
 have:swp [61]=[61]:=by decide
 rw [this,yba]
 exact ze0 _ (zz06v (by decide) (zii _ (by decide) (by decide) (by decide)))
theorem zzp (p:q05):¬fld p=[]:=by unfold fld;simp
theorem zzr {c:UInt8} (p:q05) (h1:z4s c=false) (h2:¬c=37) (h3:¬c=43) (h4:¬c=61):no c (fld p):=by
 unfold fld
 exact ((zii _ h1 h2 h3).app fun b hb=>by rw [ya4] at hb;subst hb;exact fun e=>h4 e.symm).app (zii _ h1 h2 h3)
theorem zkw:∀ (l a:List q05),zad (l.map fld) a=(a++l,0)
 | [],a=>by simp [zad]
 | p::l,a=>by
  rw [yay]
  unfold zad
  rw [if_neg (zzp p),zz012]
  simp only [zct]
  rw [zkw l]
  simp
theorem zfb (c:UInt8):∀ (l:List Z) (a:Z),no c a→(∀ x∈l,no c x)→z15 c (Lib.join (a::l) [c])=a::l
 | [],a,h,_=>by
  rw [Lib.join_cons]
  have:Lib.joinTail [c] []=[]:=rfl
  rw [this,yr,zbq h]
 | b::l,a,h,k=>by
  have ih:=zfb c l b (k b (by simp)) fun x hx=>k x (by simp [hx])
  rw [Lib.join_cons] at ih ⊢
  have:Lib.joinTail [c] (b::l)=c::(b++Lib.joinTail [c] l):=by
   have e:Lib.joinTail [c] (b::l)=[c]++b++Lib.joinTail [c] l:=rfl
   rw [e,yq,yba]
  rw [this,z8t _ h,ih]
theorem zwv {l:List q05} (h:¬l=[]):¬z3m l=[]:=by
 cases l with
 | nil=>exact absurd rfl h
 | cons p l =>
  unfold z3m
  rw [yay,Lib.join_cons]
  intro e
  exact zzp p (List.append_eq_nil_iff.1 e).1
theorem zhx {l:List q05} (h1:l.length≤64) (h2:(z3m l).length≤8192):z29 (z3m l)=(l,0):=by
 unfold z29
 cases l with
 | nil =>
  have:z3m []=[]:=rfl
  rw [this]
  rfl
 | cons p l =>
  have hs:z15 38 (z3m (p::l))=(p::l).map fld:=by
   unfold z3m
   rw [yay]
   exact zfb 38 _ _ (zzr p (by decide) (by decide) (by decide) (by decide)) fun x hx=>by
    obtain ⟨q,_,rfl⟩:=ya2.1 hx
    exact zzr q (by decide) (by decide) (by decide) (by decide)
  rw [hs,if_neg (by rw [yas];omega),if_neg (zwv (by simp)),zkw]
  rfl
theorem zz01f {l:List q05} (h:(form l).2=0):l.length≤64∧(z3m l).length≤8192∧form l=(z3m l,0):=by
 unfold form at h ⊢
 split at h
 ·simp at h
 ·split at h
  ·simp at h
  ·rw [if_neg ‹_›,if_neg ‹_›]
   exact ⟨by omega,by omega,rfl⟩
def target (q:q03):Z:=z6i q.z05++(if z3m q.z0p=[] then [] else 63::z3m q.z0p)
def zc8 (q:q03):Z:=q.zx++32::(target q++32::z9i)
theorem zkx {l:List Z} {b:UInt8} (h:b∈z6i l):z4s b=true∨b=37∨b=47:=by
 unfold z6i at h
 obtain ⟨p,_,h⟩:=ya1.1 h
 rcases ya0.1 h with rfl|h
 ·exact .inr (.inr rfl)
 ·exact (zkt h).imp id .inl
theorem zsq {l:List q05} {b:UInt8} (h:b∈z3m l):z4s b=true∨b=37∨b=43∨b=61∨b=38:=by
 have key:∀ (l:List q05),b∈Lib.joinTail [38] (l.map fld)→z4s b=true∨b=37∨b=43∨b=61∨b=38:=by
  intro l
  induction l with
  | nil=>intro h;cases h
  | cons p l ih =>
   intro h
   have e:Lib.joinTail [38] ((p::l).map fld)=[38]++fld p++Lib.joinTail [38] (l.map fld):=rfl
   rw [e,yaz,yaz,ya4] at h
   rcases h with (h|h)|h
   ·exact .inr (.inr (.inr (.inr h)))
   ·unfold fld at h
    rw [yaz,yaz,ya4] at h
    rcases h with (h|h)|h
    ·rcases zez h with h|h|h
     ·exact .inl h
     ·exact .inr (.inl h)
     ·exact .inr (.inr (.inl h))
    ·exact .inr (.inr (.inr (.inl h)))
    ·rcases zez h with h|h|h
     ·exact .inl h
     ·exact .inr (.inl h)
     ·exact .inr (.inr (.inl h))
   ·exact ih h
 cases l with
 | nil=>cases h
 | cons p l =>
  refine key (p::l) ?_
  unfold z3m at h
  rw [yay,Lib.join_cons] at h
  have e:Lib.joinTail [38] ((p::l).map fld)=[38]++fld p++Lib.joinTail [38] (l.map fld):=rfl
  rw [e,yq]
  exact yaz.2 (.inr h)
theorem zr6 {q:q03} {b:UInt8} (h:b∈target q):z4s b=true∨b=37∨b=47∨b=43∨b=61∨b=38∨b=63:=by
 unfold target at h
 rcases yaz.1 h with h|h
 ·rcases zkx h with h|h|h
  ·exact .inl h
  ·exact .inr (.inl h)
  ·exact .inr (.inr (.inl h))
 ·split at h
  ·cases h
  ·rcases ya0.1 h with h|h
   ·simp [h]
   ·rcases zsq h with h|h|h|h|h<;>simp [h]
theorem zlm (q:q03):z7m 33 126 (target q)=true:=by
 unfold z7m
 rw [yp]
 intro b hb
 rcases zr6 hb with h|h|h|h|h|h|h
 ·have:=z6v b h
  simp [this.1,this.2.1]
 all_goals subst h;decide
theorem zig {s:Z} {lo hi:Nat} {c:UInt8} (h:z7m lo hi s=true) (hc:c.toNat<lo):no c s:=fun b hb e=>by
 subst e
 unfold z7m at h
 have:=yp.1 h b hb
 simp at this
 omega
theorem zfc:∀ (l:List Z) (p:Z),z15 47 (z7n p++z6i l)=z7n p::l.map z7n
 | [],p=>by rw [zky,yr,zbq (zp5 p (by decide) (by decide))];rfl
 | a::l,p=>by rw [z98,ys,z8t _ (zp5 p (by decide) (by decide)),zfc l a];rfl
theorem zl0:∀ l:List Z,zy0 (l.map z7n)=some l
 | []=>rfl
 | p::l=>by rw [yay,zkz,zcs,zl0 l]
theorem zk8 {s:Z} {c:UInt8} (h:z7t s=true) (hc:isA c=false):no c s:=fun b hb e=>by
 subst e
 unfold z7t at h
 simp only [ye] at h
 have:=yp.1 h.2 b hb
 rw [hc] at this
 cases this
theorem zvh {q:q03} (hm:z7t q.zx=true) (h1:1≤q.z05.length) (h2:q.z05.length≤64) (hf:(form q.z0p).2=0):topH (zc8 q)=some ⟨q.zx,q.z05,q.z0p,[],[]⟩:=by
 obtain ⟨f1,f2,_⟩:=zz01f hf
 have ht:=zlm q
 have hs:z15 32 (zc8 q)=[q.zx,target q,z9i]:=by
  unfold zc8
  rw [z8t _ (zk8 hm (by decide)),z8t _ (zig ht (by decide)),zbq (by unfold z9i;intro b hb;simp at hb;rcases hb with rfl|rfl|rfl|rfl|rfl|rfl|rfl<;>decide)]
 unfold topH
 rw [hs]
 simp only
 obtain ⟨p,r,hpr⟩:∃ p r,q.z05=p::r:=by
  cases hq:q.z05 with
  | nil=>rw [hq] at h1;simp at h1
  | cons p r=>exact ⟨p,r,rfl⟩
 have hh:(target q).head? = some 47:=by unfold target;rw [hpr,z98];rfl
 have hok:znp q.zx (target q) z9i=true:=by unfold znp;simp [hm,hh,ht]
 rw [if_pos hok]
 have hno:no 63 (z6i q.z05):=fun b hb e=>by
  subst e
  rcases zkx hb with h|h|h
  ·revert h;decide
  ·revert h;decide
  ·revert h;decide
 have hc:(z2f 63 (target q)).1=z6i q.z05∧(z2f 63 (target q)).2.1=z3m q.z0p:=by
  unfold target
  split
  ·rename_i he
   rw [yr,zs2 hno,he]
   exact ⟨rfl,rfl⟩
  ·rw [ze0 _ hno]
   exact ⟨rfl,rfl⟩
 rw [hc.1,hc.2]
 have e1:(z6i q.z05).drop 1=z7n p++z6i r:=by rw [hpr,z98];rfl
 rw [e1,zfc,zhx f1 f2]
 have e2:z7n p::r.map z7n=(p::r).map z7n:=rfl
 rw [e2,zl0,←hpr]
 simp only
 rw [if_pos ⟨trivial,h2⟩]
def rowT (p:q05):Z:=p.zu++58::32::p.z1t
theorem zs8 {α:Type} (p:α→Bool) (l:List α) (h:(l.dropWhile p).length=l.length):l.dropWhile p=l:=(yw p).eq_of_length h
theorem zhf (s:Z):bare s=yu ([32]:Z).contains (yu ([32]:Z).contains s.reverse).reverse:=by unfold bare Lib.trimS Lib.trimLeftS Lib.trimRightS;rfl
theorem zw7 {v:Z} (h:bare v=v):v.dropWhile ([32]:Z).contains=v∧v.reverse.dropWhile ([32]:Z).contains=v.reverse:=by
 rw [zhf] at h
 have l1:=(yw ([32]:Z).contains (l:=v.reverse)).length_le
 have l2:=(yw ([32]:Z).contains (l:=(v.reverse.dropWhile ([32]:Z).contains).reverse)).length_le
 have l3:=congrArg yao h
 rw [yau] at l1 l2
 have e1:v.reverse.dropWhile ([32]:Z).contains=v.reverse:=zs8 _ _ (by rw [yau];omega)
 rw [e1,ya9] at h
 exact ⟨h,e1⟩
theorem zpq {v:Z} (h:bare v=v):bare (32::v)=v:=by
 obtain ⟨h1,h2⟩:=zw7 h
 rw [zhf,ya8]
 cases hr:v.reverse with
 | nil =>
  have:v=[]:=by simpa using hr
  subst this
  rfl
 | cons y t =>
  rw [hr] at h2
  have hy:([32]:Z).contains y=false:=by
   cases q:([32]:Z).contains y with
   | false=>rfl
   | true =>
    rw [yv,if_pos q] at h2
    have:=congrArg yao h2
    have:=(yw ([32]:Z).contains (l:=t)).length_le
    simp at *
    omega
  rw [ys,yv,if_neg (by rw [hy];decide),←ys,←hr,List.reverse_append,ya9]
  simp only [ya8,List.reverse_nil,ya5,yba]
  rw [yv,if_pos (by decide),h1]
theorem zmi:∀ b:UInt8,isN b=true→¬b=58∧¬b=13∧lowB b=b:=by
 have:∀ b:UInt8,(!isN b||(!decide (b=58) && !decide (b=13)&&decide (lowB b=b)))=true:=z5t (by decide +kernel)
 intro b h
 have:=this b
 rw [h] at this
 simpa [and_assoc] using this
theorem zi5 {s:Z} (h:zi4 s=true):low s=s∧no 58 s∧no 13 s:=by
 unfold zi4 at h
 simp only [ye] at h
 have ha:=yp.1 h.2
 refine ⟨?_,fun b hb=>(zmi b (ha b hb)).1,fun b hb=>(zmi b (ha b hb)).2.1⟩
 unfold low
 conv=>rhs;rw [←List.map_id s]
 exact yax fun b hb=>(zmi b (ha b hb)).2.2
theorem zpd {n v:Z} {sn:List Z} (h1:zi4 n=true) (h2:isVal v=true) (h3:sn.contains n=false):rowF (n++58::32::v) sn=some (n,v):=by
 obtain ⟨l1,l2,_⟩:=zi5 h1
 have hb:bare v=v:=by unfold isVal at h2;simp at h2;exact h2.2
 unfold rowF
 rw [ze0 _ l2,l1,zpq hb,h1,h2,h3]
 rfl
theorem zf4:∀ (l:List q05) (i b:Nat) (hd:List q05) (sn sn1 sn':List Z) (tail:List Z),z9h l sn=some sn'→i+l.length≤32→z4b∈sn→(∀ k∈sn1,k∈sn∧¬k=z4b)→(∀ k∈sn,k∈sn1∨k=z4b) →
  ∃ sn2,zbo (l.map rowT++tail) i b hd sn1=zbo tail (i+l.length) b (hd++l) sn2∧(∀ k∈sn2,k∈sn'∧¬k=z4b)∧∀ k∈sn',k∈sn2∨k=z4b
 | [],i,b,hd,sn,sn1,sn',tail,h,_,_,k1,k2=>by
  cases h
  exact ⟨sn1,by simp,k1,k2⟩
 | p::l,i,b,hd,sn,sn1,sn',tail,h,hi,hc,k1,k2=>by
  unfold z9h at h
  split at h
  ·rename_i hp
   simp only [ye,yk] at hp
   obtain ⟨⟨p1,p2⟩,p3⟩:=hp
   have hnot:¬p.zu∈sn:=fun q=>by rw [yt,decide_eq_false_iff_not] at p3;exact p3 q
   have hcl:¬p.zu=z4b:=fun e=>hnot (e▸hc)
   have h3:sn1.contains p.zu=false:=by rw [yt,decide_eq_false_iff_not];exact fun q=>hnot (k1 _ q).1
   simp only [yaq] at hi
   obtain ⟨sn2,r1,r2,r3⟩:=zf4 l (i+1) b (hd++[p]) (p.zu::sn) (p.zu::sn1) sn' tail h (by omega) (by simp [hc]) (fun k hk=>by
    rcases ya0.1 hk with rfl|hk
    ·exact ⟨by simp,hcl⟩
    ·exact ⟨by simp [(k1 k hk).1],(k1 k hk).2⟩) (fun k hk=>by
    rcases ya0.1 hk with rfl|hk
    ·exact .inl (by simp)
    ·exact (k2 k hk).imp (by intro q;simp [q]) id)
   refine ⟨sn2,?_,r2,r3⟩
   rw [yay,ys]
   conv=>lhs;unfold zbo
   rw [if_neg (by omega)]
   unfold rowT
   rw [zpd p1 p2 h3]
   simp only
   rw [if_neg hcl]
   have e:(⟨p.zu,p.z1t⟩:q05)=p:=rfl
   unfold rowT at r1
   rw [e,r1,yaq,yq,yba]
   congr 1
   omega
  ·cases h
theorem zwg:∀ (n u:Nat),u≤n→zas 0 (Lib.decDigits u)=u:=by
 intro n
 induction n with
 | zero =>
  intro u hu
  have:u=0:=by omega
  subst this
  rw [Lib.decDigits]
  rfl
 | succ n ih =>
  intro u hu
  rw [Lib.decDigits]
  split
  ·rename_i h
   rw [zat,zhr,z5i]
   simp
   omega
  ·rename_i h
   rw [zo4,ih (u / 10) (by omega),z5i]
   simp
   omega
theorem zt6 {n:Nat} (k:Nat) (hk:1≤k) (h:n<10 ^ k):isNum k (Lib.decDigits n)=true:=by
 obtain ⟨d1,d2,d3⟩:=z7a n n (ybl _)
 have hl:=z5h h hk
 unfold isNum
 simp only [ye,yk,decide_eq_false_iff_not,decide_eq_true_eq,yn]
 refine ⟨⟨⟨d2,yp.2 d1⟩,hl⟩,?_⟩
 by_cases e:(Lib.decDigits n).head? = some 48
 ·right
  have:=d3 e
  subst this
  rw [Lib.decDigits]
  rfl
 ·exact .inl e
theorem zk9 (n:Nat):isVal (Lib.decDigits n)=true:=by
 obtain ⟨d1,d2,_⟩:=z7a n n (ybl _)
 unfold isVal z7m
 rw [ye,decide_eq_true_iff,yp]
 refine ⟨fun b hb => ?_,?_⟩
 ·have:=zi3 (d1 b hb)
  simp
  omega
 ·have no32:∀ b∈Lib.decDigits n,([32]:Z).contains b=false:=fun b hb=>by
   have:=zi3 (d1 b hb)
   simp
   intro e
   subst e
   simp at this
  have dw:∀ l:Z,(∀ b∈l,([32]:Z).contains b=false)→l.dropWhile ([32]:Z).contains=l:=fun l hl=>by
   cases l with
   | nil=>rfl
   | cons x l=>rw [yv,if_neg (by rw [hl x (by simp)];decide)]
  rw [zhf,dw (Lib.decDigits n).reverse fun b hb=>no32 b (by simpa using hb),ya9,dw _ no32]
def zm0 (n:Nat):Z:=z4b++58::32::Lib.decDigits n
def z5b (q:q03):List Z:=q.z0j.map rowT++(if q.zt=[] then [] else [zm0 q.zt.length])
theorem zq7 (l:List Z):13::10::l.flatMap (fun x=>x++[13,10])=(l.flatMap fun x=>13::10::x)++[13,10]:=by
 induction l with
 | nil=>rfl
 | cons x l ih=>rw [yae,yae,yq,yq,←ih];simp
theorem zbm (q:q03):z25 q=z3c (zc8 q::z5b q)++[13,10,13,10]:=by
 have e1:zdb q.z0j++(if q.zt=[] then [] else clS q.zt.length)=(z5b q).flatMap fun x=>x++[13,10]:=by
  unfold z5b
  rw [List.flatMap_append]
  congr 1
  ·unfold zdb
   rw [List.flatMap_map]
   congr 1
   funext p
   simp [zqd,rowT]
  ·split
   ·rfl
   ·simp [clS,zm0,z4b]
 have e2:=zq7 (z5b q)
 have e3:z3c (zc8 q::z5b q)++[13,10,13,10]=zc8 q++(((z5b q).flatMap fun x=>13::10::x)++[13,10])++[13,10]:=by simp [z3c]
 have e4:z25 q=zc8 q++13::10::(zdb q.z0j++(if q.zt=[] then [] else clS q.zt.length))++[13,10]:=by simp [z25,zc8,target,z9i]
 rw [e3,e4,e1,e2]
theorem zh4 {s:Z} (h:isVal s=true):no 13 s:=by
 unfold isVal at h
 simp only [ye] at h
 exact zig h.1 (by decide)
theorem zk3:∀ (l:List q05) (sn sn':List Z),z9h l sn=some sn'→∀ p∈l,zi4 p.zu=true∧isVal p.z1t=true
 | [],_,_,_,p,hp=>by cases hp
 | a::l,sn,sn',h,p,hp=>by
  unfold z9h at h
  split at h
  ·rename_i ha
   simp only [ye] at ha
   rcases ya0.1 hp with rfl|hp
   ·exact ha.1
   ·exact zk3 l _ _ h p hp
  ·cases h
theorem zae {q:q03} (h:zl6 q=true) (hl:(z25 q).length≤8192) (t:Z):zbj (z25 q++q.zt++t)=(q,(z25 q++q.zt).length,0):=by
 unfold zl6 at h
 simp only [ye,decide_eq_true_eq,yk] at h
 obtain ⟨⟨⟨⟨⟨⟨h1,h2⟩,h3⟩,h4⟩,h5⟩,h6⟩,h7⟩:=h
 unfold za8 at h5
 cases hr:z9h q.z0j [z4t,z4b] with
 | none=>rw [hr] at h5;cases h5
 | some sn' =>
  rw [hr] at h5
  simp only [ye,decide_eq_true_eq] at h5
  obtain ⟨h8,h9⟩:=h5
  have hall:=zk3 _ _ _ hr
  have n1:no 13 (zc8 q):=by
   unfold zc8
   refine (zk8 h2 (by decide)).app fun b hb => ?_
   rcases ya0.1 hb with rfl|hb
   ·decide
   ·rcases yaz.1 hb with hb|hb
    ·exact zig (zlm q) (by decide) b hb
    ·rcases ya0.1 hb with rfl|hb
     ·decide
     ·unfold z9i at hb
      simp at hb
      rcases hb with rfl|rfl|rfl|rfl|rfl|rfl|rfl<;>decide
  have n2:∀ x∈z5b q,no 13 x∧¬x=[]:=fun x hx=>by
   unfold z5b at hx
   rcases yaz.1 hx with hx|hx
   ·obtain ⟨p,hp,rfl⟩:=ya2.1 hx
    obtain ⟨p1,p2⟩:=hall p hp
    refine ⟨(zi5 p1).2.2.app fun b hb => ?_,by unfold rowT;simp⟩
    rcases ya0.1 hb with rfl|hb
    ·decide
    ·rcases ya0.1 hb with rfl|hb
     ·decide
     ·exact zh4 p2 b hb
   ·split at hx
    ·cases hx
    ·rw [ya4] at hx
     subst hx
     refine ⟨(zi5 (by decide:zi4 z4b=true)).2.2.app fun b hb => ?_,by unfold zm0;simp⟩
     rcases ya0.1 hb with rfl|hb
     ·decide
     ·rcases ya0.1 hb with rfl|hb
      ·decide
      ·exact zh4 (zk9 _) b hb
  have hlen:(z25 q).length=(z3c (zc8 q::z5b q)).length+4:=by rw [zbm,yap];rfl
  have he:z25 q++q.zt++t=z3c (zc8 q::z5b q)++13::10::13::10::(q.zt++t):=by rw [zbm];simp
  have hend:zbt (z25 q++q.zt++t)=(z25 q).length:=by rw [he,zq3 _ n1 n2 (by omega),hlen]
  unfold zbj
  rw [hend,if_neg (by omega)]
  have htk:(z25 q++q.zt++t).take ((z25 q).length - 4)=z3c (zc8 q::z5b q):=by
   rw [he,hlen,Nat.add_sub_cancel,ybe]
  rw [htk,zd3 _ _ n1 fun x hx=>(n2 x hx).1]
  unfold zuh
  simp only [yak,yc,List.drop_one,ybb]
  rw [zvh h2 h3 h4 h1]
  simp only
  obtain ⟨sn2,r1,r2,r3⟩:=zf4 q.z0j 0 0 [] [z4t,z4b] [z4t] sn' (if q.zt=[] then [] else [zm0 q.zt.length]) hr (by omega) (by simp) (fun k hk=>by
   rw [ya4] at hk
   subst hk
   exact ⟨by simp,by decide⟩) (fun k hk=>by simpa using hk)
  have hhost:z4y∈sn2:=(r3 z4y (by rw [yt,decide_eq_true_iff] at h9;exact h9)).resolve_right (by decide)
  have hr1:zbo (z5b q) 0 0 [] [z4t]=zbo (if q.zt=[] then [] else [zm0 q.zt.length]) (0+q.z0j.length) 0 ([]++q.z0j) sn2:=r1
  rw [hr1,ya5,ybt]
  obtain ⟨sn3,hsn3,hok⟩:∃ sn3,z4y∈sn3∧zbo (if q.zt=[] then [] else [zm0 q.zt.length]) q.z0j.length 0 q.z0j sn2 = .ok (q.zt.length,q.z0j,sn3):=by
   by_cases hb:q.zt=[]
   ·rw [if_pos hb,hb]
    exact ⟨sn2,hhost,rfl⟩
   ·rw [if_neg hb]
    have h32:¬q.z0j.length=32:=fun e=>by simp [e,hb] at h6
    have hcl:sn2.contains z4b=false:=by rw [yt,decide_eq_false_iff_not];exact fun q=>(r2 _ q).2 rfl
    refine ⟨z4b::sn2,by simp [hhost],?_⟩
    unfold zbo
    rw [if_neg (by omega)]
    unfold zm0
    rw [zpd (by decide) (zk9 _) hcl]
    simp only [if_true]
    rw [if_pos (zt6 9 (by decide) (by omega)),zwg _ _ (ybl _)]
    unfold zbo
    rfl
  rw [hok]
  unfold zug
  simp only
  have hc:sn3.contains z4y=true:=by rw [yt,decide_eq_true_iff];exact hsn3
  rw [hc,if_neg (by decide),if_neg (by omega),if_neg (by rw [yap,yap];omega)]
  rw [yq,yac,ybe,yap]
def bv (l:List Bool):Nat:=l.foldl (fun n b=>2*n+b.toNat) 0
theorem bv_go (l:List Bool):∀ n,l.foldl (fun n b=>2*n+b.toNat) n=n*2 ^ l.length+bv l:=by
 induction l with
 | nil=>intro n;simp [bv]
 | cons b l ih =>
  intro n
  unfold bv
  rw [yaf,yaf,ih,ih (2*0+b.toNat),yaq,ybr]
  have:(2*n+b.toNat)*2 ^ l.length=n*(2 ^ l.length*2)+b.toNat*2 ^ l.length:=by
   rw [Nat.add_mul,ybp 2 n,Nat.mul_assoc,ybp 2 (2 ^ l.length)]
  rw [this,Nat.mul_zero,ybt,Nat.add_assoc]
theorem zcm (a b:List Bool):bv (a++b)=bv a*2 ^ b.length+bv b:=by
 conv=>lhs;unfold bv
 rw [List.foldl_append,bv_go]
 rfl
theorem zlu (x:Bool) (l:List Bool):bv (x::l)=x.toNat*2 ^ l.length+bv l:=by
 have:=zcm [x] l
 rw [show bv [x]=x.toNat from by simp [bv]] at this
 exact this
theorem zlv (l:List Bool):bv l<2 ^ l.length:=by
 induction l with
 | nil=>simp [bv]
 | cons x l ih =>
  rw [zlu,yaq,ybr]
  cases x<;>simp<;>omega
def z6n:Nat→Nat→List Bool
 | 0,_=>[]
 | k+1,n=>n.testBit k::z6n k n
theorem z3v (n:Nat):∀ k,(z6n k n).length=k
 | 0=>rfl
 | k+1=>by rw [z6n,yaq,z3v n k]
theorem zhh (n:Nat):∀ k,bv (z6n k n)=n % 2 ^ k
 | 0=>by simp [z6n,bv,Nat.mod_one]
 | k+1=>by
  rw [z6n,zlu,z3v,zhh n k,ybr,Nat.mod_mul,Nat.toNat_testBit,ybp,ybg]
def ltrs:Z:=[65,66,67,68,69,70,71,72,73,74,75,76,77,78,79,80,81,82,83,84,85,86,87,88,89,90,97,98,99,100,101,102,103,104,105,106,107,108,109,110,111,112,113,114,115,116,117,118,119,120,121,122,48,49,50,51,52,53,54,55,56,57,45,95]
def ltr (n:Nat):UInt8:=ltrs[n]?.getD 0
def unl (c:UInt8):Option Nat:=ltrs.findIdx? (fun x=>decide (x=c))
theorem zz03w:∀ c:UInt8,(match unl c with
  | some n=>decide (n<64)&&decide (ltr n=c)
  | none=>true)=true:=z5t (by decide +kernel)
theorem zz1 {c:UInt8} {n:Nat} (h:unl c=some n):n<64∧ltr n=c:=by
 have:=zz03w c
 rw [h] at this
 simpa using this
def zuf (l:List Bool):List Bool:=l++ya7 (6 - l.length) false
def zd9:Nat→List Bool→Z
 | 0,_=>[]
 | n+1,l=>ltr (bv (zuf (l.take 6)))::zd9 n (l.drop 6)
def dec8:Nat→List Bool→Z
 | 0,_=>[]
 | n+1,l=>yby (bv (l.take 8))::dec8 n (l.drop 8)
def z4u (s:Z):List Bool:=s.flatMap fun c=>z6n 8 c.toNat
theorem zge (c:UInt8) (s:Z):z4u (c::s)=z6n 8 c.toNat++z4u s:=rfl
theorem zdq:∀ s:Z,(z4u s).length=8*s.length
 | []=>rfl
 | c::s=>by rw [zge,yap,z3v,zdq s,yaq];omega
def b64E (s:Z):Z:=zd9 ((8*s.length+5) / 6) (z4u s)
def zz2:Z→Option (List Nat)
 | []=>some []
 | c::s=>match unl c,zz2 s with
  | some n,some l=>some (n::l)
  | _,_=>none
def z6z (l:List Nat):List Bool:=l.flatMap (z6n 6)
theorem zgd (n:Nat) (l:List Nat):z6z (n::l)=z6n 6 n++z6z l:=rfl
theorem zdp:∀ l:List Nat,(z6z l).length=6*l.length
 | []=>rfl
 | c::s=>by rw [zgd,yap,z3v,zdp s,yaq];omega
def zz00k (l:List Bool):Bool:=decide (l.length<6)&&l.all (!·)
def b64D (s:Z):Option Z:=match zz2 s with
 | none=>none
 | some l=>if zz00k ((z6z l).drop (8*(6*l.length / 8)))=true then some (dec8 (6*l.length / 8) (z6z l)) else none
theorem zdf:∀ (n:Nat) (l:List Bool),(zd9 n l).length=n
 | 0,_=>rfl
 | n+1,l=>by rw [zd9,yaq,zdf]
theorem zqr {n:Nat} (h:n<256):(yby n).toNat=n:=by
 rw [UInt8.toNat_ofNat']
 exact ybo h
theorem zuu (n:Nat):(ya7 n false).all (!·)=true:=by simp
def zq8:List J→List Z→Option (List q02)
 | [],_=>some []
 | x::xs,ks=>if (zff x).2=true then (zq8 xs ks.tail).map (⟨ks.head?.getD [],(zff x).1⟩ :: ·) else none
def zgy (v:J):List q02 × Bool:=if v.zh=6 then (match zq8 v.zk v.z08 with
 | some l=>(l,true)
 | none=>([],false)) else ([],false)
def SzJ (v:J):Prop:=v.sz≤131072
theorem SzJ.parts {v:J} (h:SzJ v):v.z06.length≤131072∧v.zk.length≤131072∧v.z08.length≤131072:=by
 unfold SzJ at h
 rw [q04.zfe] at h
 have h1:=zir v.zk
 have h2:=zc7 v.z08
 omega
theorem SzJ.zca {v:J} (h:SzJ v) (k:Z):SzJ (zca v k).1:=ybm (zz02c v k) h
theorem SzJ.mem {v x:J} (h:SzJ v) (hx:x∈v.zk):SzJ x:=by
 have:=zis hx
 unfold SzJ at h ⊢
 rw [q04.zfe] at h
 omega
theorem zp1 (w:Nat):za0 zxr w=0:=by
 unfold zxr
 simp [za0,zfm,frm]
def Chk (v:J):Prop := ∃ w,za0 v w=0
theorem Chk.mem {v x:J} (h:Chk v) (hx:x∈v.zk):Chk x:=by
 obtain ⟨w,h⟩:=h
 exact ⟨w+1,zhl (zbz h).2.2 x hx⟩
theorem zqp (v:J) (k:Z):(zca v k).1=zxr∨(zca v k).1∈v.zk:=by
 unfold zca
 split
 ·split
  ·split
   ·rename_i x hx
    exact .inr (List.mem_of_getElem? hx)
   ·exact .inl rfl
  ·exact .inl rfl
 ·exact .inl rfl
theorem Chk.zca {v:J} (h:Chk v) (k:Z):Chk (zca v k).1:=by
 rcases zqp v k with e|e
 ·rw [e];exact ⟨0,zp1 0⟩
 ·exact h.mem e
theorem Chk.keys {v:J} (h:Chk v):v.zh=6→v.z08.length=v.zk.length:=by
 obtain ⟨w,h⟩:=h
 exact (zoh (zbz h).2.1).1
theorem zz01e {v:J} (h:SzJ v) (h6:v.zh=6) (hk:v.z08.length=v.zk.length):∀ (n i:Nat) (a:List q02),v.zk.length - i=n→i≤v.zk.length→a.length≤i →
  M.z2e v a (i:Int)=some (match zq8 (v.zk.drop i) (v.z08.drop i) with|some l => .go (a++l)|none => .done ([],false)):=by
 have hp:=h.parts
 intro n
 induction n with
 | zero =>
  intro i a hn hi ha
  rw [M.z2e,yab (by omega)]
  have:¬((i:Int)<(v.zk.length:Int)):=by omega
  simp [this,zq8]
 | succ n ih =>
  intro i a hn hi ha
  have hlt:i<v.zk.length:=by omega
  have hlt2:i<v.z08.length:=by omega
  have h1:((i:Int)<(v.zk.length:Int)):=by omega
  have hx:SzJ v.zk[i]:=h.mem (yai hlt)
  rw [M.z2e,yz hlt,yz hlt2]
  simp only [h1,decide_true,if_true,z6k,yag hlt,yag hlt2,ya,yb,h6]
  rw [zbb (by have:=hx.parts;omega)]
  simp only [yb]
  unfold zq8
  cases ht:(zff v.zk[i]).2 with
  | false=>simp
  | true =>
   simp only [ym,Bool.or_self,yj,if_false,if_true,ybb,yak,yc]
   rw [z4f (by simp;omega),w1 (by omega)]
   simp only [yb]
   rw [ih (i+1) _ (by omega) (by omega) (by simp;omega)]
   cases zq8 (v.zk.drop (i+1)) (v.z08.drop (i+1))<;>simp
theorem zxm {v:J} (h:SzJ v) (hk:v.zh=6→v.z08.length=v.zk.length):M.q1m v=some (zgy v):=by
 unfold M.q1m zgy
 by_cases h6:v.zh=6
 ·have hs:=zz01e h h6 (hk h6) _ 0 [] rfl (ybu _) (by simp)
  have hs:M.z2e v [] 0=_:=hs
  rw [hs,yad,yad,if_pos h6]
  cases zq8 v.zk v.z08<;>simp [h6]
 ·rw [if_neg h6,M.z2e]
  cases hl:v.zk with
  | nil=>simp [h6]
  | cons x l =>
   have hx:SzJ x:=h.mem (by rw [hl];simp)
   have h1:((0:Int)<((x::l).length:Int)):=by simp
   have i0:ix (x::l) 0=some x:=by simp [zxc]
   simp only [h1,decide_true,if_true,i0,ya,yb]
   rw [zbb (by have:=hx.parts;omega)]
   simp [h6]
inductive Pt where
 | fx (n v:Z)
 | st (n:Z) (t:Nat × Nat × Z) (w:Bool)
 | cn (n:Z) (c:Bool)
structure Rw where
 kd:Int
 me:Z
 sg:List Z
 mr:Nat
 wh:Nat
 ps:List Pt
def zwn:Nat × Nat × Z:=(2,F.q2r,[85,115,101,114])
def zsj:Nat × Nat × Z:=(3,F.q1y,[80,97,115,115])
def zwk:Nat × Nat × Z:=(5,F.q1b,[67,111,100,101])
def ze7:Nat × Nat × Z:=(6,F.q2o,[84,111,107,101,110])
def zsh:Nat × Nat × Z:=(7,F.q0y,[65,99,116,111,114])
def z7d:Nat × Nat × Z:=(8,F.q1a,[67,108,105,101,110,116])
def z8b:Nat × Nat × Z:=(9,F.q2k,[83,101,99,114,101,116])
def zb0:Nat × Nat × Z:=(10,F.q25,[82,101,100,105,114,101,99,116])
def zgo:Nat × Nat × Z:=(11,F.q2j,[83,99,111,112,101])
def zaz:Nat × Nat × Z:=(12,F.q0z,[65,117,100,105,101,110,99,101])
def zc1:Nat × Nat × Z:=(13,F.q16,[67,104,97,108,108,101,110,103,101])
def ze8:Nat × Nat × Z:=(14,F.q2t,[86,101,114,105,102,105,101,114])
def zsi:Nat × Nat × Z:=(15,F.q1s,[78,111,110,99,101])
def zwm:Nat × Nat × Z:=(16,F.q1r,[78,97,109,101])
def zwl:Nat × Nat × Z:=(17,F.q1d,[68,97,116,97])
def fBody:Nat × Nat × Z:=(18,F.q12,[66,111,100,121])
def fSig:Nat × Nat × Z:=(19,F.q2l,[83,105,103])
def zm9:Nat × Nat × Z:=(21,F.q1g,[70,105,108,116,101,114])
def zb2:List (Nat × Nat × Z):=[zwn,zsj,zwk,ze7,zsh,z7d,z8b,zb0,zgo,zaz,zc1,ze8,zsi,zwm,zwl,fBody,fSig,zm9]
def tab:List Rw:=[⟨1,[80,79,83,84],[[108,111,103,105,110]],0,1,[.st [117,115,101,114] zwn false,.st [112,97,115,115] zsj false]⟩,
 ⟨2,[80,79,83,84],[[108,111,103,105,110],[99,111,100,101]],1,1,[.st [99,111,100,101] zwk false]⟩,
 ⟨3,[80,79,83,84],[[108,111,103,105,110],[107,101,121]],1,1,[.st [107,101,121] zwm false,.st [100,97,116,97] zwl true,.st [99,108,105,101,110,116] fBody true,.st [115,105,103] fSig true]⟩,
 ⟨4,[80,79,83,84],[[101,110,114,111,108],[99,111,100,101]],1,1,[]⟩,
 ⟨5,[80,79,83,84],[[101,110,114,111,108],[107,101,121]],1,1,[.st [100,97,116,97] zwl true]⟩,
 ⟨6,[80,79,83,84],[[99,104,97,108,108,101,110,103,101]],1,1,[]⟩,
 ⟨7,[80,79,83,84],[[108,111,103,111,117,116]],1,1,[]⟩,
 ⟨8,[80,79,83,84],[[102,111,114,103,111,116]],0,1,[.st [117,115,101,114] zwn false]⟩,
 ⟨9,[80,79,83,84],[[114,101,115,101,116]],0,1,[.st [116,111,107,101,110] ze7 false,.st [112,97,115,115] zsj false]⟩,
 ⟨10,[71,69,84],[[97,117,116,104,111,114,105,122,101]],1,2,[.fx [114,101,115,112,111,110,115,101,95,116,121,112,101] [99,111,100,101],.st [99,108,105,101,110,116,95,105,100] z7d false,.st [114,101,100,105,114,101,99,116,95,117,114,105] zb0 false,.st [115,99,111,112,101] zgo false,.fx [99,111,100,101,95,99,104,97,108,108,101,110,103,101,95,109,101,116,104,111,100] [83,50,53,54],.st [99,111,100,101,95,99,104,97,108,108,101,110,103,101] zc1 false,.st [110,111,110,99,101] zsi false]⟩,
 ⟨11,[80,79,83,84],[[116,111,107,101,110]],0,1,[.fx [103,114,97,110,116,95,116,121,112,101] [97,117,116,104,111,114,105,122,97,116,105,111,110,95,99,111,100,101],.st [99,108,105,101,110,116,95,105,100] z7d false,.st [99,108,105,101,110,116,95,115,101,99,114,101,116] z8b false,.st [99,111,100,101] zwk false,.st [114,101,100,105,114,101,99,116,95,117,114,105] zb0 false,.st [99,111,100,101,95,118,101,114,105,102,105,101,114] ze8 false]⟩,
 ⟨12,[80,79,83,84],[[116,111,107,101,110]],0,1,[.fx [103,114,97,110,116,95,116,121,112,101] [99,108,105,101,110,116,95,99,114,101,100,101,110,116,105,97,108,115],.st [99,108,105,101,110,116,95,105,100] z7d false,.st [99,108,105,101,110,116,95,115,101,99,114,101,116] z8b false,.st [115,99,111,112,101] zgo false,.st [97,117,100,105,101,110,99,101] zaz false]⟩,
 ⟨13,[80,79,83,84],[[116,111,107,101,110]],0,1,[.fx [103,114,97,110,116,95,116,121,112,101] [114,101,102,114,101,115,104,95,116,111,107,101,110],.st [99,108,105,101,110,116,95,105,100] z7d false,.st [99,108,105,101,110,116,95,115,101,99,114,101,116] z8b false,.st [114,101,102,114,101,115,104,95,116,111,107,101,110] ze7 false,.st [115,99,111,112,101] zgo false]⟩,
 ⟨14,[80,79,83,84],[[116,111,107,101,110]],0,1,[.fx [103,114,97,110,116,95,116,121,112,101] [117,114,110,58,105,101,116,102,58,112,97,114,97,109,115,58,111,97,117,116,104,58,103,114,97,110,116,45,116,121,112,101,58,116,111,107,101,110,45,101,120,99,104,97,110,103,101],.st [99,108,105,101,110,116,95,105,100] z7d false,.st [99,108,105,101,110,116,95,115,101,99,114,101,116] z8b false,.st [115,117,98,106,101,99,116,95,116,111,107,101,110] ze7 false,.st [97,99,116,111,114,95,116,111,107,101,110] zsh false,.st [115,99,111,112,101] zgo false,.st [97,117,100,105,101,110,99,101] zaz false]⟩,
 ⟨15,[80,79,83,84],[[114,101,118,111,107,101]],0,1,[.st [99,108,105,101,110,116,95,105,100] z7d false,.st [99,108,105,101,110,116,95,115,101,99,114,101,116] z8b false,.st [116,111,107,101,110] ze7 false]⟩,
 ⟨16,[80,79,83,84],[[105,110,116,114,111,115,112,101,99,116]],0,1,[.st [99,108,105,101,110,116,95,105,100] z7d false,.st [99,108,105,101,110,116,95,115,101,99,114,101,116] z8b false,.st [116,111,107,101,110] ze7 false]⟩,
 ⟨17,[71,69,84],[[117,115,101,114,105,110,102,111]],2,0,[]⟩,
 ⟨18,[71,69,84],[[107,101,121,115]],0,0,[]⟩,
 ⟨19,[71,69,84],[[115,99,105,109],[79,70]],2,2,[.st [102,105,108,116,101,114] zm9 false,.cn [115,116,97,114,116,73,110,100,101,120] false,.cn [99,111,117,110,116] true]⟩,
 ⟨20,[71,69,84],[[115,99,105,109],[79,70],[78,65,77,69]],2,0,[]⟩,
 ⟨21,[80,79,83,84],[[115,99,105,109],[79,70]],2,3,[]⟩,
 ⟨22,[80,65,84,67,72],[[115,99,105,109],[79,70],[78,65,77,69]],6,4,[]⟩,
 ⟨23,[68,69,76,69,84,69],[[115,99,105,109],[79,70],[78,65,77,69]],6,0,[]⟩,
 ⟨24,[80,79,83,84],[[97,100,109,105,110],[112,97,115,115,119,111,114,100]],2,1,[.st [110,97,109,101] zwm false,.st [112,97,115,115] zsj false]⟩,
 ⟨25,[80,79,83,84],[[97,100,109,105,110],[116,117,114,110]],2,1,[]⟩]

def zv3:Z:=[78,65,77,69]
def zv4:Z:=[79,70]
def Pt.nm:Pt→Z
 | .fx n _=>n
 | .st n _ _=>n
 | .cn n _=>n
def Pt.toH:Pt→q0b
 | .fx n v=>⟨n,NF,v,false⟩
 | .st n t w=>⟨n,t.2.1,[],w⟩
 | .cn n _=>⟨n,NF,zv3.take 1,false⟩
def zrf (l:List Z):Z:=l.flatMap fun s=>47::s
def Rw.toH (r:Rw):q0a:=⟨r.kd,r.me,zrf r.sg,(r.mr:Int),(r.wh:Int),r.ps.map Pt.toH⟩
theorem zcx:M.q2e=some (tab.map Rw.toH):=by kernel_rfl
def zgp:List Z→List Z→Z→Z→Option (Z × Z)
 | [],[],o,n=>some (o,n)
 | w::ws,s::ss,o,n=>if w=zv4 then (if s=[] then none else zgp ws ss s n) else if w=zv3 then zgp ws ss o s else if w=s then zgp ws ss o n else none
 | _,_,_,_=>none
def A0 (k:Int) (o n:Z):q00:=⟨k,o,[],[],[],[],[],[],[],[],[],[],[],[],[],[],n,[],[],[],[],[],[],[],0,0⟩
def zA:q00:=A0 0 [] []
def z4l:Z:=[99,111,111,107,105,101]
def zvq:Z:=[115,101,115,115,105,111,110]
def z9e:Z:=[97,117,116,104,111,114,105,122,97,116,105,111,110]
def zg0:Z:=[66,101,97,114,101,114,32]
def kIf:Z:=[105,102,45,109,97,116,99,104]
def zje:List Z→Z
 | []=>[]
 | x::l=>if (z2f 61 (bare x)).2.2=true∧(z2f 61 (bare x)).1=zvq then (z2f 61 (bare x)).2.1 else zje l
def zjd (l:List q05):Z:=zje (z15 59 (z5a l z4l []))
def sesP (m:Nat) (l:List q05):Option Z:=if m.testBit 0=true then (if zp7 (zjd l)=true then some (zjd l) else none) else some []
def tokP (m:Nat) (l:List q05):Option Z:=if m.testBit 1=true∧zgs l z9e=true then (if zg0.isPrefixOf (z5a l z9e [])=true∧z7m 33 126 ((z5a l z9e []).drop 7)=true then some ((z5a l z9e []).drop 7) else none) else some []
def tagOk (s:Z):Bool:=z7m 33 126 s && !s.contains 34
def unq (s:Z):Z:=(s.take (s.length - 1)).drop 1
def quoted (s:Z):Bool:=decide (2≤s.length)&&decide (s.head? = some 34)&&decide (s.getLast? = some 34)
def tagP (m:Nat) (l:List q05):Option Z:=if m.testBit 2=true∧zgs l kIf=true then (if quoted (z5a l kIf [])=true∧tagOk (unq (z5a l kIf []))=true then some (unq (z5a l kIf [])) else none) else some []
def zsy (m:Nat) (l:List q05) (k:Int) (o n:Z):Option q00:=match sesP m l,tokP m l,tagP m l with
 | some s,some t,some g=>some ⟨k,o,[],[],s,[],t,[],[],[],[],[],[],[],[],[],n,[],[],[],g,[],[],[],0,0⟩
 | _,_,_=>none
def z9p (ps:List Pt) (k:Z):Bool:=ps.any fun p=>decide (p.nm=k)
def zn3 (ps:List Pt) (l:List q05):Bool:=l.all fun p=>decide (zj1 l p.zu=1)&&z9p ps p.zu
def setS (a:q00) (c:Nat) (v:Z):q00:=(a.setAt c v).getD a
def getS (a:q00) (c:Nat):Z:=(a.zg6 c).getD []
def setC (a:q00) (c:Bool) (n:Int):q00:=if c=true then { a with z11:=n } else { a with z2l:=n }
def getC (a:q00) (c:Bool):Int:=if c=true then a.z11 else a.z2l
def putP (l:List q05) (a:q00):Pt→Option q00
 | .fx n v=>if zgs l n=true∧z5a l n []=v then some a else none
 | .st n t w=>if w=true then (b64D (z5a l n [])).map (setS a t.1) else some (setS a t.1 (z5a l n []))
 | .cn n c=>if z5a l n []=[] then some a else if isNum 9 (z5a l n [])=true then some (setC a c ((zas 0 (z5a l n []):Nat):Int)) else none
def putL (l:List q05):List Pt→q00→Option q00
 | [],a=>some a
 | p::ps,a=>(putP l a p).bind (putL l ps)
def zwu (ps:List Pt) (l:List q05) (a:q00):Option q00:=if zn3 ps l=true then putL l ps a else none
def jsonA (s:Z) (a:q00):Option q00 :=
 if (parse s).2=0∧(parse s).1.zk.length=2∧(zca (parse s).1 kId).2=true∧(zca (parse s).1 z3n).2=true∧(zca (parse s).1 kId).1.zh=4∧(zgy (zca (parse s).1 z3n).1).2=true then
  some { a with zu:=(zca (parse s).1 kId).1.z06,zi:=(zgy (zca (parse s).1 z3n).1).1 } else none
def bodyA (r:Rw) (q:q03) (a:q00):Option q00:=match r.wh with
 | 0=>if q.zt=[] then some a else none
 | 1=>if (z29 q.zt).2=0 then zwu r.ps (z29 q.zt).1 a else none
 | 2=>if q.zt=[] then zwu r.ps q.z0p a else none
 | 3=>jsonA q.zt a
 | _=>some { a with z1c:=q.zt }
def askR (r:Rw) (q:q03) (o n:Z):Option q00:=match zsy r.mr q.z0j r.kd o n with
 | none=>none
 | some a=>if r.wh=2∨q.z0p=[] then bodyA r q a else none
def askL (q:q03):List Rw→Int→q00 × Int
 | [],e=>(zA,e)
 | r::rs,e=>match zgp r.sg q.z05 [] [] with
  | none=>askL q rs e
  | some on=>if r.me=q.zx then (match askR r q on.1 on.2 with
    | some a=>(a,0)
    | none=>askL q rs 227) else askL q rs (if e=225 then 226 else e)
def zzg (q:q03):q00 × Int:=askL q tab 225
def Pt.okB:Pt→Bool
 | .fx _ v => !decide (v=[78])
 | .st _ t _=>zb2.contains t
 | .cn n c=>decide ((n=[99,111,117,110,116])=(c=true))
def cns:List Pt→List Bool
 | []=>[]
 | .cn _ c::l=>c::cns l
 | _::l=>cns l
def Rw.okB (r:Rw):Bool:=decide (z15 47 ((zrf r.sg).drop 1)=r.sg)&&decide (1≤(zrf r.sg).length)&&decide ((zrf r.sg).length<1000)&&decide (r.sg.length<100)&&decide (r.mr<8)&&decide (r.wh<5)&&decide (r.ps.length<100)&&r.ps.all Pt.okB&&decide (cns r.ps).Nodup&&(zrf r.sg).all fun b=>decide (b.toNat<128)
theorem zz06x:tab.all Rw.okB=true:=by decide +kernel
theorem zz06w:(tab.map (·.kd)).Nodup:=by decide +kernel
structure zpo (r:Rw):Prop where
 cut:z15 47 ((zrf r.sg).drop 1)=r.sg
 one:1≤(zrf r.sg).length
 len:(zrf r.sg).length<1000
 sgl:r.sg.length<100
 mkl:r.mr<8
 whl:r.wh<5
 psl:r.ps.length<100
 ps:∀ p∈r.ps,p.okB=true
 cns:(cns r.ps).Nodup
theorem Rw.ok_of {r:Rw} (h:r.okB=true):zpo r:=by
 unfold Rw.okB at h
 simp only [ye,decide_eq_true_eq,yp] at h
 obtain ⟨⟨⟨⟨⟨⟨⟨⟨⟨h1,h2⟩,h3⟩,h4⟩,h5⟩,h6⟩,h7⟩,h8⟩,h9⟩,_⟩:=h
 exact ⟨h1,h2,h3,h4,h5,h6,h7,h8,h9⟩
theorem zno {r:Rw} (h:r∈tab):zpo r:=Rw.ok_of (yp.1 zz06x r h)
theorem zan (x:Nat):BitVec.ofInt 64 (x:Int)=BitVec.ofNat 64 x:=by
 apply BitVec.eq_of_toNat_eq
 rw [BitVec.toNat_ofInt,BitVec.toNat_ofNat]
 omega
theorem zv9 {x k:Nat} (h:k≤60):zg5 .i64 (x:Int) (k:Int)=((x / 2 ^ k:Nat):Int):=by
 unfold zg5
 have h1:min ((k:Int)).toNat (ybw .i64)=k:=by
  have:ybw .i64=64:=rfl
  rw [this]
  omega
 rw [h1,Int.natCast_ediv,ybv]
 exact Int.fdiv_eq_ediv_of_nonneg _ (by exact_mod_cast ybu (2 ^ k))
theorem znj {x k:Nat} (h:k≤60) (hx:x*2 ^ k<4611686018427387904):z5x .i64 (x:Int) (k:Int)=((x*2 ^ k:Nat):Int):=by
 unfold z5x
 have h1:min ((k:Int)).toNat (ybw .i64)=k:=by
  have:ybw .i64=64:=rfl
  rw [this]
  omega
 rw [h1]
 have:((x:Int)*2 ^ k)=((x*2 ^ k:Nat):Int):=by rw [Int.natCast_mul,ybv];rfl
 rw [this,w64 (by omega) (by omega)]
theorem zuc {a b i:Nat} (hi:i≤60) (hb:b<2 ^ i) (h:a*2 ^ i+b<4611686018427387904):orI .i64 (z5x .i64 (a:Int) (i:Int)) (b:Int)=((a*2 ^ i+b:Nat):Int):=by
 rw [znj hi (by omega)]
 unfold orI
 have hb':ybw .i64=64:=rfl
 rw [hb',zan,zan,BitVec.toNat_or,BitVec.toNat_ofNat,BitVec.toNat_ofNat,ybo (by omega),ybo (by omega),ybp a,←Nat.two_pow_add_eq_or_of_lt hb,ybp _ a,w64 (by omega) (by omega)]
theorem zhd {x k:Nat} (hk:k≤60) (hx:x<4611686018427387904):z7w .i64 (x:Int) ((2 ^ k - 1:Nat):Int)=((x % 2 ^ k:Nat):Int):=by
 unfold z7w
 have hb':ybw .i64=64:=rfl
 have hp:2 ^ k≤2 ^ 60:=ybq (by decide) hk
 have hm:x % 2 ^ k≤x:=Nat.mod_le ..
 rw [hb',zan,zan,BitVec.toNat_and,BitVec.toNat_ofNat,BitVec.toNat_ofNat,ybo (by omega),ybo (by omega),Nat.and_two_pow_sub_one_eq_mod,w64 (by omega) (by omega)]
theorem zou {k:Nat} (hk:k≤60):ybx .i64 (z5x .i64 1 (k:Int) - 1)=((2 ^ k - 1:Nat):Int):=by
 have hp:2 ^ k≤2 ^ 60:=ybq (by decide) hk
 have h1:1≤2 ^ k:=Nat.one_le_two_pow
 have:=znj (x:=1) hk (by omega)
 rw [Nat.one_mul] at this
 have this:z5x .i64 1 (k:Int)=((2 ^ k:Nat):Int):=this
 rw [this,w64 (by omega) (by omega)]
 omega
theorem zvm {n:Nat} (h:n<256):ybx .u8 (n:Int)=((yby n).toNat:Int):=by
 rw [zqr h]
 exact of_decide_eq_true ((by decide +kernel:∀ i:Fin 256,decide (ybx .u8 ((i.val:Nat):Int)=((i.val:Nat):Int))=true) ⟨n,h⟩)
theorem zru (l:List Bool) (k:Nat) (h:k≤l.length):bv l / 2 ^ (l.length - k)=bv (l.take k)∧bv l % 2 ^ (l.length - k)=bv (l.drop k):=by
 have e:=zcm (l.take k) (l.drop k)
 have hl:=zlv (l.drop k)
 rw [ybc,yar] at e
 rw [yar] at hl
 have hp:0<2 ^ (l.length - k):=ybs _
 rw [e]
 constructor
 ·rw [ybg,ybh _ _ hp,ybk hl,ybt]
 ·rw [ybg,ybi,ybo hl]
theorem z71 {l:List Bool} {k:Nat} (h:l.length≤k):bv l<2 ^ k:=Nat.lt_of_lt_of_le (zlv l) (ybq (by decide) h)
def ixL (c:UInt8):Int:=Lib.idxFunc (fun r=>decide ((r:Int) % 256=(c.toNat:Int))) true ⟨ltrs.toArray⟩
theorem ztc:∀ c:UInt8,(match unl c with
  | some n=>decide (ixL c=(n:Int))
  | none=>decide (ixL c<0))=true:=z5t (by decide +kernel)
theorem M_ixL (c:UInt8):M.z0y ltrs (c.toNat:Int)=some (ixL c):=by unfold M.z0y ixL;rfl
theorem zxb {c:UInt8} {n:Nat} (h:unl c=some n):ixL c=(n:Int):=by
 have:=ztc c
 rw [h] at this
 simpa using this
theorem zxa {c:UInt8} (h:unl c=none):ixL c<0:=by
 have:=ztc c
 rw [h] at this
 simpa using this
theorem zid:([65,66,67,68,69,70,71,72,73,74,75,76,77,78,79,80,81,82,83,84,85,86,87,88,89,90,97,98,99,100,101,102,103,104,105,106,107,108,109,110,111,112,113,114,115,116,117,118,119,120,121,122,48,49,50,51,52,53,54,55,56,57,45,95]:Z)=ltrs:=rfl
theorem ztf {n:Nat} (h:n<64):ix ltrs (n:Int)=some (ltr n):=by
 rw [z6k]
 unfold ltr
 rw [yag (show n<ltrs.length from h)]
 rfl
theorem zvi (c:UInt8) (s:Z):zz2 (c::s)=match unl c,zz2 s with
  | some n,some l=>some (n::l)
  | _,_=>none:=rfl
theorem drop_cons {α:Type} {s t:List α} {c:α} {i:Nat} (h:s.drop i=c::t):i<s.length∧s[i]? = some c∧s.drop (i+1)=t:=by
 have hi:i<s.length:=by
  have:=congrArg yao h
  rw [yar,yaq] at this
  omega
 rw [yz hi] at h
 injection h with h1 h2
 exact ⟨hi,by rw [yag hi,h1],h2⟩
theorem zs5 {B:List Bool} (h:8≤B.length):dec8 (B.length / 8) B=yby (bv (B.take 8))::dec8 ((B.drop 8).length / 8) (B.drop 8)∧B.drop (8*(B.length / 8))=(B.drop 8).drop (8*((B.drop 8).length / 8))∧B.length % 8=(B.drop 8).length % 8:=by
 have hl:(B.drop 8).length=B.length - 8:=yar ..
 obtain ⟨n,hn⟩:∃ n,B.length / 8=n+1:=⟨B.length / 8 - 1,by omega⟩
 have hn2:(B.drop 8).length / 8=n:=by omega
 rw [hn,hn2,dec8,yy]
 refine ⟨rfl,?_,by omega⟩
 congr 1
 omega
theorem zz01b {s:Z} (hs:s.length<100000000):∀ (t:Z) (i:Nat) (acc:Z) (p:List Bool),s.drop i=t→i≤s.length→acc.length≤i→p.length<8 →
  M.z0u s (unb acc) ((bv p:Nat):Int) ((p.length:Nat):Int) (i:Int)=some (match zz2 t with
   | none => .done ([],11)
   | some l => .go (unb (acc++dec8 ((p++z6z l).length / 8) (p++z6z l)),((bv ((p++z6z l).drop (8*((p++z6z l).length / 8))):Nat):Int),(((p++z6z l).length % 8:Nat):Int))):=by
 intro t
 induction t with
 | nil =>
  intro i acc p ht hi ha hp
  have hi2:s.length≤i:=yaa.1 ht
  have:¬((i:Int)<((unb s).length:Int)):=by rw [z1p];omega
  rw [M.z0u.eq_1]
  simp only [this,decide_false,yj,if_false]
  have e0:p.length / 8=0:=by omega
  have e1:p.length % 8=p.length:=by omega
  simp [zz2,z6z,e0,e1,dec8]
 | cons c t ih =>
  intro i acc p ht hi ha hp
  obtain ⟨hlt,hc,hd⟩:=drop_cons ht
  have h1:((i:Int)<((unb s).length:Int)):=by rw [z1p];omega
  rw [M.z0u.eq_1,zid]
  simp only [h1,decide_true,if_true,z6k,zfi,hc,yd,ya,yb,M_ixL]
  rw [zvi]
  cases hu:unl c with
  | none =>
   have:=zxa hu
   simp [this]
  | some n =>
   have hn:=(zz1 hu).1
   have hx:=zxb hu
   have hx0:¬((n:Int)<0):=by omega
   rw [hx]
   simp only [hx0,decide_false,yj,if_false]
   obtain ⟨P,hP⟩:∃ P,p++z6n 6 n=P:=⟨_,rfl⟩
   have hPl:P.length=p.length+6:=by rw [←hP,yap,z3v]
   have hPv:bv P=bv p*2 ^ 6+n:=by rw [←hP,zcm,z3v,zhh,ybo (show n<2 ^ 6 by omega)]
   have hpv:=z71 (l:=p) (k:=8) (by omega)
   have ho:orI .i64 (z5x .i64 ((bv p:Nat):Int) 6) (n:Int)=((bv P:Nat):Int):=by
    rw [hPv]
    exact zuc (i:=6) (by decide) (by omega) (by omega)
   have hw:ybx .i64 (((p.length:Nat):Int)+6)=((P.length:Nat):Int):=by rw [w64 (by omega) (by omega)];omega
   have e6:∀ l:List Nat,p++z6z (n::l)=P++z6z l:=fun l=>by rw [zgd,←yq,hP]
   rw [ho,hw,w1 (by omega)]
   by_cases h8:8≤P.length
   ·have h8':((8:Int)≤((P.length:Nat):Int)):=by omega
    have hw8:ybx .i64 (((P.length:Nat):Int) - 8)=((P.length - 8:Nat):Int):=by rw [w64 (by omega) (by omega)];omega
    have hge:(0:Int)≤((P.length - 8:Nat):Int):=by omega
    obtain ⟨hq,hr⟩:=zru P 8 h8
    have hb:=zlv (P.take 8)
    rw [yaw,ybn h8] at hb
    have hPs:=z71 (l:=P) (k:=14) (by omega)
    simp only [h8',decide_true,if_true,hw8,hge]
    rw [z2s rfl]
    simp only [yb]
    rw [zv9 (by omega),hq,zvm hb,zfj,z4f (by rw [z1p];simp [unb];omega),←z2r]
    simp only [yb]
    rw [zou (by omega),zhd (by omega) (by omega),hr]
    have hdl:(P.drop 8).length=P.length - 8:=yar ..
    rw [←hdl,ih (i+1) _ (P.drop 8) hd (by omega) (by simp;omega) (by omega)]
    cases zz2 t with
    | none=>rfl
    | some l =>
     obtain ⟨d1,d2,d3⟩:=zs5 (B:=P++z6z l) (by rw [yap];omega)
     have e8:(P++z6z l).drop 8=P.drop 8++z6z l:=yx h8
     have t8:(P++z6z l).take 8=P.take 8:=ybd h8
     simp only [e6]
     rw [d1,d2,d3,e8,t8,yq]
     rfl
   ·have h8':¬((8:Int)≤((P.length:Nat):Int)):=by omega
    simp only [h8',decide_false,yj,if_false]
    rw [ih (i+1) acc P hd (by omega) (by omega) (by omega)]
    cases zz2 t with
    | none=>rfl
    | some l=>simp only [e6]
theorem zlw:∀ l:List Bool,bv l=0↔l.all (!·)=true
 | []=>by simp [bv]
 | x::l=>by
  have:=zlw l
  rw [zlu,List.all_cons]
  have hp:0<2 ^ l.length:=ybs _
  cases x
  ·simpa using this
  ·simp
theorem za1 {s:Z} (hs:s.length<100000000):M.q0j s=some (match b64D s with|some t=>(t,0)|none=>([],11)):=by
 unfold M.q0j b64D
 rw [z2s (by simp;omega)]
 simp only [ya,yb]
 have h:=zz01b hs s 0 [] [] rfl (ybu _) (ybl _) (by decide)
 have h:M.z0u s [] 0 0 0=_:=h
 rw [h]
 cases zz2 s with
 | none=>rfl
 | some l =>
  simp only [ya5,yb]
  rw [zdp]
  have hdl:((z6z l).drop (8*(6*l.length / 8))).length=6*l.length % 8:=by rw [yar,zdp];omega
  unfold zz00k
  rw [hdl]
  obtain ⟨r,hr⟩:∃ r,(z6z l).drop (8*(6*l.length / 8))=r:=⟨_,rfl⟩
  have hz:=zlw r
  rw [hr]
  clear hdl
  generalize 6*l.length % 8=k
  by_cases h6:k<6
  ·have h6':¬((6:Int)≤(k:Int)):=by omega
   by_cases hb:bv r=0
   ·simp [h6,h6',hb,hz.1 hb,zlx]
   ·have hb':¬(((bv r:Nat):Int)=0):=by omega
    have:r.all (!·)=false:=yg.2 fun q=>hb (hz.2 q)
    simp [h6,h6',hb,hb',this]
  ·have h6':((6:Int)≤(k:Int)):=by omega
   simp [h6,h6']
theorem zz007 {l:List Bool} (h:l.length=6):zuf l=l:=by
 unfold zuf
 rw [h,Nat.sub_self,List.replicate_zero,yr]
theorem zjj {B:List Bool} (h:6≤B.length):zd9 (B.length / 6) B=ltr (bv (B.take 6))::zd9 ((B.drop 6).length / 6) (B.drop 6)∧B.drop (6*(B.length / 6))=(B.drop 6).drop (6*((B.drop 6).length / 6))∧B.length % 6=(B.drop 6).length % 6:=by
 have hl:(B.drop 6).length=B.length - 6:=yar ..
 obtain ⟨n,hn⟩:∃ n,B.length / 6=n+1:=⟨B.length / 6 - 1,by omega⟩
 have hn2:(B.drop 6).length / 6=n:=by omega
 rw [hn,hn2,zd9,yy,zz007 (by rw [yaw];omega)]
 refine ⟨rfl,?_,by omega⟩
 congr 1
 omega
theorem zz052 {p:List Bool} {c:UInt8} (hp:p.length<6):∀ (n:Nat) (R D:List Bool) (acc:Z),R.length≤n→D++R=p++z6n 8 c.toNat→acc.length+R.length<1000000000 →
  M.z2k ((bv p:Nat):Int) (c.toNat:Int) ((R.length:Nat):Int) (unb acc)=some (((R.length % 6:Nat):Int),unb (acc++zd9 (R.length / 6) R)):=by
 intro n
 have hcb:c.toNat<256:=c.toNat_lt
 have hpv:=z71 (l:=p) (k:=6) (by omega)
 have hwc:ybx .i64 (c.toNat:Int)=(c.toNat:Int):=w64 (by omega) (by omega)
 have hLv:bv (p++z6n 8 c.toNat)=bv p*2 ^ 8+c.toNat:=by rw [zcm,z3v,zhh,ybo (show c.toNat<2 ^ 8 by omega)]
 have ho:orI .i64 (z5x .i64 ((bv p:Nat):Int) 8) (c.toNat:Int)=((bv (p++z6n 8 c.toNat):Nat):Int):=by
  rw [hLv]
  exact zuc (i:=8) (by decide) (by omega) (by omega)
 induction n with
 | zero =>
  intro R D acc hn hD ha
  have h6:¬((6:Int)≤((R.length:Nat):Int)):=by omega
  have:R=[]:=List.eq_nil_of_length_eq_zero (by omega)
  subst this
  rw [M.z2k.eq_1]
  simp [zd9]
 | succ n ih =>
  intro R D acc hn hD ha
  rw [M.z2k.eq_1,zid]
  by_cases h6:6≤R.length
  ·have h6':((6:Int)≤((R.length:Nat):Int)):=by omega
   have hw6:ybx .i64 (((R.length:Nat):Int) - 6)=((R.length - 6:Nat):Int):=by rw [w64 (by omega) (by omega)];omega
   have hge:(0:Int)≤((R.length - 6:Nat):Int):=by omega
   simp only [h6',decide_true,if_true,hw6,hge,hwc,ho]
   rw [z2s rfl]
   simp only [ya,yb]
   have hRl:R.length≤p.length+8:=by
    have:=congrArg yao hD
    rw [yap,yap,z3v] at this
    omega
   have hLs:bv (p++z6n 8 c.toNat)<2 ^ 14:=z71 (by rw [yap,z3v];omega)
   have hv:bv (p++z6n 8 c.toNat) / 2 ^ (R.length - 6) % 2 ^ 6=bv (R.take 6):=by
    rw [←hD]
    have e1:D++R=D++R.take 6++R.drop 6:=by rw [yq,ybc]
    have hb:=zlv (R.take 6)
    rw [yaw,ybn h6] at hb
    have hr:=zlv (R.drop 6)
    rw [yar] at hr
    have hp0:0<2 ^ (R.length - 6):=ybs _
    rw [e1,zcm,yar,ybg,ybh _ _ hp0,ybk hr,ybt,zcm,yaw,ybn h6,ybg,ybi,ybo hb]
   have hb:=zlv (R.take 6)
   rw [yaw,ybn h6] at hb
   have hsm:bv (p++z6n 8 c.toNat) / 2 ^ (R.length - 6)≤bv (p++z6n 8 c.toNat):=Nat.div_le_self ..
   have ha6:z7w .i64 (zg5 .i64 ((bv (p++z6n 8 c.toNat):Nat):Int) ((R.length - 6:Nat):Int)) 63=((bv (R.take 6):Nat):Int):=by
    rw [zv9 (by omega),←hv]
    exact zhd (k:=6) (by decide) (by omega)
   rw [ha6,ztf hb]
   simp only [yb]
   rw [z1e (by rw [z1p];omega),zfj,←z2r]
   simp only [yb]
   have hdl:(R.drop 6).length=R.length - 6:=yar ..
   obtain ⟨d1,d2,d3⟩:=zjj h6
   rw [←hdl,ih (R.drop 6) (D++R.take 6) _ (by omega) (by rw [yq,ybc,hD]) (by simp;omega),d1,d3,yq]
   rfl
  ·have h6':¬((6:Int)≤((R.length:Nat):Int)):=by omega
   have e0:R.length / 6=0:=by omega
   have e1:R.length % 6=R.length:=by omega
   simp [h6',e0,e1,zd9]
theorem zz051 {s:Z} (hs:s.length<100000000):∀ (t:Z) (i:Nat) (acc:Z) (p:List Bool),s.drop i=t→i≤s.length→acc.length≤2*i→p.length<6 →
  M.z1y s ((bv p:Nat):Int) ((p.length:Nat):Int) (i:Int) (unb acc)=some (((bv ((p++z4u t).drop (6*((p++z4u t).length / 6))):Nat):Int),(((p++z4u t).length % 6:Nat):Int),unb (acc++zd9 ((p++z4u t).length / 6) (p++z4u t))):=by
 intro t
 induction t with
 | nil =>
  intro i acc p ht hi ha hp
  have hi2:s.length≤i:=yaa.1 ht
  have:¬((i:Int)<((unb s).length:Int)):=by rw [z1p];omega
  rw [M.z1y.eq_1]
  simp only [this,decide_false,yj,if_false]
  have e0:p.length / 6=0:=by omega
  have e1:p.length % 6=p.length:=by omega
  simp [z4u,e0,e1,zd9]
 | cons c t ih =>
  intro i acc p ht hi ha hp
  obtain ⟨hlt,hc,hd⟩:=drop_cons ht
  have h1:((i:Int)<((unb s).length:Int)):=by rw [z1p];omega
  rw [M.z1y.eq_1]
  simp only [h1,decide_true,if_true,z6k,zfi,hc,yd,ya,yb]
  obtain ⟨P,hP⟩:∃ P,p++z6n 8 c.toNat=P:=⟨_,rfl⟩
  have hPl:P.length=p.length+8:=by rw [←hP,yap,z3v]
  have hw:ybx .i64 (((p.length:Nat):Int)+8)=((P.length:Nat):Int):=by rw [w64 (by omega) (by omega)];omega
  have hk2:=zz052 (c:=c) hp P.length P [] acc (ybl _) (by rw [ya5,hP]) (by omega)
  rw [hw,hk2]
  simp only [yb]
  rw [z2s (by simp;omega)]
  simp only [yb]
  have hcb:c.toNat<256:=c.toNat_lt
  have hpv:=z71 (l:=p) (k:=6) (by omega)
  have hPv:bv P=bv p*2 ^ 8+c.toNat:=by rw [←hP,zcm,z3v,zhh,ybo (show c.toNat<2 ^ 8 by omega)]
  have hwc:ybx .i64 (c.toNat:Int)=(c.toNat:Int):=w64 (by omega) (by omega)
  have ho:orI .i64 (z5x .i64 ((bv p:Nat):Int) 8) (c.toNat:Int)=((bv P:Nat):Int):=by
   rw [hPv]
   exact zuc (i:=8) (by decide) (by omega) (by omega)
  have hPs:bv P<2 ^ 14:=z71 (by omega)
  obtain ⟨_,hr⟩:=zru P (6*(P.length / 6)) (by omega)
  have e6:P.length - 6*(P.length / 6)=P.length % 6:=by omega
  rw [e6] at hr
  rw [hwc,ho,zou (by omega),zhd (by omega) (by omega),hr,w1 (by omega)]
  have hql:(P.drop (6*(P.length / 6))).length=P.length % 6:=by rw [yar,e6]
  rw [←hql,ih (i+1) _ _ hd (by omega) (by rw [yap,zdf];omega) (by omega)]
  have eB:p++z4u (c::t)=P++z4u t:=by rw [zge,←yq,hP]
  rw [eB]
  -- one or two letters
  have key:∀ (m:Nat) (P:List Bool),P.length / 6=m→zd9 ((P++z4u t).length / 6) (P++z4u t)=zd9 m P++zd9 ((P.drop (6*m)++z4u t).length / 6) (P.drop (6*m)++z4u t)∧(P++z4u t).drop (6*((P++z4u t).length / 6))=(P.drop (6*m)++z4u t).drop (6*((P.drop (6*m)++z4u t).length / 6))∧(P++z4u t).length % 6=(P.drop (6*m)++z4u t).length % 6:=by
   intro m
   induction m with
   | zero =>
    intro P _
    simp [zd9]
   | succ m ihm =>
    intro P hm
    have h6:6≤P.length:=by omega
    obtain ⟨d1,d2,d3⟩:=zjj (B:=P++z4u t) (by rw [yap];omega)
    have e8:(P++z4u t).drop 6=P.drop 6++z4u t:=yx h6
    have t8:(P++z4u t).take 6=P.take 6:=ybd h6
    obtain ⟨k1,k2,k3⟩:=ihm (P.drop 6) (by rw [yar];omega)
    rw [yy,show 6+6*m=6*(m+1) by omega] at k1 k2 k3
    rw [d1,d2,d3,e8,t8,k1,k2,k3,zd9,zz007 (by rw [yaw];omega)]
    exact ⟨rfl,rfl,rfl⟩
  obtain ⟨k1,k2,k3⟩:=key _ P rfl
  rw [k1,k2,k3,yq]
theorem zji:∀ (n m:Nat) (B:List Bool),zd9 (n+m) B=zd9 n B++zd9 m (B.drop (6*n))
 | 0,m,B=>by simp [zd9]
 | n+1,m,B=>by
  rw [show n+1+m=(n+m)+1 by omega,zd9,zd9,zji n m,yy,show 6+6*n=6*(n+1) by omega]
  rfl
theorem zz057 (l:List Bool) (k:Nat):bv (l++ya7 k false)=bv l*2 ^ k:=by
 have:bv (ya7 k false)=0:=(zlw _).2 (zuu k)
 rw [zcm,this,yat,Nat.add_zero]
theorem zdv {s:Z} (hs:s.length<100000000):M.q0h s=some (b64E s):=by
 unfold M.q0h b64E
 rw [z2s (by simp;omega)]
 simp only [ya,yb]
 have h:=zz051 hs s 0 [] [] rfl (ybu _) (ybl _) (by decide)
 rw [ya5] at h
 have h:M.z1y s 0 0 0 []=_:=h
 rw [h]
 simp only [yb]
 rw [zdq,ya5,zid]
 obtain ⟨r,hr⟩:∃ r,(z4u s).drop (6*(8*s.length / 6))=r:=⟨_,rfl⟩
 have hrl:r.length=8*s.length % 6:=by rw [←hr,yar,zdq];omega
 rw [hr]
 by_cases h0:8*s.length % 6=0
 ·have h0':¬((0:Int)<((8*s.length % 6:Nat):Int)):=by omega
  simp only [h0',decide_false,yj,if_false]
  rw [z1r]
  have:(8*s.length+5) / 6=8*s.length / 6:=by omega
  rw [this]
  rfl
 ·have h0':((0:Int)<((8*s.length % 6:Nat):Int)):=by omega
  have hw:ybx .i64 (6 - ((8*s.length % 6:Nat):Int))=((6 - 8*s.length % 6:Nat):Int):=by rw [w64 (by omega) (by omega)];omega
  simp only [h0',decide_true,if_true,hw]
  rw [z2s (by simp)]
  simp only [yb]
  have hv:=z71 (l:=r) (k:=6) (by omega)
  have hpl:(zuf r).length=6:=by unfold zuf;rw [yap,yat];omega
  have hpv:=zlv (zuf r)
  rw [hpl] at hpv
  have hpe:bv (zuf r)=bv r*2 ^ (6 - 8*s.length % 6):=by unfold zuf;rw [zz057,hrl]
  have ha:z7w .i64 (z5x .i64 ((bv r:Nat):Int) ((6 - 8*s.length % 6:Nat):Int)) 63=((bv (zuf r):Nat):Int):=by
   rw [znj (by omega) (by rw [←hpe];omega),←hpe]
   have:=zhd (x:=bv (zuf r)) (k:=6) (by decide) (by omega)
   rw [ybo hpv] at this
   exact this
  rw [ha,ztf hpv]
  simp only [yb]
  rw [z1e (by rw [z1p,zdf];omega),zfj,←z2r]
  simp only [yb]
  rw [z1r]
  have e1:(8*s.length+5) / 6=8*s.length / 6+1:=by omega
  have e2:zd9 1 r=[ltr (bv (zuf r))]:=by
   rw [zd9,ybf (show r.length≤6 by omega)]
   rfl
  rw [e1,zji,hr,e2]
  rfl
theorem zaq {s:Z} (h:s.length<100000000):M.q0k s=some (z29 s):=by
 by_cases h8:s.length<1000000
 ·exact z6p h8
 ·unfold M.q0k z29
  rw [z9x 38 (by omega)]
  have:(decide (8192<(s.length:Int))||decide (64<((z15 38 s).length:Int)))=true:=by
   rw [yn,decide_eq_true_iff]
   exact .inl (by omega)
  rw [if_pos (show 8192<s.length∨64<(z15 38 s).length from .inl (by omega))]
  simp only [ya,yb,this,if_true]
theorem znm (x:Z):(z2f 61 (swp x)).1.length≤x.length∧(z2f 61 (swp x)).2.1.length≤x.length:=by
 have:=(z74 61 (swp x)).1
 rw [znn] at this
 omega
theorem zku {B:Nat}:∀ (l:List Z) (a:List q05),(∀ x∈l,x.length≤B)→(∀ p∈a,p.zu.length≤B∧p.z1t.length≤B)→∀ p∈(zad l a).1,p.zu.length≤B∧p.z1t.length≤B
 | [],a,_,ha=>ha
 | x::l,a,hl,ha=>by
  unfold zad
  split
  ·intro p hp;cases hp
  ·split
   ·rename_i y z h1 h2
    have hx:=hl x (by simp)
    have hc:=znm x
    have l1:=zee _ _ _ (ybl _) h1
    have l2:=zee _ _ _ (ybl _) h2
    refine zku l _ (fun x hx=>hl x (by simp [hx])) (fun p hp => ?_)
    rcases yaz.1 hp with hp|hp
    ·exact ha p hp
    ·rw [ya4] at hp
     subst hp
     exact ⟨by simp only;omega,by simp only;omega⟩
   ·intro p hp;cases hp
theorem zjt (s:Z):zha (z29 s).1∧(z29 s).1.length≤64:=by
 refine ⟨?_,zju s⟩
 unfold z29
 split
 ·intro p hp;cases hp
 ·split
  ·intro p hp;cases hp
  ·rename_i h1 h2
   intro p hp
   have:=zku (B:=8192) (z15 38 s) [] (fun x hx=>ybm (z4x 38 s x hx) (by omega)) (fun p hp=>by cases hp) p hp
   omega
def FitZ (z:Option (Jn (Bool × q00) (Z × Z))):Option (Z × Z)→Prop
 | some on=>z=some (.go on)
 | none=>∃ r,z=some (.done (false,r))
theorem zz00b:¬zv4=zv3:=by decide
theorem zz03h:¬zv4=[]:=by decide
theorem zz01c {p ws:List Z} (a:q00) (hp:p.length<100000000) (hw:ws.length=p.length):∀ (n i:Nat) (o m:Z),p.length - i=n→i≤p.length→FitZ (M.z0w p ws a (i:Int) o m) (zgp (ws.drop i) (p.drop i) o m):=by
 have e1:([79,70]:Z)=zv4:=rfl
 have e2:([78,65,77,69]:Z)=zv3:=rfl
 intro n
 induction n with
 | zero =>
  intro i o m hn hi
  have:¬((i:Int)<(p.length:Int)):=by omega
  rw [M.z0w.eq_1,yab (by omega),yab (by omega)]
  simp [this,zgp,FitZ]
 | succ n ih =>
  intro i o m hn hi
  have hlt:i<p.length:=by omega
  have hlw:i<ws.length:=by omega
  have h1:((i:Int)<(p.length:Int)):=by omega
  rw [M.z0w.eq_1,yz hlt,yz hlw,e1,e2]
  simp only [h1,decide_true,if_true,z6k,yag hlt,yag hlw,ya,yb,w1 (show i<4611686018427387904 by omega)]
  obtain ⟨w,hw'⟩:∃ w,ws[i]=w:=⟨_,rfl⟩
  obtain ⟨s,hs'⟩:∃ s,p[i]=s:=⟨_,rfl⟩
  rw [hw',hs',zgp]
  by_cases c1:w=zv4
  ·subst c1
   have q1:=zz00b
   by_cases c2:s=[]
   ·subst c2
    have q2:=zz03h
    simp [q1,q2,FitZ]
   ·simp only [c2,decide_true,decide_false,yl,yf,if_true,if_false]
    exact ih (i+1) s m (by omega) (by omega)
  ·by_cases c3:w=zv3
   ·subst c3
    simp only [c1,decide_true,decide_false,yi,yj,if_true,if_false]
    exact ih (i+1) o s (by omega) (by omega)
   ·by_cases c4:w=s
    ·subst c4
     simp only [c1,c3,decide_true,decide_false,ym,yi,yj,if_true,if_false,yb]
     exact ih (i+1) o m (by omega) (by omega)
    ·simp [c1,c3,c4,FitZ]
theorem zdh:∀ {ws ss:List Z} {o m:Z} {r:Z × Z},zgp ws ss o m=some r→ws.length=ss.length
 | [],[],_,_,_,_=>rfl
 | w::ws,s::ss,o,m,r,h=>by
  rw [zgp] at h
  have:ws.length=ss.length:=by
   split at h
   ·split at h
    ·cases h
    ·exact zdh h
   ·split at h
    ·exact zdh h
    ·split at h
     ·exact zdh h
     ·cases h
  simp [this]
 | [],_::_,_,_,_,h=>by simp [zgp] at h
 | _::_,[],_,_,_,h=>by simp [zgp] at h
def FitR (z:Option (Bool × q00)) (a:q00):Option (Z × Z)→Prop
 | some on=>z=some (true,{ a with gOf:=on.1,zu:=on.2 })
 | none=>∃ r,z=some (false,r)
theorem zcu {r:Rw} (h:zpo r) {p:List Z} (hp:p.length<100000000) (a:q00):FitR (M.q28 r.toH p a) a (zgp r.sg p a.gOf a.zu):=by
 have h1:=h.one
 have h2:=h.len
 unfold M.q28
 have hs:sub r.toH.zc5 1 (r.toH.zc5.length:Int)=some ((zrf r.sg).drop 1):=zci (l:=zrf r.sg) (a:=1) h1
 rw [hs]
 simp only [ya,yb]
 rw [z9x 47 (by rw [yar];omega),h.cut]
 simp only [yb]
 by_cases hl:r.sg.length=p.length
 ·have hl':((r.sg.length:Int)=(p.length:Int)):=by omega
  have hk:=zz01c a hp hl _ 0 a.gOf a.zu rfl (ybu _)
  rw [yad,yad] at hk
  have hk:FitZ (M.z0w p r.sg a 0 a.gOf a.zu) (zgp r.sg p a.gOf a.zu):=hk
  simp only [hl',decide_true,ym,yj,if_false]
  cases hf:zgp r.sg p a.gOf a.zu with
  | some on =>
   rw [hf] at hk
   have hk:M.z0w p r.sg a 0 a.gOf a.zu=some (.go on):=hk
   rw [hk]
   rfl
  | none =>
   rw [hf] at hk
   obtain ⟨x,hk⟩:=hk
   rw [hk]
   exact ⟨x,rfl⟩
 ·have hl':¬((r.sg.length:Int)=(p.length:Int)):=by omega
  cases hf:zgp r.sg p a.gOf a.zu with
  | some on=>exact (hl (zdh hf)).elim
  | none =>
   simp only [hl',decide_false,yl,if_true]
   exact ⟨a,rfl⟩
theorem z90 {l:List q05} (h:zha l) (k:Z):(z5a l k []).length<100000000:=by
 unfold z5a
 split
 ·rename_i p hp
  exact (h p (ya3 hp)).2
 ·simp
theorem ze1 {c:UInt8}:∀ {t:Z},(z2f c t).2.2=true→t=(z2f c t).1++c::(z2f c t).2.1
 | [],h=>by simp [cutb_nil] at h
 | x::r,h=>by
  rw [z4h] at h ⊢
  by_cases e:x=c
  ·rw [if_pos e]
   simp [e]
  ·rw [if_neg e] at h ⊢
   have:=ze1 (t:=r) h
   simp only [ys,←this]
theorem zz02q {k:Z} {c:UInt8} (hk:no c k) (t:Z):((k++[c]).isPrefixOf t=true↔(z2f c t).2.2=true∧(z2f c t).1=k)∧((z2f c t).2.2=true∧(z2f c t).1=k→t.drop (k++[c]).length=(z2f c t).2.1):=by
 constructor
 ·constructor
  ·intro h
   obtain ⟨r,rfl⟩:=yan.1 h
   rw [yq,yba,ze0 r hk]
   exact ⟨rfl,rfl⟩
  ·intro ⟨h1,h2⟩
   have:=ze1 h1
   rw [h2] at this
   exact yan.2 ⟨(z2f c t).2.1,by rw [yq,yba,←this]⟩
 ·intro ⟨h1,h2⟩
  have:=ze1 h1
  rw [h2] at this
  conv=>lhs;rw [this]
  rw [show k++c::(z2f c t).2.1=(k++[c])++(z2f c t).2.1 by simp,yac]
theorem zz04q {s:Z} (h:s.length<1000000000):M.trim s [32]=some (bare s):=zg8 (by omega) (by decide)
theorem zz06n:no 61 zvq:=fun b hb=>by
 have:zvq.all (fun b => !decide (b=61))=true:=by decide
 simpa using yp.1 this b hb
theorem zs1 {l:List Z} (hl:l.length<1000000000) (hm:∀ x∈l,x.length<1000000000):∀ (n i:Nat),l.length - i=n→i≤l.length →
  ∃ z,M.z2g l (i:Int)=some z∧(z = .done (zje (l.drop i))∨z = .go ()∧zje (l.drop i)=[]):=by
 intro n
 induction n with
 | zero =>
  intro i hn hi
  have:¬((i:Int)<(l.length:Int)):=by omega
  rw [M.z2g.eq_1,yab (by omega)]
  simp [this,zje]
 | succ n ih =>
  intro i hn hi
  have hlt:i<l.length:=by omega
  have h1:((i:Int)<(l.length:Int)):=by omega
  rw [M.z2g.eq_1,yz hlt]
  simp only [h1,decide_true,if_true,z6k,yag hlt,ya,yb]
  rw [zz04q (hm _ (yai hlt))]
  simp only [yb]
  have e:([115,101,115,115,105,111,110,61]:Z)=zvq++[61]:=rfl
  rw [e,z50,zje]
  obtain ⟨p1,p2⟩:=zz02q zz06n (bare l[i])
  simp only [yb]
  by_cases c:(z2f 61 (bare l[i])).2.2=true∧(z2f 61 (bare l[i])).1=zvq
  ·rw [if_pos (p1.2 c),if_pos c,←p2 c]
   exact ⟨_,rfl,.inl rfl⟩
  ·rw [if_neg (fun q=>c (p1.1 q)),if_neg c,w1 (by omega)]
   exact ih (i+1) (by omega) (by omega)
theorem zfz {l:List q05} (hl:l.length<100000000) (hf:zha l):M.q1c l=some (zjd l):=by
 unfold M.q1c zjd
 have hv:=z90 hf z4l
 have e:([99,111,111,107,105,101]:Z)=z4l:=rfl
 rw [e,z5l z4l (by omega)]
 simp only [ya,yb]
 rw [z9x 59 (by omega)]
 simp only [yb]
 have hs:=zch 59 (z5a l z4l [])
 obtain ⟨z,hz,hc⟩:=zs1 (l:=z15 59 (z5a l z4l [])) (by omega) (fun x hx=>by have:=z4x 59 _ x hx;omega) _ 0 rfl (ybu _)
 have hz:M.z2g (z15 59 (z5a l z4l [])) 0=some z:=hz
 rw [yad] at hc
 rw [hz]
 rcases hc with rfl|⟨rfl,hc⟩
 ·rfl
 ·rw [hc]
  rfl
theorem zjf {B:Nat}:∀ l:List Z,(∀ x∈l,x.length≤B)→(zje l).length≤B
 | [],_=>ybu _
 | x::l,h=>by
  rw [zje]
  split
  ·have h1:=(z74 61 (bare x)).1
   have h2:=zhg x
   have h3:=h x (by simp)
   omega
  ·exact zjf l fun x hx=>h x (by simp [hx])
theorem zs0 {l:List q05} (hf:zha l):(zjd l).length<100000000:=by
 have hv:=z90 hf z4l
 have:=zjf (B:=(z5a l z4l []).length) (z15 59 (z5a l z4l [])) (fun x hx=>z4x 59 _ x hx)
 unfold zjd
 omega
theorem zot:∀ m:Fin 8,((!decide ((z7w .i64 ((m.val:Nat):Int) 1)=0))=m.val.testBit 0)∧((!decide ((z7w .i64 ((m.val:Nat):Int) 2)=0))=m.val.testBit 1)∧((!decide ((z7w .i64 ((m.val:Nat):Int) 4)=0))=m.val.testBit 2):=by decide +kernel
def zd6 (z:Option (Rb q00 q00)):Option q00→Prop
 | some a=>z=some (.ok a)
 | none=>∃ a,z=some (.pan 227 a)
theorem zgi (c:UInt8):∀ s:Z,Lib.contains s [c]=s.contains c
 | []=>by unfold Lib.contains;simp [Lib.index]
 | x::r=>by
  have ih:=zgi c r
  unfold Lib.contains at ih ⊢
  rw [z3l]
  have hge:=Lib.index_ge r [c]
  by_cases h:x=c
  ·simp [h]
  ·have h':¬c=x:=fun q=>h q.symm
   rw [if_neg h,List.contains_cons,←ih]
   have:(c==x)=false:=by simpa using h'
   rw [this,Bool.false_or]
   by_cases hm:Lib.index r [c] = -1
   ·simp [hm]
   ·rw [if_neg hm,yh,decide_eq_true_iff,decide_eq_true_iff]
    omega
theorem zz00p {s:Z} (h:s.length<100000000):M.contains s [34]=some (s.contains 34):=by
 unfold M.contains
 rw [z2s (by simp;omega),zgi]
 rfl
theorem zz058 (c:UInt8):decide ((c.toNat:Int)=34)=decide (c=34):=by
 have:((c.toNat:Int)=34)↔c=34:=⟨fun e=>UInt8.toNat_inj.1 (by have:(34:UInt8).toNat=34:=rfl;omega),fun e=>by rw [e];rfl⟩
 rw [yh,decide_eq_true_iff,decide_eq_true_iff,this]
theorem zz01y {s:Z} (h:2≤s.length) (hs:s.length<100000000):ix s (ybx .i64 ((s.length:Int) - 1))=s.getLast?:=by
 have e:ybx .i64 ((s.length:Int) - 1)=((s.length - 1:Nat):Int):=by rw [w64 (by omega) (by omega)];omega
 rw [e,z6k,yaj]
theorem get_some {s:Z} {i:Nat} (h:i<s.length):∃ c,s[i]? = some c:=⟨_,yag h⟩
theorem zn8 {s:Z} (h:2≤s.length):∃ a b,s.head? = some a∧s.getLast? = some b∧quoted s=(decide (a=34)&&decide (b=34)):=by
 obtain ⟨a,ha⟩:=get_some (s:=s) (i:=0) (by omega)
 obtain ⟨b,hb⟩:=get_some (s:=s) (i:=s.length - 1) (by omega)
 have h1:s.head? = some a:=by rw [yal,ha]
 have h2:s.getLast? = some b:=by rw [yaj,hb]
 refine ⟨a,b,h1,h2,?_⟩
 unfold quoted
 rw [h1,h2]
 simp [h]
theorem zl3 {s:Z} (h:¬2≤s.length):quoted s=false:=by
 unfold quoted
 simp [h]
theorem zz03y {s:Z} (h:2≤s.length) (hs:s.length<100000000):sub s 1 (ybx .i64 ((s.length:Int) - 1))=some (unq s):=by
 have e:ybx .i64 ((s.length:Int) - 1)=((s.length - 1:Nat):Int):=by rw [w64 (by omega) (by omega)];omega
 rw [e]
 exact zyy (l:=s) (a:=1) (b:=s.length - 1) (by omega) (by omega)
theorem zz03x (s:Z):(unq s).length≤s.length:=by
 unfold unq
 rw [yar,yaw]
 omega
def JA {α:Type} (A:Option (Jn (Rb q00 q00) α)):Option α→Prop
 | some s=>A=some (.go s)
 | none=>∃ a,A=some (.done (.pan 227 a))
theorem zd6.seq {α:Type} {A:Option (Jn (Rb q00 q00) α)} {K:Jn (Rb q00 q00) α→Option (Rb q00 q00)} {x:Option α} {y:α→Option q00} (hA:JA A x) (hd:∀ r,K (.done r)=some r) (hg:∀ s,x=some s→zd6 (K (.go s)) (y s)):zd6 (A.bind K) (x.bind y):=by
 cases x with
 | none =>
  obtain ⟨a,hA⟩:=hA
  rw [hA]
  exact ⟨a,hd _⟩
 | some s =>
  have hA:A=some (.go s):=hA
  rw [hA]
  exact hg s rfl
theorem zwz (m:Nat) (l:List q05) (k:Int) (o n:Z):zsy m l k o n=(sesP m l).bind fun s=>(tokP m l).bind fun t=>(tagP m l).bind fun g=>some ⟨k,o,[],[],s,[],t,[],[],[],[],[],[],[],[],[],n,[],[],[],g,[],[],[],0,0⟩:=by
 unfold zsy
 cases sesP m l<;>cases tokP m l<;>cases tagP m l<;>rfl
theorem zk5 {r:Rw} (hr:zpo r) {l:List q05} (hl:l.length<100000000) (hf:zha l) (k:Int) (o n:Z):zd6 (M.q2b r.toH l (A0 k o n)) (zsy r.mr l k o n):=by
 obtain ⟨m1,m2,m3⟩:=zot ⟨r.mr,hr.mkl⟩
 simp only at m1 m2 m3
 have m1:(!decide ((z7w .i64 r.toH.z63 1)=0))=r.mr.testBit 0:=m1
 have m2:(!decide ((z7w .i64 r.toH.z63 2)=0))=r.mr.testBit 1:=m2
 have m3:(!decide ((z7w .i64 r.toH.z63 4)=0))=r.mr.testBit 2:=m3
 have e1:([97,117,116,104,111,114,105,122,97,116,105,111,110]:Z)=z9e:=rfl
 have e2:([66,101,97,114,101,114,32]:Z)=zg0:=rfl
 have e3:([105,102,45,109,97,116,99,104]:Z)=kIf:=rfl
 have e4:([65,66,67,68,69,70,71,72,73,74,75,76,77,78,79,80,81,82,83,84,85,86,87,88,89,90,97,98,99,100,101,102,103,104,105,106,107,108,109,110,111,112,113,114,115,116,117,118,119,120,121,122,48,49,50,51,52,53,54,55,56,57,45,95]:Z)=sesB:=rfl
 have hv1:=z90 hf z9e
 have hv2:=z90 hf kIf
 have hck:=zs0 hf
 obtain ⟨t,ht1,ht2⟩:=M_ses (s:=zjd l) (by omega)
 unfold M.q2b
 simp only [m1,m2,m3,e1,e2,e3,e4,zfz hl hf,z5l z9e (show l.length<1000000000 by omega),z5l kIf (show l.length<1000000000 by omega),ya,yb,ht1,ht2]
 rw [zwz]
 refine zd6.seq ?_ (fun _=>rfl) fun s hs => ?_
 ·unfold sesP
  cases r.mr.testBit 0 with
  | false=>rfl
  | true =>
   cases hp:zp7 (zjd l) with
   | false =>
    simp only [if_true,zy,yb,yj,if_false]
    exact ⟨_,rfl⟩
   | true=>rfl
 obtain ⟨v,hv⟩:∃ v,z5a l z9e []=v:=⟨_,rfl⟩
 obtain ⟨u,hu⟩:∃ u,z5a l kIf []=u:=⟨_,rfl⟩
 rw [hv] at hv1
 rw [hu] at hv2
 simp only [hv,hu]
 have hcp:=z50 v zg0
 have hon:M.q1x (v.drop 7) 33 126=some (z7m 33 126 (v.drop 7)):=z65 33 126 (by rw [yar];omega)
 have e7:zg0.length=7:=rfl
 refine zd6.seq ?_ (fun _=>rfl) fun t ht => ?_
 ·unfold tokP
  rw [hv]
  by_cases c:r.mr.testBit 1=true∧zgs l z9e=true
  ·have cb:(zgs l z9e&&r.mr.testBit 1)=true:=by simp [c]
   rw [if_pos c]
   simp only [cb,if_true,hcp,yb]
   by_cases c2:zg0.isPrefixOf v=true
   ·simp only [c2,if_true,e7,hon,yb,true_and]
    cases q:z7m 33 126 (v.drop 7) with
    | false =>
     simp only [zy,yb,yj,if_false]
     exact ⟨_,rfl⟩
    | true =>
     simp only [z0g,yb,if_true]
     rfl
   ·simp only [c2,yj,if_false,yb,zy,false_and]
    exact ⟨_,rfl⟩
  ·have cb:(zgs l z9e&&r.mr.testBit 1)=false:=by
    cases h1:zgs l z9e with
    | false=>rfl
    | true =>
     cases h2:r.mr.testBit 1 with
     | false=>rfl
     | true=>exact (c ⟨h2,h1⟩).elim
   rw [if_neg c]
   simp only [cb,yj,if_false]
   rfl
 by_cases c:r.mr.testBit 2=true∧zgs l kIf=true
 ·have cb:(zgs l kIf&&r.mr.testBit 2)=true:=by simp [c]
  have etg:tagP r.mr l=if quoted u=true∧tagOk (unq u)=true then some (unq u) else none:=by
   unfold tagP
   rw [if_pos c,hu]
  rw [etg]
  simp only [cb,if_true]
  by_cases c2:2≤u.length
  ·have c2':((2:Int)≤(u.length:Int)):=by omega
   obtain ⟨x,y,hx,hy,hq⟩:=zn8 c2
   have h0:ix u 0=some x:=by rw [zxc,←yal,hx]
   simp only [c2',decide_true,if_true,h0,zz01y c2 hv2,hy,yb,zz058]
   rw [hq]
   by_cases cx:x=34
   ·by_cases cy:y=34
    ·have hun:=zz03x u
     simp only [cx,cy,decide_true,if_true,yb,z0g,zz03y c2 hv2,yf,true_and]
     have hon2:M.q1x (unq u) 33 126=some (z7m 33 126 (unq u)):=z65 33 126 (by omega)
     rw [hon2]
     simp only [yb]
     unfold tagOk
     cases h1:z7m 33 126 (unq u) with
     | false =>
      simp only [yj,if_false,yb,zy,yi]
      exact ⟨_,rfl⟩
     | true =>
      simp only [if_true,zz00p (show (unq u).length<100000000 by omega),yb,yo]
      cases h2:(unq u).contains 34 with
      | true =>
       simp only [ym,zy,yb,yj,if_false]
       exact ⟨_,rfl⟩
      | false =>
       simp only [yl,z0g,yb,if_true]
       rfl
    ·simp only [cx,cy,decide_true,decide_false,if_true,yb,zy,Bool.and_false,yj,false_and,if_false]
     exact ⟨_,rfl⟩
   ·simp only [cx,decide_false,yj,if_false,yb,zy,yi,false_and]
    exact ⟨_,rfl⟩
  ·have c2':¬((2:Int)≤(u.length:Int)):=by omega
   rw [zl3 c2]
   simp only [c2',decide_false,yj,if_false,yb,zy,false_and]
   exact ⟨_,rfl⟩
 ·have cb:(zgs l kIf&&r.mr.testBit 2)=false:=by
   cases h1:zgs l kIf with
   | false=>rfl
   | true =>
    cases h2:r.mr.testBit 2 with
    | false=>rfl
    | true=>exact (c ⟨h2,h1⟩).elim
  have etg:tagP r.mr l=some []:=by
   unfold tagP
   rw [if_neg c]
  rw [etg]
  simp only [cb,yj,if_false]
  rfl
theorem zz01l {ps:List Pt} (p:q05) (hl:ps.length<1000):∀ (n i:Nat),ps.length - i=n→i≤ps.length →
  ∃ z,M.zg (ps.map Pt.toH) p (i:Int)=some z∧((∃ j:Nat,z = .done (j:Int)∧z9p (ps.drop i) p.zu=true)∨(z = .go ()∧z9p (ps.drop i) p.zu=false)):=by
 intro n
 induction n with
 | zero =>
  intro i hn hi
  have:¬((i:Int)<((ps.map Pt.toH).length:Int)):=by rw [yas];omega
  rw [M.zg.eq_1,yab (by omega)]
  simp only [this,decide_false,yj,if_false]
  exact ⟨_,rfl,.inr ⟨rfl,rfl⟩⟩
 | succ n ih =>
  intro i hn hi
  have hlt:i<ps.length:=by omega
  have h1:((i:Int)<((ps.map Pt.toH).length:Int)):=by rw [yas];omega
  rw [M.zg.eq_1,yz hlt]
  simp only [h1,decide_true,if_true,z6k,yah,yag hlt,yd,ya,yb,M.q2a]
  have en:(Pt.toH ps[i]).zc4=ps[i].nm:=by cases ps[i]<;>rfl
  have ek:z9p (ps[i]::ps.drop (i+1)) p.zu=(decide (ps[i].nm=p.zu)||z9p (ps.drop (i+1)) p.zu):=by unfold z9p;rw [List.any_cons]
  rw [en,ek]
  by_cases c:ps[i].nm=p.zu
  ·simp only [c,decide_true,if_true,Bool.true_or]
   exact ⟨_,rfl,.inl ⟨i,rfl,trivial⟩⟩
  ·simp only [c,decide_false,yj,if_false,Bool.false_or]
   rw [w1 (by omega)]
   exact ih (i+1) (by omega) (by omega)
theorem zxh {ps:List Pt} (p:q05) (hl:ps.length<1000):M.q6q (ps.map Pt.toH) p=some (z9p ps p.zu):=by
 unfold M.q6q M.q6v
 obtain ⟨z,hz,hc⟩:=zz01l p hl _ 0 rfl (ybu _)
 have hz:M.zg (ps.map Pt.toH) p 0=some z:=hz
 rw [yad] at hc
 rw [hz]
 rcases hc with ⟨j,rfl,hk⟩|⟨rfl,hk⟩
 ·have:(0:Int)≤(j:Int):=by omega
  simp [hk,this]
 ·simp [hk]
theorem zx3 {l:List q05} {r:Rw} (hr:zpo r) (a:q00) (hl:l.length<100000000):∀ (n i:Nat),l.length - i=n→i≤l.length →
  M.z1s l r.toH a (i:Int)=some (if (l.drop i).all (fun p=>decide (zj1 l p.zu=1)&&z9p r.ps p.zu)=true then .go () else .done (.pan 227 a)):=by
 intro n
 induction n with
 | zero =>
  intro i hn hi
  have:¬((i:Int)<(l.length:Int)):=by omega
  rw [M.z1s.eq_1,yab (by omega)]
  simp [this]
 | succ n ih =>
  intro i hn hi
  have hlt:i<l.length:=by omega
  have h1:((i:Int)<(l.length:Int)):=by omega
  have hk:M.q6q r.toH.z1h l[i]=some (z9p r.ps l[i].zu):=zxh l[i] (by have:=hr.psl;omega)
  rw [M.z1s.eq_1,yz hlt,List.all_cons]
  simp only [h1,decide_true,if_true,z6k,yag hlt,ya,yb]
  rw [zco _ (by omega)]
  simp only [yb,hk]
  by_cases c:zj1 l l[i].zu=1
  ·have c':(((zj1 l l[i].zu:Nat):Int)=1):=by omega
   simp only [c,c',decide_true,if_true,yb,yo]
   cases hkn:z9p r.ps l[i].zu with
   | false=>simp [zy]
   | true =>
    simp only [z0g,yb,yo]
    rw [w1 (by omega)]
    exact ih (i+1) (by omega) (by omega)
  ·have c':¬(((zj1 l l[i].zu:Nat):Int)=1):=by omega
   simp [c,c',zy]
theorem z6r {t:Nat × Nat × Z} {P:Nat × Nat × Z→Prop} (h:t∈zb2) (h1:P zwn) (h2:P zsj) (h3:P zwk) (h4:P ze7) (h5:P zsh) (h6:P z7d) (h7:P z8b) (h8:P zb0) (h9:P zgo) (h10:P zaz) (h11:P zc1) (h12:P ze8) (h13:P zsi) (h14:P zwm) (h15:P zwl) (h16:P fBody) (h17:P fSig) (h18:P zm9):P t:=by
 unfold zb2 at h
 simp only [ya0,ya6,or_false] at h
 rcases h with h|h|h|h|h|h|h|h|h|h|h|h|h|h|h|h|h|h<;>rw [h]<;>assumption
theorem zsm {t:Nat × Nat × Z} (h:t∈zb2) (a:q00):M.q0q t.2.1 a=some t.1 :=
 z6r (P:=fun t=>M.q0q t.2.1 a=some t.1) h rfl rfl rfl rfl rfl rfl rfl rfl rfl rfl rfl rfl rfl rfl rfl rfl rfl rfl
theorem zsn {t:Nat × Nat × Z} (h:t∈zb2) (a:q00) (v:Z):a.setAt t.1 v=some (setS a t.1 v) :=
 z6r (P:=fun t=>a.setAt t.1 v=some (setS a t.1 v)) h rfl rfl rfl rfl rfl rfl rfl rfl rfl rfl rfl rfl rfl rfl rfl rfl rfl rfl
theorem zzq {t:Nat × Nat × Z} (h:t∈zb2):ybj t.2.1 NF=false :=
 z6r (P:=fun t=>ybj t.2.1 NF=false) h rfl rfl rfl rfl rfl rfl rfl rfl rfl rfl rfl rfl rfl rfl rfl rfl rfl rfl
theorem zul {t:Nat × Nat × Z} {n:Z} {w:Bool} (h:(Pt.st n t w).okB=true):t∈zb2:=by
 unfold Pt.okB at h
 simpa using h
theorem zx4 {l:List q05} {r:Rw} (hr:zpo r) (hl:l.length<100000000) (hf:zha l):∀ (n i:Nat) (a:q00),r.ps.length - i=n→i≤r.ps.length→zd6 (M.z0i r.toH l (i:Int) a) (putL l (r.ps.drop i) a):=by
 have hpl:=hr.psl
 have hgl:r.toH.z1h.length=r.ps.length:=yas ..
 have n24:¬((1000000:Nat)=24):=by decide
 have n25:¬((1000000:Nat)=25):=by decide
 intro n
 induction n with
 | zero =>
  intro i a hn hi
  have:¬((i:Int)<(r.toH.z1h.length:Int)):=by rw [hgl];omega
  rw [M.z0i.eq_1,yab (by omega)]
  simp [this,putL,zd6]
 | succ n ih =>
  intro i a hn hi
  have hlt:i<r.ps.length:=by omega
  have h1:((i:Int)<(r.toH.z1h.length:Int)):=by rw [hgl];omega
  have hx:ix r.toH.z1h (i:Int)=some (Pt.toH r.ps[i]):=by
   rw [z6k]
   show (r.ps.map Pt.toH)[i]? = _
   rw [yah,yag hlt]
   rfl
  have hok:=hr.ps _ (yai hlt)
  rw [M.z0i.eq_1,yz hlt,putL]
  simp only [h1,decide_true,if_true,hx,ya,yb]
  obtain ⟨p,hp⟩:∃ p,r.ps[i]=p:=⟨_,rfl⟩
  rw [hp] at hok ⊢
  rw [z5l _ (by omega),w1 (by omega)]
  simp only [yb]
  cases p with
  | fx nm v =>
   have hv:¬v=[78]:=by unfold Pt.okB at hok;simpa using hok
   have hc:M.q2p (Pt.toH (.fx nm v)) a=some 1000000:=by
    unfold M.q2p Pt.toH
    simp [hv]
   have hnf:ybj (Pt.toH (.fx nm v)).z4e NF=true:=show ybj NF NF=true by decide
   have hfx:(Pt.toH (.fx nm v)).z9g=v:=rfl
   have hnm:(Pt.toH (.fx nm v)).zc4=nm:=rfl
   simp only [hc,yb,n24,n25,hnf,hfx,hnm,if_true,if_false]
   have ep:putP l a (.fx nm v)=if zgs l nm=true∧z5a l nm []=v then some a else none:=rfl
   rw [ep]
   by_cases c:zgs l nm=true∧z5a l nm []=v
   ·rw [if_pos c]
    have cb:(zgs l nm&&decide (z5a l nm []=v))=true:=by simp [c]
    simp only [cb,z0g,yb]
    exact ih (i+1) a (by omega) (by omega)
   ·rw [if_neg c]
    have cb:(zgs l nm&&decide (z5a l nm []=v))=false:=by
     cases h1:zgs l nm with
     | false=>rfl
     | true=>simpa using fun q=>c ⟨h1,q⟩
    simp only [cb,zy,yb]
    exact ⟨a,rfl⟩
  | st nm t w =>
   have ht:=zul hok
   have hc:M.q2p (Pt.toH (.st nm t w)) a=some 1000000:=by
    unfold M.q2p Pt.toH
    simp
   have hnf:ybj (Pt.toH (.st nm t w)).z4e NF=false:=zzq ht
   have hd:∀ a,M.q0q (Pt.toH (.st nm t w)).z4e a=some t.1:=fun a=>zsm ht a
   have hw:(Pt.toH (.st nm t w)).zi0=w:=rfl
   have hnm:(Pt.toH (.st nm t w)).zc4=nm:=rfl
   simp only [hc,yb,n24,n25,hnf,hw,hnm,hd,yj,if_true,if_false]
   have ep:putP l a (.st nm t w)=if w=true then (b64D (z5a l nm [])).map (setS a t.1) else some (setS a t.1 (z5a l nm [])):=rfl
   rw [ep]
   have hv:=z90 hf nm
   cases w with
   | false =>
    simp only [yj,if_false,zsn ht,yb]
    exact ih (i+1) _ (by omega) (by omega)
   | true =>
    simp only [if_true,za1 (show (z5a l nm []).length<100000000 by omega),yb]
    cases hb:b64D (z5a l nm []) with
    | none =>
     simp only [Option.map_none,Option.bind_none]
     exact ⟨a,by simp [zy]⟩
    | some v =>
     simp only [decide_true,z0g,yb,zsn ht,yd]
     exact ih (i+1) _ (by omega) (by omega)
  | cn nm c =>
   have hok':(nm=[99,111,117,110,116])=(c=true):=of_decide_eq_true hok
   have hnm:(Pt.toH (.cn nm c)).zc4=nm:=rfl
   have hfx:(Pt.toH (.cn nm c)).z9g=[78]:=rfl
   have hv:=z90 hf nm
   obtain ⟨x,hx1,hx2⟩:=z9k (s:=z5a l nm []) 9 (by decide) (by omega)
   have hx1:M.q1t (z5a l nm []) 9=some (x,isNum 9 (z5a l nm [])):=hx1
   have ep:putP l a (.cn nm c)=if z5a l nm []=[] then some a else if isNum 9 (z5a l nm [])=true then some (setC a c ((zas 0 (z5a l nm []):Nat):Int)) else none:=rfl
   rw [ep]
   have n54:¬((25:Nat)=24):=by decide
   have hc:M.q2p (Pt.toH (.cn nm c)) a=some (if c=true then 25 else 24):=by
    unfold M.q2p
    simp only [hfx,hnm,hok',decide_true,ym,yj,if_false]
    cases c<;>rfl
   simp only [hc,yb,hnm]
   by_cases he:z5a l nm []=[]
   ·rw [if_pos he]
    have:=ih (i+1) a (by omega) (by omega)
    cases c with
    | true =>
     simp only [he,if_true,n54,if_false,decide_true,ym,yj]
     exact this
    | false =>
     simp only [he,if_true,if_false,decide_true,ym,yj]
     exact this
   ·rw [if_neg he]
    cases hn9:isNum 9 (z5a l nm []) with
    | false =>
     rw [hn9] at hx1
     cases c with
     | true =>
      simp only [he,if_true,n54,if_false,decide_false,yl,yj,hx1,yb,zy]
      exact ⟨_,rfl⟩
     | false =>
      simp only [he,if_true,if_false,decide_false,yl,yj,hx1,yb,zy]
      exact ⟨_,rfl⟩
    | true =>
     rw [hn9,hx2 hn9] at hx1
     have:=ih (i+1) (setC a c ((zas 0 (z5a l nm []):Nat):Int)) (by omega) (by omega)
     cases c with
     | true =>
      simp only [he,if_true,n54,if_false,decide_false,yl,yj,hx1,yb,z0g]
      exact this
     | false =>
      simp only [he,if_true,if_false,decide_false,yl,yj,hx1,yb,z0g]
      exact this
theorem zcv {l:List q05} {r:Rw} (hr:zpo r) (hl:l.length<100000000) (hf:zha l) (a:q00):zd6 (M.q29 r.toH l a) (zwu r.ps l a):=by
 unfold M.q29
 have h1:=zx3 hr a hl _ 0 rfl (ybu _)
 rw [yad] at h1
 have h1:M.z1s l r.toH a 0=some (if zn3 r.ps l=true then .go () else .done (.pan 227 a)):=h1
 have h2:=zx4 hr hl hf _ 0 a rfl (ybu _)
 rw [yad] at h2
 have h2:zd6 (M.z0i r.toH l 0 a) (putL l r.ps a):=h2
 rw [h1]
 unfold zwu
 cases zn3 r.ps l with
 | true=>exact h2
 | false=>exact ⟨a,rfl⟩
def AskZ (z:Option (q00 × Int)):Option q00→Prop
 | some a=>z=some (a,0)
 | none=>∃ a,z=some (a,227)
theorem zd6.ask {z:Option (Rb q00 q00)} {x:Option q00} (h:zd6 z x):AskZ (z.bind fun a22=>(match a22 with
  | .pan e25 p26=>some (p26,e25)
  | .ok a24=>some (a24,0):Option (q00 × Int))) x:=by
 cases x with
 | some a =>
  have h:z=some (.ok a):=h
  rw [h]
  rfl
 | none =>
  obtain ⟨a,h⟩:=h
  rw [h]
  exact ⟨a,rfl⟩
theorem zxx (s:Z):SzJ (parse s).1∧Chk (parse s).1:=by
 refine ⟨zxy s,?_⟩
 rcases zn2 s with ⟨x,hx,hc⟩|⟨c,hx,_⟩
 ·rw [hx]
  exact ⟨0,hc⟩
 ·rw [hx]
  exact ⟨0,zp1 0⟩
theorem zk6 {s:Z} {f:Nat} (hf:34≤f) (a:q00):AskZ ((M.q35 f s).bind fun a38=>(M.q34 a38.1 [105,100]).bind fun a40=>(M.q34 a38.1 [102,105,101,108,100,115]).bind fun a42=>(M.q1m a42.1).bind fun a44 =>
  (M.q1p ((((((decide (a38.2=0))&&(decide ((a38.1.zk.length:Int)=2)))&&a40.2)&&a42.2)&&(decide (a40.1.zh=4)))&&a44.2) 227).bind fun a56=>(match a56 with
   | .pan e59=>some (a,e59)
   | .ok a58=>some ({ a with zu:=a40.1.z06,zi:=a44.1 },0):Option (q00 × Int))) (jsonA s a):=by
 obtain ⟨h1,h2⟩:=zxx s
 have e1:([105,100]:Z)=kId:=rfl
 have e2:([102,105,101,108,100,115]:Z)=z3n:=rfl
 have hp:=h1.parts
 rw [zb9 s hf,e1,e2]
 simp only [yb]
 rw [z9l (by omega),z9l (by omega)]
 simp only [yb]
 rw [zxm (h1.zca z3n) (h2.zca z3n).keys]
 simp only [yb]
 unfold jsonA
 by_cases c:(parse s).2=0∧(parse s).1.zk.length=2∧(zca (parse s).1 kId).2=true∧(zca (parse s).1 z3n).2=true∧(zca (parse s).1 kId).1.zh=4∧(zgy (zca (parse s).1 z3n).1).2=true
 ·rw [if_pos c]
  obtain ⟨c1,c2,c3,c4,c5,c6⟩:=c
  have c2':(((parse s).1.zk.length:Int)=2):=by omega
  simp only [c1,c2',c3,c4,c5,c6,decide_true,yf,z0g,yb]
  rfl
 ·rw [if_neg c]
  have:((((((decide ((parse s).2=0))&&(decide (((parse s).1.zk.length:Int)=2)))&&(zca (parse s).1 kId).2)&&(zca (parse s).1 z3n).2)&&(decide ((zca (parse s).1 kId).1.zh=4)))&&(zgy (zca (parse s).1 z3n).1).2)=false:=by
   apply yg.2
   intro q
   simp only [ye,decide_eq_true_eq] at q
   obtain ⟨⟨⟨⟨⟨q1,q2⟩,q3⟩,q4⟩,q5⟩,q6⟩:=q
   exact c ⟨q1,by omega,q3,q4,q5,q6⟩
  simp only [this,zy,yb]
  exact ⟨a,rfl⟩
theorem zpk {r:Rw} (h:zpo r):r.wh=0∨r.wh=1∨r.wh=2∨r.wh=3∨r.wh=4:=by
 have:=h.whl
 omega
theorem zme {r:Rw} (hr:zpo r) {q:q03} (hq:fit q) {f:Nat} (hf:34≤f) {on:Z × Z} (hfit:zgp r.sg q.z05 [] []=some on):AskZ (M.q26 f r.toH q) (askR r q on.1 on.2):=by
 obtain ⟨_,f2,_,f4,f5,f6,f7,f8⟩:=hq
 unfold M.q26
 have h1:=zcu hr (p:=q.z05) f2 (A0 r.kd [] [])
 have e1:zgp r.sg q.z05 (A0 r.kd [] []).gOf (A0 r.kd [] []).zu=some on:=hfit
 rw [e1] at h1
 have h1:M.q28 r.toH q.z05 (A0 r.kd [] [])=some (true,A0 r.kd on.1 on.2):=h1
 unfold A0 at h1
 have h1:M.q28 r.toH q.z05 ⟨r.toH.zhz,[],[],[],[],[],[],[],[],[],[],[],[],[],[],[],[],[],[],[],[],[],[],[],0,0⟩=_:=h1
 rw [h1]
 simp only [ya,yb]
 have h2:=zk5 hr (l:=q.z0j) f6 f7 r.kd on.1 on.2
 unfold A0 at h2
 unfold askR
 cases hh:zsy r.mr q.z0j r.kd on.1 on.2 with
 | none =>
  rw [hh] at h2
  obtain ⟨a,h2⟩:=h2
  rw [h2]
  exact ⟨a,rfl⟩
 | some a =>
  rw [hh] at h2
  have h2:M.q2b r.toH q.z0j _=some (.ok a):=h2
  rw [h2]
  simp only [yb]
  have ew:r.toH.z2o=(r.wh:Int):=rfl
  have eq0:(((q.z0p.length:Int)=0))↔q.z0p=[]:=by
   rw [←List.length_eq_zero_iff]
   omega
  have hmust:(decide (r.toH.z2o=2)||decide ((q.z0p.length:Int)=0))=decide (r.wh=2∨q.z0p=[]):=by
   rw [ew,yh,yn,decide_eq_true_iff,decide_eq_true_iff,decide_eq_true_iff,eq0]
   constructor
   ·rintro (h|h)
    ·exact .inl (by omega)
    ·exact .inr h
   ·rintro (h|h)
    ·exact .inl (by omega)
    ·exact .inr h
  rw [hmust]
  by_cases c:r.wh=2∨q.z0p=[]
  ·rw [if_pos c]
   simp only [c,decide_true,z0g,yb]
   unfold bodyA
   rcases zpk hr with w|w|w|w|w
   ·have ew0:r.toH.z2o=0:=by rw [ew,w];rfl
    simp only [ew0,w,decide_true,if_true]
    by_cases cb:q.zt=[]
    ·simp only [cb,decide_true,z0g,yb,if_true]
     rfl
    ·simp only [cb,decide_false,zy,yb,if_false]
     exact ⟨a,rfl⟩
   ·have ew0:r.toH.z2o=1:=by rw [ew,w];rfl
    have n0:¬((1:Int)=0):=by decide
    have n2:¬((1:Int)=2):=by decide
    simp only [ew0,w,n0,n2,decide_false,yj,if_false,decide_true,if_true]
    rw [zaq (by omega)]
    simp only [yb]
    obtain ⟨ff1,ff2⟩:=zjt q.zt
    by_cases cb:(z29 q.zt).2=0
    ·simp only [cb,decide_true,z0g,yb,if_true]
     exact (zcv hr (by omega) ff1 a).ask
    ·simp only [cb,decide_false,zy,yb,if_false]
     exact ⟨a,rfl⟩
   ·have ew0:r.toH.z2o=2:=by rw [ew,w];rfl
    have n0:¬((2:Int)=0):=by decide
    simp only [ew0,w,n0,decide_false,yj,if_false,decide_true,if_true]
    by_cases cb:q.zt=[]
    ·simp only [cb,decide_true,z0g,yb,if_true]
     exact (zcv hr f4 f5 a).ask
    ·simp only [cb,decide_false,zy,yb,if_false]
     exact ⟨a,rfl⟩
   ·have ew0:r.toH.z2o=3:=by rw [ew,w];rfl
    have n0:¬((3:Int)=0):=by decide
    have n1:¬((3:Int)=1):=by decide
    have n2:¬((3:Int)=2):=by decide
    have n4:¬((3:Int)=4):=by decide
    simp only [ew0,w,n0,n1,n2,n4,decide_false,yj,if_false,decide_true,if_true]
    exact zk6 hf a
   ·have ew0:r.toH.z2o=4:=by rw [ew,w];rfl
    have n0:¬((4:Int)=0):=by decide
    have n1:¬((4:Int)=1):=by decide
    have n2:¬((4:Int)=2):=by decide
    simp only [ew0,w,n0,n1,n2,decide_false,yj,if_false,decide_true,if_true]
    rfl
  ·rw [if_neg c]
   simp only [c,decide_false,zy,yb]
   exact ⟨a,rfl⟩
theorem zz04x {L:List Rw} (hL:∀ r∈L,zpo r) (hl:L.length<1000) {q:q03} (hq:fit q) {f:Nat} (hf:34≤f):∀ (n i:Nat) (e:Int),L.length - i=n→i≤L.length→¬e=0 →
  ∃ z,M.z2m (L.map Rw.toH) q f e (i:Int)=some z∧((∃ a,askL q (L.drop i) e=(a,0)∧z = .done (a,0))∨∃ e',¬e'=0∧askL q (L.drop i) e=(zA,e')∧z = .go e'):=by
 intro n
 induction n with
 | zero =>
  intro i e hn hi he
  have:¬((i:Int)<((L.map Rw.toH).length:Int)):=by rw [yas];omega
  rw [M.z2m.eq_1,yab (by omega)]
  simp only [this,decide_false,yj,if_false]
  exact ⟨_,rfl,.inr ⟨e,he,rfl,rfl⟩⟩
 | succ n ih =>
  intro i e hn hi he
  have hlt:i<L.length:=by omega
  have h1:((i:Int)<((L.map Rw.toH).length:Int)):=by rw [yas];omega
  have hr:=hL _ (yai hlt)
  rw [M.z2m.eq_1,yz hlt,askL]
  simp only [h1,decide_true,if_true,z6k,yah,yag hlt,yd,ya,yb]
  rw [w1 (by omega)]
  have hfi:=zcu hr (p:=q.z05) hq.2.1 (A0 0 [] [])
  cases hon:zgp L[i].sg q.z05 [] [] with
  | none =>
   have e1:zgp L[i].sg q.z05 (A0 0 [] []).gOf (A0 0 [] []).zu=none:=hon
   rw [e1] at hfi
   obtain ⟨x,hfi⟩:=hfi
   unfold A0 at hfi
   rw [hfi]
   simp only [yb,yl,if_true]
   exact ih (i+1) e (by omega) (by omega) he
  | some on =>
   have e1:zgp L[i].sg q.z05 (A0 0 [] []).gOf (A0 0 [] []).zu=some on:=hon
   rw [e1] at hfi
   have hfi:M.q28 L[i].toH q.z05 (A0 0 [] [])=some (true,_):=hfi
   unfold A0 at hfi
   rw [hfi]
   simp only [yb,ym,yj,if_false]
   have em:L[i].toH.z5v=L[i].me:=rfl
   rw [em]
   by_cases cm:L[i].me=q.zx
   ·simp only [cm,decide_true,ym,yj,if_false,if_true]
    have ha:=zme hr hq hf hon
    cases hk:askR L[i] q on.1 on.2 with
    | some a =>
     rw [hk] at ha
     have ha:M.q26 f L[i].toH q=some (a,0):=ha
     rw [ha]
     simp only [yb,decide_true,if_true]
     exact ⟨_,rfl,.inl ⟨a,rfl,rfl⟩⟩
    | none =>
     rw [hk] at ha
     obtain ⟨a,ha⟩:=ha
     rw [ha]
     have n0:¬((227:Int)=0):=by decide
     simp only [yb,n0,decide_false,yj,if_false]
     exact ih (i+1) 227 (by omega) (by omega) n0
   ·simp only [cm,decide_false,yl,if_true,if_false]
    by_cases c5:e=225
    ·simp only [c5,decide_true,if_true]
     exact ih (i+1) 226 (by omega) (by omega) (by decide)
    ·simp only [c5,decide_false,yj,if_false]
     exact ih (i+1) e (by omega) (by omega) he
theorem za9 {q:q03} (hq:fit q) {f:Nat} (hf:34≤f):M.q0r f q=some (zzg q):=by
 unfold M.q0r zzg
 rw [zcx]
 simp only [ya,yb]
 obtain ⟨z,hz,hc⟩:=zz04x (L:=tab) (fun r hr=>zno hr) (by decide) hq hf _ 0 225 rfl (ybu _) (by decide)
 have hz:M.z2m (tab.map Rw.toH) q f 225 0=some z:=hz
 rw [yad] at hc
 rw [hz]
 rcases hc with ⟨a,h1,rfl⟩|⟨e,_,h1,rfl⟩
 ·rw [h1]
  rfl
 ·rw [h1]
  rfl
theorem Le.of {α:Type} {c:Prop} [Decidable c] {a:α} {b:Option α} (h:c→b=some a):Le (if c then some a else Option.none) b:=by
 split
 ·rename_i k
  rw [h k]
  exact Le.refl _
 ·exact Le.none _
def fitB (q:q03):Bool:=decide (q.zx.length<100000000)&&decide (q.z05.length<100000000)&&q.z05.all (fun p=>decide (p.length<100000000))&&decide (q.z0p.length<100000000)&&q.z0p.all (fun p=>decide (p.zu.length<100000000)&&decide (p.z1t.length<100000000))&&decide (q.z0j.length<100000000)&&q.z0j.all (fun p=>decide (p.zu.length<100000000)&&decide (p.z1t.length<100000000))&&decide (q.zt.length<100000000)
theorem zsk {q:q03} (h:fitB q=true):fit q:=by
 unfold fitB at h
 simp only [ye,decide_eq_true_eq,yp] at h
 obtain ⟨⟨⟨⟨⟨⟨⟨h1,h2⟩,h3⟩,h4⟩,h5⟩,h6⟩,h7⟩,h8⟩:=h
 exact ⟨h1,h2,h3,h4,h5,h6,h7,h8⟩
def MF.q0s (_:Nat) (s:Z):Option (q03 × Int × Int):=if s.length<1000000000 then some ((zbj s).1,(((zbj s).2.1:Nat):Int),(zbj s).2.2) else none
theorem MF.q0s.le (n:Nat) (s:Z):Le (MF.q0s n s) (M.q0s s):=Le.of fun h=>zb5 h
def MF.q0r (_ f:Nat) (q:q03):Option (q00 × Int):=if fitB q=true∧34≤f then some (zzg q) else none
theorem MF.q0r.le (n f:Nat) (q:q03):Le (MF.q0r n f q) (M.q0r f q):=Le.of fun h=>za9 (zsk h.1) h.2
def MF.q0u (_:Nat) (q:q03):Option (Z × Int):=if fitB q=true then some (z9r q) else none
theorem MF.q0u.le (n:Nat) (q:q03):Le (MF.q0u n q) (M.q0u q):=Le.of fun h=>z4k (zsk h)
def MF.q36 (_ f:Nat) (v:J):Option (Z × Int):=if 17≤f∧v.sz<1000000000 then some (print v) else none
theorem MF.q36.le (n f:Nat) (v:J):Le (MF.q36 n f v) (M.q36 f v):=Le.of fun h=>zba h.1 h.2
def MF.q35 (_ f:Nat) (s:Z):Option (J × Int):=if 34≤f then some (parse s) else none
theorem MF.q35.le (n f:Nat) (s:Z):Le (MF.q35 n f s) (M.q35 f s):=Le.of fun h=>zb9 s h
section
def zlc (a:q00) (l:List Z):List Z:=l.map fun w=>if w=zv4 then a.gOf else if w=zv3 then a.zu else w
def idpP:q05:=⟨z4y,[105,100,112]⟩
def zw0 (b:Bool) (s k v:Z):List q05:=if b=true∧¬s=[] then [⟨k,v⟩] else []
def zqf (m:Nat) (a:q00):List q05:=[idpP]++zw0 (m.testBit 0) a.z09 z4l (zvq++[61]++a.z09)++zw0 (m.testBit 1) a.z1d z9e (zg0++a.z1d)++zw0 (m.testBit 2) a.z5k kIf ([34]++a.z5k++[34])
def zbi (n:Int):Z:=if n=0 then [] else Lib.itoa n
def zvk (nt:Int→Z) (a:q00):Pt→Z
 | .fx _ v=>v
 | .st _ t w=>if w=true then b64E (getS a t.1) else getS a t.1
 | .cn _ c=>nt (getC a c)
def z69 (nt:Int→Z) (a:q00):List Pt→List q05
 | []=>[]
 | p::l=>if zvk nt a p=[] then z69 nt a l else ⟨p.nm,zvk nt a p⟩::z69 nt a l
def objV (a:q00):J:=obj [(kId,jT a.zu),(z3n,jFs a.zi)]
def zj7 (nt:Int→Z) (r:Rw) (a:q00):Int × List q05 × Z:=match r.wh with
 | 1=>((form (z69 nt a r.ps)).2,[],(form (z69 nt a r.ps)).1)
 | 2=>(0,z69 nt a r.ps,[])
 | 3=>((print (objV a)).2,[],(print (objV a)).1)
 | 4=>(0,[],a.z1c)
 | _=>(0,[],[])
def znb (nt:Int→Z) (r:Rw) (a:q00):q03 × Int:=(⟨r.me,zlc a r.sg,(zj7 nt r a).2.1,zqf r.mr a,(zj7 nt r a).2.2⟩,(zj7 nt r a).1)
def zk2 (nt:Int→Z) (r:Rw) (a:q00):Prop:=(znb nt r a).2=0∧(z9r (znb nt r a).1).2=0∧zzg (znb nt r a).1=(a,0)
open Classical in
noncomputable def zbn (nt:Int→Z) (a:q00):q03 × Int:=match tab.find? (fun r=>decide (r.kd=a.zh)) with
 | none=>(zH,224)
 | some r=>if zk2 nt r a then ((znb nt r a).1,0) else (zH,224)
def q00.sz (a:q00):Nat:=a.gOf.length+a.z2q.length+a.z2p.length+a.z09.length+a.z19.length+a.z1d.length+a.z1g.length+a.z00.length+a.z0o.length+a.z02.length+a.z07.length+a.z01.length+a.zv.length+a.z03.length+a.z0f.length+a.zu.length+a.z2z.length+a.zt.length+a.z6e.length+a.z5k.length+a.z0n.length+a.z1c.length+zfn a.zi
structure zal (a:q00):Prop where
 sz:a.sz≤8388608
 fr:I64 a.z2l
 ct:I64 a.z11
theorem zoi {t:Nat × Nat × Z} (h:t∈zb2) {a:q00} (ha:zal a):(getS a t.1).length≤8388608:=by
 have hs:=ha.sz
 unfold q00.sz at hs
 exact z6r (P:=fun t=>(getS a t.1).length≤8388608) h (show a.z2q.length≤_ by omega) (show a.z2p.length≤_ by omega) (show a.z19.length≤_ by omega) (show a.z1d.length≤_ by omega) (show a.z1g.length≤_ by omega) (show a.z00.length≤_ by omega) (show a.z0o.length≤_ by omega) (show a.z02.length≤_ by omega) (show a.z07.length≤_ by omega) (show a.z01.length≤_ by omega) (show a.zv.length≤_ by omega) (show a.z03.length≤_ by omega) (show a.z0f.length≤_ by omega) (show a.zu.length≤_ by omega) (show a.z2z.length≤_ by omega) (show a.zt.length≤_ by omega) (show a.z6e.length≤_ by omega) (show a.z0n.length≤_ by omega)
theorem zso {t:Nat × Nat × Z} (h:t∈zb2) (a:q00):a.zg6 t.1=some (getS a t.1) :=
 z6r (P:=fun t=>a.zg6 t.1=some (getS a t.1)) h rfl rfl rfl rfl rfl rfl rfl rfl rfl rfl rfl rfl rfl rfl rfl rfl rfl rfl
theorem zw6 (s:Z):(b64E s).length≤2*s.length:=by
 unfold b64E
 rw [zdf]
 omega
theorem zz05l {a:q00} (h:zal a) (c:Bool):I64 (getC a c):=by
 cases c
 ·exact h.fr
 ·exact h.ct
theorem ztb {n:Int} (h:I64 n):(Lib.itoa n).length≤20:=by
 unfold I64 at h
 unfold Lib.itoa
 split
 ·have:=z5h (n:=n.natAbs) (k:=19) (by omega) (by decide)
  simp only [yaq]
  omega
 ·have:=z5h (n:=n.toNat) (k:=19) (by omega) (by decide)
  omega
theorem zif {n:Int} (h:I64 n):(zbi n).length≤20:=by
 unfold zbi
 split
 ·simp
 ·exact ztb h
theorem zz06k {ws:List Z} (a:q00) (hl:ws.length<1000000):∀ (n i:Nat) (acc:List Z),ws.length - i=n→i≤ws.length→acc.length≤i→M.zp ws a (i:Int) acc=some (acc++zlc a (ws.drop i)):=by
 have e1:([79,70]:Z)=zv4:=rfl
 have e2:([78,65,77,69]:Z)=zv3:=rfl
 intro n
 induction n with
 | zero =>
  intro i acc hn hi ha
  have:¬((i:Int)<(ws.length:Int)):=by omega
  rw [M.zp.eq_1,yab (by omega)]
  simp [this,zlc]
 | succ n ih =>
  intro i acc hn hi ha
  have hlt:i<ws.length:=by omega
  have h1:((i:Int)<(ws.length:Int)):=by omega
  rw [M.zp.eq_1,yz hlt,e1,e2]
  simp only [h1,decide_true,if_true,z6k,yag hlt,ya,yb]
  have e:(if decide (ws[i]=zv4)=true then some a.gOf else if decide (ws[i]=zv3)=true then some a.zu else some ws[i])=some (if ws[i]=zv4 then a.gOf else if ws[i]=zv3 then a.zu else ws[i]):=by
   by_cases c1:ws[i]=zv4
   ·simp [c1]
   ·have q:¬zv3=zv4:=fun h=>zz00b h.symm
    by_cases c2:ws[i]=zv3
    ·simp [c2,q]
    ·simp [c1,c2]
  rw [e]
  simp only [yb]
  rw [z4f (by simp;omega),w1 (by omega)]
  simp only [yb]
  rw [ih (i+1) _ (by omega) (by omega) (by simp;omega),yq]
  rfl
theorem zcf (nt:Int→Z) (a:q00):∀ l:List Pt,(z69 nt a l).length≤l.length
 | []=>ybl _
 | p::l=>by
  rw [z69]
  have:=zcf nt a l
  split<;>simp<;>omega
theorem zz6 {nt:Int→Z} {a:q00} (ha:zal a) (hnt:∀ n,I64 n→(nt n).length≤20) {p:Pt} (hp:p.okB=true) (hv:∀ n v,p = .fx n v→v.length<1000):(zvk nt a p).length≤20000000:=by
 unfold zvk
 split
 ·rename_i n v
  have:=hv n v rfl
  omega
 ·have:=zoi (zul hp) ha
  split
  ·exact ybm (zw6 _) (by omega)
  ·omega
 ·exact ybm (hnt _ (zz05l ha _)) (by omega)
def Pt.zlg:Pt→Bool
 | .fx n v=>decide (n.length<1000)&&decide (v.length<1000)
 | .st n _ _=>decide (n.length<1000)
 | .cn n _=>decide (n.length<1000)
theorem zve:(tab.all fun r=>r.ps.all Pt.zlg&&decide (r.me.length<1000)&&r.sg.all fun s=>decide (s.length<1000))=true:=by decide +kernel
structure RwSh (r:Rw):Prop where
 ps:∀ p∈r.ps,p.zlg=true
 me:r.me.length<1000
 sg:∀ s∈r.sg,s.length<1000
theorem zz00j {r:Rw} (h:r∈tab):RwSh r:=by
 have:=yp.1 zve r h
 simp only [ye,decide_eq_true_eq,yp] at this
 exact ⟨this.1.1,this.1.2,this.2⟩
theorem zce {nt:Int→Z} {a:q00} (ha:zal a) (hnt:∀ n,I64 n→(nt n).length≤20):∀ l:List Pt,(∀ p∈l,p.okB=true)→(∀ p∈l,p.zlg=true)→zha (z69 nt a l)
 | [],_,_=>fun p hp=>by cases hp
 | x::l,h1,h2=>by
  have ih:=zce ha hnt l (fun p hp=>h1 p (by simp [hp])) (fun p hp=>h2 p (by simp [hp]))
  have s:=h2 x (by simp)
  have o:=h1 x (by simp)
  rw [z69]
  split
  ·exact ih
  ·intro p hp
   rcases ya0.1 hp with rfl|hp
   ·have hv:=zz6 ha hnt o fun n v e=>by
     subst e
     unfold Pt.zlg at s
     simp only [ye,decide_eq_true_eq] at s
     exact s.2
    refine ⟨?_,by simp only;omega⟩
    have:x.nm.length<1000:=by
     unfold Pt.zlg at s
     cases x<;>simp only [ye,decide_eq_true_eq] at s
     ·exact s.1
     ·exact s
     ·exact s
    simp only
    omega
   ·exact ih p hp
theorem zz06l {r:Rw} (hr:zpo r) {a:q00} (ha:zal a):∀ (n i:Nat) (acc:List q05),r.ps.length - i=n→i≤r.ps.length→acc.length≤i→M.zn r.toH a acc (i:Int)=some (acc++z69 zbi a (r.ps.drop i)):=by
 have hpl:=hr.psl
 have hgl:r.toH.z1h.length=r.ps.length:=yas ..
 intro n
 induction n with
 | zero =>
  intro i acc hn hi _
  have:¬((i:Int)<(r.toH.z1h.length:Int)):=by rw [hgl];omega
  rw [M.zn.eq_1,yab (by omega)]
  simp [this,z69]
 | succ n ih =>
  intro i acc hn hi hac
  have hlt:i<r.ps.length:=by omega
  have h1:((i:Int)<(r.toH.z1h.length:Int)):=by rw [hgl];omega
  have hx:ix r.toH.z1h (i:Int)=some (Pt.toH r.ps[i]):=by
   rw [z6k]
   show (r.ps.map Pt.toH)[i]? = _
   rw [yah,yag hlt]
   rfl
  have hok:=hr.ps _ (yai hlt)
  have key:((M.q2p (Pt.toH r.ps[i]) a).bind fun a314=>if a314=24 then (if decide (a.z2l=0)=true then some [] else (M.itoa a.z2l).bind fun a316=>some a316) else if a314=25 then (if decide (a.z11=0)=true then some [] else (M.itoa a.z11).bind fun a318=>some a318)
    else if a314=1000000 then (if (Pt.toH r.ps[i]).zi0=true then (M.q0q (Pt.toH r.ps[i]).z4e a).bind fun a320=>(q00.zg6 a a320).bind fun s322=>(M.q0h s322).bind fun a323=>some a323 else if (!ybj (Pt.toH r.ps[i]).z4e NF)=true then (M.q0q (Pt.toH r.ps[i]).z4e a).bind fun a325=>(q00.zg6 a a325).bind fun s327=>some s327 else some (Pt.toH r.ps[i]).z9g) else none)=some (zvk zbi a r.ps[i]):=by
   obtain ⟨p,hp⟩:∃ p,r.ps[i]=p:=⟨_,rfl⟩
   rw [hp] at hok ⊢
   cases p with
   | fx nm v =>
    have hv:¬v=[78]:=by unfold Pt.okB at hok;simpa using hok
    have hc:M.q2p (Pt.toH (.fx nm v)) a=some 1000000:=by
     unfold M.q2p Pt.toH
     simp [hv]
    have hnf:ybj (Pt.toH (.fx nm v)).z4e NF=true:=show ybj NF NF=true by decide
    have hw:(Pt.toH (.fx nm v)).zi0=false:=rfl
    have hfx:(Pt.toH (.fx nm v)).z9g=v:=rfl
    rw [hc]
    simp [hnf,hw,hfx,zvk]
   | st nm t w =>
    have ht:=zul hok
    have hc:M.q2p (Pt.toH (.st nm t w)) a=some 1000000:=by
     unfold M.q2p Pt.toH
     simp
    have hnf:ybj (Pt.toH (.st nm t w)).z4e NF=false:=zzq ht
    have hd:M.q0q (Pt.toH (.st nm t w)).z4e a=some t.1:=zsm ht a
    have hw:(Pt.toH (.st nm t w)).zi0=w:=rfl
    have hg:=zoi ht ha
    rw [hc]
    cases w with
    | false=>simp [hnf,hw,hd,zso ht,zvk]
    | true =>
     have he:=zdv (s:=getS a t.1) (by omega)
     simp [hw,hd,zso ht,he,zvk]
   | cn nm c =>
    have hok':(nm=[99,111,117,110,116])=(c=true):=of_decide_eq_true hok
    have hc:M.q2p (Pt.toH (.cn nm c)) a=some (if c=true then 25 else 24):=by
     unfold M.q2p
     have e1:(Pt.toH (.cn nm c)).z9g=[78]:=rfl
     have e2:(Pt.toH (.cn nm c)).zc4=nm:=rfl
     simp only [e1,e2,hok',decide_true,ym,yj,if_false]
     cases c<;>rfl
    rw [hc]
    cases c with
    | true =>
     have hi:=zri ha.ct
     by_cases h0:a.z11=0<;>simp [h0,hi,zvk,zbi,getC]
    | false =>
     have hi:=zri ha.fr
     by_cases h0:a.z2l=0<;>simp [h0,hi,zvk,zbi,getC]
  have hnm:(Pt.toH r.ps[i]).zc4=r.ps[i].nm:=by cases r.ps[i]<;>rfl
  rw [M.zn.eq_1,yz hlt,z69]
  simp only [ya] at key ⊢
  simp only [h1,decide_true,if_true,hx,yb]
  rw [key,w1 (by omega),hnm]
  simp only [yb]
  by_cases h0:zvk zbi a r.ps[i]=[]
  ·simp only [h0,decide_true,ym,yj,if_false,if_true]
   exact ih (i+1) acc (by omega) (by omega) (by omega)
  ·simp only [h0,decide_false,yl,if_true,if_false]
   rw [z4f (by simp;omega)]
   simp only [yb]
   rw [ih (i+1) _ (by omega) (by omega) (by simp;omega),yq]
   rfl
theorem zz02l {a:q00} (ha:zal a):(objV a).sz≤30000000:=by
 have hs:=ha.sz
 unfold q00.sz at hs
 unfold objV
 have h1:=zz05r a.zi
 have e:[(kId,jT a.zu),(z3n,jFs a.zi)]=opt true kId (jT a.zu)++opt true z3n (jFs a.zi):=rfl
 rw [zz068,e,zz02h]
 have o1:=zz006 true kId (jT a.zu)
 have o2:=zz006 true z3n (jFs a.zi)
 rw [jT_sz] at o1
 have k1:kId.length=2:=rfl
 have k2:z3n.length=6:=rfl
 omega
theorem req_1 {r:Rw} {b:Bool} {m:Int} {s k v:Z} {q:q03} (hb:(!decide ((z7w .i64 r.toH.z63 m)=0))=b) (hq:q.z0p=[]) (hl:q.z0j.length<1000) :
  M.q2d m s k v r.toH q=some ⟨q.zx,q.z05,[],q.z0j++zw0 b s k v,q.zt⟩:=by
 unfold M.q2d zw0
 rw [hb]
 cases b with
 | false=>simp
 | true =>
  by_cases h:s=[]
  ·simp [h]
  ·simp only [h,decide_false,yl,yf,if_true,not_false_eq_true,and_self]
   rw [z4f (by simp;omega)]
   rfl
theorem zam (b:Bool) (s k v:Z):(zw0 b s k v).length≤1:=by unfold zw0;split<;>simp
theorem zdc {r:Rw} (hr:zpo r) (hsh:RwSh r) {a:q00} (ha:zal a) {f:Nat} (hf:17≤f):M.q2c f r.toH a=some (znb zbi r a):=by
 have hs:=ha.sz
 unfold q00.sz at hs
 obtain ⟨m1,m2,m3⟩:=zot ⟨r.mr,hr.mkl⟩
 simp only at m1 m2 m3
 have m1:(!decide ((z7w .i64 r.toH.z63 1)=0))=r.mr.testBit 0:=m1
 have m2:(!decide ((z7w .i64 r.toH.z63 2)=0))=r.mr.testBit 1:=m2
 have m3:(!decide ((z7w .i64 r.toH.z63 4)=0))=r.mr.testBit 2:=m3
 have h1:=hr.one
 have h2:=hr.len
 unfold M.q2c
 have hsub:sub r.toH.zc5 1 (r.toH.zc5.length:Int)=some ((zrf r.sg).drop 1):=zci (l:=zrf r.sg) (a:=1) h1
 rw [hsub]
 simp only [ya,yb]
 rw [z9x 47 (by rw [yar];omega),hr.cut]
 simp only [yb]
 have hk1:M.zp r.sg a 0 []=some ([]++zlc a (r.sg.drop 0)):=zz06k a (by have:=hr.sgl;omega) _ 0 [] rfl (ybu _) (ybl _)
 rw [yad,ya5] at hk1
 have hk2:M.zn r.toH a [] 0=some ([]++z69 zbi a (r.ps.drop 0)):=zz06l hr ha _ 0 [] rfl (ybu _) (ybl _)
 rw [yad,ya5] at hk2
 rw [hk1,z5e (by simp;omega)]
 simp only [yb]
 rw [req_1 m1 rfl (by simp)]
 simp only [yb]
 rw [z5e (by simp;omega)]
 simp only [yb]
 have l1:=zam (r.mr.testBit 0) a.z09 z4l (zvq++[61]++a.z09)
 have l2:=zam (r.mr.testBit 1) a.z1d z9e (zg0++a.z1d)
 have eC:([99,111,111,107,105,101]:Z)=z4l:=rfl
 have eS:([115,101,115,115,105,111,110,61]:Z)=zvq++[61]:=rfl
 have eA:([97,117,116,104,111,114,105,122,97,116,105,111,110]:Z)=z9e:=rfl
 have eB:([66,101,97,114,101,114,32]:Z)=zg0:=rfl
 have eI:([105,102,45,109,97,116,99,104]:Z)=kIf:=rfl
 have eH:(q05.mk ([104,111,115,116]:Z) ([105,100,112]:Z))=idpP:=rfl
 rw [eC,eS,eA,eB,eI,eH]
 rw [req_1 m2 rfl (by simp only [yap,yav];omega)]
 simp only [yb]
 rw [z5e (by simp;omega)]
 simp only [yb]
 rw [z5e (by simp;omega)]
 simp only [yb]
 rw [req_1 m3 rfl (by simp only [yap,yav];omega)]
 simp only [yb]
 rw [hk2]
 simp only [yb]
 have ew:r.toH.z2o=(r.wh:Int):=rfl
 unfold znb zj7 zqf
 rcases zpk hr with w|w|w|w|w
 ·have ew0:r.toH.z2o=0:=by rw [ew,w];rfl
  simp only [ew0,w]
  rfl
 ·have ew0:r.toH.z2o=1:=by rw [ew,w];rfl
  have hpl:=zcf zbi a r.ps
  have hpf:=zce (nt:=zbi) ha (fun n h=>zif h) r.ps hr.ps hsh.ps
  have hps:=hr.psl
  rw [zap (by omega) hpf]
  simp only [ew0,w]
  rfl
 ·have ew0:r.toH.z2o=2:=by rw [ew,w];rfl
  simp only [ew0,w]
  rfl
 ·have ew0:r.toH.z2o=3:=by rw [ew,w];rfl
  have hz:=zz02l ha
  have p1:=put_eq (l:=[]) (b:=true) (k:=kId) (v:=jT a.zu) (by simp)
  have p2:=put_eq (l:=opt true kId (jT a.zu)) (b:=true) (k:=z3n) (v:=jFs a.zi) (by have:=zz02o true kId (jT a.zu);omega)
  have e1:([105,100]:Z)=kId:=rfl
  have e2:([102,105,101,108,100,115]:Z)=z3n:=rfl
  have ho:(obj (opt true kId (jT a.zu)++opt true z3n (jFs a.zi)))=objV a:=rfl
  have n2:¬((3:Int)=2):=by decide
  have n1:¬((3:Int)=1):=by decide
  have n4:¬((3:Int)=4):=by decide
  simp only [ew0,w,n1,n2,n4,decide_true,decide_false,yj,if_true,if_false,objects_eq,text_jT,e1,e2,yb]
  rw [p1]
  simp only [yb,ya5]
  rw [zqq (by omega)]
  simp only [yb]
  rw [p2]
  simp only [yb,ho]
  rw [zba hf (zvy (by omega))]
  rfl
 ·have ew0:r.toH.z2o=4:=by rw [ew,w];rfl
  simp only [ew0,w]
  rfl
theorem zt0 {a:q00} (ha:zal a) (m:Nat):zha (zqf m a)∧(zqf m a).length≤4:=by
 have hs:=ha.sz
 unfold q00.sz at hs
 have add_fit:∀ (b:Bool) (s k v:Z),k.length<1000→v.length<100000000→zha (zw0 b s k v):=fun b s k v h1 h2 p hp=>by
  unfold zw0 at hp
  split at hp
  ·rw [ya4] at hp
   subst hp
   exact ⟨by simp only;omega,by simp only;omega⟩
  ·cases hp
 unfold zqf
 refine ⟨fun p hp => ?_,?_⟩
 ·rcases yaz.1 hp with hp|hp
  ·rcases yaz.1 hp with hp|hp
   ·rcases yaz.1 hp with hp|hp
    ·rw [ya4] at hp
     subst hp
     decide
    ·exact add_fit _ _ _ _ (by decide) (by simp [zvq];omega) p hp
   ·exact add_fit _ _ _ _ (by decide) (by simp [zg0];omega) p hp
  ·exact add_fit _ _ _ _ (by decide) (by simp;omega) p hp
 ·have l1:=zam (m.testBit 0) a.z09 z4l (zvq++[61]++a.z09)
  have l2:=zam (m.testBit 1) a.z1d z9e (zg0++a.z1d)
  have l3:=zam (m.testBit 2) a.z5k kIf ([34]++a.z5k++[34])
  simp only [yap,yav] at l1 l2 l3 ⊢
  omega
theorem zc2:zha []:=fun p hp=>by cases hp
theorem zww (l:List q05):(form l).1.length≤8192:=by
 unfold form
 split
 ·simp
 ·split
  ·simp
  ·simp only
   omega
theorem zpc {nt:Int→Z} {r:Rw} (hr:zpo r) (hsh:RwSh r) {a:q00} (ha:zal a) (hnt:∀ n,I64 n→(nt n).length≤20):fit (znb nt r a).1:=by
 have hs:=ha.sz
 unfold q00.sz at hs
 have hme:=hsh.me
 have hsg:=hr.sgl
 have hpl:=zcf nt a r.ps
 have hps:=hr.psl
 have hpf:=zce ha hnt r.ps hr.ps hsh.ps
 obtain ⟨hh1,hh2⟩:=zt0 ha r.mr
 have hb:(zj7 nt r a).2.1.length<100000000∧zha (zj7 nt r a).2.1∧(zj7 nt r a).2.2.length<100000000:=by
  unfold zj7
  split
  ·have:=zww (z69 nt a r.ps)
   exact ⟨by simp,zc2,by simp only;omega⟩
  ·exact ⟨by simp only;omega,hpf,by simp⟩
  ·have:=zuj (objV a)
   exact ⟨by simp,zc2,by simp only;omega⟩
  ·exact ⟨by simp,zc2,by simp only;omega⟩
  ·exact ⟨by simp,zc2,by simp⟩
 refine ⟨?_,?_,?_,hb.1,hb.2.1,?_,hh1,hb.2.2⟩
 ·show r.me.length<_
  omega
 ·show (zlc a r.sg).length<_
  unfold zlc
  rw [yas]
  omega
 ·intro p hp
  have hp:p∈zlc a r.sg:=hp
  unfold zlc at hp
  obtain ⟨w,hw,rfl⟩:=ya2.1 hp
  have:=hsh.sg w hw
  split
  ·omega
  ·split<;>omega
 ·show (zqf r.mr a).length<_
  omega
end
section
theorem drop_eq {α:Type} {l m:List α} {i:Nat} (hl:i<l.length) (hm:i<m.length):(l.drop i=m.drop i)↔(l[i]=m[i]∧l.drop (i+1)=m.drop (i+1)):=by
 rw [yz hl,yz hm]
 constructor
 ·intro h;injection h with h1 h2;exact ⟨h1,h2⟩
 ·rintro ⟨h1,h2⟩;rw [h1,h2]
theorem zd4 {l m:List Z} (hl:l.length<1000000000) (hm:l.length=m.length) {F:Int→Option (Jn Bool Unit)} (hF:∀ i,F i=(if (decide (i<(l.length:Int)))=true then (ix l i).bind fun x14=>(ix m i).bind fun x15=>if (!decide (x14=x15))=true then some (.done false) else F (ybx .i64 (i+1)) else some (.go ()))):∀ (n i:Nat),l.length - i=n→i≤l.length→F (i:Int)=some (if l.drop i=m.drop i then .go () else .done false):=by
 intro n
 induction n with
 | zero =>
  intro i hn hi
  have:¬((i:Int)<(l.length:Int)):=by omega
  rw [hF,yab (show l.length≤i by omega),yab (show m.length≤i by omega)]
  simp [this]
 | succ n ih =>
  intro i hn hi
  have hlt:i<l.length:=by omega
  have hlm:i<m.length:=by omega
  have h1:((i:Int)<(l.length:Int)):=by omega
  rw [hF]
  simp only [h1,decide_true,if_true,z6k,yag hlt,yag hlm,yb]
  have hd:=drop_eq hlt hlm
  by_cases c:l[i]=m[i]
  ·simp only [c,decide_true,ym,yj,if_false]
   rw [w1 (by omega),ih (i+1) (by omega) (by omega)]
   by_cases c2:l.drop (i+1)=m.drop (i+1)
   ·rw [if_pos c2,if_pos (hd.2 ⟨c,c2⟩)]
   ·rw [if_neg c2,if_neg fun q=>c2 (hd.1 q).2]
  ·rw [if_neg fun q=>c (hd.1 q).1]
   simp [c]
theorem zr7 {l m:List Z} (hl:l.length<1000000000):M.q4k l m=some (decide (l=m)):=by
 unfold M.q4k
 by_cases h:l.length=m.length
 ·have h':((l.length:Int)=(m.length:Int)):=by omega
  have hk:=zd4 hl h (F:=M.z0x l m) (fun i=>by rw [M.z0x.eq_1];rfl) _ 0 rfl (ybu _)
  rw [yad,yad] at hk
  have hk:M.z0x l m 0=_:=hk
  simp only [h',decide_true,ym,yj,if_false,hk,ya,yb]
  by_cases e:l=m<;>simp [e]
 ·have h':¬((l.length:Int)=(m.length:Int)):=by omega
  have e:¬l=m:=fun q=>h (by rw [q])
  simp [h',e]
theorem zq4 {l m:List Z} (hl:l.length<1000000000):M.q6u l m=some (decide (l=m)):=by
 unfold M.q6u
 by_cases h:l.length=m.length
 ·have h':((l.length:Int)=(m.length:Int)):=by omega
  have hk:=zd4 hl h (F:=M.z0d l m) (fun i=>by rw [M.z0d.eq_1];rfl) _ 0 rfl (ybu _)
  rw [yad,yad] at hk
  have hk:M.z0d l m 0=_:=hk
  simp only [h',decide_true,ym,yj,if_false,hk,ya,yb]
  by_cases e:l=m<;>simp [e]
 ·have h':¬((l.length:Int)=(m.length:Int)):=by omega
  have e:¬l=m:=fun q=>h (by rw [q])
  simp [h',e]
theorem zjr (f g:q02):f=g↔f.zu=g.zu∧f.z2d=g.z2d:=by
 cases f;cases g;simp
open Classical in
theorem zb1 {l m:List q02} (hl:zfn l<100000000) (hm:l.length=m.length) {F:Int→Option (Jn Bool Unit)}
  (hF:∀ (i:Nat) (h:i<l.length) (h2:i<m.length),F (i:Int)=if l[i]=m[i] then F (ybx .i64 ((i:Int)+1)) else some (.done false)) (hE:F (l.length:Int)=some (.go ())) :
  ∀ (n i:Nat),l.length - i=n→i≤l.length→F (i:Int)=some (if l.drop i=m.drop i then .go () else .done false):=by
 have hll:=zb4 l
 intro n
 induction n with
 | zero =>
  intro i hn hi
  obtain rfl:i=l.length:=by omega
  rw [hE,yab (ybl _),yab (show m.length≤l.length by omega)]
  simp
 | succ n ih =>
  intro i hn hi
  have hlt:i<l.length:=by omega
  have hlm:i<m.length:=by omega
  have hd:=drop_eq hlt hlm
  rw [hF i hlt hlm]
  by_cases c:l[i]=m[i]
  ·rw [if_pos c,w1 (by omega),ih (i+1) (by omega) (by omega)]
   by_cases c2:l.drop (i+1)=m.drop (i+1)
   ·rw [if_pos c2,if_pos (hd.2 ⟨c,c2⟩)]
   ·rw [if_neg c2,if_neg fun q=>c2 (hd.1 q).2]
  ·rw [if_neg c,if_neg fun q=>c (hd.1 q).1]
open Classical in
theorem zl7 {l m:List q02} (hl:zfn l<100000000):∃ t,M.q5h l m=some t∧(t=true↔l=m):=by
 have hll:=zb4 l
 unfold M.q5h
 by_cases h:l.length=m.length
 ·have h':((l.length:Int)=(m.length:Int)):=by omega
  have hk:=zb1 hl h (F:=M.z1o l m) (fun i h1 h2=>by
   have h3:((i:Int)<(l.length:Int)):=by omega
   have hs:l[i].sz≤zfn l:=ziq (ya2.2 ⟨l[i],yai h1,rfl⟩)
   have hv:=zc7 l[i].z2d
   unfold q02.sz at hs
   rw [M.z1o.eq_1]
   simp only [h3,decide_true,if_true,z6k,yag h1,yag h2,ya,yb,zjr]
   rw [zr7 (by omega)]
   by_cases c1:l[i].zu=m[i].zu
   ·by_cases c2:l[i].z2d=m[i].z2d<;>simp [c1,c2]
   ·simp [c1]) (by
   rw [M.z1o.eq_1]
   simp) _ 0 rfl (ybu _)
  rw [yad,yad] at hk
  have hk:M.z1o l m 0=_:=hk
  simp only [h',decide_true,ym,yj,if_false,hk,ya,yb]
  by_cases e:l=m
  ·exact ⟨true,by simp [e],by simp [e]⟩
  ·exact ⟨false,by simp [e],by simp [e]⟩
 ·have h':¬((l.length:Int)=(m.length:Int)):=by omega
  have e:¬l=m:=fun q=>h (by rw [q])
  exact ⟨false,by simp [h'],by simp [e]⟩
open Classical in
theorem zk4 {l m:List q02} (hl:zfn l<100000000):∃ t,M.q6t l m=some t∧(t=true↔l=m):=by
 have hll:=zb4 l
 unfold M.q6t
 by_cases h:l.length=m.length
 ·have h':((l.length:Int)=(m.length:Int)):=by omega
  have hk:=zb1 hl h (F:=M.za l m) (fun i h1 h2=>by
   have h3:((i:Int)<(l.length:Int)):=by omega
   have hs:l[i].sz≤zfn l:=ziq (ya2.2 ⟨l[i],yai h1,rfl⟩)
   have hv:=zc7 l[i].z2d
   unfold q02.sz at hs
   rw [M.za.eq_1]
   simp only [h3,decide_true,if_true,z6k,yag h1,yag h2,ya,yb,zjr,M.q2h]
   rw [zq4 (by omega)]
   by_cases c1:l[i].zu=m[i].zu
   ·by_cases c2:l[i].z2d=m[i].z2d<;>simp [c1,c2]
   ·simp [c1]) (by
   rw [M.za.eq_1]
   simp) _ 0 rfl (ybu _)
  rw [yad,yad] at hk
  have hk:M.za l m 0=_:=hk
  simp only [h',decide_true,ym,yj,if_false,hk,ya,yb]
  by_cases e:l=m
  ·exact ⟨true,by simp [e],by simp [e]⟩
  ·exact ⟨false,by simp [e],by simp [e]⟩
 ·have h':¬((l.length:Int)=(m.length:Int)):=by omega
  have e:¬l=m:=fun q=>h (by rw [q])
  exact ⟨false,by simp [h'],by simp [e]⟩
theorem zl4 {a b:q00} (h:zfn a.zi<100000000):∃ t,M.q5g a b=some t∧(t=true↔a=b):=by
 obtain ⟨t,h1,h2⟩:=zl7 (l:=a.zi) (m:=b.zi) h
 unfold M.q5g
 simp only [ya,h1,yb]
 obtain ⟨a0,a1,a2,a3,a4,a5,a6,a7,a8,a9,a10,a11,a12,a13,a14,a15,a16,a17,a18,a19,a20,a21,a22,a23,a24,a25⟩:=a
 obtain ⟨b0,b1,b2,b3,b4,b5,b6,b7,b8,b9,b10,b11,b12,b13,b14,b15,b16,b17,b18,b19,b20,b21,b22,b23,b24,b25⟩:=b
 simp only at h2 ⊢
 split
 ·rename_i hc
  simp only [ye,decide_eq_true_eq] at hc
  refine ⟨t,rfl,?_⟩
  rw [h2]
  simp only [q00.mk.injEq]
  simp [hc]
 ·rename_i hc
  refine ⟨false,rfl,?_⟩
  simp only [yj,false_iff]
  intro q
  apply hc
  simp only [q00.mk.injEq] at q
  simp [q]
theorem zsx {a b:q00} (h:zfn a.zi<100000000):∃ t,M.q2g a b=some t∧(t=true↔a=b):=by
 obtain ⟨t,h1,h2⟩:=zk4 (l:=a.zi) (m:=b.zi) h
 unfold M.q2g
 simp only [ya,h1,yb,M.q2i]
 obtain ⟨a0,a1,a2,a3,a4,a5,a6,a7,a8,a9,a10,a11,a12,a13,a14,a15,a16,a17,a18,a19,a20,a21,a22,a23,a24,a25⟩:=a
 obtain ⟨b0,b1,b2,b3,b4,b5,b6,b7,b8,b9,b10,b11,b12,b13,b14,b15,b16,b17,b18,b19,b20,b21,b22,b23,b24,b25⟩:=b
 simp only at h2 ⊢
 cases t with
 | false =>
  refine ⟨false,rfl,?_⟩
  have h2:¬a23=b23:=fun q=>by simpa using h2.2 q
  simp [h2]
 | true =>
  have h2:a23=b23:=h2.1 rfl
  simp only [ym,yj,if_false]
  refine ⟨_,rfl,?_⟩
  simp only [q00.mk.injEq,h2]
  simp [List.getD]
  try exact ⟨fun h=>by simp [h],fun h=>by simp [h]⟩
open Classical in
theorem req_k {a:q00} (ha:zal a) {f:Nat} (hf:34≤f):∀ (L:List Rw),(∀ r∈L,r∈tab)→(L.map (·.kd)).Nodup→∀ (L0:List Rw),(∀ r∈L0,r∈tab)→(L0.length+L.length<1000) →
  ∃ z,M.z04 ((L0++L).map Rw.toH) a f ((L0.length:Nat):Int)=some z∧(match L.find? (fun r=>decide (r.kd=a.zh)) with
   | none=>z = .go ()
   | some r=>z=if zk2 zbi r a then .done ((znb zbi r a).1,0) else .go ()):=by
 intro L
 induction L with
 | nil =>
  intro _ _ L0 _ hl
  have:¬(((L0.length:Nat):Int)<(((L0++[]).map Rw.toH).length:Int)):=by simp
  rw [M.z04.eq_1]
  simp only [this,decide_false,yj,if_false]
  exact ⟨_,rfl,rfl⟩
 | cons r L ih =>
  intro hL hnd L0 h0 hl
  have hrt:=hL r (by simp)
  have hr:=zno hrt
  have hsh:=zz00j hrt
  rw [yay,List.nodup_cons] at hnd
  have ih:=ih (fun x hx=>hL x (by simp [hx])) hnd.2 (L0++[r]) (fun x hx=>by
   rcases yaz.1 hx with hx|hx
   ·exact h0 x hx
   ·rw [ya4] at hx;rw [hx];exact hrt) (by simp at hl ⊢;omega)
  rw [yq,yba,yap,yav] at ih
  have h1:(((L0.length:Nat):Int)<(((L0++r::L).map Rw.toH).length:Int)):=by simp;omega
  have hx:((L0++r::L).map Rw.toH)[L0.length]? = some r.toH:=by
   rw [yah,List.getElem?_append_right (ybl _),Nat.sub_self]
   rfl
  rw [M.z04.eq_1,List.find?_cons]
  simp only [h1,decide_true,if_true,z6k,hx,ya,yb]
  rw [w1 (by simp at hl;omega)]
  have ek:r.toH.zhz=r.kd:=rfl
  rw [ek]
  by_cases c:r.kd=a.zh
  ·have hq:=zpc (nt:=zbi) hr hsh ha (fun n h=>zif h)
   simp only [c,decide_true,ym,yj,if_false]
   rw [zdc hr hsh ha (by omega)]
   simp only [yb]
   rw [z4k hq]
   simp only [yb]
   rw [za9 hq hf]
   simp only [yb]
   have hz:=ha.sz
   unfold q00.sz at hz
   obtain ⟨t,ht1,ht2⟩:=zsx (a:=a) (b:=(zzg (znb zbi r a).1).1) (by omega)
   have hno:L.find? (fun r=>decide (r.kd=a.zh))=none:=by
    rw [List.find?_eq_none]
    intro x hx
    simp only [decide_eq_true_eq]
    intro q
    exact hnd.1 (ya2.2 ⟨x,hx,by rw [q,c]⟩)
   obtain ⟨z,hz1,hz2⟩:=ih
   rw [hno] at hz2
   simp only at hz2
   have hg:zk2 zbi r a↔((((decide ((znb zbi r a).2=0))&&(decide ((z9r (znb zbi r a).1).2=0)))&&(decide ((zzg (znb zbi r a).1).2=0)))=true∧t=true):=by
    unfold zk2
    simp only [ye,decide_eq_true_eq]
    constructor
    ·rintro ⟨g1,g2,g3⟩
     exact ⟨⟨⟨g1,g2⟩,by rw [g3]⟩,ht2.2 (by rw [g3])⟩
    ·rintro ⟨⟨⟨g1,g2⟩,g3⟩,g4⟩
     exact ⟨g1,g2,Prod.ext (ht2.1 g4).symm g3⟩
   cases hb:(((decide ((znb zbi r a).2=0))&&(decide ((z9r (znb zbi r a).1).2=0)))&&(decide ((zzg (znb zbi r a).1).2=0))) with
   | false =>
    have hng:¬zk2 zbi r a:=fun q=>by have:=(hg.1 q).1;rw [hb] at this;cases this
    simp only [yj,if_false,yb,hng]
    exact ⟨z,hz1,hz2⟩
   | true =>
    simp only [if_true,ht1,yb]
    cases t with
    | false =>
     have hng:¬zk2 zbi r a:=fun q=>by have:=(hg.1 q).2;cases this
     simp only [yj,if_false,hng]
     exact ⟨z,hz1,hz2⟩
    | true =>
     have hgo:zk2 zbi r a:=hg.2 ⟨hb,rfl⟩
     simp only [if_true,hgo]
     exact ⟨_,rfl,rfl⟩
  ·simp only [c,decide_false,yl,if_true]
   exact ih
theorem z8e {a:q00} (ha:zal a) {f:Nat} (hf:34≤f):M.q0w f a=some (zbn zbi a):=by
 unfold M.q0w zbn
 rw [zcx]
 simp only [ya,yb]
 obtain ⟨z,hz1,hz2⟩:=req_k ha hf tab (fun r h=>h) zz06w [] (fun r h=>by cases h) (by decide)
 rw [ya5] at hz1
 have hz1:M.z04 (tab.map Rw.toH) a f 0=some z:=hz1
 rw [hz1]
 cases hf:tab.find? (fun r=>decide (r.kd=a.zh)) with
 | none =>
  rw [hf] at hz2
  simp only at hz2
  rw [hz2]
  rfl
 | some r =>
  rw [hf] at hz2
  simp only at hz2
  rw [hz2]
  by_cases g:zk2 zbi r a
  ·simp only [g,if_true]
   rfl
  ·simp only [g,if_false]
   rfl
end
theorem z9t {a:q00} (ha:zal a):zbn zbi a=(zH,224)∨∃ q,zbn zbi a=(q,0)∧fit q∧(z9r q).2=0∧zzg q=(a,0):=by
 unfold zbn
 split
 ·exact .inl rfl
 ·rename_i r hr
  have hm:=ya3 hr
  split
  ·rename_i g
   exact .inr ⟨_,rfl,zpc (zno hm) (zz00j hm) ha (fun n h=>zif h),g.2.1,g.2.2⟩
  ·exact .inl rfl
theorem zza:zzd zH:=⟨by decide,by decide,by decide⟩
theorem zr8 {a b:q00} {s:Z} {f:Nat} (hfx:M.q3x f=some true) (hf:34≤f) (ha:zal a) (hb:zal b) (hs:s.length<100000000):M.q3w f a b s=some true:=by
 unfold M.q3w
 rw [z8e ha hf,hfx]
 simp only [ya,yb,ym,yj,if_false]
 have hz:=ha.sz
 unfold q00.sz at hz
 have ok:∀ {q:q03},(z9r q).2=0→zl6 q=true∧(z25 q).length≤8192∧z9r q=(z25 q++q.zt,0):=fun {q} h=>by
  unfold z9r at h ⊢
  split at h
  ·rename_i c
   split at h
   ·cases h
   ·rename_i c2
    rw [if_pos c,if_neg c2]
    exact ⟨c,by omega,rfl⟩
  ·cases h
 rcases z9t ha with e|⟨q,e,h1,h2,h3⟩
 ·rw [e]
  have:M.q5i zH ⟨[],[],[],[],[]⟩=some true:=znf zza
  simp [this]
 ·rw [e]
  obtain ⟨p1,p2,p3⟩:=ok h2
  have hbl:q.zt.length<100000000:=h1.2.2.2.2.2.2.2
  simp only [decide_true,ym,yj,if_false]
  rw [z4k h1,p3]
  simp only [yb]
  rw [z5e (by simp;omega)]
  simp only [yb]
  rw [zb5 (by simp;omega),zae p1 p2 s]
  simp only [yb]
  rw [za9 h1 hf,h3]
  obtain ⟨t,ht1,ht2⟩:=zl4 (a:=a) (b:=a) (by omega)
  have ht:t=true:=ht2.2 rfl
  subst ht
  simp only [yb,decide_true,ym,Bool.or_self,yj,if_false,ht1]
  rw [z8e hb hf]
  simp only [yb]
  rcases z9t hb with e2|⟨q2,e2,h4,h5,h6⟩
  ·rw [e2]
   have hzf:fit zH:=by
    have hn:∀ p∈zH.z05,p.length<100000000:=fun p hp=>by
     have hp:p∈([]:List Z):=hp
     cases hp
    exact ⟨by decide,by decide,hn,by decide,zc2,by decide,zc2,by decide⟩
   rw [z4k hzf]
   simp
  ·rw [e2]
   obtain ⟨r1,r2,r3⟩:=ok h5
   simp only
   rw [z4k h4,r3]
   obtain ⟨u,hu1,hu2⟩:=zl4 (a:=a) (b:=b) (by omega)
   simp only [yb,decide_true,ym,yj,if_false,if_true,hu1]
   have key:(z25 q++q.zt=z25 q2++q2.zt)↔a=b:=by
    constructor
    ·intro h
     have k1:=zae p1 p2 []
     have k2:=zae r1 r2 []
     rw [yr] at k1 k2
     rw [h,k2] at k1
     have hq:q2=q:=(Prod.mk.inj k1).1
     rw [hq,h3] at h6
     exact (Prod.mk.inj h6).1
    ·intro h
     rw [h,e2] at e
     have hq:q2=q:=(Prod.mk.inj e).1
     rw [hq]
   cases u with
   | true =>
    have:=key.2 (hu2.1 rfl)
    simp [this]
   | false =>
    have:¬(z25 q++q.zt=z25 q2++q2.zt):=fun h=>by have:=hu2.2 (key.1 h);cases this
    simp [this]
end Go.Sen
