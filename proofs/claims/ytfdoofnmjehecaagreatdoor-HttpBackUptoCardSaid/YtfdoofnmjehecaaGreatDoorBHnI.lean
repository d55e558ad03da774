import Derived.Test.YtfdoofnmjehecaaGreatDoorBHnH
set_option linter.all false
namespace Go.Sen
open _root_.Option renaming bind_eq_bind → ya, bind_some → yb
open _root_.Bool renaming false_eq_true → yc
open _root_.List renaming getElem?_cons_succ → yd, getElem?_cons_zero → ye, length_cons → yf, length_nil → yg
open IntKind renaming wrap → yh
open Go.Lk Go.Pe
theorem zu9 {ks:List Z} {k:Z} (hl:ks.length<1152921504606846976):∀ (n i:Nat),ks.length - i=n→i≤ks.length →
  M.zh ks k (i:Int)=some (match (ks.drop i).findIdx? (fun x=>decide (k=x)) with|some j => .done ((i+j:Nat):Int)|none => .go ()):=by
 intro n
 induction n with
 | zero =>
  intro i hn hi
  rw [M.zh.eq_1]
  have:¬((i:Int)<(ks.length:Int)):=by omega
  rw [if_neg (by simpa using this),List.drop_eq_nil_of_le (by omega)]
  rfl
 | succ n ih =>
  intro i hn hi
  have hlt:i<ks.length:=by omega
  rw [M.zh.eq_1]
  have h1:((i:Int)<(ks.length:Int)):=by omega
  simp only [h1,decide_true,if_true,zcj,List.getElem?_eq_getElem hlt,ya,yb]
  rw [w1 (by omega),ih (i+1) (by omega) (by omega),List.drop_eq_getElem_cons hlt,List.findIdx?_cons]
  by_cases h:k=ks[i]
  ·simp [h]
  ·simp only [h,decide_false,yc,if_false]
   cases (ks.drop (i+1)).findIdx? (fun x=>decide (k=x)) with
   | none=>rfl
   | some j=>simp only [Option.map_some];congr 3;omega
theorem zmw {ks:List Z} {k:Z} (hl:ks.length<1152921504606846976):M.q6x ks k=some (match ks.findIdx? (fun x=>decide (k=x)) with|some j=>(j:Int)|none => -1):=by
 unfold M.q6x
 have h:=zu9 (k:=k) hl _ 0 rfl (Nat.zero_le _)
 have h:M.zh ks k 0=_:=h
 rw [h,List.drop_zero]
 cases ks.findIdx? (fun x=>decide (k=x)) with
 | none=>rfl
 | some j=>simp
theorem contains_eq {ks:List Z} {k:Z} (hl:ks.length<1152921504606846976):M.q6s ks k=some (decide (k∈ks)):=by
 unfold M.q6s
 rw [zmw hl]
 simp only [ya,yb,Option.some.injEq]
 cases h:ks.findIdx? (fun x=>decide (k=x)) with
 | none =>
  rw [List.findIdx?_eq_none_iff] at h
  have:¬k∈ks:=fun hm=>by simpa using h k hm
  simp [this]
 | some j =>
  have h2:=List.findIdx?_eq_some_iff_getElem.1 h
  obtain ⟨hj,h3,_⟩:=h2
  have:k∈ks:=by simp at h3;rw [h3];exact List.getElem_mem hj
  simp [this]
abbrev J:=q04
abbrev Rd:=Rs (J × Z)
def zqy (s:Z) (ks:List Z):Rs (Z × List Z) :=
 match text s with
 | none => .pan 20
 | some (k,r)=>if k∈ks then .pan 20 else match take (z1z r) [58] with
  | none => .pan 20
  | some r2 => .ok (r2,ks++[k])
def items (vf:Z→Rd) (o:Bool) (e:UInt8):Nat→Z→List J→List Z→Rd
 | 0,_,_,_ => .pan 20
 | f+1,s,l,ks=>match (if o=true then zqy s ks else .ok (s,ks)) with
  | .pan c => .pan c
  | .ok (s1,ks1)=>match vf s1 with
   | .pan c => .pan c
   | .ok (x,s2)=>match take s2 [e] with
    | some r => .ok (⟨if o=true then 6 else 5,[],l++[x],ks1⟩,r)
    | none=>match take s2 [44] with
     | none => .pan 20
     | some r=>items vf o e f r (l++[x]) ks1
def nest (vf:Z→Rd) (o:Bool) (w:Nat) (s:Z):Rd :=
 if 16≤w then .pan 21 else match take s [if o=true then 125 else 93] with
  | some r => .ok (⟨if o=true then 6 else 5,[],[],[]⟩,r)
  | none=>items vf o (if o=true then 125 else 93) (s.length+1) s [] []
def word (s:Z):Rd :=
 match take s [110,117,108,108] with
 | some r => .ok (⟨0,[],[],[]⟩,r)
 | none=>match take s [102,97,108,115,101] with
  | some r => .ok (⟨1,[],[],[]⟩,r)
  | none=>match take s [116,114,117,101] with
   | some r => .ok (⟨2,[],[],[]⟩,r)
   | none=>if num s=0 then .pan 20 else .ok (⟨3,s.take (num s),[],[]⟩,z1z (s.drop (num s)))
def val:Nat→Z→Nat→Rd
 | 0,_,_ => .pan 20
 | f+1,s,w=>match text s with
  | some (t,r) => .ok (⟨4,t,[],[]⟩,z1z r)
  | none=>if s.head? = some 34 then .pan 20 else match take s [91] with
   | some r=>nest (fun s=>val f s (w+1)) false w r
   | none=>match take s [123] with
    | some r=>nest (fun s=>val f s (w+1)) true w r
    | none=>word s
def cv (x:J × Z):J × q0c:=(x.1,⟨x.2⟩)
def mRs {α β:Type} (f:α→β):Rs α→Rs β
 | .ok a => .ok (f a)
 | .pan c => .pan c
theorem zug {s:Z} {ks:List Z} {r:Z} {ks2:List Z} (h:zqy s ks = .ok (r,ks2)):r.length+3≤s.length∧ks2.length=ks.length+1:=by
 unfold zqy at h
 split at h
 ·cases h
 ·rename_i k r1 ht
  have h1:=zbm ht
  split at h
  ·cases h
  ·split at h
   ·cases h
   ·rename_i r2 ht2
    have h2:=take_len ht2
    have h3:=z3t r1
    cases h
    simp only [yf,yg] at h2
    exact ⟨by omega,by simp⟩
theorem zqr {vf:Z→Rd} {o:Bool} {e:UInt8} (hv:∀ s x r,vf s = .ok (x,r)→r.length+1≤s.length):∀ (f:Nat) (s:Z) (l:List J) (ks:List Z) (x:J) (r:Z),items vf o e f s l ks = .ok (x,r)→r.length+1≤s.length:=by
 intro f
 induction f with
 | zero=>intro s l ks x r h;simp [items] at h
 | succ f ih =>
  intro s l ks x r h
  rw [items] at h
  split at h
  ·cases h
  ·rename_i s1 ks1 hk
   have h1:s1.length≤s.length:=by
    split at hk
    ·have:=zug hk;omega
    ·cases hk;omega
   split at h
   ·cases h
   ·rename_i x2 s2 hx
    have h2:=hv _ _ _ hx
    split at h
    ·rename_i r2 ht
     have h3:=take_len ht
     cases h
     omega
    ·split at h
     ·cases h
     ·rename_i r2 ht
      have h3:=take_len ht
      have h4:=ih _ _ _ _ _ h
      omega
theorem zn4 {vf:Z→Rd} {o:Bool} {w:Nat} (hv:∀ s x r,vf s = .ok (x,r)→r.length+1≤s.length) {s r:Z} {x:J} (h:nest vf o w s = .ok (x,r)):r.length+1≤s.length:=by
 unfold nest at h
 split at h
 ·cases h
 ·split at h
  ·rename_i r2 ht
   have:=take_len ht
   cases h
   simp only [yf,yg] at this
   omega
  ·exact zqr hv _ _ _ _ _ _ h
theorem zno {s r:Z} {x:J} (h:word s = .ok (x,r)):r.length+1≤s.length:=by
 unfold word at h
 split at h
 ·rename_i r2 ht
  have:=take_len ht
  cases h
  simp only [yf,yg] at this
  omega
 ·split at h
  ·rename_i r2 ht
   have:=take_len ht
   cases h
   simp only [yf,yg] at this
   omega
  ·split at h
   ·rename_i r2 ht
    have:=take_len ht
    cases h
    simp only [yf,yg] at this
    omega
   ·split at h
    ·cases h
    ·rename_i hn
     cases h
     have h1:=z3t (s.drop (num s))
     have h2:=zn8 s
     rw [List.length_drop] at h1
     omega
theorem zz00d:∀ (f:Nat) (s:Z) (w:Nat) (x:J) (r:Z),val f s w = .ok (x,r)→r.length+1≤s.length:=by
 intro f
 induction f with
 | zero=>intro s w x r h;simp [val] at h
 | succ f ih =>
  intro s w x r h
  rw [val] at h
  split at h
  ·rename_i t r2 ht
   have h1:=zbm ht
   have h2:=z3t r2
   cases h
   omega
  ·split at h
   ·cases h
   ·split at h
    ·rename_i r2 ht
     have h1:=take_len ht
     have h2:=zn4 (fun s x r=>ih s (w+1) x r) h
     omega
    ·split at h
     ·rename_i r2 ht
      have h1:=take_len ht
      have h2:=zn4 (fun s x r=>ih s (w+1) x r) h
      omega
     ·exact zno h
theorem zz00h (s:Z):M.zm 0 s=some (match take s [110,117,108,108] with
  | some r => .done (.ok (⟨0,[],[],[]⟩,⟨r⟩))
  | none=>match take s [102,97,108,115,101] with
   | some r => .done (.ok (⟨1,[],[],[]⟩,⟨r⟩))
   | none=>match take s [116,114,117,101] with
    | some r => .done (.ok (⟨2,[],[],[]⟩,⟨r⟩))
    | none => .go s):=by
 have e0:yh .i64 (0+1)=1:=by decide
 have e1:yh .i64 (1+1)=2:=by decide
 have e2:yh .i64 (2+1)=3:=by decide
 have i2:∀ {α:Type} (l:List α),ix l 2=l[2]?:=fun l=>by simp [ix]
 rw [M.zm.eq_1]
 have h0:(0:Int)<3:=by decide
 have h1:(1:Int)<3:=by decide
 have h2:(2:Int)<3:=by decide
 simp only [yf,yg,ix_0,ye,ya,yb,z2g,e0]
 rw [if_pos (by decide)]
 cases take s [110,117,108,108] with
 | some r=>rfl
 | none =>
  simp only [yc,if_false]
  rw [M.zm.eq_1]
  simp only [yf,yg,ix_1,ye,yd,ya,yb,z2g,e1]
  rw [if_pos (by decide)]
  cases take s [102,97,108,115,101] with
  | some r=>rfl
  | none =>
   simp only [yc,if_false]
   rw [M.zm.eq_1]
   simp only [yf,yg,i2,ye,yd,ya,yb,z2g,e2]
   rw [if_pos (by decide)]
   cases take s [116,114,117,101] with
   | some r=>rfl
   | none =>
    simp only [yc,if_false]
    rw [M.zm.eq_1]
    rw [if_neg (by decide)]
theorem zri {o:Bool} {w:Nat} (hw:w≤16) {self:q0c→Int→Option (Rs (J × q0c))} {vf:Z→Rd} {N:Nat} (hN:N<900000000)
  (hs:∀ s:Z,s.length≤N→self ⟨s⟩ ((w+1:Nat):Int)=some (mRs cv (vf s))) (hv:∀ s x r,vf s = .ok (x,r)→r.length+1≤s.length) :
  ∀ (f:Nat) (s:Z) (l:List J) (ks:List Z),s.length<f→s.length≤N→l.length+s.length≤N→ks.length+s.length≤N →
  M.zo (if o=true then 6 else 5) self (w:Int) [if o=true then 125 else 93] s l ks=some (mRs cv (items vf o (if o=true then 125 else 93) f s l ks)):=by
 intro f
 induction f with
 | zero=>intro s l ks h;omega
 | succ f ih =>
  intro s l ks hf hn hl hk
  rw [M.zo.eq_1,items]
  have step:∀ (s1:Z) (ks1:List Z),s1.length≤s.length→ks1.length+s1.length≤N→(do
    let a_209←self (q0c.mk s1) (yh .i64 ((w:Int)+1))
    match a_209 with
    | .pan e_212=>some (.pan e_212)
    | .ok a_211 =>
     let l_213←app 72 l [(q04.mk a_211.1.zi a_211.1.zt a_211.1.zj a_211.1.zw)]
     let a_214←M.q3k a_211.2 [if o=true then 125 else 93]
     if a_214.1 then
      some (.ok ((q04.mk (if o=true then 6 else 5) ([]:Z) l_213 ks1),a_214.2))
     else
      let a_216←M.q3k a_214.2 ([44]:Z)
      let a_218←M.q3e a_216.1 20
      match a_218 with
      | .pan e_221=>some (.pan e_221)
      | .ok a_220=>M.zo (if o=true then 6 else 5) self (w:Int) [if o=true then 125 else 93] a_216.2.gs l_213 ks1:Option (Rs (J × q0c)))=some (mRs cv (match vf s1 with
   | .pan c => .pan c
   | .ok (x,s2)=>match take s2 [if o=true then 125 else 93] with
    | some r => .ok (⟨if o=true then 6 else 5,[],l++[x],ks1⟩,r)
    | none=>match take s2 [44] with
     | none => .pan 20
     | some r=>items vf o (if o=true then 125 else 93) f r (l++[x]) ks1)):=by
   intro s1 ks1 h1 h2
   rw [w1 (by omega),hs s1 (by omega)]
   simp only [ya,yb]
   cases hx:vf s1 with
   | pan c=>rfl
   | ok p =>
    obtain ⟨x,s2⟩:=p
    have h3:=hv _ _ _ hx
    have je:∀ y:J,(q04.mk y.zi y.zt y.zj y.zw)=y:=fun y=>by cases y;rfl
    simp only [mRs,cv,je]
    rw [z6b (by simp only [yf,yg];omega),z2g]
    simp only [yb]
    cases ht:take s2 [if o=true then 125 else 93] with
    | some r=>simp
    | none =>
     simp only [yc,if_false]
     rw [z2g]
     simp only [yb]
     cases ht2:take s2 [44] with
     | none=>simp [z2z]
     | some r =>
      have h4:=take_len ht2
      simp only [yf,yg] at h4
      simp only [zjb,yb]
      rw [ih r _ ks1 (by omega) (by omega) (by simp;omega) (by omega)]
      rfl
  cases o with
  | false =>
   have st:=step s ks (Nat.le_refl _) hk
   simp only [yc,if_false,ya] at st ⊢
   have e5:decide ((5:Int)=6)=false:=by decide
   simp only [e5,yc,if_false,yb]
   exact st
  | true =>
   simp only [if_true,ya] at step ⊢
   simp only [decide_true,if_true]
   rw [zck _ (by omega)]
   simp only [yb]
   unfold zqy
   cases ht:text s with
   | none=>rfl
   | some p =>
    obtain ⟨k,r⟩:=p
    have h1:=zbm ht
    have h2:=z3t r
    simp only [oRs]
    rw [contains_eq (by omega)]
    simp only [yb]
    by_cases hm:k∈ks
    ·simp [hm,z2z,mRs]
    ·simp only [hm,decide_false,Bool.not_false,if_true,if_false]
     rw [z2g]
     simp only [yb]
     cases ht2:take (z1z r) [58] with
     | none=>simp [z2z,mRs]
     | some r2 =>
      have h3:=take_len ht2
      simp only [yf,yg] at h3
      simp only [zjb,yb]
      rw [z6b (by simp only [yf,yg];omega)]
      simp only [yb]
      exact step r2 (ks++[k]) (by omega) (by simp;omega)
theorem zgy {N:Nat} (hN:N<900000000):∀ (f F:Nat) (s:Z) (w:Nat),w≤16→17≤f+w→2*f≤F→s.length≤N→M.q3n F ⟨s⟩ (w:Int)=some (mRs cv (val f s w)):=by
 intro f
 induction f with
 | zero=>intro F s w h1 h2;omega
 | succ f ih =>
  intro F s w hw hf hF hn
  obtain ⟨F',rfl⟩:∃ F',F=F'+2:=⟨F - 2,by omega⟩
  rw [M.q3n,val]
  rw [z5a,z6o]
  simp only [ya,yb]
  by_cases h34:s.head? = some 34
  ·simp only [h34,decide_true,if_true]
   rw [zck _ (by omega)]
   simp only [yb]
   cases text s with
   | none=>rfl
   | some p=>rfl
  ·have ht:text s=none:=by
    unfold text
    cases s with
    | nil=>rfl
    | cons c r=>simp at h34;simp [h34]
   simp only [h34,decide_false,yc,if_false,ht]
   have nes:∀ (o:Bool) (r:Z),r.length≤N→M.q3j (F'+1) ⟨r⟩ (if o=true then 6 else 5) (w:Int) [if o=true then 125 else 93]=some (mRs cv (nest (fun s=>val f s (w+1)) o w r)):=by
    intro o r hr
    rw [M.q3j]
    unfold nest
    by_cases h16:16≤w
    ·have:¬((w:Int)<16):=by omega
     simp [this,h16,z2z,mRs]
    ·have:((w:Int)<16):=by omega
     simp only [this,decide_true,zjb,ya,yb,h16,if_false,z2g]
     cases hk:take r [if o=true then 125 else 93] with
     | some r2=>rfl
     | none =>
      simp only [yc,if_false]
      exact zri (o:=o) (w:=w) hw hN (fun s hs=>ih F' s (w+1) (by omega) (by omega) (by omega) hs) (fun s x r=>zz00d f s (w+1) x r) (r.length+1) r [] [] (by omega) hr (by simp;omega) (by simp;omega)
   rw [z2g]
   simp only [yb]
   cases h91:take s [91] with
   | some r =>
    have hl:=take_len h91
    have hq:=nes false r (by simp at hl;omega)
    simp only [yc,if_false] at hq
    simp only [if_true,hq,yb]
    cases nest (fun s=>val f s (w+1)) false w r with
    | ok p=>rfl
    | pan c=>rfl
   | none =>
    simp only [yc,if_false,z2g,yb]
    cases h123:take s [123] with
    | some r =>
     have hl:=take_len h123
     have hq:=nes true r (by simp at hl;omega)
     simp only [if_true] at hq
     simp only [if_true,hq,yb]
     cases nest (fun s=>val f s (w+1)) true w r with
     | ok p=>rfl
     | pan c=>rfl
    | none =>
     simp only [yc,if_false,zz00h,yb]
     unfold word
     cases take s [110,117,108,108] with
     | some r=>rfl
     | none =>
      simp only
      cases take s [102,97,108,115,101] with
      | some r=>rfl
      | none =>
       simp only
       cases take s [116,114,117,101] with
       | some r=>rfl
       | none =>
        simp only
        rw [z9w (by omega)]
        simp only [yb]
        by_cases hz:num s=0
        ·simp [hz,z2z,mRs]
        ·have hp:(0:Int)<(num s:Int):=by omega
         have hl:=zn8 s
         have hd:take s (s.take (num s))=some (z1z (s.drop (num s))):=by
          unfold take
          have hpre:(s.take (num s)).isPrefixOf s=true:=by rw [List.isPrefixOf_iff_prefix];exact List.take_prefix _ _
          have hlen:(s.take (num s)).length=num s:=by rw [List.length_take];omega
          rw [if_pos hpre,hlen]
         simp only [hp,decide_true,zjb,yb,zjw hl,z2g,hd,hz,if_false]
         rfl
def parse (s:Z):J × Int:=if 16384<s.length then (⟨0,[],[],[]⟩,22) else match val 17 (z1z s) 0 with
 | .pan c=>(⟨0,[],[],[]⟩,c)
 | .ok (x,r)=>if r=[] then (x,0) else (⟨0,[],[],[]⟩,20)
theorem zgw (s:Z) {f:Nat} (hf:34≤f):M.q35 f s=some (parse s):=by
 unfold M.q35 parse
 by_cases hl:16384<s.length
 ·have:(16384:Int)<(s.length:Int):=by omega
  simp [hl,this]
 ·have:¬(16384:Int)<(s.length:Int):=by omega
  have hb:=z3t s
  have hq:=zgy (N:=16384) (by omega) 17 f (z1z s) 0 (by omega) (by omega) (by omega) (by omega)
  have hq:M.q3n f ⟨z1z s⟩ 0=_:=hq
  simp only [this,decide_false,yc,if_false,hl,z9v,ya,yb,hq]
  cases val 17 (z1z s) 0 with
  | pan c=>rfl
  | ok p =>
   obtain ⟨x,r⟩:=p
   simp only [mRs,cv]
   by_cases hr:r=[]
   ·simp [hr,z2z]
   ·simp [hr,z2z]
end Go.Sen
