import Derived.Test.YtmmgdladipbedaaGreatDoorSnK
set_option linter.all false
section
namespace Go.Sen
open Go.Lk Go.Pe Go.RowKit
/-! Same. -/
/-! The laws. -/
/-- How great a value is that is read. -/
theorem zrp {s t r:List UInt8} (ht:text s=some (t,r)):t.length+4*r.length+4≤4*s.length:=by
 unfold text at ht
 split at ht
 ·split at ht
  ·have tl:∀ (f:Nat) (s acc t r:List UInt8),txt f s acc=some (t,r)→t.length+4*r.length≤acc.length+4*s.length:=by
    intro f
    induction f with
    | zero=>intro s acc t r h;simp [txt] at h
    | succ f ih =>
     intro s acc t r h
     cases s with
     | nil=>simp [txt] at h
     | cons c s =>
      rw [txt] at h
      split at h
      ·cases h
      ·split at h
       ·split at h
        ·cases h;simp;omega
        ·cases h
       ·split at h
        ·split at h
         ·cases h
         ·rename_i t1 r1 he
          have h1:=zfu he
          have h2:=ih _ _ _ _ h
          simp only [List.length_append,List.length_cons] at *
          omega
        ·have h2:=ih _ _ _ _ h
         simp only [List.length_append,List.length_cons,List.length_nil] at *
         omega
   have:=tl _ _ _ _ _ ht
   simp only [List.length_cons,List.length_nil] at *
   omega
  ·cases ht
 ·cases ht
theorem ztb {vf:List UInt8→Rd} {o:Bool} {e:UInt8} (hv:∀ s x r,vf s = .ok (x,r)→x.sz+8*r.length≤8*s.length):∀ (f:Nat) (s:List UInt8) (l:List J) (ks:List (List UInt8)) (x:J) (r:List UInt8),items vf o e f s l ks = .ok (x,r)→x.sz+8*r.length≤8*s.length+szs l+kys ks:=by
 intro f
 induction f with
 | zero=>intro s l ks x r h;simp [items] at h
 | succ f ih =>
  intro s l ks x r h
  rw [items] at h
  have app1:∀ (l:List J) (x:J),szs (l++[x])=szs l+x.sz+1:=fun l x=>by
   induction l with
   | nil=>simp [szs]
   | cons y l ih=>simp only [List.cons_append,szs,ih];omega
  have app2:∀ (l:List (List UInt8)) (x:List UInt8),kys (l++[x])=kys l+x.length+1:=fun l x=>by
   induction l with
   | nil=>simp [kys]
   | cons y l ih=>rw [List.cons_append,z38,z38,ih];omega
  split at h
  ·cases h
  ·rename_i s1 ks1 hk
   have h1:kys ks1+8*s1.length≤8*s.length+kys ks:=by
    split at hk
    ·unfold zq1 at hk
     split at hk
     ·cases hk
     ·rename_i k r1 ht
      have g1:=z9x ht
      have g2:=z2j r1
      have g5:=zrp ht
      split at hk
      ·cases hk
      ·split at hk
       ·cases hk
       ·rename_i r2 ht2
        have g3:=take_len ht2
        simp only [List.length_cons,List.length_nil] at g3
        simp only [Rs.ok.injEq,Prod.mk.injEq] at hk
        obtain ⟨rfl,rfl⟩:=hk
        rw [app2]
        omega
    ·simp only [Rs.ok.injEq,Prod.mk.injEq] at hk
     obtain ⟨rfl,rfl⟩:=hk
     omega
   split at h
   ·cases h
   ·rename_i x2 s2 hx
    have h2:=hv _ _ _ hx
    split at h
    ·rename_i r2 ht
     have h3:=take_len ht
     simp only [List.length_cons,List.length_nil] at h3
     simp only [Rs.ok.injEq,Prod.mk.injEq] at h
     obtain ⟨rfl,rfl⟩:=h
     rw [q03.z1m]
     simp only [app1,List.length_nil]
     omega
    ·split at h
     ·cases h
     ·rename_i r2 ht
      have h3:=take_len ht
      simp only [List.length_cons,List.length_nil] at h3
      have h4:=ih _ _ _ _ _ h
      rw [app1] at h4
      omega
theorem zql {vf:List UInt8→Rd} {o:Bool} {w:Nat} (hv:∀ s x r,vf s = .ok (x,r)→x.sz+8*r.length≤8*s.length) {s r:List UInt8} {x:J} (h:nest vf o w s = .ok (x,r)):x.sz+8*r.length≤8*s.length:=by
 unfold nest at h
 split at h
 ·cases h
 ·split at h
  ·rename_i r2 ht
   have:=take_len ht
   simp only [Rs.ok.injEq,Prod.mk.injEq] at h
   obtain ⟨rfl,rfl⟩:=h
   simp only [List.length_cons,List.length_nil] at this
   simp only [q03.sz,szs,z4d,List.length_nil]
   omega
  ·exact ztb hv _ _ _ _ _ _ h
theorem zy4 {s r:List UInt8} {x:J} (h:word s = .ok (x,r)):x.sz+8*r.length≤8*s.length:=by
 have hl:=zmy h
 unfold word at h
 split at h
 ·simp only [Rs.ok.injEq,Prod.mk.injEq] at h
  obtain ⟨rfl,rfl⟩:=h
  simp only [q03.sz,szs,z4d,List.length_nil]
  omega
 ·split at h
  ·simp only [Rs.ok.injEq,Prod.mk.injEq] at h
   obtain ⟨rfl,rfl⟩:=h
   simp only [q03.sz,szs,z4d,List.length_nil]
   omega
  ·split at h
   ·simp only [Rs.ok.injEq,Prod.mk.injEq] at h
    obtain ⟨rfl,rfl⟩:=h
    simp only [q03.sz,szs,z4d,List.length_nil]
    omega
   ·split at h
    ·cases h
    ·simp only [Rs.ok.injEq,Prod.mk.injEq] at h
     obtain ⟨rfl,rfl⟩:=h
     have h1:=z2j (s.drop (num s))
     have h2:=zmd s
     rw [List.length_drop] at h1
     simp only [q03.sz,szs,z4d,List.length_nil,List.length_take]
     omega
theorem zz008:∀ (f:Nat) (s:List UInt8) (w:Nat) (x:J) (r:List UInt8),val f s w = .ok (x,r)→x.sz+8*r.length≤8*s.length:=by
 intro f
 induction f with
 | zero=>intro s w x r h;simp [val] at h
 | succ f ih =>
  intro s w x r h
  rw [val] at h
  split at h
  ·rename_i t r2 ht
   have h1:=z9x ht
   have h2:=z2j r2
   have h3:=zrp ht
   simp only [Rs.ok.injEq,Prod.mk.injEq] at h
   obtain ⟨rfl,rfl⟩:=h
   simp only [q03.sz,szs,z4d]
   omega
  ·split at h
   ·cases h
   ·split at h
    ·rename_i r2 ht
     have h1:=take_len ht
     have h2:=zql (fun s x r=>ih s (w+1) x r) h
     omega
    ·split at h
     ·rename_i r2 ht
      have h1:=take_len ht
      have h2:=zql (fun s x r=>ih s (w+1) x r) h
      omega
     ·exact zy4 h
theorem ztz (s:List UInt8):(parse s).1.sz≤131072:=by
 unfold parse
 have h0:(⟨0,[],[],[]⟩:J).sz≤131072:=by decide
 split
 ·exact h0
 ·rename_i hl
  split
  ·exact h0
  ·rename_i y r hv
   have h1:=zz008 _ _ _ _ _ hv
   have h2:=z2j s
   split
   ·simp only;omega
   ·exact h0
end Go.Sen
end
section
namespace Go.Sen
open Go.Lk Go.Pe
def zwv:J:=⟨0,[],[],[]⟩
def z7v (v:J) (k:List UInt8):J × Bool:=if v.za=6 then (match v.z0a.findIdx? (fun x=>decide (k=x)) with
 | some j=>(match v.zf[j]? with|some x=>(x,true)|none=>(zwv,false))
 | none=>(zwv,false)) else (zwv,false)
theorem z5m {v:J} {k:List UInt8} (h:v.z0a.length<1000000000):M.q0j v k=some (z7v v k):=by
 unfold M.q0j z7v
 rw [zm1 (by omega)]
 simp only [Option.bind_eq_bind,Option.bind_some]
 by_cases h6:v.za=6
 ·simp only [h6,decide_true,Bool.true_and,if_true]
  cases v.z0a.findIdx? (fun x=>decide (k=x)) with
  | none=>rfl
  | some j =>
   simp only
   have h0:(0:Int)≤(j:Int):=by omega
   by_cases hj:j<v.zf.length
   ·have:(j:Int)<(v.zf.length:Int):=by omega
    simp [this,z4a,List.getElem?_eq_getElem hj]
   ·have:¬(j:Int)<(v.zf.length:Int):=by omega
    simp [this,List.getElem?_eq_none (Nat.le_of_not_lt hj),zwv]
 ·simp [h6,zwv]
theorem zgb (v:J) (k:List UInt8):(z7v v k).1.sz≤v.sz:=by
 have h1:=q03.z1m v
 have h0:zwv.sz=1:=by decide
 unfold z7v
 split
 ·split
  ·split
   ·rename_i x hx
    have:=zgv (List.mem_of_getElem? hx)
    simp only
    omega
   ·simp only;omega
  ·simp only;omega
 ·simp only;omega
/-! Lists of texts. -/
def texts:List J→Option (List (List UInt8))
 | []=>some []
 | x::l=>if x.za=4 then (texts l).map (x.z0d :: ·) else none
theorem zi4 {v:J} (hl:v.zf.length<1000000000):∀ (n i:Nat) (acc:List (List UInt8)),v.zf.length - i=n→i≤v.zf.length→acc.length+n<1000000000 →
  M.z1q v acc (i:Int)=some (match texts (v.zf.drop i) with|some l => .go (acc++l)|none => .done ([],false)):=by
 intro n
 induction n with
 | zero =>
  intro i acc hn hi ha
  rw [M.z1q.eq_1]
  have:¬((i:Int)<(v.zf.length:Int)):=by omega
  rw [if_neg (by simp [this]),List.drop_eq_nil_of_le (by omega)]
  simp [texts]
 | succ n ih =>
  intro i acc hn hi ha
  have hlt:i<v.zf.length:=by omega
  rw [M.z1q.eq_1]
  have h1:((i:Int)<(v.zf.length:Int)):=by omega
  simp only [h1,decide_true,if_true,z4a,List.getElem?_eq_getElem hlt,Option.bind_eq_bind,Option.bind_some]
  rw [List.drop_eq_getElem_cons hlt,texts]
  by_cases h4:(v.zf[i]).za=4
  ·simp only [h4,decide_true,Bool.not_true,Bool.false_eq_true,if_false,if_true]
   rw [z3g (by simp only [List.length_cons,List.length_nil];omega),w1 (by omega)]
   simp only [Option.bind_some]
   rw [ih (i+1) _ (by omega) (by omega) (by simp;omega)]
   cases texts (v.zf.drop (i+1)) with
   | none=>rfl
   | some l=>simp
  ·simp [h4]
def zau (v:J):List (List UInt8) × Bool:=if v.za=5 then (match texts v.zf with|some l=>(l,true)|none=>([],false)) else ([],false)
theorem zg2 {v:J} (hl:v.zf.length<100000000):M.q0m v=some (zau v):=by
 unfold M.q0m zau
 by_cases h5:v.za=5
 ·have hk:=zi4 (v:=v) (by omega) _ 0 [] rfl (Nat.zero_le _) (by simp;omega)
  have hk:M.z1q v [] 0=_:=hk
  simp only [h5,decide_true,Bool.not_true,Bool.false_eq_true,if_false,if_true,hk,List.drop_zero,List.nil_append,Option.bind_eq_bind,Option.bind_some]
  cases texts v.zf<;>rfl
 ·simp [h5]
/-! Small whole numbers. -/
end Go.Sen
end
