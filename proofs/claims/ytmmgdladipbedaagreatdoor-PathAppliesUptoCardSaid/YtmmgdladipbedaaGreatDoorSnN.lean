import Derived.Test.YtmmgdladipbedaaGreatDoorSpE
import Derived.Test.YtmmgdladipbedaaGreatDoorSpH
import Derived.Test.YtmmgdladipbedaaGreatDoorPaL6
set_option linter.all false
section
namespace Go.Sen
open _root_.List renaming cons_append → ya, length_append → yb, length_cons → yc, length_nil → yd
open Go.Lk Go.Pe Go.RowKit
theorem zp2 {s t r:List UInt8} (ht:text s=some (t,r)):t.length+4*r.length+4≤4*s.length:=by
 unfold text at ht
 split at ht
 ·split at ht
  ·have tl:∀ (f:Nat) (s acc t r:List UInt8),txt f s acc=some (t,r)→t.length+4*r.length≤acc.length+4*s.length:=by
    intro f
    induction f with
    | zero=>intro s acc t r h;simp [txt] at h
    | succ f ih =>
     intro s acc t r h
     cases s with
     | nil=>simp [txt] at h
     | cons c s =>
      rw [txt] at h
      split at h
      ·cases h
      ·split at h
       ·split at h
        ·cases h;simp;omega
        ·cases h
       ·split at h
        ·split at h
         ·cases h
         ·rename_i t1 r1 he
          have h1:=ze1 he
          have h2:=ih _ _ _ _ h
          simp only [yb,yc] at *
          omega
        ·have h2:=ih _ _ _ _ h
         simp only [yb,yc,yd] at *
         omega
   have:=tl _ _ _ _ _ ht
   simp only [yc,yd] at *
   omega
  ·cases ht
 ·cases ht
theorem zqm {vf:List UInt8→Rd} {o:Bool} {e:UInt8} (hv:∀ s x r,vf s = .ok (x,r)→x.sz+8*r.length≤8*s.length):∀ (f:Nat) (s:List UInt8) (l:List J) (ks:List (List UInt8)) (x:J) (r:List UInt8),items vf o e f s l ks = .ok (x,r)→x.sz+8*r.length≤8*s.length+szs l+kys ks:=by
 intro f
 induction f with
 | zero=>intro s l ks x r h;simp [items] at h
 | succ f ih =>
  intro s l ks x r h
  rw [items] at h
  have app1:∀ (l:List J) (x:J),szs (l++[x])=szs l+x.sz+1:=fun l x=>by
   induction l with
   | nil=>simp [szs]
   | cons y l ih=>simp only [ya,szs,ih];omega
  have app2:∀ (l:List (List UInt8)) (x:List UInt8),kys (l++[x])=kys l+x.length+1:=fun l x=>by
   induction l with
   | nil=>simp [kys]
   | cons y l ih=>rw [ya,z3j,z3j,ih];omega
  split at h
  ·cases h
  ·rename_i s1 ks1 hk
   have h1:kys ks1+8*s1.length≤8*s.length+kys ks:=by
    split at hk
    ·unfold zqp at hk
     split at hk
     ·cases hk
     ·rename_i k r1 ht
      have g1:=z8s ht
      have g2:=z2b r1
      have g5:=zp2 ht
      split at hk
      ·cases hk
      ·split at hk
       ·cases hk
       ·rename_i r2 ht2
        have g3:=take_len ht2
        simp only [yc,yd] at g3
        simp only [Rs.ok.injEq,Prod.mk.injEq] at hk
        obtain ⟨rfl,rfl⟩:=hk
        rw [app2]
        omega
    ·simp only [Rs.ok.injEq,Prod.mk.injEq] at hk
     obtain ⟨rfl,rfl⟩:=hk
     omega
   split at h
   ·cases h
   ·rename_i x2 s2 hx
    have h2:=hv _ _ _ hx
    split at h
    ·rename_i r2 ht
     have h3:=take_len ht
     simp only [yc,yd] at h3
     simp only [Rs.ok.injEq,Prod.mk.injEq] at h
     obtain ⟨rfl,rfl⟩:=h
     rw [q03.z2a]
     simp only [app1,yd]
     omega
    ·split at h
     ·cases h
     ·rename_i r2 ht
      have h3:=take_len ht
      simp only [yc,yd] at h3
      have h4:=ih _ _ _ _ _ h
      rw [app1] at h4
      omega
theorem zo4 {vf:List UInt8→Rd} {o:Bool} {w:Nat} (hv:∀ s x r,vf s = .ok (x,r)→x.sz+8*r.length≤8*s.length) {s r:List UInt8} {x:J} (h:nest vf o w s = .ok (x,r)):x.sz+8*r.length≤8*s.length:=by
 unfold nest at h
 split at h
 ·cases h
 ·split at h
  ·rename_i r2 ht
   have:=take_len ht
   simp only [Rs.ok.injEq,Prod.mk.injEq] at h
   obtain ⟨rfl,rfl⟩:=h
   simp only [yc,yd] at this
   simp only [q03.sz,szs,z7q,yd]
   omega
  ·exact zqm hv _ _ _ _ _ _ h
theorem zv8 {s r:List UInt8} {x:J} (h:word s = .ok (x,r)):x.sz+8*r.length≤8*s.length:=by
 have hl:=zkk h
 unfold word at h
 split at h
 ·simp only [Rs.ok.injEq,Prod.mk.injEq] at h
  obtain ⟨rfl,rfl⟩:=h
  simp only [q03.sz,szs,z7q,yd]
  omega
 ·split at h
  ·simp only [Rs.ok.injEq,Prod.mk.injEq] at h
   obtain ⟨rfl,rfl⟩:=h
   simp only [q03.sz,szs,z7q,yd]
   omega
  ·split at h
   ·simp only [Rs.ok.injEq,Prod.mk.injEq] at h
    obtain ⟨rfl,rfl⟩:=h
    simp only [q03.sz,szs,z7q,yd]
    omega
   ·split at h
    ·cases h
    ·simp only [Rs.ok.injEq,Prod.mk.injEq] at h
     obtain ⟨rfl,rfl⟩:=h
     have h1:=z2b (s.drop (num s))
     have h2:=zk1 s
     rw [List.length_drop] at h1
     simp only [q03.sz,szs,z7q,yd,List.length_take]
     omega
theorem zxa:∀ (f:Nat) (s:List UInt8) (w:Nat) (x:J) (r:List UInt8),val f s w = .ok (x,r)→x.sz+8*r.length≤8*s.length:=by
 intro f
 induction f with
 | zero=>intro s w x r h;simp [val] at h
 | succ f ih =>
  intro s w x r h
  rw [val] at h
  split at h
  ·rename_i t r2 ht
   have h1:=z8s ht
   have h2:=z2b r2
   have h3:=zp2 ht
   simp only [Rs.ok.injEq,Prod.mk.injEq] at h
   obtain ⟨rfl,rfl⟩:=h
   simp only [q03.sz,szs,z7q]
   omega
  ·split at h
   ·cases h
   ·split at h
    ·rename_i r2 ht
     have h1:=take_len ht
     have h2:=zo4 (fun s x r=>ih s (w+1) x r) h
     omega
    ·split at h
     ·rename_i r2 ht
      have h1:=take_len ht
      have h2:=zo4 (fun s x r=>ih s (w+1) x r) h
      omega
     ·exact zv8 h
theorem zr7 (s:List UInt8):(parse s).1.sz≤131072:=by
 unfold parse
 have h0:(⟨0,[],[],[]⟩:J).sz≤131072:=by decide
 split
 ·exact h0
 ·rename_i hl
  split
  ·exact h0
  ·rename_i y r hv
   have h1:=zxa _ _ _ _ _ hv
   have h2:=z2b s
   split
   ·simp only;omega
   ·exact h0
end Go.Sen
end
section
namespace Go.Sen
open _root_.Option renaming bind_eq_bind → ya, bind_some → yb
open _root_.Bool renaming false_eq_true → yc
open _root_.List renaming getElem?_eq_getElem → yd
open Go.Lk Go.Pe
def zvh:J:=⟨0,[],[],[]⟩
def z8i (v:J) (k:List UInt8):J × Bool:=if v.zc=6 then (match v.z0m.findIdx? (fun x=>decide (k=x)) with
 | some j=>(match v.zh[j]? with|some x=>(x,true)|none=>(zvh,false))
 | none=>(zvh,false)) else (zvh,false)
theorem z4i {v:J} {k:List UInt8} (h:v.z0m.length<1000000000):M.q0g v k=some (z8i v k):=by
 unfold M.q0g z8i
 rw [zjo (by omega)]
 simp only [ya,yb]
 by_cases h6:v.zc=6
 ·simp only [h6,decide_true,Bool.true_and,if_true]
  cases v.z0m.findIdx? (fun x=>decide (k=x)) with
  | none=>rfl
  | some j =>
   simp only
   have h0:(0:Int)≤(j:Int):=by omega
   by_cases hj:j<v.zh.length
   ·have:(j:Int)<(v.zh.length:Int):=by omega
    simp [this,z3d,yd hj]
   ·have:¬(j:Int)<(v.zh.length:Int):=by omega
    simp [this,List.getElem?_eq_none (Nat.le_of_not_lt hj),zvh]
 ·simp [h6,zvh]
theorem zeh (v:J) (k:List UInt8):(z8i v k).1.sz≤v.sz:=by
 have h1:=q03.z2a v
 have h0:zvh.sz=1:=by decide
 unfold z8i
 split
 ·split
  ·split
   ·rename_i x hx
    have:=zf5 (List.mem_of_getElem? hx)
    simp only
    omega
   ·simp only;omega
  ·simp only;omega
 ·simp only;omega
def texts:List J→Option (List (List UInt8))
 | []=>some []
 | x::l=>if x.zc=4 then (texts l).map (x.z0q :: ·) else none
theorem zgc {v:J} (hl:v.zh.length<1000000000):∀ (n i:Nat) (acc:List (List UInt8)),v.zh.length - i=n→i≤v.zh.length→acc.length+n<1000000000 →
  M.z1g v acc (i:Int)=some (match texts (v.zh.drop i) with|some l => .go (acc++l)|none => .done ([],false)):=by
 intro n
 induction n with
 | zero =>
  intro i acc hn hi ha
  rw [M.z1g.eq_1]
  have:¬((i:Int)<(v.zh.length:Int)):=by omega
  rw [if_neg (by simp [this]),List.drop_eq_nil_of_le (by omega)]
  simp [texts]
 | succ n ih =>
  intro i acc hn hi ha
  have hlt:i<v.zh.length:=by omega
  rw [M.z1g.eq_1]
  have h1:((i:Int)<(v.zh.length:Int)):=by omega
  simp only [h1,decide_true,if_true,z3d,yd hlt,ya,yb]
  rw [List.drop_eq_getElem_cons hlt,texts]
  by_cases h4:(v.zh[i]).zc=4
  ·simp only [h4,decide_true,Bool.not_true,yc,if_false,if_true]
   rw [z2e (by simp only [List.length_cons,List.length_nil];omega),w1 (by omega)]
   simp only [yb]
   rw [ih (i+1) _ (by omega) (by omega) (by simp;omega)]
   cases texts (v.zh.drop (i+1)) with
   | none=>rfl
   | some l=>simp
  ·simp [h4]
def zc2 (v:J):List (List UInt8) × Bool:=if v.zc=5 then (match texts v.zh with|some l=>(l,true)|none=>([],false)) else ([],false)
theorem zeb {v:J} (hl:v.zh.length<100000000):M.q0j v=some (zc2 v):=by
 unfold M.q0j zc2
 by_cases h5:v.zc=5
 ·have hk:=zgc (v:=v) (by omega) _ 0 [] rfl (Nat.zero_le _) (by simp;omega)
  have hk:M.z1g v [] 0=_:=hk
  simp only [h5,decide_true,Bool.not_true,yc,if_false,if_true,hk,List.drop_zero,List.nil_append,ya,yb]
  cases texts v.zh<;>rfl
 ·simp [h5]
end Go.Sen
end
section
namespace Go.Sen
open _root_.Option renaming bind_eq_bind → ya, bind_some → yb
open _root_.Bool renaming and_eq_true → yc, false_eq_true → yd, not_eq_true' → ye, not_true → yf, or_eq_true → yg
open _root_.List renaming drop_zero → yh, getElem?_eq_getElem → yi, getElem_mem → yj, length_cons → yk, length_map → yl, length_nil → ym, mem_append → yn, mem_cons → yo, mem_cons_of_mem → yp, mem_cons_self → yq, mem_singleton → yr, nil_append → ys
open _root_.Nat renaming zero_le → yt
open Go.Lk Go.Pe
abbrev MP:=List (List UInt8 × List (List UInt8))
def mp0 (l:List q02):MP:=l.foldl (fun m f=>z3b m f.zg f.zf) []
def z4t (m:MP) (x:ED):Int × MP :=
 let v:=dn x (z2s m x.zg [])
 if v.2=0 then (let m':=if 0<v.1.length then z3b (z5m m x.zg) x.zg v.1 else z5m m x.zg
  if 64<v.1.length∨32<m'.length then (191,[]) else (0,m')) else (v.2,[])
def z1s:List ED→MP→Int × MP
 | [],m=>(0,m)
 | x::l,m=>if (z4t m x).1=0 then z1s l (z4t m x).2 else ((z4t m x).1,[])
def srt (m:MP):List q02:=(m.map fun x=>q02.mk x.1 x.2).mergeSort fun x y=>decide (x.zg≤y.zg)
def zT:TH:=⟨[],[],[],[]⟩
def apT (l:List ED) (t:TH):TH × Int:=if zca t=0 then (if z6s l=0 then (if (z1s l (mp0 t.za)).1=0 then (⟨t.gId,t.zc,t.z2c,srt (z1s l (mp0 t.za)).2⟩,0) else (zT,(z1s l (mp0 t.za)).1)) else (zT,z6s l)) else (zT,zca t)
structure Good (m:MP):Prop where
 nd:(m.map (·.1)).Nodup
 sm:∀ x∈m,x.2.length≤64∧∀ v∈x.2,v.length≤128
theorem zbk (k:List UInt8) (v:List (List UInt8)):∀ m:MP,(z3b m k v).map (·.1)=if k∈m.map (·.1) then m.map (·.1) else m.map (·.1)++[k]
 | []=>by simp [z3b]
 | (a,b)::r=>by
  have ih:=zbk k v r
  unfold z3b
  by_cases h:k=a
  ·simp [h]
  ·rw [if_neg h]
   simp only [List.map_cons,ih,yo,h,false_or]
   split<;>simp
theorem zjv {k:List UInt8} {v:List (List UInt8)} {x:List UInt8 × List (List UInt8)}:∀ {m:MP},x∈z3b m k v→x=(k,v)∨x∈m
 | [],h=>by simpa [z3b] using h
 | (a,b)::r,h=>by
  unfold z3b at h
  split at h
  ·rcases yo.1 h with h|h
   ·exact .inl h
   ·exact .inr (yp _ h)
  ·rcases yo.1 h with h|h
   ·exact .inr (by rw [h];exact yq)
   ·rcases zjv h with h|h
    ·exact .inl h
    ·exact .inr (yp _ h)
theorem zeg (k:List UInt8):∀ m:MP,(z5m m k).Sublist m
 | []=>List.Sublist.slnil
 | (a,b)::r=>by
  unfold z5m
  split
  ·exact List.sublist_cons_self _ _
  ·exact (zeg k r).cons_cons _
theorem zej {k:List UInt8} {z:List (List UInt8)}:∀ m:MP,z2s m k z=z∨(k,z2s m k z)∈m
 | [] => .inl rfl
 | (a,b)::r=>by
  unfold z2s
  split
  ·rename_i h;exact .inr (by rw [h];exact yq)
  ·rcases zej (k:=k) (z:=z) r with h|h
   ·exact .inl h
   ·exact .inr (yp _ h)
theorem Good.put {m:MP} (h:Good m) {k:List UInt8} {v:List (List UInt8)} (hv:v.length≤64∧∀ s∈v,s.length≤128):Good (z3b m k v):=by
 refine ⟨?_,fun x hx => ?_⟩
 ·rw [zbk]
  split
  ·exact h.nd
  ·rename_i hn
   rw [List.nodup_append]
   exact ⟨h.nd,by simp,fun a ha b hb=>by rw [yr] at hb;rw [hb];exact fun e=>hn (e▸ha)⟩
 ·rcases zjv hx with rfl|hx
  ·exact hv
  ·exact h.sm x hx
theorem Good.del {m:MP} (h:Good m) (k:List UInt8):Good (z5m m k) :=
 ⟨((zeg k m).map _).nodup h.nd,fun x hx=>h.sm x ((zeg k m).subset hx)⟩
theorem Good.nil:Good []:=⟨by simp,fun x hx=>by cases hx⟩
theorem Good.get {m:MP} (h:Good m) (k:List UInt8):(z2s m k []).length≤64∧∀ s∈z2s m k [],s.length≤128:=by
 rcases zej (k:=k) (z:=[]) m with e|e
 ·rw [e];exact ⟨by simp,fun s hs=>by cases hs⟩
 ·exact h.sm _ e
theorem zby {l:List (List UInt8)} (h:sgl l=true):l.length≤64∧∀ v∈l,v.length≤128:=by
 unfold sgl at h
 simp only [yc,decide_eq_true_eq,List.all_eq_true] at h
 exact ⟨h.1.1,fun v hv=>z90 (h.2 v hv)⟩
theorem zdz {x:ED} (h:z5o x=true):sgl x.zf=true:=by
 unfold z5o at h
 simp only [yc] at h
 exact h.1.1.2
theorem zdx {x:ED} {first:Nat} {v:List UInt8}:∀ {l:List (List UInt8)} {i:Nat},v∈dnL x first i l→v∈l∨v=x.zf.head?.getD []
 | [],_,h=>by simp [dnL] at h
 | a::r,i,h=>by
  simp only [dnL,yn] at h
  rcases h with h|h
  ·split at h
   ·rw [yr] at h;exact .inr h
   ·split at h
    ·rw [yr] at h;exact .inl (by rw [h];exact yq)
    ·cases h
  ·rcases zdx h with h|h
   ·exact .inl (yp _ h)
   ·exact .inr h
theorem zq6 {x:ED} {old:List (List UInt8)} (hx:z5o x=true) (ho:∀ s∈old,s.length≤128):∀ s∈(dn x old).1,s.length≤128:=by
 have hv:=(zby (zdz hx)).2
 unfold dn
 split
 ·intro s hs
  rcases yn.1 hs with h|h
  ·exact ho s h
  ·exact hv s (List.mem_filter.1 h).1
 ·split
  ·exact hv
  ·intro s hs;cases hs
  ·intro s hs
   rcases zdx hs with h|h
   ·exact ho s h
   ·rw [h]
    cases hvv:x.zf with
    | nil=>simp
    | cons a b=>exact hv a (by rw [hvv];exact yq)
def z5v (m:MP) (x:ED) (v:List (List UInt8)):MP:=if 0<v.length then z3b (z5m m x.zg) x.zg v else z5m m x.zg
theorem zf2 (m:MP) (x:ED):z4t m x=if (dn x (z2s m x.zg [])).2=0 then (if 64<(dn x (z2s m x.zg [])).1.length∨32<(z5v m x (dn x (z2s m x.zg [])).1).length then (191,[]) else (0,z5v m x (dn x (z2s m x.zg [])).1)) else ((dn x (z2s m x.zg [])).2,[]):=rfl
theorem zf3 {m:MP} {x:ED} (h0:(z4t m x).1=0):(dn x (z2s m x.zg [])).2=0∧(dn x (z2s m x.zg [])).1.length≤64∧(z5v m x (dn x (z2s m x.zg [])).1).length≤32∧(z4t m x).2=z5v m x (dn x (z2s m x.zg [])).1:=by
 rw [zf2] at h0 ⊢
 by_cases h1:(dn x (z2s m x.zg [])).2=0
 ·rw [if_pos h1] at h0 ⊢
  by_cases h2:64<(dn x (z2s m x.zg [])).1.length∨32<(z5v m x (dn x (z2s m x.zg [])).1).length
  ·rw [if_pos h2] at h0;cases h0
  ·rw [if_neg h2]
   exact ⟨h1,by omega,by omega,rfl⟩
 ·rw [if_neg h1] at h0
  exact (h1 h0).elim
theorem zdk {m:MP} {x:ED} (h:Good m) (hx:z5o x=true) (h0:(z4t m x).1=0):Good (z4t m x).2:=by
 have hg:=h.get x.zg
 have hd:=zq6 hx hg.2
 obtain ⟨h1,h2,h3,h4⟩:=zf3 h0
 rw [h4]
 unfold z5v
 split
 ·exact (h.del _).put ⟨h2,hd⟩
 ·exact h.del _
theorem z6i (x:ED) (l:List ED) (m:MP):z1s (x::l) m=if (z4t m x).1=0 then z1s l (z4t m x).2 else ((z4t m x).1,[]):=rfl
theorem zb2:∀ (l:List ED) (m:MP) (n:Nat),m.length≤n→32≤n→(z1s l m).1=0→(z1s l m).2.length≤n
 | [],m,n,h,_,_=>h
 | x::l,m,n,h,hn,h0=>by
  rw [z6i] at h0 ⊢
  by_cases h1:(z4t m x).1=0
  ·rw [if_pos h1] at h0 ⊢
   obtain ⟨_,_,h3,h4⟩:=zf3 h1
   exact zb2 l _ n (by rw [h4];omega) hn h0
  ·rw [if_neg h1] at h0
   exact (h1 h0).elim
theorem zo2:∀ (l:List q02) (m:MP),(l.foldl (fun m f=>z3b m f.zg f.zf) m).length≤m.length+l.length
 | [],m=>by simp
 | f::l,m=>by
  have h1:=zo2 l (z3b m f.zg f.zf)
  have h2:(z3b m f.zg f.zf).length≤m.length+1:=by
   have:=congrArg List.length (zbk f.zg f.zf m)
   simp only [yl] at this
   rw [this]
   split<;>simp
  simp only [List.foldl_cons,yk]
  omega
theorem zju:∀ (l:List q02) (m:MP),Good m→(∀ f∈l,sgl f.zf=true)→Good (l.foldl (fun m f=>z3b m f.zg f.zf) m)
 | [],m,h,_=>h
 | f::l,m,h,hl=>zju l _ (h.put (zby (hl f yq))) fun g hg=>hl g (yp _ hg)
theorem zj7:∀ {l:List q02} {p:Option (List UInt8)},zdt p l=true→∀ f∈l,sgl f.zf=true
 | f::l,p,h,g,hg=>by
  simp only [zdt,yc] at h
  rcases yo.1 hg with rfl|hg
  ·exact h.1.2
  ·exact zj7 h.2 g hg
theorem zd3:∀ {l:List ED} {m:MP},Good m→(∀ x∈l,z5o x=true)→(z1s l m).1=0→Good (z1s l m).2
 | [],m,h,_,_=>h
 | x::l,m,h,hl,h0=>by
  unfold z1s at h0 ⊢
  split at h0
  ·rename_i h1
   rw [if_pos h1]
   exact zd3 (zdk h (hl x yq) h1) (fun y hy=>hl y (yp _ hy)) h0
  ·rename_i h1
   exact (h1 h0).elim
theorem zfr {l:List (List UInt8)} (h:l.length<1000000000):M.z0s l=some l:=by
 unfold M.z0s
 rw [z30 (by rw [decide_eq_true_iff];omega)]
 rfl
theorem zpu {t:TH} (ht:z1o t):∀ (n i:Nat) (m:MP),t.za.length - i=n→i≤t.za.length→M.z0w t (i:Int) m=some ((t.za.drop i).foldl (fun m f=>z3b m f.zg f.zf) m):=by
 obtain ⟨h1,_,_,h4⟩:=ht.parts
 intro n
 induction n with
 | zero =>
  intro i m h2 h3
  have:i=t.za.length:=by omega
  subst this
  rw [M.z0w]
  simp
 | succ n ih =>
  intro i m h2 h3
  have hi:i<t.za.length:=by omega
  rw [M.z0w,z13 hi]
  simp only [show ((i:Int)<(t.za.length:Int)) by omega,decide_true,if_true,z3d,yi hi,ya,yb,zfr (h4 _ (yj hi)).2.1]
  rw [w1 (by omega),ih (i+1) _ (by omega) (by omega)]
  rfl
theorem zpv {l:List ED} {f:Nat} (hf:4*z6y l+17≤f) (hl:z6y l<1000000000) (hok:∀ x∈l,z5o x=true):∀ (n i:Nat) (m:MP),l.length - i=n→i≤l.length→Good m→M.z0x l f (i:Int) m=some (if (z1s (l.drop i) m).1=0 then .go (z1s (l.drop i) m).2 else .done (zT,(z1s (l.drop i) m).1)):=by
 have hlen:l.length≤z6y l:=z9c (g:=fun x:ED=>x.sz) (fun x=>by unfold q00.sz;omega) l
 have hm:∀ x∈l,x.sz≤z6y l:=fun x hx=>z9d (g:=fun x:ED=>x.sz) hx
 intro n
 induction n with
 | zero =>
  intro i m h2 h3 hg
  have:i=l.length:=by omega
  subst this
  rw [M.z0x]
  simp [z1s]
 | succ n ih =>
  intro i m h2 h3 hg
  have hi:i<l.length:=by omega
  have hxm:=yj hi
  have hsz:=hm _ hxm
  have hgg:=hg.get l[i].zg
  rw [M.z0x,z13 hi]
  simp only [show ((i:Int)<(l.length:Int)) by omega,decide_true,if_true,z3d,yi hi,ya,yb]
  rw [zgs (by omega) (fun v hv=>by have:=hgg.2 v hv;omega) (by omega) (by unfold z3t;omega) (hok _ hxm)]
  simp only [yb]
  have hst:=zf2 m l[i]
  have hfc:=z6i l[i] (l.drop (i+1)) m
  have hgood:(z4t m l[i]).1=0→Good (z4t m l[i]).2:=zdk hg (hok _ hxm)
  generalize dn l[i] (z2s m l[i].zg [])=v at hst ⊢
  by_cases h0:v.2=0
  ·rw [if_pos h0] at hst
   simp only [h0,decide_true,yf,yd,if_false]
   have hj:(if decide ((0:Int)<(v.1.length:Int))=true then some (v.1,z3b (z5m m l[i].zg) l[i].zg v.1) else some (v.1,z5m m l[i].zg):Option (List (List UInt8) × MP))=some (v.1,z5v m l[i] v.1):=by
    unfold z5v
    by_cases hp:0<v.1.length
    ·have:(0:Int)<(v.1.length:Int):=by omega
     simp [hp]
    ·have:¬(0:Int)<(v.1.length:Int):=by omega
     simp [hp]
   rw [hj]
   simp only [yb]
   generalize z5v m l[i] v.1=m' at hst ⊢
   by_cases hc:64<v.1.length∨32<m'.length
   ·have hc':((decide ((64:Int)<(v.1.length:Int)))||(decide ((32:Int)<(m'.length:Int))))=true:=by
     simp only [yg,decide_eq_true_eq];omega
    rw [if_pos hc] at hst
    rw [hst] at hfc
    have hfc:z1s (l[i]::l.drop (i+1)) m=(191,[]):=hfc
    rw [if_pos hc',hfc]
    rfl
   ·have hc':¬((decide ((64:Int)<(v.1.length:Int)))||(decide ((32:Int)<(m'.length:Int))))=true:=by
     simp only [yg,decide_eq_true_eq];omega
    rw [if_neg hc] at hst
    rw [if_neg hc']
    rw [hst] at hgood hfc
    have hfc:z1s (l[i]::l.drop (i+1)) m=z1s (l.drop (i+1)) m':=hfc
    rw [w1 (by omega),ih (i+1) m' (by omega) (by omega) (hgood rfl),hfc]
  ·rw [if_neg h0] at hst
   rw [hst] at hfc
   have hfc:z1s (l[i]::l.drop (i+1)) m=(v.2,[]):=hfc.trans (if_neg h0)
   simp only [h0,decide_false,Bool.not_false,if_true,hfc,if_false]
   rfl
theorem z5d {l:List ED} {t:TH} {f:Nat} (hf:4*z6y l+17≤f) (hl:z6y l<1000000000) (ht:z1o t):M.q0z f l t=some (apT l t):=by
 unfold M.q0z apT
 rw [z3c ht]
 simp only [ya,yb]
 by_cases h1:zca t=0
 ·simp only [h1,decide_true,yf,yd,if_false,if_true]
  rw [z8l hf hl]
  simp only [yb]
  by_cases h2:z6s l=0
  ·simp only [h2,decide_true,yf,yd,if_false,if_true]
   have hF:zdt none t.za=true:=by
    unfold zca at h1
    split at h1
    ·rename_i h;exact h.2
    ·cases h1
   have hok:∀ x∈l,z5o x=true:=by
    unfold z6s at h2
    split at h2
    ·cases h2
    ·split at h2
     ·cases h2
     ·rename_i h;simpa using h
   have hg:Good (mp0 t.za):=zju t.za [] .nil (zj7 hF)
   have e1:=zpu ht _ 0 [] rfl (yt _)
   have e1':M.z0w t 0 []=some (mp0 t.za):=e1
   have e2:=zpv hf hl hok _ 0 (mp0 t.za) rfl (yt _) hg
   have e2':M.z0x l f 0 (mp0 t.za)=_:=e2
   simp only [e1',e2',yh,yb]
   by_cases h3:(z1s l (mp0 t.za)).1=0
   ·have hgf:=zd3 hg hok h3
    have h5:(mp0 t.za).length≤t.za.length:=Nat.le_trans (zo2 t.za []) (by simp)
    have h6:=zb2 l (mp0 t.za) (t.za.length+32) (Nat.le_trans h5 (Nat.le_add_right _ _)) (by omega) h3
    have h7:=ht.parts.1
    obtain ⟨q,hq⟩:∃ q,(z1s l (mp0 t.za)).2.length=q:=⟨_,rfl⟩
    have hml:q<2000000000:=by
     have:q≤t.za.length+32:=hq▸h6
     omega
    rw [if_pos h3,if_pos h3]
    simp only
    rw [zqo]
    rw [if_pos (.inr (by rw [ym,hq];omega))]
    unfold M.q44
    rw [z30]
    ·rfl
    ·simp only [ys,yl,List.map_map,yc,decide_eq_true_eq]
     exact ⟨by rw [hq];omega,hgf.nd⟩
   ·rw [if_neg h3,if_neg h3]
  ·simp [h2,zT]
 ·simp [h1,zT]
def say (v:J) (k:List UInt8):List UInt8 × Bool:=((z8i v k).1.z0q,(z8i v k).2&&decide ((z8i v k).1.zc=4))
theorem z3l {v:J} {k:List UInt8} (h:v.z0m.length<1000000000):M.q2c v k=some (say v k):=by
 unfold M.q2c say
 rw [z4i h]
 rfl
def zq4 (s:List UInt8):List UInt8 × Bool:=if ([93]:List UInt8).isSuffixOf s then (s.take (s.length - 1),true) else (s,false)
theorem zfw {s:List UInt8} (h:s.length<1000000000):M.q4c s [93]=some (zq4 s):=by
 have hs:=z9o (s:=s) (p:=[93]) (by omega)
 unfold M.q4e at hs
 unfold M.q4c M.q0c zq4
 cases h1:M.q0e s [93] with
 | none=>rw [h1] at hs;cases hs
 | some b =>
  rw [h1] at hs
  simp only [ya,yb,Option.some.injEq] at hs
  subst hs
  cases hb:([93]:List UInt8).isSuffixOf s with
  | false=>simp
  | true =>
   have hl:=(List.isSuffixOf_iff_suffix.1 hb).length_le
   simp only [yk,ym] at hl
   have e:IntKind.wrap .i64 ((s.length:Int) - (([93]:List UInt8).length:Int))=((s.length - 1:Nat):Int):=by
    simp only [yk,ym]
    rw [w64]<;>omega
   simp only [ya,yb,yf,yd,if_false,e,if_true]
   rw [zit (by omega)]
   rfl
def kOp:List UInt8:=[111,112]
def z5a:List UInt8:=[112,97,116,104]
def z2y:List UInt8:=[118,97,108,117,101]
def zxv:List UInt8:=[79,112,101,114,97,116,105,111,110,115]
def opW:List (List UInt8):=[[97,100,100],[114,101,109,111,118,101],[114,101,112,108,97,99,101]]
def zy3 (s:List UInt8):Int:=match opW.findIdx? (fun x=>decide (s=x)) with
 | some i=>(i:Int)
 | none => -1
def z62 (p:List UInt8):EX × Int:=if (Lib.cut p [91]).2.2=true then pP (zq4 (Lib.cut p [91]).2.1).1 else (zE,0)
def z5k (o:J):List (List UInt8) × Bool:=if (z8i o z2y).1.zc=4 then ([(z8i o z2y).1.z0q],true) else if (z8i o z2y).2=true then zc2 (z8i o z2y).1 else ([],true)
def rdE (o:J):Rs ED :=
 let op:=zy3 (say o kOp).1
 let c:=Lib.cut (say o z5a).1 [91]
 if op<0∨isName c.1=false∨c.2.2=true∧(zq4 c.2.1).2=false then .pan 190 else
 if (z62 (say o z5a).1).2≠0 then .pan (z62 (say o z5a).1).2 else
 if (z8i o z2y).2=decide (op=1) then .pan 190 else
 if (z5k o).2=false then .pan 190 else
 if z5o ⟨op,c.1,c.2.2,(z62 (say o z5a).1).1,(z5k o).1⟩=false then .pan 194 else .ok ⟨op,c.1,c.2.2,(z62 (say o z5a).1).1,(z5k o).1⟩
theorem zqk (s:List UInt8):M.q43 opW s=some (zy3 s):=by
 unfold M.q43 zy3
 rw [zga (by decide)]
 cases opW.findIdx? (fun x=>decide (s=x))<;>rfl
theorem zvu (p q:List UInt8):(Lib.cut p q).1.length≤p.length∧(Lib.cut p q).2.1.length≤p.length:=by
 unfold Lib.cut
 split
 ·exact ⟨by simp only [List.length_take];omega,by simp only [List.length_drop];omega⟩
 ·exact ⟨Nat.le_refl _,by simp⟩
theorem zui (v:J) (k:List UInt8):(say v k).1.length≤v.sz:=by
 have h1:=zeh v k
 have h2:=(z8i v k).1.z2a
 unfold say
 simp only
 omega
theorem zh8:∀ {l:List J} {r:List (List UInt8)},texts l=some r→kys r≤szs l
 | [],r,h=>by simp only [texts,Option.some.injEq] at h;subst h;simp [kys,szs]
 | x::l,r,h=>by
  unfold texts at h
  split at h
  ·cases ht:texts l with
   | none=>rw [ht] at h;cases h
   | some q =>
    rw [ht] at h
    simp only [Option.map_some,Option.some.injEq] at h
    subst h
    have:=zh8 ht
    have h2:=x.z2a
    rw [z3j]
    simp only [szs]
    omega
  ·cases h
theorem zlv (o:J):kys (z5k o).1≤o.sz:=by
 have h1:=zeh o z2y
 have h2:=(z8i o z2y).1.z2a
 unfold z5k
 split
 ·rw [z3j,z7q];omega
 ·split
  ·unfold zc2
   split
   ·split
    ·rename_i l hl
     have:=zh8 hl
     simp only
     omega
    ·simp [kys]
   ·simp [kys]
  ·simp [kys]
theorem zgt {o:J} {f:Nat} (ho:o.sz≤1000000) (hf:20000000≤f):∃ x,M.q20 f o=some (match rdE o with | .ok x=>(x,0) | .pan c=>(x,c)):=by
 have hk:o.z0m.length<1000000000:=by have:=o.z2a;have:=z5b o.z0m;omega
 have hms:=zeh o z2y
 have hmz:=(z8i o z2y).1.z2a
 have hml:=zc1 (z8i o z2y).1.zh
 have hmk:=z5b (z8i o z2y).1.z0m
 have hkys:=zlv o
 have hpl:=zui o z5a
 obtain ⟨hc1,hc2⟩:=zvu (say o z5a).1 [91]
 have hcut:M.cut (say o z5a).1 [91]=some (Lib.cut (say o z5a).1 [91]):=by
  unfold M.cut
  rw [z30 (by rw [decide_eq_true_iff];omega)]
  rfl
 have hws:(z62 (say o z5a).1).1.sz≤204801:=by
  unfold z62
  split
  ·exact zzb _
  ·decide
 have hop:M.q1y=some opW:=rfl
 unfold M.q20 rdE
 have e1:M.q2c o [111,112]=some (say o kOp):=z3l hk
 have e2:M.q2c o [112,97,116,104]=some (say o z5a):=z3l hk
 have e3:M.q0g o [118,97,108,117,101]=some (z8i o z2y):=z4i hk
 simp only [e1,e2,e3,hop,ya,yb,zqk,hcut]
 rw [zfw (by omega)]
 simp only [yb,z3o]
 generalize hso:zy3 (say o kOp).1=op
 have hwh:z62 (say o z5a).1=if (Lib.cut (say o z5a).1 [91]).2.2=true then pP (zq4 (Lib.cut (say o z5a).1 [91]).2.1).1 else (zE,0):=rfl
 generalize hcc:Lib.cut (say o z5a).1 [91]=c at hc1 hc2 hwh ⊢
 generalize z62 (say o z5a).1=wh at hwh hws ⊢
 have hj:(if decide (op<0)=true then some true else some (!isName c.1):Option Bool)=some (decide (op<0) || !isName c.1):=by
  by_cases h:op<0<;>simp [h]
 rw [hj]
 simp only [yb]
 by_cases h1:op<0∨isName c.1=false∨c.2.2=true∧(zq4 c.2.1).2=false
 ·have h1':((decide (op<0) || !isName c.1)||(c.2.2 && !(zq4 c.2.1).2))=true:=by
   simp only [yg,decide_eq_true_eq,ye,yc]
   rcases h1 with h|h|h
   ·exact .inl (.inl h)
   ·exact .inl (.inr h)
   ·exact .inr h
  rw [if_pos h1',if_pos h1]
  exact ⟨_,rfl⟩
 ·have h1':¬((decide (op<0) || !isName c.1)||(c.2.2 && !(zq4 c.2.1).2))=true:=by
   simp only [yg,decide_eq_true_eq,ye,yc]
   rintro ((h|h)|h)
   ·exact h1 (.inl h)
   ·exact h1 (.inr (.inl h))
   ·exact h1 (.inr (.inr h))
  rw [if_neg h1',if_neg h1]
  have hq:(if c.2.2=true then (M.q1a f (zq4 c.2.1).1).bind fun a_40=>if (!decide (a_40.2=0))=true then some (Jn.done (q00.mk op c.1 c.2.2 a_40.1 [],a_40.2)) else some (Jn.go (a_40.1.zc,a_40.1.zg,a_40.1.z07,a_40.1.zh)) else some (Jn.go (0,([]:List UInt8),([]:List UInt8),([]:List EX))):Option (Jn (q00 × Int) (Int × (List UInt8) × (List UInt8) × (List EX)))) =
    some (if wh.2=0 then Jn.go (wh.1.zc,wh.1.zg,wh.1.z07,wh.1.zh) else Jn.done (q00.mk op c.1 c.2.2 wh.1 [],wh.2)):=by
   by_cases hs:c.2.2=true
   ·rw [if_pos hs,z5f _ (by omega)]
    rw [if_pos hs] at hwh
    rw [←hwh]
    simp only [yb]
    by_cases h0:wh.2=0
    ·simp [h0]
    ·simp [h0]
   ·rw [if_neg hs]
    rw [if_neg hs] at hwh
    rw [hwh]
    rfl
  rw [hq]
  simp only [yb]
  by_cases h2:wh.2=0
  ·rw [if_pos h2,if_neg (by simp [h2])]
   simp only [zcv]
   by_cases h3:(z8i o z2y).2=decide (op=1)
   ·rw [if_pos (by simpa using h3),if_pos h3]
    exact ⟨_,rfl⟩
   ·rw [if_neg (by simpa using h3),if_neg h3]
    have hq2:(if decide ((z8i o z2y).1.zc=4)=true then some (Jn.go [(z8i o z2y).1.z0q]) else if (z8i o z2y).2=true then (M.q0j (z8i o z2y).1).bind fun a_50=>if (!a_50.2)=true then some (Jn.done (q00.mk op c.1 c.2.2 wh.1 a_50.1,(190:Int))) else some (Jn.go a_50.1) else some (Jn.go []):Option (Jn (q00 × Int) (List (List UInt8)))) =
      some (if (z5k o).2=true then Jn.go (z5k o).1 else Jn.done (q00.mk op c.1 c.2.2 wh.1 (z5k o).1,190)):=by
     unfold z5k
     by_cases h4:(z8i o z2y).1.zc=4
     ·simp [h4]
     ·simp only [h4,decide_false,yd,if_false]
      by_cases h5:(z8i o z2y).2=true
      ·rw [if_pos h5,if_pos h5,zeb (by omega)]
       simp only [yb]
       cases (zc2 (z8i o z2y).1).2<;>rfl
      ·rw [if_neg h5,if_neg h5]
       rfl
    rw [hq2]
    simp only [yb]
    cases h4:(z5k o).2 with
    | false =>
     simp only [yd,if_false,if_true]
     exact ⟨_,rfl⟩
    | true =>
     simp only [if_true,Bool.true_eq_false,if_false]
     have hsz:q00.sz ⟨op,c.1,c.2.2,wh.1,(z5k o).1⟩≤4000000:=by
      unfold q00.sz
      simp only
      omega
     rw [z9v (by omega) (by unfold z3t;omega)]
     simp only [yb]
     cases h5:z5o ⟨op,c.1,c.2.2,wh.1,(z5k o).1⟩ with
     | false=>exact ⟨_,rfl⟩
     | true=>exact ⟨⟨0,[],false,zE,[]⟩,rfl⟩
  ·rw [if_neg h2,if_pos h2]
   exact ⟨_,rfl⟩
def rdL:List J→Rs (List ED)
 | [] => .ok []
 | o::l=>match rdE o with
  | .pan c => .pan c
  | .ok x=>match rdL l with
   | .pan c => .pan c
   | .ok xs => .ok (x::xs)
def zc8 (o:J):Bool:=(say o kOp).2&&(say o z5a).2
def pEs (s:List UInt8):List ED × Int :=
 let v:=parse s
 let all:=z8i v.1 zxv
 if ¬v.2=0∨all.2=false∨¬all.1.zc=5∨all.1.zh.all zc8=false then ([],190) else
 if 16<all.1.zh.length then ([],191) else match rdL all.1.zh with
  | .pan c=>([],c)
  | .ok l=>(l,0)
theorem zue {o:J} {c:Int} (h:rdE o = .pan c):¬c=0:=by
 unfold rdE at h
 simp only at h
 split at h
 ·cases h;decide
 ·split at h
  ·rename_i h2;cases h;exact h2
  ·split at h
   ·cases h;decide
   ·split at h
    ·cases h;decide
    ·split at h
     ·cases h;decide
     ·cases h
theorem z8m (s:List UInt8) {f:Nat} (hf:20000000≤f):M.q1b f s=some (pEs s):=by
 have hps:=zr7 s
 have hpz:=(parse s).1.z2a
 have hpk:=z5b (parse s).1.z0m
 unfold M.q1b pEs
 have e1:∀ v:J,v.sz≤131072→M.q0g v [79,112,101,114,97,116,105,111,110,115]=some (z8i v zxv):=fun v hv=>z4i (by have:=v.z2a;have:=z5b v.z0m;omega)
 rw [z8e s (by omega)]
 simp only [ya,yb,e1 _ hps]
 have hms:=zeh (parse s).1 zxv
 generalize (parse s).2=bad
 generalize z8i (parse s).1 zxv=all at hms ⊢
 have haz:=all.1.z2a
 have hal:=zc1 all.1.zh
 have hmm:∀ x∈all.1.zh,x.sz≤131072:=fun x hx=>by have:=zf5 hx;omega
 have hk:M.zo all.1.zh 0=some (match all.1.zh.findIdx? (fun x => !zc8 x) with|some i => .done (i:Int)|none => .go ()):=by
  refine z9a (fun i:Nat=>(i:Int)) () (by omega) (fun i h => ?_) ?_
  ·have h1:=hmm _ (yj h)
   have hkk:all.1.zh[i].z0m.length<1000000000:=by have:=all.1.zh[i].z2a;have:=z5b all.1.zh[i].z0m;omega
   have e2:M.q2c all.1.zh[i] [111,112]=some (say all.1.zh[i] kOp):=z3l hkk
   have e3:M.q2c all.1.zh[i] [112,97,116,104]=some (say all.1.zh[i] z5a):=z3l hkk
   have e4:M.q1c all.1.zh[i]=some (!zc8 all.1.zh[i]):=by
    unfold M.q1c zc8
    simp only [e2,e3,ya,yb]
    cases (say all.1.zh[i] kOp).2<;>cases (say all.1.zh[i] z5a).2<;>rfl
   rw [M.zo]
   simp only [show ((i:Int)<(all.1.zh.length:Int)) by omega,decide_true,if_true,z3d,yi h,ya,yb,e4]
  ·rw [M.zo]
   simp
 have hc:M.q3i all.1.zh=some (!all.1.zh.all zc8):=by
  unfold M.q3i M.q3v
  rw [hk]
  rcases z3i all.1.zh zc8 with ⟨h1,h2⟩|⟨i,h1,h2⟩
  ·rw [h1,h2];rfl
  ·rw [h1,h2];simp
 have hk1:∀ (n i:Nat) (acc:List ED),all.1.zh.length - i=n→i≤all.1.zh.length→acc.length≤i→M.z0l all f acc (i:Int)=some (match rdL (all.1.zh.drop i) with | .pan c => .done ([],c) | .ok l => .go (acc++l)):=by
  intro n
  induction n with
  | zero =>
   intro i acc h1 h2 h3
   have:i=all.1.zh.length:=by omega
   subst this
   rw [M.z0l]
   simp [rdL]
  | succ n ih =>
   intro i acc h1 h2 h3
   have hi:i<all.1.zh.length:=by omega
   obtain ⟨x,hx⟩:=zgt (o:=all.1.zh[i]) (by have:=hmm _ (yj hi);omega) hf
   rw [M.z0l,z13 hi]
   simp only [show ((i:Int)<(all.1.zh.length:Int)) by omega,decide_true,if_true,z3d,yi hi,ya,yb,hx,rdL]
   cases hr:rdE all.1.zh[i] with
   | pan c=>simp [zue hr]
   | ok y =>
    simp only [decide_true,yf,yd,if_false,zcv]
    rw [z2e (by simp only [yk,ym];omega)]
    simp only [yb]
    rw [w1 (by omega),ih (i+1) _ (by omega) (by omega) (by simp;omega)]
    cases rdL (all.1.zh.drop (i+1)) with
    | pan c=>rfl
    | ok l=>simp
 have hj:(if ((!decide (bad=0))||(!all.2)||(!decide (all.1.zc=5)))=true then some true else (M.q3i all.1.zh).bind fun a=>some a:Option Bool)=some ((!decide (bad=0))||(!all.2)||(!decide (all.1.zc=5)) || !all.1.zh.all zc8):=by
  rw [hc]
  by_cases h:((!decide (bad=0))||(!all.2)||(!decide (all.1.zc=5)))=true
  ·rw [if_pos h,h];rfl
  ·rw [if_neg h]
   have:((!decide (bad=0))||(!all.2)||(!decide (all.1.zc=5)))=false:=by simpa using h
   rw [this];rfl
 rw [hj]
 simp only [yb]
 by_cases h1:¬bad=0∨all.2=false∨¬all.1.zc=5∨all.1.zh.all zc8=false
 ·have h1':((!decide (bad=0))||(!all.2)||(!decide (all.1.zc=5)) || !all.1.zh.all zc8)=true:=by
   simp only [yg,ye,decide_eq_false_iff_not]
   rcases h1 with h|h|h|h
   ·exact .inl (.inl (.inl h))
   ·exact .inl (.inl (.inr h))
   ·exact .inl (.inr h)
   ·exact .inr h
  rw [if_pos h1',if_pos h1]
 ·have h1':¬((!decide (bad=0))||(!all.2)||(!decide (all.1.zc=5)) || !all.1.zh.all zc8)=true:=by
   simp only [yg,ye,decide_eq_false_iff_not]
   rintro (((h|h)|h)|h)
   ·exact h1 (.inl h)
   ·exact h1 (.inr (.inl h))
   ·exact h1 (.inr (.inr (.inl h)))
   ·exact h1 (.inr (.inr (.inr h)))
  rw [if_neg h1',if_neg h1]
  by_cases h2:16<all.1.zh.length
  ·have h2':((16:Int)<(all.1.zh.length:Int)):=by omega
   simp [h2,h2']
  ·have h2':¬((16:Int)<(all.1.zh.length:Int)):=by omega
   have h3:=hk1 _ 0 [] rfl (yt _) (Nat.le_refl _)
   have h3':M.z0l all f [] 0=_:=h3
   simp only [h2,h2',decide_false,yd,if_false,h3',yh,ys,yb]
   cases rdL all.1.zh<;>rfl
def fx1:EX:=⟨0,[],[],[⟨4,[97],[120],[]⟩,⟨1,[],[],[⟨3,[98],[],[]⟩,⟨2,[],[],[⟨6,[99],[195,169],[]⟩]⟩]⟩]⟩
def fxT:TH:=⟨[55],[],[],[⟨[97],[[120],[121]]⟩]⟩
def fxL:List ED:=[⟨0,[97],false,zE,[[122]]⟩]
def fxM:List ED:=[⟨1,[97],true,⟨3,[118,97,108,117,101],[],[]⟩,[]⟩,⟨1,[97],true,⟨3,[118,97,108,117,101],[],[]⟩,[]⟩]
theorem fx_1:pP [97,32,101,113,32,34,120,34,97,110,100,40,32,98,32,112,114,32,111,114,40,110,111,116,40,99,32,99,111,32,34,92,117,48,48,101,57,34,41,41,32,41]=(fx1,0):=by kernel_rfl
theorem fx_2:prE fx1=([97,32,101,113,32,34,120,34,32,97,110,100,32,40,98,32,112,114,32,111,114,32,110,111,116,32,40,99,32,99,111,32,34,195,169,34,41,41],0):=by kernel_rfl
theorem fx_3:(pP [97]).2=190:=by kernel_rfl
theorem fx_4:pEs [123,34,79,112,101,114,97,116,105,111,110,115,34,58,91,123,34,111,112,34,58,34,97,100,100,34,44,34,112,97,116,104,34,58,34,97,34,44,34,118,97,108,117,101,34,58,91,34,122,34,93,125,93,125]=(fxL,0):=by kernel_rfl
theorem zys:zca fxT=0:=by kernel_rfl
theorem fx_6:z6s fxL=0:=by kernel_rfl
theorem fx_7:z1s fxL (mp0 fxT.za)=(0,[([97],[[120],[121],[122]])]):=by kernel_rfl
theorem fx_8:z6s fxM=0:=by kernel_rfl
theorem fx_9:(z1s fxM (mp0 fxT.za)).1=192:=by kernel_rfl
theorem zyr:mat ⟨4,[97],[121],[]⟩ fxT=true:=by kernel_rfl
theorem zqb {f:Nat} (hf:20000000≤f):M.q0y f=some true:=by
 have h7:apT fxL fxT=(⟨[55],[],[],[⟨[97],[[120],[121],[122]]⟩]⟩,0):=by
  unfold apT
  rw [if_pos zys,if_pos fx_6,fx_7]
  simp only [if_true,srt,List.map_cons,List.map_nil,List.mergeSort_singleton]
  rfl
 have h9:(apT fxM fxT).2=192:=by
  unfold apT
  have h:=fx_9
  rw [if_pos zys,if_pos fx_8,if_neg (by rw [h];decide)]
  exact h
 have hT:z1o fxT:=by unfold z1o;decide
 unfold M.q0y
 rw [z5f _ (by omega),fx_1]
 simp only [ya,yb]
 rw [zep (e:=fx1) (f:=f) (by have:fx1.sz≤100:=(by decide);omega) (by unfold z16;decide),fx_2]
 simp only [yb]
 rw [z5f _ (by omega)]
 simp only [yb]
 rw [z8m _ hf,fx_4]
 simp only [yb]
 have e7:=z5d (l:=fxL) (t:=fxT) (f:=f) (by have:z6y fxL≤100:=(by decide);omega) (by decide) hT
 rw [h7] at e7
 have e7':M.q0z f fxL ⟨[55],[],[],[⟨[97],[[120],[121]]⟩]⟩=_:=e7
 rw [e7']
 simp only [yb]
 have e9:=z5d (l:=fxM) (t:=fxT) (f:=f) (by have:z6y fxM≤100:=(by decide);omega) (by decide) hT
 have e9':M.q0z f [⟨1,[97],true,⟨3,[118,97,108,117,101],[],[]⟩,[]⟩,⟨1,[97],true,⟨3,[118,97,108,117,101],[],[]⟩,[]⟩] ⟨[55],[],[],[⟨[97],[[120],[121]]⟩]⟩=_:=e9
 rw [e9']
 simp only [yb,decide_true,Bool.true_and,fx_3,if_true]
 have e10:=zeo (e:=⟨4,[97],[121],[]⟩) (t:=fxT) (f:=f) (by have:q01.sz ⟨4,[97],[121],[]⟩≤100:=(by decide);omega) (by unfold z16;decide) hT
 rw [zyr] at e10
 have e10':M.q18 f ⟨4,[97],[121],[]⟩ ⟨[55],[],[],[⟨[97],[[120],[121]]⟩]⟩=_:=e10
 have e11:=z3c hT
 rw [zys] at e11
 have e11':M.q17 ⟨[55],[],[],[⟨[97],[[120],[121]]⟩]⟩=_:=e11
 rw [e10']
 simp [h9,e11',zjp]
end Go.Sen
end
section
namespace Go.Sen
open Go.Lk Go.Pe
end Go.Sen
end
section
namespace Go.Sen
open Go.Lk Go.Pe
def At (s r:List UInt8) (i:Nat):Prop:=s.drop i=r∧i≤s.length
section
variable {s r:List UInt8} {c:UInt8} {i:Nat}
def hd:List UInt8→Int
 | []=>0
 | c::_=>(c.toNat:Int)
end
end Go.Sen
end
section
namespace Go.Sen
open Go.Lk Go.Pe
section
variable {s r:List UInt8} {c:UInt8} {i:Nat}
end
end Go.Sen
end
section
namespace Go.Sen
open Go.Lk Go.Pe
end Go.Sen
end
section
namespace Go.Sen
open Go.Lk Go.Pe
end Go.Sen
end
