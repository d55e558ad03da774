import Derived.Test.YtfdoofnmjehecaaGreatDoorBHnJ
set_option linter.all false
section
namespace Go.Sen
open _root_.List renaming drop_take → ya, mem_append → yb, takeWhile_cons → yc, take_succ_cons → yd
open Go.Lk Go.Pe
theorem za3 {α:Type} (p:α→Bool):∀ (l:List α) (m:Nat),((l.take m).takeWhile p).length=min m (l.takeWhile p).length
 | [],m=>by simp
 | a::l,0=>by simp
 | a::l,m+1=>by
  rw [yd,yc,yc]
  cases p a with
  | false=>simp
  | true=>simp only [if_true,List.length_cons,za3 p l m];omega
theorem zdi (s:Z) (m:Nat):z6k (s.take m)=min m (z6k s):=za3 isD s m
theorem head_take {s:Z} {m:Nat} (h:0<m):(s.take m).head? = s.head?:=by
 cases s with
 | nil=>simp
 | cons c r =>
  obtain ⟨m,rfl⟩:∃ k,m=k+1:=⟨m - 1,by omega⟩
  simp
theorem zqp {s:Z} {m:Nat} (h:0<m) (h2:z8b s≤m):z8b (s.take m)=z8b s:=by
 unfold z8b at *
 rw [head_take h,zdi]
 split at h2
 ·rename_i hc;rw [if_pos hc,if_pos hc]
 ·rename_i hc;rw [if_neg hc,if_neg hc];omega
theorem zqe {s:Z} {m:Nat} (h:zbz s≤m):zbz (s.take m)=zbz s:=by
 cases s with
 | nil=>simp
 | cons c r =>
  cases m with
  | zero =>
   simp only [List.take_zero,frac_nil]
   omega
  | succ m =>
   rw [yd,z74,z74,zdi]
   rw [z74] at h
   by_cases hc:c=46
   ·simp only [hc,if_true] at h ⊢
    by_cases hd:0<z6k r
    ·rw [if_pos hd] at h ⊢
     have:min m (z6k r)=z6k r:=by omega
     rw [this,if_pos hd]
    ·rw [if_neg hd,if_neg (by omega)]
   ·simp [hc]
theorem zsg {s:Z} {m:Nat} (h:0<m):z98 (s.take m)=z98 s:=by unfold z98;rw [head_take h]
theorem zvu {s:Z} {m:Nat} (h:0<m):sgn (s.take m)=sgn s:=by unfold sgn;rw [head_take h]
theorem zqa (s:Z):zdl (s.take (zdl s))=zdl s:=by
 cases s with
 | nil=>rfl
 | cons c r =>
  by_cases hc:c=101∨c=69
  ·by_cases hd:0<z6k (r.drop (z98 r))
   ·have e:zdl (c::r)=1+z98 r+z6k (r.drop (z98 r)):=by simp [zdl,hc,hd]
    rw [e]
    have e2:(c::r).take (1+z98 r+z6k (r.drop (z98 r)))=c::r.take (z98 r+z6k (r.drop (z98 r))):=by
     rw [show 1+z98 r+z6k (r.drop (z98 r))=(z98 r+z6k (r.drop (z98 r)))+1 by omega,yd]
    rw [e2]
    have e3:z98 (r.take (z98 r+z6k (r.drop (z98 r))))=z98 r:=zsg (by omega)
    have e4:z6k ((r.take (z98 r+z6k (r.drop (z98 r)))).drop (z98 r))=z6k (r.drop (z98 r)):=by
     rw [ya,zdi]
     omega
    unfold zdl
    simp only [hc,if_true,e3,e4,hd]
   ·have e:zdl (c::r)=0:=by simp [zdl,hd]
    rw [e]
    rfl
  ·have e:zdl (c::r)=0:=by simp [zdl,hc]
   rw [e]
   rfl
theorem zuu (s:Z):num (s.take (num s))=num s:=by
 by_cases hz:z8b (s.drop (sgn s))=0
 ·have:num s=0:=by unfold num;simp [hz]
  rw [this]
  rfl
 have e:num s=sgn s+z8b (s.drop (sgn s))+zbz (s.drop (sgn s+z8b (s.drop (sgn s))))+zdl (s.drop (sgn s+z8b (s.drop (sgn s))+zbz (s.drop (sgn s+z8b (s.drop (sgn s)))))):=by
  conv=>lhs;unfold num
  simp only [hz,if_false]
 generalize hn:num s=n at e ⊢
 have hs:sgn (s.take n)=sgn s:=zvu (by omega)
 have h1:z8b ((s.take n).drop (sgn s))=z8b (s.drop (sgn s)):=by
  rw [ya,zqp (by omega) (by omega)]
 have h2:zbz ((s.take n).drop (sgn s+z8b (s.drop (sgn s))))=zbz (s.drop (sgn s+z8b (s.drop (sgn s)))):=by
  rw [ya,zqe (by omega)]
 have h3:zdl ((s.take n).drop (sgn s+z8b (s.drop (sgn s))+zbz (s.drop (sgn s+z8b (s.drop (sgn s))))))=zdl (s.drop (sgn s+z8b (s.drop (sgn s))+zbz (s.drop (sgn s+z8b (s.drop (sgn s)))))):=by
  rw [ya]
  have:n - (sgn s+z8b (s.drop (sgn s))+zbz (s.drop (sgn s+z8b (s.drop (sgn s)))))=zdl (s.drop (sgn s+z8b (s.drop (sgn s))+zbz (s.drop (sgn s+z8b (s.drop (sgn s)))))):=by omega
  rw [this,zqa]
 unfold num
 simp only [hs,h1,hz,if_false,h2,h3]
 exact e.symm
theorem zet:∀ (f:Nat) (s acc t r:Z),txt f s acc=some (t,r)→Lib.validD t=true
 | 0,_,_,_,_,h=>by simp [txt] at h
 | _+1,[],_,_,_,h=>by simp [txt] at h
 | f+1,c::s,acc,t,r,h=>by
  rw [txt] at h
  split at h
  ·cases h
  ·split at h
   ·split at h
    ·rename_i hv;cases h;exact hv
    ·cases h
   ·split at h
    ·split at h
     ·cases h
     ·exact zet f _ _ _ _ h
    ·exact zet f _ _ _ _ h
theorem zg7 {s t r:Z} (h:text s=some (t,r)):Lib.validD t=true:=by
 unfold text at h
 split at h
 ·split at h
  ·exact zet _ _ _ _ _ h
  ·cases h
 ·cases h
theorem zye {s:Z} {ks:List Z} {r:Z} {ks2:List Z} (h:zqy s ks = .ok (r,ks2)):∃ k,ks2=ks++[k]∧¬k∈ks∧Lib.validD k=true:=by
 unfold zqy at h
 split at h
 ·cases h
 ·rename_i k r1 ht
  split at h
  ·cases h
  ·rename_i hk
   split at h
   ·cases h
   ·cases h;exact ⟨k,rfl,hk,zg7 ht⟩
theorem zmc:∀ {l:List J} {w:Nat},z9r l w=0↔∀ x∈l,z5i x w=0
 | [],w=>by simp [z9r]
 | x::l,w=>by
  rw [z5v]
  by_cases hc:z5i x w=0
  ·simp [hc,zmc (l:=l)]
  ·simp [hc]
theorem zo7 {n:Nat} {ks:List Z} (h1:ks.length=n) (h2:ks.Nodup) (h3:∀ k∈ks,Lib.validD k=true):frm 6 [] n ks=true:=by
 unfold frm
 simp [h1,h2]
 exact h3
theorem zqs {vf:Z→Rd} {o:Bool} {e:UInt8} {w:Nat} (hw:w<16) (hv:∀ s x r,vf s = .ok (x,r)→z5i x (w+1)=0):∀ (f:Nat) (s:Z) (l:List J) (ks:List Z) (x:J) (r:Z),
  z9r l (w+1)=0→(o=true→ks.length=l.length)→(o=false→ks=[])→ks.Nodup→(∀ k∈ks,Lib.validD k=true)→items vf o e f s l ks = .ok (x,r)→z5i x w=0:=by
 intro f
 induction f with
 | zero=>intro s l ks x r _ _ _ _ _ h;simp [items] at h
 | succ f ih =>
  intro s l ks x r hl hk hk2 hnd hvk h
  rw [items] at h
  split at h
  ·cases h
  ·rename_i s1 ks1 hks
   have h1:(o=true→ks1.length=l.length+1)∧(o=false→ks1=[])∧ks1.Nodup∧∀ k∈ks1,Lib.validD k=true:=by
    split at hks
    ·rename_i ho
     obtain ⟨k,rfl,k1,k2⟩:=zye hks
     refine ⟨fun _=>by simp [hk ho],fun h=>absurd (ho.symm.trans h) (by decide),?_,?_⟩
     ·rw [List.nodup_append]
      exact ⟨hnd,by simp,fun a ha b hb=>by simp at hb;subst hb;intro e;subst e;exact k1 ha⟩
     ·intro z hz
      rcases yb.1 hz with hz|hz
      ·exact hvk z hz
      ·simp at hz;subst hz;exact k2
    ·rename_i ho
     cases hks
     exact ⟨fun h=>absurd h ho,hk2,hnd,hvk⟩
   obtain ⟨a1,a2,a3,a4⟩:=h1
   split at h
   ·cases h
   ·rename_i x2 s2 hx
    have hx2:=hv _ _ _ hx
    have hl2:z9r (l++[x2]) (w+1)=0:=by
     rw [zmc] at hl ⊢
     intro y hy
     rcases yb.1 hy with hy|hy
     ·exact hl y hy
     ·simp at hy;subst hy;exact hx2
    split at h
    ·cases h
     rw [z6j]
     simp only
     have h16:¬(16≤w):=by omega
     cases o with
     | false =>
      have:=a2 rfl
      subst this
      have hf:frm 5 [] (l++[x2]).length []=true:=by simp [frm]
      simp only [Bool.false_eq_true,if_false]
      rw [if_neg (fun h=>h16 h.2),hf]
      simpa using hl2
     | true =>
      have hf:frm 6 [] (l++[x2]).length ks1=true:=zo7 (by simpa using a1 rfl) a3 a4
      simp only [if_true]
      rw [if_neg (fun h=>h16 h.2),hf]
      simpa using hl2
    ·split at h
     ·cases h
     ·exact ih _ _ _ _ _ hl2 (fun h=>by simpa using a1 h) a2 a3 a4 h
theorem zn5 {vf:Z→Rd} {o:Bool} {w:Nat} (hv:w<16→∀ s x r,vf s = .ok (x,r)→z5i x (w+1)=0) {s r:Z} {x:J} (h:nest vf o w s = .ok (x,r)):z5i x w=0:=by
 unfold nest at h
 split at h
 ·cases h
 ·rename_i h16
  split at h
  ·cases h
   rw [z6j]
   cases o with
   | false=>simp [frm,h16,z9r]
   | true=>simp [frm,h16,z9r]
  ·exact zqs (by omega) (hv (by omega)) _ _ _ _ _ _ rfl (fun _=>rfl) (fun _=>rfl) (by simp) (fun k hk=>by cases hk) h
theorem zw8 {s r:Z} {x:J} {w:Nat} (h:word s = .ok (x,r)):z5i x w=0:=by
 unfold word at h
 split at h
 ·cases h;rw [z6j];simp [frm,z9r]
 ·split at h
  ·cases h;rw [z6j];simp [frm,z9r]
  ·split at h
   ·cases h;rw [z6j];simp [frm,z9r]
   ·split at h
    ·cases h
    ·rename_i hn
     cases h
     have h1:=zuu s
     have h2:=zn8 s
     have h3:(s.take (num s)).length=num s:=by rw [List.length_take];omega
     have h4:¬s.take (num s)=[]:=fun e=>by rw [e] at h3;simp at h3;omega
     have hf:frm 3 (s.take (num s)) 0 []=true:=by
      unfold frm
      rw [if_neg (by decide),if_pos rfl,h1,h3]
      simp [h4]
     rw [z6j]
     simp [hf,z9r]
theorem zz00e:∀ (f:Nat) (s:Z) (w:Nat) (x:J) (r:Z),val f s w = .ok (x,r)→z5i x w=0:=by
 intro f
 induction f with
 | zero=>intro s w x r h;simp [val] at h
 | succ f ih =>
  intro s w x r h
  rw [val] at h
  split at h
  ·rename_i t r2 ht
   have hv:=zg7 ht
   cases h
   rw [z6j]
   simp [frm,z9r,hv]
  ·split at h
   ·cases h
   ·split at h
    ·exact zn5 (fun _ s x r=>ih s (w+1) x r) h
    ·split at h
     ·exact zn5 (fun _ s x r=>ih s (w+1) x r) h
     ·exact zw8 h
theorem zuh {s:Z} {ks:List Z} {c:Int} (h:zqy s ks = .pan c):c=20:=by
 unfold zqy at h
 split at h
 ·injection h with h;exact h.symm
 ·split at h
  ·injection h with h;exact h.symm
  ·split at h
   ·injection h with h;exact h.symm
   ·cases h
theorem zqt {vf:Z→Rd} {o:Bool} {e:UInt8} (hv:∀ s c,vf s = .pan c→c=20∨c=21):∀ (f:Nat) (s:Z) (l:List J) (ks:List Z) (c:Int),items vf o e f s l ks = .pan c→c=20∨c=21:=by
 intro f
 induction f with
 | zero=>intro s l ks c h;simp only [items] at h;injection h with h;exact .inl h.symm
 | succ f ih =>
  intro s l ks c h
  rw [items] at h
  split at h
  ·rename_i hk
   split at hk
   ·injection h with h;subst h;exact .inl (zuh hk)
   ·cases hk
  ·split at h
   ·rename_i hx;injection h with h;subst h;exact hv _ _ hx
   ·split at h
    ·cases h
    ·split at h
     ·injection h with h;exact .inl h.symm
     ·exact ih _ _ _ _ h
theorem zn6 {vf:Z→Rd} {o:Bool} {w:Nat} (hv:∀ s c,vf s = .pan c→c=20∨c=21) {s:Z} {c:Int} (h:nest vf o w s = .pan c):c=20∨c=21:=by
 unfold nest at h
 split at h
 ·injection h with h;exact .inr h.symm
 ·split at h
  ·cases h
  ·exact zqt hv _ _ _ _ _ h
theorem zz00f:∀ (f:Nat) (s:Z) (w:Nat) (c:Int),val f s w = .pan c→c=20∨c=21:=by
 intro f
 induction f with
 | zero=>intro s w c h;simp only [val] at h;injection h with h;exact .inl h.symm
 | succ f ih =>
  intro s w c h
  rw [val] at h
  split at h
  ·cases h
  ·split at h
   ·injection h with h;exact .inl h.symm
   ·split at h
    ·exact zn6 (fun s c=>ih s (w+1) c) h
    ·split at h
     ·exact zn6 (fun s c=>ih s (w+1) c) h
     ·unfold word at h
      split at h
      ·cases h
      ·split at h
       ·cases h
       ·split at h
        ·cases h
        ·split at h
         ·injection h with h;exact .inl h.symm
         ·cases h
theorem zlh (s:Z):(∃ x,parse s=(x,0)∧z5i x 0=0)∨∃ c,parse s=(⟨0,[],[],[]⟩,c)∧(c=20∨c=21∨c=22):=by
 unfold parse
 split
 ·exact .inr ⟨22,rfl,by simp⟩
 ·split
  ·rename_i c hc
   rcases zz00f _ _ _ _ hc with h|h
   ·exact .inr ⟨c,rfl,.inl h⟩
   ·exact .inr ⟨c,rfl,.inr (.inl h)⟩
  ·rename_i y r hv
   split
   ·exact .inl ⟨y,rfl,zz00e _ _ _ _ _ hv⟩
   ·exact .inr ⟨20,rfl,.inl rfl⟩
theorem zrw {v:J} (h:z5i v 0=0) (hl:(prJ v).length≤16384):parse (prJ v)=(v,0):=by
 unfold parse
 obtain ⟨c,r,e,ho⟩:=z9l h
 have hb:z1z (prJ v)=prJ v:=by rw [e,z2i (zbh ho).1]
 have:=zz02u 17 v 0 0 [] (by omega) (by omega) h zw0
 rw [List.append_nil] at this
 rw [if_neg (by omega),hb,this,if_pos h]
 simp [z1z]
end Go.Sen
end
section
namespace Go.Sen
open _root_.List renaming cons_append → ya, length_append → yb, length_cons → yc, length_nil → yd
open Go.Lk Go.Pe Go.RowKit
theorem zsq {s t r:Z} (ht:text s=some (t,r)):t.length+4*r.length+4≤4*s.length:=by
 unfold text at ht
 split at ht
 ·split at ht
  ·have tl:∀ (f:Nat) (s acc t r:Z),txt f s acc=some (t,r)→t.length+4*r.length≤acc.length+4*s.length:=by
    intro f
    induction f with
    | zero=>intro s acc t r h;simp [txt] at h
    | succ f ih =>
     intro s acc t r h
     cases s with
     | nil=>simp [txt] at h
     | cons c s =>
      rw [txt] at h
      split at h
      ·cases h
      ·split at h
       ·split at h
        ·cases h;simp;omega
        ·cases h
       ·split at h
        ·split at h
         ·cases h
         ·rename_i t1 r1 he
          have h1:=zgl he
          have h2:=ih _ _ _ _ h
          simp only [yb,yc] at *
          omega
        ·have h2:=ih _ _ _ _ h
         simp only [yb,yc,yd] at *
         omega
   have:=tl _ _ _ _ _ ht
   simp only [yc,yd] at *
   omega
  ·cases ht
 ·cases ht
theorem zud {vf:Z→Rd} {o:Bool} {e:UInt8} (hv:∀ s x r,vf s = .ok (x,r)→x.sz+8*r.length≤8*s.length):∀ (f:Nat) (s:Z) (l:List J) (ks:List Z) (x:J) (r:Z),items vf o e f s l ks = .ok (x,r)→x.sz+8*r.length≤8*s.length+szs l+kys ks:=by
 intro f
 induction f with
 | zero=>intro s l ks x r h;simp [items] at h
 | succ f ih =>
  intro s l ks x r h
  rw [items] at h
  have app1:∀ (l:List J) (x:J),szs (l++[x])=szs l+x.sz+1:=fun l x=>by
   induction l with
   | nil=>simp [szs]
   | cons y l ih=>simp only [ya,szs,ih];omega
  have app2:∀ (l:List Z) (x:Z),kys (l++[x])=kys l+x.length+1:=fun l x=>by
   induction l with
   | nil=>simp [kys]
   | cons y l ih=>rw [ya,z4p,z4p,ih];omega
  split at h
  ·cases h
  ·rename_i s1 ks1 hk
   have h1:kys ks1+8*s1.length≤8*s.length+kys ks:=by
    split at hk
    ·unfold zqy at hk
     split at hk
     ·cases hk
     ·rename_i k r1 ht
      have g1:=zbm ht
      have g2:=z3t r1
      have g5:=zsq ht
      split at hk
      ·cases hk
      ·split at hk
       ·cases hk
       ·rename_i r2 ht2
        have g3:=take_len ht2
        simp only [yc,yd] at g3
        simp only [Rs.ok.injEq,Prod.mk.injEq] at hk
        obtain ⟨rfl,rfl⟩:=hk
        rw [app2]
        omega
    ·simp only [Rs.ok.injEq,Prod.mk.injEq] at hk
     obtain ⟨rfl,rfl⟩:=hk
     omega
   split at h
   ·cases h
   ·rename_i x2 s2 hx
    have h2:=hv _ _ _ hx
    split at h
    ·rename_i r2 ht
     have h3:=take_len ht
     simp only [yc,yd] at h3
     simp only [Rs.ok.injEq,Prod.mk.injEq] at h
     obtain ⟨rfl,rfl⟩:=h
     rw [q04.z8f]
     simp only [app1,yd]
     omega
    ·split at h
     ·cases h
     ·rename_i r2 ht
      have h3:=take_len ht
      simp only [yc,yd] at h3
      have h4:=ih _ _ _ _ _ h
      rw [app1] at h4
      omega
theorem zrh {vf:Z→Rd} {o:Bool} {w:Nat} (hv:∀ s x r,vf s = .ok (x,r)→x.sz+8*r.length≤8*s.length) {s r:Z} {x:J} (h:nest vf o w s = .ok (x,r)):x.sz+8*r.length≤8*s.length:=by
 unfold nest at h
 split at h
 ·cases h
 ·split at h
  ·rename_i r2 ht
   have:=take_len ht
   simp only [Rs.ok.injEq,Prod.mk.injEq] at h
   obtain ⟨rfl,rfl⟩:=h
   simp only [yc,yd] at this
   simp only [q04.sz,szs,kys_nil,yd]
   omega
  ·exact zud hv _ _ _ _ _ _ h
theorem zz00i {s r:Z} {x:J} (h:word s = .ok (x,r)):x.sz+8*r.length≤8*s.length:=by
 have hl:=zno h
 unfold word at h
 split at h
 ·simp only [Rs.ok.injEq,Prod.mk.injEq] at h
  obtain ⟨rfl,rfl⟩:=h
  simp only [q04.sz,szs,kys_nil,yd]
  omega
 ·split at h
  ·simp only [Rs.ok.injEq,Prod.mk.injEq] at h
   obtain ⟨rfl,rfl⟩:=h
   simp only [q04.sz,szs,kys_nil,yd]
   omega
  ·split at h
   ·simp only [Rs.ok.injEq,Prod.mk.injEq] at h
    obtain ⟨rfl,rfl⟩:=h
    simp only [q04.sz,szs,kys_nil,yd]
    omega
   ·split at h
    ·cases h
    ·simp only [Rs.ok.injEq,Prod.mk.injEq] at h
     obtain ⟨rfl,rfl⟩:=h
     have h1:=z3t (s.drop (num s))
     have h2:=zn8 s
     rw [List.length_drop] at h1
     simp only [q04.sz,szs,kys_nil,yd,List.length_take]
     omega
theorem zz02v:∀ (f:Nat) (s:Z) (w:Nat) (x:J) (r:Z),val f s w = .ok (x,r)→x.sz+8*r.length≤8*s.length:=by
 intro f
 induction f with
 | zero=>intro s w x r h;simp [val] at h
 | succ f ih =>
  intro s w x r h
  rw [val] at h
  split at h
  ·rename_i t r2 ht
   have h1:=zbm ht
   have h2:=z3t r2
   have h3:=zsq ht
   simp only [Rs.ok.injEq,Prod.mk.injEq] at h
   obtain ⟨rfl,rfl⟩:=h
   simp only [q04.sz,szs,kys_nil]
   omega
  ·split at h
   ·cases h
   ·split at h
    ·rename_i r2 ht
     have h1:=take_len ht
     have h2:=zrh (fun s x r=>ih s (w+1) x r) h
     omega
    ·split at h
     ·rename_i r2 ht
      have h1:=take_len ht
      have h2:=zrh (fun s x r=>ih s (w+1) x r) h
      omega
     ·exact zz00i h
theorem zv2 (s:Z):(parse s).1.sz≤131072:=by
 unfold parse
 have h0:(⟨0,[],[],[]⟩:J).sz≤131072:=by decide
 split
 ·exact h0
 ·rename_i hl
  split
  ·exact h0
  ·rename_i y r hv
   have h1:=zz02v _ _ _ _ _ hv
   have h2:=z3t s
   split
   ·simp only;omega
   ·exact h0
end Go.Sen
end
