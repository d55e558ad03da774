import Derived.Test.YtmmgdladipbedaaGreatDoorSnJ
set_option linter.all false
namespace Go.Sen
open Go.Lk Go.Pe
theorem z8f {α:Type} (p:α→Bool):∀ (l:List α) (m:Nat),((l.take m).takeWhile p).length=min m (l.takeWhile p).length
 | [],m=>by simp
 | a::l,0=>by simp
 | a::l,m+1=>by
  rw [List.take_succ_cons,List.takeWhile_cons,List.takeWhile_cons]
  cases p a with
  | false=>simp
  | true=>simp only [if_true,List.length_cons,z8f p l m];omega
theorem zce (s:List UInt8) (m:Nat):z5h (s.take m)=min m (z5h s):=z8f isD s m
theorem head_take {s:List UInt8} {m:Nat} (h:0<m):(s.take m).head? = s.head?:=by
 cases s with
 | nil=>simp
 | cons c r =>
  obtain ⟨m,rfl⟩:∃ k,m=k+1:=⟨m - 1,by omega⟩
  simp
theorem zpu {s:List UInt8} {m:Nat} (h:0<m) (h2:z6i s≤m):z6i (s.take m)=z6i s:=by
 unfold z6i at *
 rw [head_take h,zce]
 split at h2
 ·rename_i hc;rw [if_pos hc,if_pos hc]
 ·rename_i hc;rw [if_neg hc,if_neg hc];omega
theorem zpn {s:List UInt8} {m:Nat} (h:zab s≤m):zab (s.take m)=zab s:=by
 cases s with
 | nil=>simp
 | cons c r =>
  cases m with
  | zero =>
   simp only [List.take_zero,frac_nil]
   omega
  | succ m =>
   rw [List.take_succ_cons,z5s,z5s,zce]
   rw [z5s] at h
   by_cases hc:c=46
   ·simp only [hc,if_true] at h ⊢
    by_cases hd:0<z5h r
    ·rw [if_pos hd] at h ⊢
     have:min m (z5h r)=z5h r:=by omega
     rw [this,if_pos hd]
    ·rw [if_neg hd,if_neg (by omega)]
   ·simp [hc]
theorem zrj {s:List UInt8} {m:Nat} (h:0<m):z7h (s.take m)=z7h s:=by unfold z7h;rw [head_take h]
theorem zua {s:List UInt8} {m:Nat} (h:0<m):sgn (s.take m)=sgn s:=by unfold sgn;rw [head_take h]
theorem zpk (s:List UInt8):zci (s.take (zci s))=zci s:=by
 cases s with
 | nil=>rfl
 | cons c r =>
  by_cases hc:c=101∨c=69
  ·by_cases hd:0<z5h (r.drop (z7h r))
   ·have e:zci (c::r)=1+z7h r+z5h (r.drop (z7h r)):=by simp [zci,hc,hd]
    rw [e]
    have e2:(c::r).take (1+z7h r+z5h (r.drop (z7h r)))=c::r.take (z7h r+z5h (r.drop (z7h r))):=by
     rw [show 1+z7h r+z5h (r.drop (z7h r))=(z7h r+z5h (r.drop (z7h r)))+1 by omega,List.take_succ_cons]
    rw [e2]
    have e3:z7h (r.take (z7h r+z5h (r.drop (z7h r))))=z7h r:=zrj (by omega)
    have e4:z5h ((r.take (z7h r+z5h (r.drop (z7h r)))).drop (z7h r))=z5h (r.drop (z7h r)):=by
     rw [List.drop_take,zce]
     omega
    unfold zci
    simp only [hc,if_true,e3,e4,hd]
   ·have e:zci (c::r)=0:=by simp [zci,hd]
    rw [e]
    rfl
  ·have e:zci (c::r)=0:=by simp [zci,hc]
   rw [e]
   rfl
theorem ztq (s:List UInt8):num (s.take (num s))=num s:=by
 by_cases hz:z6i (s.drop (sgn s))=0
 ·have:num s=0:=by unfold num;simp [hz]
  rw [this]
  rfl
 have e:num s=sgn s+z6i (s.drop (sgn s))+zab (s.drop (sgn s+z6i (s.drop (sgn s))))+zci (s.drop (sgn s+z6i (s.drop (sgn s))+zab (s.drop (sgn s+z6i (s.drop (sgn s)))))):=by
  conv=>lhs;unfold num
  simp only [hz,if_false]
 generalize hn:num s=n at e ⊢
 have hs:sgn (s.take n)=sgn s:=zua (by omega)
 have h1:z6i ((s.take n).drop (sgn s))=z6i (s.drop (sgn s)):=by
  rw [List.drop_take,zpu (by omega) (by omega)]
 have h2:zab ((s.take n).drop (sgn s+z6i (s.drop (sgn s))))=zab (s.drop (sgn s+z6i (s.drop (sgn s)))):=by
  rw [List.drop_take,zpn (by omega)]
 have h3:zci ((s.take n).drop (sgn s+z6i (s.drop (sgn s))+zab (s.drop (sgn s+z6i (s.drop (sgn s))))))=zci (s.drop (sgn s+z6i (s.drop (sgn s))+zab (s.drop (sgn s+z6i (s.drop (sgn s)))))):=by
  rw [List.drop_take]
  have:n - (sgn s+z6i (s.drop (sgn s))+zab (s.drop (sgn s+z6i (s.drop (sgn s)))))=zci (s.drop (sgn s+z6i (s.drop (sgn s))+zab (s.drop (sgn s+z6i (s.drop (sgn s)))))):=by omega
  rw [this,zpk]
 unfold num
 simp only [hs,h1,hz,if_false,h2,h3]
 exact e.symm
/-! What is read may be. -/
theorem ze1:∀ (f:Nat) (s acc t r:List UInt8),txt f s acc=some (t,r)→Lib.validD t=true
 | 0,_,_,_,_,h=>by simp [txt] at h
 | _+1,[],_,_,_,h=>by simp [txt] at h
 | f+1,c::s,acc,t,r,h=>by
  rw [txt] at h
  split at h
  ·cases h
  ·split at h
   ·split at h
    ·rename_i hv;cases h;exact hv
    ·cases h
   ·split at h
    ·split at h
     ·cases h
     ·exact ze1 f _ _ _ _ h
    ·exact ze1 f _ _ _ _ h
theorem zat {s t r:List UInt8} (h:text s=some (t,r)):Lib.validD t=true:=by
 unfold text at h
 split at h
 ·split at h
  ·exact ze1 _ _ _ _ _ h
  ·cases h
 ·cases h
theorem zwc {s:List UInt8} {ks:List (List UInt8)} {r:List UInt8} {ks2:List (List UInt8)} (h:zq1 s ks = .ok (r,ks2)):∃ k,ks2=ks++[k]∧¬k∈ks∧Lib.validD k=true:=by
 unfold zq1 at h
 split at h
 ·cases h
 ·rename_i k r1 ht
  split at h
  ·cases h
  ·rename_i hk
   split at h
   ·cases h
   ·cases h;exact ⟨k,rfl,hk,zat ht⟩
theorem zlj:∀ {l:List J} {w:Nat},z6q l w=0↔∀ x∈l,z3t x w=0
 | [],w=>by simp [z6q]
 | x::l,w=>by
  rw [z4t]
  by_cases hc:z3t x w=0
  ·simp [hc,zlj (l:=l)]
  ·simp [hc]
theorem znk {n:Nat} {ks:List (List UInt8)} (h1:ks.length=n) (h2:ks.Nodup) (h3:∀ k∈ks,Lib.validD k=true):frm 6 [] n ks=true:=by
 unfold frm
 simp [h1,h2]
 exact h3
theorem zpw {vf:List UInt8→Rd} {o:Bool} {e:UInt8} {w:Nat} (hw:w<16) (hv:∀ s x r,vf s = .ok (x,r)→z3t x (w+1)=0):∀ (f:Nat) (s:List UInt8) (l:List J) (ks:List (List UInt8)) (x:J) (r:List UInt8),
  z6q l (w+1)=0→(o=true→ks.length=l.length)→(o=false→ks=[])→ks.Nodup→(∀ k∈ks,Lib.validD k=true)→items vf o e f s l ks = .ok (x,r)→z3t x w=0:=by
 intro f
 induction f with
 | zero=>intro s l ks x r _ _ _ _ _ h;simp [items] at h
 | succ f ih =>
  intro s l ks x r hl hk hk2 hnd hvk h
  rw [items] at h
  split at h
  ·cases h
  ·rename_i s1 ks1 hks
   have h1:(o=true→ks1.length=l.length+1)∧(o=false→ks1=[])∧ks1.Nodup∧∀ k∈ks1,Lib.validD k=true:=by
    split at hks
    ·rename_i ho
     obtain ⟨k,rfl,k1,k2⟩:=zwc hks
     refine ⟨fun _=>by simp [hk ho],fun h=>absurd (ho.symm.trans h) (by decide),?_,?_⟩
     ·rw [List.nodup_append]
      exact ⟨hnd,by simp,fun a ha b hb=>by simp at hb;subst hb;intro e;subst e;exact k1 ha⟩
     ·intro z hz
      rcases List.mem_append.1 hz with hz|hz
      ·exact hvk z hz
      ·simp at hz;subst hz;exact k2
    ·rename_i ho
     cases hks
     exact ⟨fun h=>absurd h ho,hk2,hnd,hvk⟩
   obtain ⟨a1,a2,a3,a4⟩:=h1
   split at h
   ·cases h
   ·rename_i x2 s2 hx
    have hx2:=hv _ _ _ hx
    have hl2:z6q (l++[x2]) (w+1)=0:=by
     rw [zlj] at hl ⊢
     intro y hy
     rcases List.mem_append.1 hy with hy|hy
     ·exact hl y hy
     ·simp at hy;subst hy;exact hx2
    split at h
    ·cases h
     rw [z3b]
     simp only
     have h16:¬(16≤w):=by omega
     cases o with
     | false =>
      have:=a2 rfl
      subst this
      have hf:frm 5 [] (l++[x2]).length []=true:=by simp [frm]
      simp only [Bool.false_eq_true,if_false]
      rw [if_neg (fun h=>h16 h.2),hf]
      simpa using hl2
     | true =>
      have hf:frm 6 [] (l++[x2]).length ks1=true:=znk (by simpa using a1 rfl) a3 a4
      simp only [if_true]
      rw [if_neg (fun h=>h16 h.2),hf]
      simpa using hl2
    ·split at h
     ·cases h
     ·exact ih _ _ _ _ _ hl2 (fun h=>by simpa using a1 h) a2 a3 a4 h
theorem zma {vf:List UInt8→Rd} {o:Bool} {w:Nat} (hv:w<16→∀ s x r,vf s = .ok (x,r)→z3t x (w+1)=0) {s r:List UInt8} {x:J} (h:nest vf o w s = .ok (x,r)):z3t x w=0:=by
 unfold nest at h
 split at h
 ·cases h
 ·rename_i h16
  split at h
  ·cases h
   rw [z3b]
   cases o with
   | false=>simp [frm,h16,z6q]
   | true=>simp [frm,h16,z6q]
  ·exact zpw (by omega) (hv (by omega)) _ _ _ _ _ _ rfl (fun _=>rfl) (fun _=>rfl) (by simp) (fun k hk=>by cases hk) h
theorem zun {s r:List UInt8} {x:J} {w:Nat} (h:word s = .ok (x,r)):z3t x w=0:=by
 unfold word at h
 split at h
 ·cases h;rw [z3b];simp [frm,z6q]
 ·split at h
  ·cases h;rw [z3b];simp [frm,z6q]
  ·split at h
   ·cases h;rw [z3b];simp [frm,z6q]
   ·split at h
    ·cases h
    ·rename_i hn
     cases h
     have h1:=ztq s
     have h2:=zmd s
     have h3:(s.take (num s)).length=num s:=by rw [List.length_take];omega
     have h4:¬s.take (num s)=[]:=fun e=>by rw [e] at h3;simp at h3;omega
     have hf:frm 3 (s.take (num s)) 0 []=true:=by
      unfold frm
      rw [if_neg (by decide),if_pos rfl,h1,h3]
      simp [h4]
     rw [z3b]
     simp [hf,z6q]
theorem zxy:∀ (f:Nat) (s:List UInt8) (w:Nat) (x:J) (r:List UInt8),val f s w = .ok (x,r)→z3t x w=0:=by
 intro f
 induction f with
 | zero=>intro s w x r h;simp [val] at h
 | succ f ih =>
  intro s w x r h
  rw [val] at h
  split at h
  ·rename_i t r2 ht
   have hv:=zat ht
   cases h
   rw [z3b]
   simp [frm,z6q,hv]
  ·split at h
   ·cases h
   ·split at h
    ·exact zma (fun _ s x r=>ih s (w+1) x r) h
    ·split at h
     ·exact zma (fun _ s x r=>ih s (w+1) x r) h
     ·exact zun h
theorem ztj {s:List UInt8} {ks:List (List UInt8)} {c:Int} (h:zq1 s ks = .pan c):c=20:=by
 unfold zq1 at h
 split at h
 ·injection h with h;exact h.symm
 ·split at h
  ·injection h with h;exact h.symm
  ·split at h
   ·injection h with h;exact h.symm
   ·cases h
theorem zpx {vf:List UInt8→Rd} {o:Bool} {e:UInt8} (hv:∀ s c,vf s = .pan c→c=20∨c=21):∀ (f:Nat) (s:List UInt8) (l:List J) (ks:List (List UInt8)) (c:Int),items vf o e f s l ks = .pan c→c=20∨c=21:=by
 intro f
 induction f with
 | zero=>intro s l ks c h;simp only [items] at h;injection h with h;exact .inl h.symm
 | succ f ih =>
  intro s l ks c h
  rw [items] at h
  split at h
  ·rename_i hk
   split at hk
   ·injection h with h;subst h;exact .inl (ztj hk)
   ·cases hk
  ·split at h
   ·rename_i hx;injection h with h;subst h;exact hv _ _ hx
   ·split at h
    ·cases h
    ·split at h
     ·injection h with h;exact .inl h.symm
     ·exact ih _ _ _ _ h
theorem zmb {vf:List UInt8→Rd} {o:Bool} {w:Nat} (hv:∀ s c,vf s = .pan c→c=20∨c=21) {s:List UInt8} {c:Int} (h:nest vf o w s = .pan c):c=20∨c=21:=by
 unfold nest at h
 split at h
 ·injection h with h;exact .inr h.symm
 ·split at h
  ·cases h
  ·exact zpx hv _ _ _ _ _ h
theorem zxz:∀ (f:Nat) (s:List UInt8) (w:Nat) (c:Int),val f s w = .pan c→c=20∨c=21:=by
 intro f
 induction f with
 | zero=>intro s w c h;simp only [val] at h;injection h with h;exact .inl h.symm
 | succ f ih =>
  intro s w c h
  rw [val] at h
  split at h
  ·cases h
  ·split at h
   ·injection h with h;exact .inl h.symm
   ·split at h
    ·exact zmb (fun s c=>ih s (w+1) c) h
    ·split at h
     ·exact zmb (fun s c=>ih s (w+1) c) h
     ·unfold word at h
      split at h
      ·cases h
      ·split at h
       ·cases h
       ·split at h
        ·cases h
        ·split at h
         ·injection h with h;exact .inl h.symm
         ·cases h
theorem zkh (s:List UInt8):(∃ x,parse s=(x,0)∧z3t x 0=0)∨∃ c,parse s=(⟨0,[],[],[]⟩,c)∧(c=20∨c=21∨c=22):=by
 unfold parse
 split
 ·exact .inr ⟨22,rfl,by simp⟩
 ·split
  ·rename_i c hc
   rcases zxz _ _ _ _ hc with h|h
   ·exact .inr ⟨c,rfl,.inl h⟩
   ·exact .inr ⟨c,rfl,.inr (.inl h)⟩
  ·rename_i y r hv
   split
   ·exact .inl ⟨y,rfl,zxy _ _ _ _ _ hv⟩
   ·exact .inr ⟨20,rfl,.inl rfl⟩
/-- A value's form is read as the value. -/
theorem zis {v:J} (h:z3t v 0=0) (hl:(prJ v).length≤16384):parse (prJ v)=(v,0):=by
 unfold parse
 obtain ⟨c,r,e,ho⟩:=z7z h
 have hb:z0u (prJ v)=prJ v:=by rw [e,z13 (z9o ho).1]
 have:=zz007 17 v 0 0 [] (by omega) (by omega) h zuf
 rw [List.append_nil] at this
 rw [if_neg (by omega),hb,this,if_pos h]
 simp [z0u]
end Go.Sen
