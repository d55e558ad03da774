import Derived.Test.YtmmgdladipbedaaGreatDoorLSpE
set_option linter.all false
section
namespace Go.Sen
open _root_.List renaming drop_take → ya, mem_append → yb, takeWhile_cons → yc, take_succ_cons → yd
open Go.Lk Go.Pe
theorem z6e {α:Type} (p:α→Bool):∀ (l:List α) (m:Nat),((l.take m).takeWhile p).length=min m (l.takeWhile p).length
 | [],m=>by simp
 | a::l,0=>by simp
 | a::l,m+1=>by
  rw [yd,yc,yc]
  cases p a with
  | false=>simp
  | true=>simp only [if_true,List.length_cons,z6e p l m];omega
theorem z9v (s:List UInt8) (m:Nat):z47 (s.take m)=min m (z47 s):=z6e isD s m
theorem head_take {s:List UInt8} {m:Nat} (h:0<m):(s.take m).head? = s.head?:=by
 cases s with
 | nil=>simp
 | cons c r =>
  obtain ⟨m,rfl⟩:∃ k,m=k+1:=⟨m - 1,by omega⟩
  simp
theorem zls {s:List UInt8} {m:Nat} (h:0<m) (h2:z61 s≤m):z61 (s.take m)=z61 s:=by
 unfold z61 at *
 rw [head_take h,z9v]
 split at h2
 ·rename_i hc;rw [if_pos hc,if_pos hc]
 ·rename_i hc;rw [if_neg hc,if_neg hc];omega
theorem zln {s:List UInt8} {m:Nat} (h:z98 s≤m):z98 (s.take m)=z98 s:=by
 cases s with
 | nil=>simp
 | cons c r =>
  cases m with
  | zero =>
   simp only [List.take_zero,frac_nil]
   omega
  | succ m =>
   rw [yd,za4,za4,z9v]
   rw [za4] at h
   by_cases hc:c=46
   ·simp only [hc,if_true] at h ⊢
    by_cases hd:0<z47 r
    ·rw [if_pos hd] at h ⊢
     have:min m (z47 r)=z47 r:=by omega
     rw [this,if_pos hd]
    ·rw [if_neg hd,if_neg (by omega)]
   ·simp [hc]
theorem zn3 {s:List UInt8} {m:Nat} (h:0<m):z6d (s.take m)=z6d s:=by unfold z6d;rw [head_take h]
theorem zp3 {s:List UInt8} {m:Nat} (h:0<m):sgn (s.take m)=sgn s:=by unfold sgn;rw [head_take h]
theorem zlk (s:List UInt8):zcx (s.take (zcx s))=zcx s:=by
 cases s with
 | nil=>rfl
 | cons c r =>
  by_cases hc:c=101∨c=69
  ·by_cases hd:0<z47 (r.drop (z6d r))
   ·have e:zcx (c::r)=1+z6d r+z47 (r.drop (z6d r)):=by simp [zcx,hc,hd]
    rw [e]
    have e2:(c::r).take (1+z6d r+z47 (r.drop (z6d r)))=c::r.take (z6d r+z47 (r.drop (z6d r))):=by
     rw [show 1+z6d r+z47 (r.drop (z6d r))=(z6d r+z47 (r.drop (z6d r)))+1 by omega,yd]
    rw [e2]
    have e3:z6d (r.take (z6d r+z47 (r.drop (z6d r))))=z6d r:=zn3 (by omega)
    have e4:z47 ((r.take (z6d r+z47 (r.drop (z6d r)))).drop (z6d r))=z47 (r.drop (z6d r)):=by
     rw [ya,z9v]
     omega
    unfold zcx
    simp only [hc,if_true,e3,e4,hd]
   ·have e:zcx (c::r)=0:=by simp [zcx,hd]
    rw [e]
    rfl
  ·have e:zcx (c::r)=0:=by simp [zcx,hc]
   rw [e]
   rfl
theorem zos (s:List UInt8):num (s.take (num s))=num s:=by
 by_cases hz:z61 (s.drop (sgn s))=0
 ·have:num s=0:=by unfold num;simp [hz]
  rw [this]
  rfl
 have e:num s=sgn s+z61 (s.drop (sgn s))+z98 (s.drop (sgn s+z61 (s.drop (sgn s))))+zcx (s.drop (sgn s+z61 (s.drop (sgn s))+z98 (s.drop (sgn s+z61 (s.drop (sgn s)))))):=by
  conv=>lhs;unfold num
  simp only [hz,if_false]
 generalize hn:num s=n at e ⊢
 have hs:sgn (s.take n)=sgn s:=zp3 (by omega)
 have h1:z61 ((s.take n).drop (sgn s))=z61 (s.drop (sgn s)):=by
  rw [ya,zls (by omega) (by omega)]
 have h2:z98 ((s.take n).drop (sgn s+z61 (s.drop (sgn s))))=z98 (s.drop (sgn s+z61 (s.drop (sgn s)))):=by
  rw [ya,zln (by omega)]
 have h3:zcx ((s.take n).drop (sgn s+z61 (s.drop (sgn s))+z98 (s.drop (sgn s+z61 (s.drop (sgn s))))))=zcx (s.drop (sgn s+z61 (s.drop (sgn s))+z98 (s.drop (sgn s+z61 (s.drop (sgn s)))))):=by
  rw [ya]
  have:n - (sgn s+z61 (s.drop (sgn s))+z98 (s.drop (sgn s+z61 (s.drop (sgn s)))))=zcx (s.drop (sgn s+z61 (s.drop (sgn s))+z98 (s.drop (sgn s+z61 (s.drop (sgn s)))))):=by omega
  rw [this,zlk]
 unfold num
 simp only [hs,h1,hz,if_false,h2,h3]
 exact e.symm
theorem zb1:∀ (f:Nat) (s acc t r:List UInt8),txt f s acc=some (t,r)→Lib.validD t=true
 | 0,_,_,_,_,h=>by simp [txt] at h
 | _+1,[],_,_,_,h=>by simp [txt] at h
 | f+1,c::s,acc,t,r,h=>by
  rw [txt] at h
  split at h
  ·cases h
  ·split at h
   ·split at h
    ·rename_i hv;cases h;exact hv
    ·cases h
   ·split at h
    ·split at h
     ·cases h
     ·exact zb1 f _ _ _ _ h
    ·exact zb1 f _ _ _ _ h
theorem z8k {s t r:List UInt8} (h:text s=some (t,r)):Lib.validD t=true:=by
 unfold text at h
 split at h
 ·split at h
  ·exact zb1 _ _ _ _ _ h
  ·cases h
 ·cases h
theorem zr2 {s:List UInt8} {ks:List (List UInt8)} {r:List UInt8} {ks2:List (List UInt8)} (h:zoj s ks = .ok (r,ks2)):∃ k,ks2=ks++[k]∧¬k∈ks∧Lib.validD k=true:=by
 unfold zoj at h
 split at h
 ·cases h
 ·rename_i k r1 ht
  split at h
  ·cases h
  ·rename_i hk
   split at h
   ·cases h
   ·cases h;exact ⟨k,rfl,hk,z8k ht⟩
theorem zhp:∀ {l:List J} {w:Nat},zb2 l w=0↔∀ x∈l,z73 x w=0
 | [],w=>by simp [zb2]
 | x::l,w=>by
  rw [z9p]
  by_cases hc:z73 x w=0
  ·simp [hc,zhp (l:=l)]
  ·simp [hc]
theorem zjo {n:Nat} {ks:List (List UInt8)} (h1:ks.length=n) (h2:ks.Nodup) (h3:∀ k∈ks,Lib.validD k=true):frm 6 [] n ks=true:=by
 unfold frm
 simp [h1,h2]
 exact h3
theorem zlu {vf:List UInt8→Rd} {o:Bool} {e:UInt8} {w:Nat} (hw:w<16) (hv:∀ s x r,vf s = .ok (x,r)→z73 x (w+1)=0):∀ (f:Nat) (s:List UInt8) (l:List J) (ks:List (List UInt8)) (x:J) (r:List UInt8),
  zb2 l (w+1)=0→(o=true→ks.length=l.length)→(o=false→ks=[])→ks.Nodup→(∀ k∈ks,Lib.validD k=true)→items vf o e f s l ks = .ok (x,r)→z73 x w=0:=by
 intro f
 induction f with
 | zero=>intro s l ks x r _ _ _ _ _ h;simp [items] at h
 | succ f ih =>
  intro s l ks x r hl hk hk2 hnd hvk h
  rw [items] at h
  split at h
  ·cases h
  ·rename_i s1 ks1 hks
   have h1:(o=true→ks1.length=l.length+1)∧(o=false→ks1=[])∧ks1.Nodup∧∀ k∈ks1,Lib.validD k=true:=by
    split at hks
    ·rename_i ho
     obtain ⟨k,rfl,k1,k2⟩:=zr2 hks
     refine ⟨fun _=>by simp [hk ho],fun h=>absurd (ho.symm.trans h) (by decide),?_,?_⟩
     ·rw [List.nodup_append]
      exact ⟨hnd,by simp,fun a ha b hb=>by simp at hb;subst hb;intro e;subst e;exact k1 ha⟩
     ·intro z hz
      rcases yb.1 hz with hz|hz
      ·exact hvk z hz
      ·simp at hz;subst hz;exact k2
    ·rename_i ho
     cases hks
     exact ⟨fun h=>absurd h ho,hk2,hnd,hvk⟩
   obtain ⟨a1,a2,a3,a4⟩:=h1
   split at h
   ·cases h
   ·rename_i x2 s2 hx
    have hx2:=hv _ _ _ hx
    have hl2:zb2 (l++[x2]) (w+1)=0:=by
     rw [zhp] at hl ⊢
     intro y hy
     rcases yb.1 hy with hy|hy
     ·exact hl y hy
     ·simp at hy;subst hy;exact hx2
    split at h
    ·cases h
     rw [z4d]
     simp only
     have h16:¬(16≤w):=by omega
     cases o with
     | false =>
      have:=a2 rfl
      subst this
      have hf:frm 5 [] (l++[x2]).length []=true:=by simp [frm]
      simp only [Bool.false_eq_true,if_false]
      rw [if_neg (fun h=>h16 h.2),hf]
      simpa using hl2
     | true =>
      have hf:frm 6 [] (l++[x2]).length ks1=true:=zjo (by simpa using a1 rfl) a3 a4
      simp only [if_true]
      rw [if_neg (fun h=>h16 h.2),hf]
      simpa using hl2
    ·split at h
     ·cases h
     ·exact ih _ _ _ _ _ hl2 (fun h=>by simpa using a1 h) a2 a3 a4 h
theorem zih {vf:List UInt8→Rd} {o:Bool} {w:Nat} (hv:w<16→∀ s x r,vf s = .ok (x,r)→z73 x (w+1)=0) {s r:List UInt8} {x:J} (h:nest vf o w s = .ok (x,r)):z73 x w=0:=by
 unfold nest at h
 split at h
 ·cases h
 ·rename_i h16
  split at h
  ·cases h
   rw [z4d]
   cases o with
   | false=>simp [frm,h16,zb2]
   | true=>simp [frm,h16,zb2]
  ·exact zlu (by omega) (hv (by omega)) _ _ _ _ _ _ rfl (fun _=>rfl) (fun _=>rfl) (by simp) (fun k hk=>by cases hk) h
theorem zpd {s r:List UInt8} {x:J} {w:Nat} (h:word s = .ok (x,r)):z73 x w=0:=by
 unfold word at h
 split at h
 ·cases h;rw [z4d];simp [frm,zb2]
 ·split at h
  ·cases h;rw [z4d];simp [frm,zb2]
  ·split at h
   ·cases h;rw [z4d];simp [frm,zb2]
   ·split at h
    ·cases h
    ·rename_i hn
     cases h
     have h1:=zos s
     have h2:=zij s
     have h3:(s.take (num s)).length=num s:=by rw [List.length_take];omega
     have h4:¬s.take (num s)=[]:=fun e=>by rw [e] at h3;simp at h3;omega
     have hf:frm 3 (s.take (num s)) 0 []=true:=by
      unfold frm
      rw [if_neg (by decide),if_pos rfl,h1,h3]
      simp [h4]
     rw [z4d]
     simp [hf,zb2]
theorem zs6:∀ (f:Nat) (s:List UInt8) (w:Nat) (x:J) (r:List UInt8),val f s w = .ok (x,r)→z73 x w=0:=by
 intro f
 induction f with
 | zero=>intro s w x r h;simp [val] at h
 | succ f ih =>
  intro s w x r h
  rw [val] at h
  split at h
  ·rename_i t r2 ht
   have hv:=z8k ht
   cases h
   rw [z4d]
   simp [frm,zb2,hv]
  ·split at h
   ·cases h
   ·split at h
    ·exact zih (fun _ s x r=>ih s (w+1) x r) h
    ·split at h
     ·exact zih (fun _ s x r=>ih s (w+1) x r) h
     ·exact zpd h
theorem zol {s:List UInt8} {ks:List (List UInt8)} {c:Int} (h:zoj s ks = .pan c):c=20:=by
 unfold zoj at h
 split at h
 ·injection h with h;exact h.symm
 ·split at h
  ·injection h with h;exact h.symm
  ·split at h
   ·injection h with h;exact h.symm
   ·cases h
theorem zlv {vf:List UInt8→Rd} {o:Bool} {e:UInt8} (hv:∀ s c,vf s = .pan c→c=20∨c=21):∀ (f:Nat) (s:List UInt8) (l:List J) (ks:List (List UInt8)) (c:Int),items vf o e f s l ks = .pan c→c=20∨c=21:=by
 intro f
 induction f with
 | zero=>intro s l ks c h;simp only [items] at h;injection h with h;exact .inl h.symm
 | succ f ih =>
  intro s l ks c h
  rw [items] at h
  split at h
  ·rename_i hk
   split at hk
   ·injection h with h;subst h;exact .inl (zol hk)
   ·cases hk
  ·split at h
   ·rename_i hx;injection h with h;subst h;exact hv _ _ hx
   ·split at h
    ·cases h
    ·split at h
     ·injection h with h;exact .inl h.symm
     ·exact ih _ _ _ _ h
theorem zii {vf:List UInt8→Rd} {o:Bool} {w:Nat} (hv:∀ s c,vf s = .pan c→c=20∨c=21) {s:List UInt8} {c:Int} (h:nest vf o w s = .pan c):c=20∨c=21:=by
 unfold nest at h
 split at h
 ·injection h with h;exact .inr h.symm
 ·split at h
  ·cases h
  ·exact zlv hv _ _ _ _ _ h
theorem zs7:∀ (f:Nat) (s:List UInt8) (w:Nat) (c:Int),val f s w = .pan c→c=20∨c=21:=by
 intro f
 induction f with
 | zero=>intro s w c h;simp only [val] at h;injection h with h;exact .inl h.symm
 | succ f ih =>
  intro s w c h
  rw [val] at h
  split at h
  ·cases h
  ·split at h
   ·injection h with h;exact .inl h.symm
   ·split at h
    ·exact zii (fun s c=>ih s (w+1) c) h
    ·split at h
     ·exact zii (fun s c=>ih s (w+1) c) h
     ·unfold word at h
      split at h
      ·cases h
      ·split at h
       ·cases h
       ·split at h
        ·cases h
        ·split at h
         ·injection h with h;exact .inl h.symm
         ·cases h
theorem zgw (s:List UInt8):(∃ x,parse s=(x,0)∧z73 x 0=0)∨∃ c,parse s=(⟨0,[],[],[]⟩,c)∧(c=20∨c=21∨c=22):=by
 unfold parse
 split
 ·exact .inr ⟨22,rfl,by simp⟩
 ·split
  ·rename_i c hc
   rcases zs7 _ _ _ _ hc with h|h
   ·exact .inr ⟨c,rfl,.inl h⟩
   ·exact .inr ⟨c,rfl,.inr (.inl h)⟩
  ·rename_i y r hv
   split
   ·exact .inl ⟨y,rfl,zs6 _ _ _ _ _ hv⟩
   ·exact .inr ⟨20,rfl,.inl rfl⟩
end Go.Sen
end
section
namespace Go.Sen
open _root_.List renaming head?_cons → ya, length_append → yb, length_cons → yc, length_drop → yd, length_nil → ye
open Go.Lk Go.Pe
theorem zgx {q:List UInt8} {x:J} (hh:q.head? = some 34) (hx:parse q=(x,0)):Lib.validD x.z0p=true:=by
 unfold parse at hx
 have hb:z2d q=q:=by
  cases q with
  | nil=>cases hh
  | cons c r =>
   simp only [ya,Option.some.injEq] at hh
   subst hh
   exact zg0 (by decide)
 split at hx
 ·cases hx
 ·rw [hb] at hx
  unfold val at hx
  cases ht:text q with
  | some p =>
   obtain ⟨t,r⟩:=p
   rw [ht] at hx
   simp only at hx
   split at hx
   ·cases hx;exact z8k ht
   ·cases hx
  | none =>
   rw [ht] at hx
   simp only [hh,if_true] at hx
   cases hx
theorem zs9 {s t r:List UInt8} (h:vl s = .ok (t,r)):z2n t=true:=by
 unfold vl at h
 split at h
 ·split at h
  ·split at h
   ·rename_i h1 h2 h3
    cases h
    generalize hq:(bk s).take (2+qsc ((bk s).drop 1))=q at h3 ⊢
    have hh:q.head? = some 34:=by
     rw [←hq]
     cases hb:bk s with
     | nil=>rw [hb] at h1;cases h1
     | cons c r =>
      rw [hb] at h1
      simp only [ya,Option.some.injEq] at h1
      rw [h1,show 2+qsc ((34::r).drop 1)=(1+qsc ((34::r).drop 1))+1 by omega,List.take_succ_cons]
      rfl
    rcases zgw q with ⟨x,hx,hc⟩|⟨c,hx,hc⟩
    ·have hk:=zgx hh hx
     rw [hx] at h3 ⊢
     simp only at h3 ⊢
     unfold z2n
     rw [decide_eq_true h3.2,hk]
     rfl
    ·rw [hx] at h3
     simp only at h3
     omega
   ·cases h
  ·cases h
 ·cases h
def Sz (next:List UInt8→Rs (EX × List UInt8)):Prop := ∀ s x r,next s = .ok (x,r)→x.sz+200*r.length≤200*s.length
theorem zc3 {t:List UInt8} (h:z2n t=true):t.length≤128:=by
 unfold z2n at h
 simp only [Bool.and_eq_true,decide_eq_true_eq] at h
 exact h.1
theorem zrd {no:Bool}:Sz (leaf no):=fun s x r h=>by
 have hb:=z3x s
 have hw:=zfv s
 unfold leaf at h
 split at h
 ·split at h
  ·rename_i hk
   cases h
   have:=zpa hk
   have hkl:kPr.length=2:=rfl
   simp only [yd] at this
   simp only [q01.sz,ezs,ye]
   omega
  ·split at h
   ·cases h
   ·split at h
    ·cases h
    ·rename_i v hv
     cases h
     have h1:=zu8 hv
     have h2:=z3x ((bk s).drop (wd s).length)
     have h3:=zc3 (zs9 hv)
     simp only [yd] at h1 h2
     simp only [q01.sz,ezs]
     omega
 ·cases h
theorem zrh {S:Nat→List UInt8→Rs (EX × List UInt8)} {d:Nat} (hS:Sz (S (d+1))):Sz (zcb S d):=fun s x r h=>by
 have h1:=z9d zbb s
 have h2:=z9d [40] (tk zbb s).2
 unfold zcb at h
 split at h
 ·rename_i ho
  have h3:=zpa ho
  split at h
  ·split at h
   ·cases h
   ·rename_i y hy
    have h4:=hS _ _ _ hy
    split at h
    ·have h5:=z9d [41] y.2
     cases h
     simp only [yc,ye] at h3
     split
     ·simp only [q01.sz,ezs,ye];omega
     ·omega
    ·cases h
  ·cases h
 ·have:=zrd _ _ _ h
  omega
theorem zmt {word:List UInt8} {next:List UInt8→Rs (EX × List UInt8)} (hw:1≤word.length) (hn:Sz next):∀ (f:Nat) (acc:List EX) (s:List UInt8) (l:List EX) (r:List UInt8),zk8 word next f acc s = .ok (l,r)→ezs l+200*r.length+200*(l.length - acc.length)≤ezs acc+200*s.length
 | 0,acc,s,l,r,h=>by cases h;omega
 | f+1,acc,s,l,r,h=>by
  unfold zk8 at h
  split at h
  ·rename_i ht
   have h1:=zpa ht
   split at h
   ·cases h
   ·rename_i x hx
    have h2:=hn _ _ _ hx
    have h3:=zmt hw hn f _ _ _ _ h
    have h4:ezs (acc++[x.1])=ezs acc+x.1.sz:=by
     clear h h3
     induction acc with
     | nil=>simp [ezs]
     | cons y ys ih=>simp [ezs,ih];omega
    obtain ⟨t,ht2⟩:=z5g _ _ _ _ _ h
    rw [ht2] at h3 ⊢
    simp only [yb,yc,ye] at h3 ⊢
    omega
  ·cases h
   have:=z9d word s
   omega
theorem zq6 {k:Int} {word:List UInt8} {next:List UInt8→Rs (EX × List UInt8)} (hw:1≤word.length) (hn:Sz next):Sz (row k word next):=fun s x r h=>by
 rw [zq5] at h
 split at h
 ·cases h
 ·rename_i y hy
  have h1:=hn _ _ _ hy
  split at h
  ·cases h
  ·rename_i l hl
   cases h
   have h2:=zmt hw hn _ _ _ _ _ hl
   obtain ⟨t,ht⟩:=z5g _ _ _ _ _ hl
   cases t with
   | nil =>
    simp only [List.append_nil] at ht
    rw [ht] at h2 ⊢
    simp only [zjv,ezs,yc,ye] at h2 ⊢
    omega
   | cons z t =>
    rw [ht] at h2 ⊢
    simp only [yc,yb,ye,ezs] at h2
    show q01.sz ⟨k,[],[],y.1::z::t⟩+_≤_
    simp only [q01.sz,ye]
    have e:ezs ([y.1]++z::t)=ezs (y.1::z::t):=rfl
    rw [e] at h2
    omega
theorem ziz:∀ m d,Sz (z2w m d)
 | 0,_=>fun _ _ _ h=>by cases h
 | m+1,d=>zq6 (k:=1) (word:=kOr) (by decide) (zq6 (k:=0) (word:=zkk) (by decide) (zrh (S:=z2w m) (ziz m (d+1))))
theorem zw0 (s:List UInt8):(pP s).1.sz≤204801:=by
 have hz:zE.sz≤204801:=by decide
 unfold pP
 split
 ·exact hz
 ·split
  ·exact hz
  ·rename_i x hx
   have:=ziz 17 0 _ _ _ hx
   split
   ·simp only
    omega
   ·exact hz
end Go.Sen
end
section
namespace Go.Sen
open _root_.List renaming cons_append → ya, length_append → yb, length_cons → yc, length_nil → yd
open Go.Lk Go.Pe Go.RowKit
theorem zn7 {s t r:List UInt8} (ht:text s=some (t,r)):t.length+4*r.length+4≤4*s.length:=by
 unfold text at ht
 split at ht
 ·split at ht
  ·have tl:∀ (f:Nat) (s acc t r:List UInt8),txt f s acc=some (t,r)→t.length+4*r.length≤acc.length+4*s.length:=by
    intro f
    induction f with
    | zero=>intro s acc t r h;simp [txt] at h
    | succ f ih =>
     intro s acc t r h
     cases s with
     | nil=>simp [txt] at h
     | cons c s =>
      rw [txt] at h
      split at h
      ·cases h
      ·split at h
       ·split at h
        ·cases h;simp;omega
        ·cases h
       ·split at h
        ·split at h
         ·cases h
         ·rename_i t1 r1 he
          have h1:=zcw he
          have h2:=ih _ _ _ _ h
          simp only [yb,yc] at *
          omega
        ·have h2:=ih _ _ _ _ h
         simp only [yb,yc,yd] at *
         omega
   have:=tl _ _ _ _ _ ht
   simp only [yc,yd] at *
   omega
  ·cases ht
 ·cases ht
theorem zog {vf:List UInt8→Rd} {o:Bool} {e:UInt8} (hv:∀ s x r,vf s = .ok (x,r)→x.sz+8*r.length≤8*s.length):∀ (f:Nat) (s:List UInt8) (l:List J) (ks:List (List UInt8)) (x:J) (r:List UInt8),items vf o e f s l ks = .ok (x,r)→x.sz+8*r.length≤8*s.length+szs l+kys ks:=by
 intro f
 induction f with
 | zero=>intro s l ks x r h;simp [items] at h
 | succ f ih =>
  intro s l ks x r h
  rw [items] at h
  have app1:∀ (l:List J) (x:J),szs (l++[x])=szs l+x.sz+1:=fun l x=>by
   induction l with
   | nil=>simp [szs]
   | cons y l ih=>simp only [ya,szs,ih];omega
  have app2:∀ (l:List (List UInt8)) (x:List UInt8),kys (l++[x])=kys l+x.length+1:=fun l x=>by
   induction l with
   | nil=>simp [kys]
   | cons y l ih=>rw [ya,z34,z34,ih];omega
  split at h
  ·cases h
  ·rename_i s1 ks1 hk
   have h1:kys ks1+8*s1.length≤8*s.length+kys ks:=by
    split at hk
    ·unfold zoj at hk
     split at hk
     ·cases hk
     ·rename_i k r1 ht
      have g1:=z83 ht
      have g2:=z1l r1
      have g5:=zn7 ht
      split at hk
      ·cases hk
      ·split at hk
       ·cases hk
       ·rename_i r2 ht2
        have g3:=take_len ht2
        simp only [yc,yd] at g3
        simp only [Rs.ok.injEq,Prod.mk.injEq] at hk
        obtain ⟨rfl,rfl⟩:=hk
        rw [app2]
        omega
    ·simp only [Rs.ok.injEq,Prod.mk.injEq] at hk
     obtain ⟨rfl,rfl⟩:=hk
     omega
   split at h
   ·cases h
   ·rename_i x2 s2 hx
    have h2:=hv _ _ _ hx
    split at h
    ·rename_i r2 ht
     have h3:=take_len ht
     simp only [yc,yd] at h3
     simp only [Rs.ok.injEq,Prod.mk.injEq] at h
     obtain ⟨rfl,rfl⟩:=h
     rw [q03.z1k]
     simp only [app1,yd]
     omega
    ·split at h
     ·cases h
     ·rename_i r2 ht
      have h3:=take_len ht
      simp only [yc,yd] at h3
      have h4:=ih _ _ _ _ _ h
      rw [app1] at h4
      omega
theorem zme {vf:List UInt8→Rd} {o:Bool} {w:Nat} (hv:∀ s x r,vf s = .ok (x,r)→x.sz+8*r.length≤8*s.length) {s r:List UInt8} {x:J} (h:nest vf o w s = .ok (x,r)):x.sz+8*r.length≤8*s.length:=by
 unfold nest at h
 split at h
 ·cases h
 ·split at h
  ·rename_i r2 ht
   have:=take_len ht
   simp only [Rs.ok.injEq,Prod.mk.injEq] at h
   obtain ⟨rfl,rfl⟩:=h
   simp only [yc,yd] at this
   simp only [q03.sz,szs,z6s,yd]
   omega
  ·exact zog hv _ _ _ _ _ _ h
theorem zsb {s r:List UInt8} {x:J} (h:word s = .ok (x,r)):x.sz+8*r.length≤8*s.length:=by
 have hl:=zj2 h
 unfold word at h
 split at h
 ·simp only [Rs.ok.injEq,Prod.mk.injEq] at h
  obtain ⟨rfl,rfl⟩:=h
  simp only [q03.sz,szs,z6s,yd]
  omega
 ·split at h
  ·simp only [Rs.ok.injEq,Prod.mk.injEq] at h
   obtain ⟨rfl,rfl⟩:=h
   simp only [q03.sz,szs,z6s,yd]
   omega
  ·split at h
   ·simp only [Rs.ok.injEq,Prod.mk.injEq] at h
    obtain ⟨rfl,rfl⟩:=h
    simp only [q03.sz,szs,z6s,yd]
    omega
   ·split at h
    ·cases h
    ·simp only [Rs.ok.injEq,Prod.mk.injEq] at h
     obtain ⟨rfl,rfl⟩:=h
     have h1:=z1l (s.drop (num s))
     have h2:=zij s
     rw [List.length_drop] at h1
     simp only [q03.sz,szs,z6s,yd,List.length_take]
     omega
theorem zu7:∀ (f:Nat) (s:List UInt8) (w:Nat) (x:J) (r:List UInt8),val f s w = .ok (x,r)→x.sz+8*r.length≤8*s.length:=by
 intro f
 induction f with
 | zero=>intro s w x r h;simp [val] at h
 | succ f ih =>
  intro s w x r h
  rw [val] at h
  split at h
  ·rename_i t r2 ht
   have h1:=z83 ht
   have h2:=z1l r2
   have h3:=zn7 ht
   simp only [Rs.ok.injEq,Prod.mk.injEq] at h
   obtain ⟨rfl,rfl⟩:=h
   simp only [q03.sz,szs,z6s]
   omega
  ·split at h
   ·cases h
   ·split at h
    ·rename_i r2 ht
     have h1:=take_len ht
     have h2:=zme (fun s x r=>ih s (w+1) x r) h
     omega
    ·split at h
     ·rename_i r2 ht
      have h1:=take_len ht
      have h2:=zme (fun s x r=>ih s (w+1) x r) h
      omega
     ·exact zsb h
theorem zox (s:List UInt8):(parse s).1.sz≤131072:=by
 unfold parse
 have h0:(⟨0,[],[],[]⟩:J).sz≤131072:=by decide
 split
 ·exact h0
 ·rename_i hl
  split
  ·exact h0
  ·rename_i y r hv
   have h1:=zu7 _ _ _ _ _ hv
   have h2:=z1l s
   split
   ·simp only;omega
   ·exact h0
end Go.Sen
end
section
namespace Go.Sen
open _root_.Option renaming bind_eq_bind → ya, bind_some → yb
open _root_.Bool renaming false_eq_true → yc
open _root_.List renaming getElem?_eq_getElem → yd
open Go.Lk Go.Pe
def zsm:J:=⟨0,[],[],[]⟩
def z7q (v:J) (k:List UInt8):J × Bool:=if v.zb=6 then (match v.z0l.findIdx? (fun x=>decide (k=x)) with
 | some j=>(match v.zc[j]? with|some x=>(x,true)|none=>(zsm,false))
 | none=>(zsm,false)) else (zsm,false)
theorem z3s {v:J} {k:List UInt8} (h:v.z0l.length<1000000000):M.q0j v k=some (z7q v k):=by
 unfold M.q0j z7q
 rw [zi9 (by omega)]
 simp only [ya,yb]
 by_cases h6:v.zb=6
 ·simp only [h6,decide_true,Bool.true_and,if_true]
  cases v.z0l.findIdx? (fun x=>decide (k=x)) with
  | none=>rfl
  | some j =>
   simp only
   have h0:(0:Int)≤(j:Int):=by omega
   by_cases hj:j<v.zc.length
   ·have:(j:Int)<(v.zc.length:Int):=by omega
    simp [this,z48,yd hj]
   ·have:¬(j:Int)<(v.zc.length:Int):=by omega
    simp [this,List.getElem?_eq_none (Nat.le_of_not_lt hj),zsm]
 ·simp [h6,zsm]
theorem zde (v:J) (k:List UInt8):(z7q v k).1.sz≤v.sz:=by
 have h1:=q03.z1k v
 have h0:zsm.sz=1:=by decide
 unfold z7q
 split
 ·split
  ·split
   ·rename_i x hx
    have:=zdt (List.mem_of_getElem? hx)
    simp only
    omega
   ·simp only;omega
  ·simp only;omega
 ·simp only;omega
def texts:List J→Option (List (List UInt8))
 | []=>some []
 | x::l=>if x.zb=4 then (texts l).map (x.z0p :: ·) else none
theorem zeu {v:J} (hl:v.zc.length<1000000000):∀ (n i:Nat) (acc:List (List UInt8)),v.zc.length - i=n→i≤v.zc.length→acc.length+n<1000000000 →
  M.z15 v acc (i:Int)=some (match texts (v.zc.drop i) with|some l => .go (acc++l)|none => .done ([],false)):=by
 intro n
 induction n with
 | zero =>
  intro i acc hn hi ha
  rw [M.z15.eq_1]
  have:¬((i:Int)<(v.zc.length:Int)):=by omega
  rw [if_neg (by simp [this]),List.drop_eq_nil_of_le (by omega)]
  simp [texts]
 | succ n ih =>
  intro i acc hn hi ha
  have hlt:i<v.zc.length:=by omega
  rw [M.z15.eq_1]
  have h1:((i:Int)<(v.zc.length:Int)):=by omega
  simp only [h1,decide_true,if_true,z48,yd hlt,ya,yb]
  rw [List.drop_eq_getElem_cons hlt,texts]
  by_cases h4:(v.zc[i]).zb=4
  ·simp only [h4,decide_true,Bool.not_true,yc,if_false,if_true]
   rw [z3l (by simp only [List.length_cons,List.length_nil];omega),w1 (by omega)]
   simp only [yb]
   rw [ih (i+1) _ (by omega) (by omega) (by simp;omega)]
   cases texts (v.zc.drop (i+1)) with
   | none=>rfl
   | some l=>simp
  ·simp [h4]
def zb0 (v:J):List (List UInt8) × Bool:=if v.zb=5 then (match texts v.zc with|some l=>(l,true)|none=>([],false)) else ([],false)
theorem zd5 {v:J} (hl:v.zc.length<100000000):M.q0m v=some (zb0 v):=by
 unfold M.q0m zb0
 by_cases h5:v.zb=5
 ·have hk:=zeu (v:=v) (by omega) _ 0 [] rfl (Nat.zero_le _) (by simp;omega)
  have hk:M.z15 v [] 0=_:=hk
  simp only [h5,decide_true,Bool.not_true,yc,if_false,if_true,hk,List.drop_zero,List.nil_append,ya,yb]
  cases texts v.zc<;>rfl
 ·simp [h5]
end Go.Sen
end
