import Derived.Test.YtmmgdladipbedaaGreatDoorESpE
set_option linter.all false
section
namespace Go.Sen
open _root_.List renaming drop_take → ya, mem_append → yb, takeWhile_cons → yc, take_succ_cons → yd
open Go.Lk Go.Pe
theorem z8w {α:Type} (p:α→Bool):∀ (l:List α) (m:Nat),((l.take m).takeWhile p).length=min m (l.takeWhile p).length
 | [],m=>by simp
 | a::l,0=>by simp
 | a::l,m+1=>by
  rw [yd,yc,yc]
  cases p a with
  | false=>simp
  | true=>simp only [if_true,List.length_cons,z8w p l m];omega
theorem zcs (s:List UInt8) (m:Nat):z5a (s.take m)=min m (z5a s):=z8w isD s m
theorem head_take {s:List UInt8} {m:Nat} (h:0<m):(s.take m).head? = s.head?:=by
 cases s with
 | nil=>simp
 | cons c r =>
  obtain ⟨m,rfl⟩:∃ k,m=k+1:=⟨m - 1,by omega⟩
  simp
theorem zpd {s:List UInt8} {m:Nat} (h:0<m) (h2:z63 s≤m):z63 (s.take m)=z63 s:=by
 unfold z63 at *
 rw [head_take h,zcs]
 split at h2
 ·rename_i hc;rw [if_pos hc,if_pos hc]
 ·rename_i hc;rw [if_neg hc,if_neg hc];omega
theorem zp6 {s:List UInt8} {m:Nat} (h:z8l s≤m):z8l (s.take m)=z8l s:=by
 cases s with
 | nil=>simp
 | cons c r =>
  cases m with
  | zero =>
   simp only [List.take_zero,frac_nil]
   omega
  | succ m =>
   rw [yd,zd4,zd4,zcs]
   rw [zd4] at h
   by_cases hc:c=46
   ·simp only [hc,if_true] at h ⊢
    by_cases hd:0<z5a r
    ·rw [if_pos hd] at h ⊢
     have:min m (z5a r)=z5a r:=by omega
     rw [this,if_pos hd]
    ·rw [if_neg hd,if_neg (by omega)]
   ·simp [hc]
theorem zr3 {s:List UInt8} {m:Nat} (h:0<m):z7g (s.take m)=z7g s:=by unfold z7g;rw [head_take h]
theorem ztg {s:List UInt8} {m:Nat} (h:0<m):sgn (s.take m)=sgn s:=by unfold sgn;rw [head_take h]
theorem zp4 (s:List UInt8):ze7 (s.take (ze7 s))=ze7 s:=by
 cases s with
 | nil=>rfl
 | cons c r =>
  by_cases hc:c=101∨c=69
  ·by_cases hd:0<z5a (r.drop (z7g r))
   ·have e:ze7 (c::r)=1+z7g r+z5a (r.drop (z7g r)):=by simp [ze7,hc,hd]
    rw [e]
    have e2:(c::r).take (1+z7g r+z5a (r.drop (z7g r)))=c::r.take (z7g r+z5a (r.drop (z7g r))):=by
     rw [show 1+z7g r+z5a (r.drop (z7g r))=(z7g r+z5a (r.drop (z7g r)))+1 by omega,yd]
    rw [e2]
    have e3:z7g (r.take (z7g r+z5a (r.drop (z7g r))))=z7g r:=zr3 (by omega)
    have e4:z5a ((r.take (z7g r+z5a (r.drop (z7g r)))).drop (z7g r))=z5a (r.drop (z7g r)):=by
     rw [ya,zcs]
     omega
    unfold ze7
    simp only [hc,if_true,e3,e4,hd]
   ·have e:ze7 (c::r)=0:=by simp [ze7,hd]
    rw [e]
    rfl
  ·have e:ze7 (c::r)=0:=by simp [ze7,hc]
   rw [e]
   rfl
theorem zt1 (s:List UInt8):num (s.take (num s))=num s:=by
 by_cases hz:z63 (s.drop (sgn s))=0
 ·have:num s=0:=by unfold num;simp [hz]
  rw [this]
  rfl
 have e:num s=sgn s+z63 (s.drop (sgn s))+z8l (s.drop (sgn s+z63 (s.drop (sgn s))))+ze7 (s.drop (sgn s+z63 (s.drop (sgn s))+z8l (s.drop (sgn s+z63 (s.drop (sgn s)))))):=by
  conv=>lhs;unfold num
  simp only [hz,if_false]
 generalize hn:num s=n at e ⊢
 have hs:sgn (s.take n)=sgn s:=ztg (by omega)
 have h1:z63 ((s.take n).drop (sgn s))=z63 (s.drop (sgn s)):=by
  rw [ya,zpd (by omega) (by omega)]
 have h2:z8l ((s.take n).drop (sgn s+z63 (s.drop (sgn s))))=z8l (s.drop (sgn s+z63 (s.drop (sgn s)))):=by
  rw [ya,zp6 (by omega)]
 have h3:ze7 ((s.take n).drop (sgn s+z63 (s.drop (sgn s))+z8l (s.drop (sgn s+z63 (s.drop (sgn s))))))=ze7 (s.drop (sgn s+z63 (s.drop (sgn s))+z8l (s.drop (sgn s+z63 (s.drop (sgn s)))))):=by
  rw [ya]
  have:n - (sgn s+z63 (s.drop (sgn s))+z8l (s.drop (sgn s+z63 (s.drop (sgn s)))))=ze7 (s.drop (sgn s+z63 (s.drop (sgn s))+z8l (s.drop (sgn s+z63 (s.drop (sgn s)))))):=by omega
  rw [this,zp4]
 unfold num
 simp only [hs,h1,hz,if_false,h2,h3]
 exact e.symm
theorem ze0:∀ (f:Nat) (s acc t r:List UInt8),txt f s acc=some (t,r)→Lib.validD t=true
 | 0,_,_,_,_,h=>by simp [txt] at h
 | _+1,[],_,_,_,h=>by simp [txt] at h
 | f+1,c::s,acc,t,r,h=>by
  rw [txt] at h
  split at h
  ·cases h
  ·split at h
   ·split at h
    ·rename_i hv;cases h;exact hv
    ·cases h
   ·split at h
    ·split at h
     ·cases h
     ·exact ze0 f _ _ _ _ h
    ·exact ze0 f _ _ _ _ h
theorem zb7 {s t r:List UInt8} (h:text s=some (t,r)):Lib.validD t=true:=by
 unfold text at h
 split at h
 ·split at h
  ·exact ze0 _ _ _ _ _ h
  ·cases h
 ·cases h
theorem zpk {s:List UInt8} {ks:List (List UInt8)} {r:List UInt8} {ks2:List (List UInt8)} (h:zo8 s ks = .ok (r,ks2)):∃ k,ks2=ks++[k]∧¬k∈ks∧Lib.validD k=true:=by
 unfold zo8 at h
 split at h
 ·cases h
 ·rename_i k r1 ht
  split at h
  ·cases h
  ·rename_i hk
   split at h
   ·cases h
   ·cases h;exact ⟨k,rfl,hk,zb7 ht⟩
theorem zlc:∀ {l:List J} {w:Nat},zc3 l w=0↔∀ x∈l,z7h x w=0
 | [],w=>by simp [zc3]
 | x::l,w=>by
  rw [z9v]
  by_cases hc:z7h x w=0
  ·simp [hc,zlc (l:=l)]
  ·simp [hc]
theorem znc {n:Nat} {ks:List (List UInt8)} (h1:ks.length=n) (h2:ks.Nodup) (h3:∀ k∈ks,Lib.validD k=true):frm 6 [] n ks=true:=by
 unfold frm
 simp [h1,h2]
 exact h3
theorem zpf {vf:List UInt8→Rd} {o:Bool} {e:UInt8} {w:Nat} (hw:w<16) (hv:∀ s x r,vf s = .ok (x,r)→z7h x (w+1)=0):∀ (f:Nat) (s:List UInt8) (l:List J) (ks:List (List UInt8)) (x:J) (r:List UInt8),
  zc3 l (w+1)=0→(o=true→ks.length=l.length)→(o=false→ks=[])→ks.Nodup→(∀ k∈ks,Lib.validD k=true)→items vf o e f s l ks = .ok (x,r)→z7h x w=0:=by
 intro f
 induction f with
 | zero=>intro s l ks x r _ _ _ _ _ h;simp [items] at h
 | succ f ih =>
  intro s l ks x r hl hk hk2 hnd hvk h
  rw [items] at h
  split at h
  ·cases h
  ·rename_i s1 ks1 hks
   have h1:(o=true→ks1.length=l.length+1)∧(o=false→ks1=[])∧ks1.Nodup∧∀ k∈ks1,Lib.validD k=true:=by
    split at hks
    ·rename_i ho
     obtain ⟨k,rfl,k1,k2⟩:=zpk hks
     refine ⟨fun _=>by simp [hk ho],fun h=>absurd (ho.symm.trans h) (by decide),?_,?_⟩
     ·rw [List.nodup_append]
      exact ⟨hnd,by simp,fun a ha b hb=>by simp at hb;subst hb;intro e;subst e;exact k1 ha⟩
     ·intro z hz
      rcases yb.1 hz with hz|hz
      ·exact hvk z hz
      ·simp at hz;subst hz;exact k2
    ·rename_i ho
     cases hks
     exact ⟨fun h=>absurd h ho,hk2,hnd,hvk⟩
   obtain ⟨a1,a2,a3,a4⟩:=h1
   split at h
   ·cases h
   ·rename_i x2 s2 hx
    have hx2:=hv _ _ _ hx
    have hl2:zc3 (l++[x2]) (w+1)=0:=by
     rw [zlc] at hl ⊢
     intro y hy
     rcases yb.1 hy with hy|hy
     ·exact hl y hy
     ·simp at hy;subst hy;exact hx2
    split at h
    ·cases h
     rw [z5x]
     simp only
     have h16:¬(16≤w):=by omega
     cases o with
     | false =>
      have:=a2 rfl
      subst this
      have hf:frm 5 [] (l++[x2]).length []=true:=by simp [frm]
      simp only [Bool.false_eq_true,if_false]
      rw [if_neg (fun h=>h16 h.2),hf]
      simpa using hl2
     | true =>
      have hf:frm 6 [] (l++[x2]).length ks1=true:=znc (by simpa using a1 rfl) a3 a4
      simp only [if_true]
      rw [if_neg (fun h=>h16 h.2),hf]
      simpa using hl2
    ·split at h
     ·cases h
     ·exact ih _ _ _ _ _ hl2 (fun h=>by simpa using a1 h) a2 a3 a4 h
theorem zm4 {vf:List UInt8→Rd} {o:Bool} {w:Nat} (hv:w<16→∀ s x r,vf s = .ok (x,r)→z7h x (w+1)=0) {s r:List UInt8} {x:J} (h:nest vf o w s = .ok (x,r)):z7h x w=0:=by
 unfold nest at h
 split at h
 ·cases h
 ·rename_i h16
  split at h
  ·cases h
   rw [z5x]
   cases o with
   | false=>simp [frm,h16,zc3]
   | true=>simp [frm,h16,zc3]
  ·exact zpf (by omega) (hv (by omega)) _ _ _ _ _ _ rfl (fun _=>rfl) (fun _=>rfl) (by simp) (fun k hk=>by cases hk) h
theorem zty {s r:List UInt8} {x:J} {w:Nat} (h:word s = .ok (x,r)):z7h x w=0:=by
 unfold word at h
 split at h
 ·cases h;rw [z5x];simp [frm,zc3]
 ·split at h
  ·cases h;rw [z5x];simp [frm,zc3]
  ·split at h
   ·cases h;rw [z5x];simp [frm,zc3]
   ·split at h
    ·cases h
    ·rename_i hn
     cases h
     have h1:=zt1 s
     have h2:=zia s
     have h3:(s.take (num s)).length=num s:=by rw [List.length_take];omega
     have h4:¬s.take (num s)=[]:=fun e=>by rw [e] at h3;simp at h3;omega
     have hf:frm 3 (s.take (num s)) 0 []=true:=by
      unfold frm
      rw [if_neg (by decide),if_pos rfl,h1,h3]
      simp [h4]
     rw [z5x]
     simp [hf,zc3]
theorem zx1:∀ (f:Nat) (s:List UInt8) (w:Nat) (x:J) (r:List UInt8),val f s w = .ok (x,r)→z7h x w=0:=by
 intro f
 induction f with
 | zero=>intro s w x r h;simp [val] at h
 | succ f ih =>
  intro s w x r h
  rw [val] at h
  split at h
  ·rename_i t r2 ht
   have hv:=zb7 ht
   cases h
   rw [z5x]
   simp [frm,zc3,hv]
  ·split at h
   ·cases h
   ·split at h
    ·exact zm4 (fun _ s x r=>ih s (w+1) x r) h
    ·split at h
     ·exact zm4 (fun _ s x r=>ih s (w+1) x r) h
     ·exact zty h
theorem zss {s:List UInt8} {ks:List (List UInt8)} {c:Int} (h:zo8 s ks = .pan c):c=20:=by
 unfold zo8 at h
 split at h
 ·injection h with h;exact h.symm
 ·split at h
  ·injection h with h;exact h.symm
  ·split at h
   ·injection h with h;exact h.symm
   ·cases h
theorem zpg {vf:List UInt8→Rd} {o:Bool} {e:UInt8} (hv:∀ s c,vf s = .pan c→c=20∨c=21):∀ (f:Nat) (s:List UInt8) (l:List J) (ks:List (List UInt8)) (c:Int),items vf o e f s l ks = .pan c→c=20∨c=21:=by
 intro f
 induction f with
 | zero=>intro s l ks c h;simp only [items] at h;injection h with h;exact .inl h.symm
 | succ f ih =>
  intro s l ks c h
  rw [items] at h
  split at h
  ·rename_i hk
   split at hk
   ·injection h with h;subst h;exact .inl (zss hk)
   ·cases hk
  ·split at h
   ·rename_i hx;injection h with h;subst h;exact hv _ _ hx
   ·split at h
    ·cases h
    ·split at h
     ·injection h with h;exact .inl h.symm
     ·exact ih _ _ _ _ h
theorem zm5 {vf:List UInt8→Rd} {o:Bool} {w:Nat} (hv:∀ s c,vf s = .pan c→c=20∨c=21) {s:List UInt8} {c:Int} (h:nest vf o w s = .pan c):c=20∨c=21:=by
 unfold nest at h
 split at h
 ·injection h with h;exact .inr h.symm
 ·split at h
  ·cases h
  ·exact zpg hv _ _ _ _ _ h
theorem zx2:∀ (f:Nat) (s:List UInt8) (w:Nat) (c:Int),val f s w = .pan c→c=20∨c=21:=by
 intro f
 induction f with
 | zero=>intro s w c h;simp only [val] at h;injection h with h;exact .inl h.symm
 | succ f ih =>
  intro s w c h
  rw [val] at h
  split at h
  ·cases h
  ·split at h
   ·injection h with h;exact .inl h.symm
   ·split at h
    ·exact zm5 (fun s c=>ih s (w+1) c) h
    ·split at h
     ·exact zm5 (fun s c=>ih s (w+1) c) h
     ·unfold word at h
      split at h
      ·cases h
      ·split at h
       ·cases h
       ·split at h
        ·cases h
        ·split at h
         ·injection h with h;exact .inl h.symm
         ·cases h
theorem zk3 (s:List UInt8):(∃ x,parse s=(x,0)∧z7h x 0=0)∨∃ c,parse s=(⟨0,[],[],[]⟩,c)∧(c=20∨c=21∨c=22):=by
 unfold parse
 split
 ·exact .inr ⟨22,rfl,by simp⟩
 ·split
  ·rename_i c hc
   rcases zx2 _ _ _ _ hc with h|h
   ·exact .inr ⟨c,rfl,.inl h⟩
   ·exact .inr ⟨c,rfl,.inr (.inl h)⟩
  ·rename_i y r hv
   split
   ·exact .inl ⟨y,rfl,zx1 _ _ _ _ _ hv⟩
   ·exact .inr ⟨20,rfl,.inl rfl⟩
end Go.Sen
end
section
namespace Go.Sen
open _root_.Bool renaming and_eq_true → ya
open _root_.List renaming append_nil → yb, head?_cons → yc, length_append → yd, length_cons → ye, length_drop → yf, length_nil → yg, mem_singleton → yh
open Go.Lk Go.Pe
theorem zk4 {q:List UInt8} {x:J} (hh:q.head? = some 34) (hx:parse q=(x,0)):Lib.validD x.z03=true:=by
 unfold parse at hx
 have hb:z0g q=q:=by
  cases q with
  | nil=>cases hh
  | cons c r =>
   simp only [yc,Option.some.injEq] at hh
   subst hh
   exact z6n (by decide)
 split at hx
 ·cases hx
 ·rw [hb] at hx
  unfold val at hx
  cases ht:text q with
  | some p =>
   obtain ⟨t,r⟩:=p
   rw [ht] at hx
   simp only at hx
   split at hx
   ·cases hx;exact zb7 ht
   ·cases hx
  | none =>
   rw [ht] at hx
   simp only [hh,if_true] at hx
   cases hx
def Pn (next:List UInt8→Rs (EX × List UInt8)):Prop := ∀ s c,next s = .pan c→c=190∨c=193
theorem zzd {s:List UInt8} {c:Int} (h:vl s = .pan c):c=190:=by
 unfold vl at h
 split at h
 ·split at h
  ·split at h
   ·cases h
   ·cases h;rfl
  ·cases h;rfl
 ·cases h;rfl
theorem zsu {no:Bool}:Pn (leaf no):=fun s c h=>by
 unfold leaf at h
 split at h
 ·split at h
  ·cases h
  ·split at h
   ·cases h;exact .inl rfl
   ·split at h
    ·rename_i e he
     cases h
     exact .inl (zzd he)
    ·cases h
 ·cases h;exact .inl rfl
theorem zm8 {S:Nat→List UInt8→Rs (EX × List UInt8)} {d:Nat} (hS:d<16→Pn (S (d+1))):Pn (z9s S d):=fun s c h=>by
 unfold z9s at h
 split at h
 ·split at h
  ·rename_i hd
   split at h
   ·rename_i e he
    cases h
    exact hS hd _ _ he
   ·split at h
    ·cases h
    ·cases h;exact .inl rfl
  ·cases h;exact .inr rfl
 ·exact zsu _ _ h
theorem zmh {word:List UInt8} {next:List UInt8→Rs (EX × List UInt8)} (hn:Pn next):∀ (f:Nat) (acc:List EX) (s:List UInt8) (c:Int),z9m word next f acc s = .pan c→c=190∨c=193
 | 0,acc,s,c,h=>by cases h
 | f+1,acc,s,c,h=>by
  unfold z9m at h
  split at h
  ·split at h
   ·rename_i e he
    cases h
    exact hn _ _ he
   ·exact zmh hn f _ _ _ h
  ·cases h
theorem zgn {k:Int} {word:List UInt8} {next:List UInt8→Rs (EX × List UInt8)} (hn:Pn next):Pn (row k word next):=fun s c h=>by
 rw [zfe] at h
 split at h
 ·rename_i e he
  cases h
  exact hn _ _ he
 ·split at h
  ·rename_i e he
   cases h
   exact zmh hn _ _ _ _ he
  ·cases h
theorem zr7:∀ (m d:Nat),d+m=16→Pn (z3d (m+1) d):=by
 intro m
 induction m with
 | zero=>exact fun d hd=>zgn (k:=1) (word:=kOr) (zgn (k:=0) (word:=z8c) (zm8 (S:=z3d 0) fun h=>by omega))
 | succ m ih=>exact fun d hd=>zgn (k:=1) (word:=kOr) (zgn (k:=0) (word:=z8c) (zm8 (S:=z3d (m+1)) fun h=>ih (d+1) (by omega)))
def Ok1 (d:Nat) (x:EX):Prop:=fm x=true∧dp x+(if x.zb=0∨x.zb=1 then 1 else 0)+d≤16
def OkA (d:Nat) (x:EX):Prop:=fm x=true∧dp x+(if x.zb=1 then 1 else 0)+d≤16
def OkS (d:Nat) (x:EX):Prop:=fm x=true∧dp x+d≤16
theorem zrk {s t r:List UInt8} (h:vl s = .ok (t,r)):z2x t=true:=by
 unfold vl at h
 split at h
 ·split at h
  ·split at h
   ·rename_i h1 h2 h3
    cases h
    generalize hq:(bk s).take (2+qsc ((bk s).drop 1))=q at h3 ⊢
    have hh:q.head? = some 34:=by
     rw [←hq]
     cases hb:bk s with
     | nil=>rw [hb] at h1;cases h1
     | cons c r =>
      rw [hb] at h1
      simp only [yc,Option.some.injEq] at h1
      rw [h1,show 2+qsc ((34::r).drop 1)=(1+qsc ((34::r).drop 1))+1 by omega,List.take_succ_cons]
      rfl
    rcases zk3 q with ⟨x,hx,hc⟩|⟨c,hx,hc⟩
    ·have hk:=zk4 hh hx
     rw [hx] at h3 ⊢
     simp only at h3 ⊢
     unfold z2x
     rw [decide_eq_true h3.2,hk]
     rfl
    ·rw [hx] at h3
     simp only at h3
     omega
   ·cases h
  ·cases h
 ·cases h
theorem zy8 {k:Int} {l:List EX} (hk:k=0∨k=1) (h:2≤l.length) (ha:∀ x∈l,fm x=true):fm ⟨k,[],[],l⟩=true:=by
 rw [zas,zd1]
 have h1:fm0 k [] [] l.length=true:=by
  unfold fm0
  rw [if_pos hk]
  simp [h]
 have h2:l.all fm=true:=List.all_eq_true.2 ha
 simp [h1,h2]
theorem zw3 {no:Bool} {d:Nat} {s r:List UInt8} {x:EX} (hd:d≤16) (h:leaf no s = .ok (x,r)):Ok1 d x:=by
 unfold leaf at h
 split at h
 ·rename_i hn
  simp only [ya] at hn
  split at h
  ·cases h
   refine ⟨?_,?_⟩
   ·rw [zas];simp [fm0,hn.2,show z2x []=true from rfl]
   ·simp only [ze5];simp;omega
  ·split at h
   ·cases h
   ·rename_i k hk
    split at h
    ·cases h
    ·rename_i v hv
     cases h
     obtain ⟨hk9,_⟩:=z95 hk
     have h9:zco.length=9:=rfl
     have ht:=zrk hv
     refine ⟨?_,?_⟩
     ·rw [zas]
      have e0:¬((4+(k:Int))=0∨(4+(k:Int))=1):=by omega
      have e2:¬(4+(k:Int))=2:=by omega
      have e3:¬(4+(k:Int))=3:=by omega
      have e4:(2<(4+(k:Int))∧(4+(k:Int))<13):=by omega
      simp [fm0,e0,e2,e3,e4,hn.2,ht]
     ·have e2:2<(4+(k:Int)):=by omega
      have e0:¬((4+(k:Int))=0∨(4+(k:Int))=1):=by omega
      simp only [ze5,e2,e0,if_true,if_false]
      omega
 ·cases h
theorem zwa {S:Nat→List UInt8→Rs (EX × List UInt8)} {d:Nat} (hd:d≤16) (hS:∀ s x r,S (d+1) s = .ok (x,r)→OkS (d+1) x) {s r:List UInt8} {x:EX} (h:z9s S d s = .ok (x,r)):Ok1 d x:=by
 unfold z9s at h
 split at h
 ·split at h
  ·split at h
   ·cases h
   ·rename_i y hy
    obtain ⟨h1,h2⟩:=hS _ _ _ hy
    split at h
    ·cases h
     split
     ·refine ⟨?_,?_⟩
      ·rw [zas];simp [fm0,fmL,h1]
      ·rw [ze5]
       simp only [dpL]
       simp [bra]
       omega
     ·refine ⟨h1,?_⟩
      split<;>omega
    ·cases h
  ·cases h
 ·exact zw3 hd h
theorem zqm {word:List UInt8} {next:List UInt8→Rs (EX × List UInt8)} {P:EX→Prop} (hn:∀ s x r,next s = .ok (x,r)→P x):∀ (f:Nat) (acc:List EX) (s:List UInt8) (l:List EX) (r:List UInt8),(∀ x∈acc,P x)→z9m word next f acc s = .ok (l,r)→∀ x∈l,P x
 | 0,acc,s,l,r,ha,h=>by cases h;exact ha
 | f+1,acc,s,l,r,ha,h=>by
  unfold z9m at h
  split at h
  ·split at h
   ·cases h
   ·rename_i x hx
    refine zqm hn f _ _ _ _ (fun y hy => ?_) h
    rcases List.mem_append.1 hy with hy|hy
    ·exact ha y hy
    ·rw [yh] at hy;rw [hy];exact hn _ _ _ hx
  ·cases h;exact ha
theorem zp1 {k:Int} {n:Nat}:∀ {l:List EX},(∀ x∈l,dp x+(if bra k x=true then 1 else 0)≤n)→dpL k l≤n
 | [],_=>by simp [dpL]
 | x::l,h=>by
  have h1:=h x List.mem_cons_self
  have h2:=zp1 (l:=l) fun y hy=>h y (List.mem_cons_of_mem _ hy)
  simp only [dpL]
  omega
theorem zus {k:Int} {word:List UInt8} {next:List UInt8→Rs (EX × List UInt8)} {P Q:EX→Prop} (hn:∀ s x r,next s = .ok (x,r)→P x) (h1:∀ x,P x→Q x) (h2:∀ l:List EX,2≤l.length→(∀ x∈l,P x)→Q ⟨k,[],[],l⟩) {s r:List UInt8} {x:EX} (h:row k word next s = .ok (x,r)):Q x:=by
 rw [zfe] at h
 split at h
 ·cases h
 ·rename_i y hy
  split at h
  ·cases h
  ·rename_i l hl
   cases h
   have ha:=zqm hn _ _ _ _ _ (fun z hz=>by rw [yh] at hz;rw [hz];exact hn _ _ _ hy) hl
   obtain ⟨t,ht⟩:=z6h _ _ _ _ _ hl
   cases t with
   | nil =>
    simp only [yb] at ht
    rw [ht]
    exact h1 _ (hn _ _ _ hy)
   | cons z t =>
    rw [ht] at ha ⊢
    exact h2 _ (by simp) ha
theorem zti:∀ (m d:Nat),d+m=16→∀ s x r,z3d (m+1) d s = .ok (x,r)→OkS d x:=by
 have lvl:∀ m d,d+m=16→(∀ s x r,z3d m (d+1) s = .ok (x,r)→OkS (d+1) x)→∀ s x r,z3d (m+1) d s = .ok (x,r)→OkS d x:=by
  intro m d hdm hS s x r h
  have h':row 1 kOr (row 0 z8c (z9s (z3d m) d)) s = .ok (x,r):=h
  have hA:∀ s x r,row 0 z8c (z9s (z3d m) d) s = .ok (x,r)→OkA d x:=fun s x r h=>by
   refine zus (P:=Ok1 d) (fun s x r h=>zwa (by omega) hS h) (fun x hx=>⟨hx.1,?_⟩) (fun l hl ha=>⟨zy8 (.inl rfl) hl fun y hy=>(ha y hy).1,?_⟩) h
   ·have:=hx.2
    split
    ·rename_i h1
     rw [if_pos (.inr h1)] at this
     exact this
    ·split at this<;>omega
   ·rw [ze5]
    have:dpL 0 l≤16 - d:=zp1 fun y hy=>by
     have:=(ha y hy).2
     have hb:(bra 0 y=true)↔(y.zb=0∨y.zb=1):=by simp [bra];omega
     by_cases h01:y.zb=0∨y.zb=1
     ·rw [if_pos h01] at this
      rw [if_pos (hb.2 h01)]
      omega
     ·rw [if_neg h01] at this
      rw [if_neg fun h=>h01 (hb.1 h)]
      omega
    simp
    omega
  refine zus hA (fun x hx=>⟨hx.1,?_⟩) (fun l hl ha=>⟨zy8 (.inr rfl) hl fun y hy=>(ha y hy).1,?_⟩) h'
  ·have:=hx.2
   split at this<;>omega
  ·rw [ze5]
   have:dpL 1 l≤16 - d:=zp1 fun y hy=>by
    have:=(ha y hy).2
    have hb:(bra 1 y=true)↔(y.zb=1):=by simp [bra]
    by_cases h1:y.zb=1
    ·rw [if_pos h1] at this
     rw [if_pos (hb.2 h1)]
     omega
    ·rw [if_neg h1] at this
     rw [if_neg fun h=>h1 (hb.1 h)]
     omega
   simp
   omega
 intro m
 induction m with
 | zero=>exact fun d hd=>lvl 0 d hd fun s x r h=>by cases h
 | succ m ih=>exact fun d hd=>lvl (m+1) d hd (ih (d+1) (by omega))
theorem pP_ok {s:List UInt8} {x:EX} (h:pP s=(x,0)):zbc x=0:=by
 unfold pP at h
 split at h
 ·cases h
 ·split at h
  ·rename_i e he
   cases h
   have:=zr7 16 0 rfl _ _ he
   omega
  ·rename_i y hy
   split at h
   ·cases h
    obtain ⟨h1,h2⟩:=zti 16 0 rfl _ _ _ hy
    unfold zbc
    rw [h1]
    simp
    omega
   ·cases h
def Sz (next:List UInt8→Rs (EX × List UInt8)):Prop := ∀ s x r,next s = .ok (x,r)→x.sz+200*r.length≤200*s.length
theorem zf3 {t:List UInt8} (h:z2x t=true):t.length≤128:=by
 unfold z2x at h
 simp only [ya,decide_eq_true_eq] at h
 exact h.1
theorem zw4 {no:Bool}:Sz (leaf no):=fun s x r h=>by
 have hb:=z5o s
 have hw:=zc0 s
 unfold leaf at h
 split at h
 ·split at h
  ·rename_i hk
   cases h
   have:=zkr hk
   have hkl:kPr.length=2:=rfl
   simp only [yf] at this
   simp only [q01.sz,ezs,yg]
   omega
  ·split at h
   ·cases h
   ·split at h
    ·cases h
    ·rename_i v hv
     cases h
     have h1:=zzc hv
     have h2:=z5o ((bk s).drop (wd s).length)
     have h3:=zf3 (zrk hv)
     simp only [yf] at h1 h2
     simp only [q01.sz,ezs]
     omega
 ·cases h
theorem zwb {S:Nat→List UInt8→Rs (EX × List UInt8)} {d:Nat} (hS:Sz (S (d+1))):Sz (z9s S d):=fun s x r h=>by
 have h1:=zc8 z6v s
 have h2:=zc8 [40] (tk z6v s).2
 unfold z9s at h
 split at h
 ·rename_i ho
  have h3:=zkr ho
  split at h
  ·split at h
   ·cases h
   ·rename_i y hy
    have h4:=hS _ _ _ hy
    split at h
    ·have h5:=zc8 [41] y.2
     cases h
     simp only [ye,yg] at h3
     split
     ·simp only [q01.sz,ezs,yg];omega
     ·omega
    ·cases h
  ·cases h
 ·have:=zw4 _ _ _ h
  omega
theorem zqn {word:List UInt8} {next:List UInt8→Rs (EX × List UInt8)} (hw:1≤word.length) (hn:Sz next):∀ (f:Nat) (acc:List EX) (s:List UInt8) (l:List EX) (r:List UInt8),z9m word next f acc s = .ok (l,r)→ezs l+200*r.length+200*(l.length - acc.length)≤ezs acc+200*s.length
 | 0,acc,s,l,r,h=>by cases h;omega
 | f+1,acc,s,l,r,h=>by
  unfold z9m at h
  split at h
  ·rename_i ht
   have h1:=zkr ht
   split at h
   ·cases h
   ·rename_i x hx
    have h2:=hn _ _ _ hx
    have h3:=zqn hw hn f _ _ _ _ h
    have h4:ezs (acc++[x.1])=ezs acc+x.1.sz:=by
     clear h h3
     induction acc with
     | nil=>simp [ezs]
     | cons y ys ih=>simp [ezs,ih];omega
    obtain ⟨t,ht2⟩:=z6h _ _ _ _ _ h
    rw [ht2] at h3 ⊢
    simp only [yd,ye,yg] at h3 ⊢
    omega
  ·cases h
   have:=zc8 word s
   omega
theorem zut {k:Int} {word:List UInt8} {next:List UInt8→Rs (EX × List UInt8)} (hw:1≤word.length) (hn:Sz next):Sz (row k word next):=fun s x r h=>by
 rw [zfe] at h
 split at h
 ·cases h
 ·rename_i y hy
  have h1:=hn _ _ _ hy
  split at h
  ·cases h
  ·rename_i l hl
   cases h
   have h2:=zqn hw hn _ _ _ _ _ hl
   obtain ⟨t,ht⟩:=z6h _ _ _ _ _ hl
   cases t with
   | nil =>
    simp only [yb] at ht
    rw [ht] at h2 ⊢
    simp only [ze8,ezs,ye,yg] at h2 ⊢
    omega
   | cons z t =>
    rw [ht] at h2 ⊢
    simp only [ye,yd,yg,ezs] at h2
    show q01.sz ⟨k,[],[],y.1::z::t⟩+_≤_
    simp only [q01.sz,yg]
    have e:ezs ([y.1]++z::t)=ezs (y.1::z::t):=rfl
    rw [e] at h2
    omega
theorem zmo:∀ m d,Sz (z3d m d)
 | 0,_=>fun _ _ _ h=>by cases h
 | m+1,d=>zut (k:=1) (word:=kOr) (by decide) (zut (k:=0) (word:=z8c) (by decide) (zwb (S:=z3d m) (zmo m (d+1))))
theorem zwf (s:List UInt8):(pP s).1.sz≤204801:=by
 have hz:zE.sz≤204801:=by decide
 unfold pP
 split
 ·exact hz
 ·split
  ·exact hz
  ·rename_i x hx
   have:=zmo 17 0 _ _ _ hx
   split
   ·simp only
    omega
   ·exact hz
end Go.Sen
end
section
namespace Go.Sen
open _root_.List renaming cons_append → ya, length_append → yb, length_cons → yc, length_nil → yd
open Go.Lk Go.Pe Go.RowKit
theorem zrd {s t r:List UInt8} (ht:text s=some (t,r)):t.length+4*r.length+4≤4*s.length:=by
 unfold text at ht
 split at ht
 ·split at ht
  ·have tl:∀ (f:Nat) (s acc t r:List UInt8),txt f s acc=some (t,r)→t.length+4*r.length≤acc.length+4*s.length:=by
    intro f
    induction f with
    | zero=>intro s acc t r h;simp [txt] at h
    | succ f ih =>
     intro s acc t r h
     cases s with
     | nil=>simp [txt] at h
     | cons c s =>
      rw [txt] at h
      split at h
      ·cases h
      ·split at h
       ·split at h
        ·cases h;simp;omega
        ·cases h
       ·split at h
        ·split at h
         ·cases h
         ·rename_i t1 r1 he
          have h1:=zca he
          have h2:=ih _ _ _ _ h
          simp only [yb,yc] at *
          omega
        ·have h2:=ih _ _ _ _ h
         simp only [yb,yc,yd] at *
         omega
   have:=tl _ _ _ _ _ ht
   simp only [yc,yd] at *
   omega
  ·cases ht
 ·cases ht
theorem zsp {vf:List UInt8→Rd} {o:Bool} {e:UInt8} (hv:∀ s x r,vf s = .ok (x,r)→x.sz+8*r.length≤8*s.length):∀ (f:Nat) (s:List UInt8) (l:List J) (ks:List (List UInt8)) (x:J) (r:List UInt8),items vf o e f s l ks = .ok (x,r)→x.sz+8*r.length≤8*s.length+szs l+kys ks:=by
 intro f
 induction f with
 | zero=>intro s l ks x r h;simp [items] at h
 | succ f ih =>
  intro s l ks x r h
  rw [items] at h
  have app1:∀ (l:List J) (x:J),szs (l++[x])=szs l+x.sz+1:=fun l x=>by
   induction l with
   | nil=>simp [szs]
   | cons y l ih=>simp only [ya,szs,ih];omega
  have app2:∀ (l:List (List UInt8)) (x:List UInt8),kys (l++[x])=kys l+x.length+1:=fun l x=>by
   induction l with
   | nil=>simp [kys]
   | cons y l ih=>rw [ya,z3y,z3y,ih];omega
  split at h
  ·cases h
  ·rename_i s1 ks1 hk
   have h1:kys ks1+8*s1.length≤8*s.length+kys ks:=by
    split at hk
    ·unfold zo8 at hk
     split at hk
     ·cases hk
     ·rename_i k r1 ht
      have g1:=zaj ht
      have g2:=z2d r1
      have g5:=zrd ht
      split at hk
      ·cases hk
      ·split at hk
       ·cases hk
       ·rename_i r2 ht2
        have g3:=take_len ht2
        simp only [yc,yd] at g3
        simp only [Rs.ok.injEq,Prod.mk.injEq] at hk
        obtain ⟨rfl,rfl⟩:=hk
        rw [app2]
        omega
    ·simp only [Rs.ok.injEq,Prod.mk.injEq] at hk
     obtain ⟨rfl,rfl⟩:=hk
     omega
   split at h
   ·cases h
   ·rename_i x2 s2 hx
    have h2:=hv _ _ _ hx
    split at h
    ·rename_i r2 ht
     have h3:=take_len ht
     simp only [yc,yd] at h3
     simp only [Rs.ok.injEq,Prod.mk.injEq] at h
     obtain ⟨rfl,rfl⟩:=h
     rw [q03.z1n]
     simp only [app1,yd]
     omega
    ·split at h
     ·cases h
     ·rename_i r2 ht
      have h3:=take_len ht
      simp only [yc,yd] at h3
      have h4:=ih _ _ _ _ _ h
      rw [app1] at h4
      omega
theorem zq0 {vf:List UInt8→Rd} {o:Bool} {w:Nat} (hv:∀ s x r,vf s = .ok (x,r)→x.sz+8*r.length≤8*s.length) {s r:List UInt8} {x:J} (h:nest vf o w s = .ok (x,r)):x.sz+8*r.length≤8*s.length:=by
 unfold nest at h
 split at h
 ·cases h
 ·split at h
  ·rename_i r2 ht
   have:=take_len ht
   simp only [Rs.ok.injEq,Prod.mk.injEq] at h
   obtain ⟨rfl,rfl⟩:=h
   simp only [yc,yd] at this
   simp only [q03.sz,szs,z5h,yd]
   omega
  ·exact zsp hv _ _ _ _ _ _ h
theorem zx6 {s r:List UInt8} {x:J} (h:word s = .ok (x,r)):x.sz+8*r.length≤8*s.length:=by
 have hl:=zms h
 unfold word at h
 split at h
 ·simp only [Rs.ok.injEq,Prod.mk.injEq] at h
  obtain ⟨rfl,rfl⟩:=h
  simp only [q03.sz,szs,z5h,yd]
  omega
 ·split at h
  ·simp only [Rs.ok.injEq,Prod.mk.injEq] at h
   obtain ⟨rfl,rfl⟩:=h
   simp only [q03.sz,szs,z5h,yd]
   omega
  ·split at h
   ·simp only [Rs.ok.injEq,Prod.mk.injEq] at h
    obtain ⟨rfl,rfl⟩:=h
    simp only [q03.sz,szs,z5h,yd]
    omega
   ·split at h
    ·cases h
    ·simp only [Rs.ok.injEq,Prod.mk.injEq] at h
     obtain ⟨rfl,rfl⟩:=h
     have h1:=z2d (s.drop (num s))
     have h2:=zia s
     rw [List.length_drop] at h1
     simp only [q03.sz,szs,z5h,yd,List.length_take]
     omega
theorem zzb:∀ (f:Nat) (s:List UInt8) (w:Nat) (x:J) (r:List UInt8),val f s w = .ok (x,r)→x.sz+8*r.length≤8*s.length:=by
 intro f
 induction f with
 | zero=>intro s w x r h;simp [val] at h
 | succ f ih =>
  intro s w x r h
  rw [val] at h
  split at h
  ·rename_i t r2 ht
   have h1:=zaj ht
   have h2:=z2d r2
   have h3:=zrd ht
   simp only [Rs.ok.injEq,Prod.mk.injEq] at h
   obtain ⟨rfl,rfl⟩:=h
   simp only [q03.sz,szs,z5h]
   omega
  ·split at h
   ·cases h
   ·split at h
    ·rename_i r2 ht
     have h1:=take_len ht
     have h2:=zq0 (fun s x r=>ih s (w+1) x r) h
     omega
    ·split at h
     ·rename_i r2 ht
      have h1:=take_len ht
      have h2:=zq0 (fun s x r=>ih s (w+1) x r) h
      omega
     ·exact zx6 h
theorem zm9 (s:List UInt8):(parse s).1.sz≤131072:=by
 unfold parse
 have h0:(⟨0,[],[],[]⟩:J).sz≤131072:=by decide
 split
 ·exact h0
 ·rename_i hl
  split
  ·exact h0
  ·rename_i y r hv
   have h1:=zzb _ _ _ _ _ hv
   have h2:=z2d s
   split
   ·simp only;omega
   ·exact h0
end Go.Sen
end
section
namespace Go.Sen
open _root_.Option renaming bind_eq_bind → ya, bind_some → yb
open _root_.Bool renaming false_eq_true → yc, not_true → yd
open _root_.List renaming drop_eq_getElem_cons → ye, drop_eq_nil_of_le → yf, drop_zero → yg, getElem?_eq_getElem → yh, getElem?_eq_none → yi, length_cons → yj, length_nil → yk, nil_append → yl
open _root_.Nat renaming zero_le → ym
open Go.Lk Go.Pe
def zul:J:=⟨0,[],[],[]⟩
def z2v (v:J) (k:List UInt8):J × Bool:=if v.zb=6 then (match v.z05.findIdx? (fun x=>decide (k=x)) with
 | some j=>(match v.zc[j]? with|some x=>(x,true)|none=>(zul,false))
 | none=>(zul,false)) else (zul,false)
theorem z61 {v:J} {k:List UInt8} (h:v.z05.length<1000000000):M.q0j v k=some (z2v v k):=by
 unfold M.q0j z2v
 rw [zlt (by omega)]
 simp only [ya,yb]
 by_cases h6:v.zb=6
 ·simp only [h6,decide_true,Bool.true_and,if_true]
  cases v.z05.findIdx? (fun x=>decide (k=x)) with
  | none=>rfl
  | some j =>
   simp only
   have h0:(0:Int)≤(j:Int):=by omega
   by_cases hj:j<v.zc.length
   ·have:(j:Int)<(v.zc.length:Int):=by omega
    simp [this,z2u,yh hj]
   ·have:¬(j:Int)<(v.zc.length:Int):=by omega
    simp [this,yi (Nat.le_of_not_lt hj),zul]
 ·simp [h6,zul]
theorem zpx {v:J} {k:List UInt8} (hl:v.z05.length<1000000000):∀ (n i:Nat),v.z05.length - i=n→i≤v.z05.length →
  M.z2n v k (i:Int)=some (match (v.z05.drop i).findIdx? (fun x=>decide (k=x)) with|some j=>(match v.zc[i+j]? with|some x => .done (x,true)|none => .go ())|none => .go ()):=by
 intro n
 induction n with
 | zero =>
  intro i hn hi
  rw [M.z2n.eq_1]
  have:¬((i:Int)<(v.z05.length:Int)):=by omega
  rw [if_neg (by simp [this]),yf (by omega)]
  rfl
 | succ n ih =>
  intro i hn hi
  have hlt:i<v.z05.length:=by omega
  rw [M.z2n.eq_1]
  have h1:((i:Int)<(v.z05.length:Int)):=by omega
  rw [ye hlt,List.findIdx?_cons]
  by_cases h2:i<v.zc.length
  ·have h2':((i:Int)<(v.zc.length:Int)):=by omega
   simp only [h1,h2',decide_true,Bool.and_true,if_true,z2u,yh hlt,yh h2,ya,yb]
   rw [w1 (by omega),ih (i+1) (by omega) (by omega)]
   by_cases he:k=v.z05[i]
   ·simp [←he,yh h2]
   ·have he':¬v.z05[i]=k:=fun e=>he e.symm
    simp only [he,he',decide_false,yc,if_false]
    cases (v.z05.drop (i+1)).findIdx? (fun x=>decide (k=x)) with
    | none=>rfl
    | some j =>
     simp only [Option.map_some]
     rw [show i+1+j=i+(j+1) by omega]
  ·have h2':¬((i:Int)<(v.zc.length:Int)):=by omega
   have nn:∀ j,v.zc[i+j]? = none:=fun j=>yi (by omega)
   rw [if_neg (by simp [h2'])]
   split
   ·rename_i j hj
    rw [nn]
   ·rfl
theorem z3q {v:J} {k:List UInt8} (h:v.z05.length<1000000000):M.q36 v k=some (z2v v k):=by
 unfold M.q36 z2v
 by_cases h6:v.zb=6
 ·have hk:=zpx (v:=v) (k:=k) h _ 0 rfl (ym _)
  have hk:M.z2n v k 0=_:=hk
  simp only [h6,decide_true,yd,yc,if_false,if_true,hk,yg,Nat.zero_add,ya,yb]
  cases v.z05.findIdx? (fun x=>decide (k=x)) with
  | none=>rfl
  | some j =>
   simp only
   cases v.zc[j]? with
   | none=>rfl
   | some x=>rfl
 ·simp [h6,zul]
theorem z9c (v:J) (k:List UInt8):(z2v v k).1.sz≤v.sz:=by
 have h1:=q03.z1n v
 have h0:zul.sz=1:=by decide
 unfold z2v
 split
 ·split
  ·split
   ·rename_i x hx
    have:=zb5 (List.mem_of_getElem? hx)
    simp only
    omega
   ·simp only;omega
  ·simp only;omega
 ·simp only;omega
def texts:List J→Option (List (List UInt8))
 | []=>some []
 | x::l=>if x.zb=4 then (texts l).map (x.z03 :: ·) else none
theorem zhy {v:J} (hl:v.zc.length<1000000000):∀ (n i:Nat) (acc:List (List UInt8)),v.zc.length - i=n→i≤v.zc.length→acc.length+n<1000000000 →
  M.z2j v acc (i:Int)=some (match texts (v.zc.drop i) with|some l => .go (acc++l)|none => .done ([],false)):=by
 intro n
 induction n with
 | zero =>
  intro i acc hn hi ha
  rw [M.z2j.eq_1]
  have:¬((i:Int)<(v.zc.length:Int)):=by omega
  rw [if_neg (by simp [this]),yf (by omega)]
  simp [texts]
 | succ n ih =>
  intro i acc hn hi ha
  have hlt:i<v.zc.length:=by omega
  rw [M.z2j.eq_1]
  have h1:((i:Int)<(v.zc.length:Int)):=by omega
  simp only [h1,decide_true,if_true,z2u,yh hlt,ya,yb]
  rw [ye hlt,texts]
  by_cases h4:(v.zc[i]).zb=4
  ·simp only [h4,decide_true,yd,yc,if_false,if_true]
   rw [z0w (by simp only [yj,yk];omega),w1 (by omega)]
   simp only [yb]
   rw [ih (i+1) _ (by omega) (by omega) (by simp;omega)]
   cases texts (v.zc.drop (i+1)) with
   | none=>rfl
   | some l=>simp
  ·simp [h4]
theorem zk7 {v:J} (hl:v.zc.length<1000000000):∀ (n i:Nat) (acc:List (List UInt8)),v.zc.length - i=n→i≤v.zc.length→acc.length+n<1000000000 →
  M.z2z v acc (i:Int)=some (match texts (v.zc.drop i) with|some l => .go (acc++l)|none => .done ([],false)):=by
 intro n
 induction n with
 | zero =>
  intro i acc hn hi ha
  rw [M.z2z.eq_1]
  have:¬((i:Int)<(v.zc.length:Int)):=by omega
  rw [if_neg (by simp [this]),yf (by omega)]
  simp [texts]
 | succ n ih =>
  intro i acc hn hi ha
  have hlt:i<v.zc.length:=by omega
  rw [M.z2z.eq_1]
  have h1:((i:Int)<(v.zc.length:Int)):=by omega
  simp only [h1,decide_true,if_true,z2u,yh hlt,ya,yb]
  rw [ye hlt,texts]
  by_cases h4:(v.zc[i]).zb=4
  ·simp only [h4,decide_true,yd,yc,if_false,if_true]
   rw [z0w (by simp only [yj,yk];omega),w1 (by omega)]
   simp only [yb]
   rw [ih (i+1) _ (by omega) (by omega) (by simp;omega)]
   cases texts (v.zc.drop (i+1)) with
   | none=>rfl
   | some l=>simp
  ·simp [h4]
def z84 (v:J):List (List UInt8) × Bool:=if v.zb=5 then (match texts v.zc with|some l=>(l,true)|none=>([],false)) else ([],false)
theorem zfz {v:J} (hl:v.zc.length<100000000):M.q0m v=some (z84 v):=by
 unfold M.q0m z84
 by_cases h5:v.zb=5
 ·have hk:=zhy (v:=v) (by omega) _ 0 [] rfl (ym _) (by simp;omega)
  have hk:M.z2j v [] 0=_:=hk
  simp only [h5,decide_true,yd,yc,if_false,if_true,hk,yg,yl,ya,yb]
  cases texts v.zc<;>rfl
 ·simp [h5]
theorem zik {v:J} (hl:v.zc.length<100000000):M.q3e v=some (z84 v):=by
 unfold M.q3e z84
 by_cases h5:v.zb=5
 ·have hk:=zk7 (v:=v) (by omega) _ 0 [] rfl (ym _) (by simp;omega)
  have hk:M.z2z v [] 0=_:=hk
  simp only [h5,decide_true,yd,yc,if_false,if_true,hk,yg,yl,ya,yb]
  cases texts v.zc<;>rfl
 ·simp [h5]
end Go.Sen
end
