import Derived.Test.YtmmgdladipbedaaGreatDoorSpE
import Derived.Test.YtmmgdladipbedaaGreatDoorSnK
set_option linter.all false
namespace Go.Sen
open Go.Lk Go.Pe
/-! A quoted text is read to its end. -/
def esc:List UInt8→Bool
 | []=>true
 | [c] => !decide (c=34) && !decide (c=92)
 | c::d::r=>if c=92 then esc r else !decide (c=34)&&esc (d::r)
theorem zjv:∀ (l r:List UInt8),esc l=true→qsc (l++r)=l.length+qsc r
 | [],r,_=>by simp
 | [c],r,h=>by
  simp only [esc,Bool.and_eq_true,Bool.not_eq_true',decide_eq_false_iff_not] at h
  rw [List.singleton_append,zc2,if_neg h.1,if_neg h.2]
  rfl
 | c::d::l,r,h=>by
  simp only [esc] at h
  rw [List.cons_append,zc2]
  by_cases h92:c=92
  ·rw [if_pos h92] at h
   have:=zjv l r h
   rw [if_neg (by rw [h92];decide),if_pos h92]
   simp only [List.cons_append,List.drop_succ_cons,List.drop_zero,this,List.length_cons]
   omega
  ·rw [if_neg h92] at h
   simp only [Bool.and_eq_true,Bool.not_eq_true',decide_eq_false_iff_not] at h
   have:=zjv (d::l) r h.2
   rw [if_neg h.1,if_neg h92,this]
   simp only [List.length_cons]
   omega
theorem zyx:∀ c:UInt8,esc (qb c)=true:=z6g (by decide +kernel)
theorem zqz (r:List UInt8):∀ s:List UInt8,qsc (qbs s++34::r)=(qbs s).length
 | []=>by simp [qbs,zc2]
 | c::s=>by
  rw [z9t,List.append_assoc,zjv _ _ (zyx c),zqz r s]
  simp
theorem vl_qt {v r:List UInt8} (hv:z2n v=true):vl (qt v++r) = .ok (v,r):=by
 unfold z2n at hv
 simp only [Bool.and_eq_true,decide_eq_true_eq] at hv
 have hq:=zbg v
 have e1:qt v++r=34::(qbs v++34::r):=by simp [qt]
 have hb:bk (qt v++r)=34::(qbs v++34::r):=by rw [e1];simp [bk]
 have hp:parse (qt v)=(⟨4,v,[],[]⟩,0):=by
  have h:=zis (v:=⟨4,v,[],[]⟩) (by simp [z3t,frm,hv.2,z6q]) (by simp only [prJ];simp;omega)
  simpa [prJ] using h
 have ht:(34::(qbs v++34::r)).take (2+(qbs v).length)=qt v:=by
  have:2+(qbs v).length=(qt v).length:=by simp [qt];omega
  rw [←e1,this,List.take_left]
 have hd:(34::(qbs v++34::r)).drop (2+(qbs v).length)=r:=by
  have:2+(qbs v).length=(qt v).length:=by simp [qt];omega
  rw [←e1,this,List.drop_left]
 unfold vl
 rw [hb]
 simp only [List.head?_cons,if_true,List.drop_succ_cons,List.drop_zero,zqz]
 rw [ht,hp,hd,if_pos (by simp only [List.length_cons,List.length_append];omega),if_pos ⟨rfl,hv.1⟩]
/-- What stands behind is no part of a word. -/
def zs2 (r:List UInt8):Prop := ∀ c,r.head? = some c→wch c=false
theorem z4l {c:UInt8} {r:List UInt8} (h:wch c=false):zs2 (c::r):=fun d hd=>by cases hd;exact h
theorem zz00c {c:UInt8} (h:wch c=true):¬c=32:=fun e=>by rw [e] at h;revert h;decide
theorem za3 {c:UInt8} {r:List UInt8} (h:¬c=32):bk (c::r)=c::r:=by simp [bk,h]
theorem zfn (r:List UInt8):bk (32::r)=bk r:=by simp [bk]
theorem zro {w r:List UInt8} (hw:w.all wch=true) (hr:zs2 r):(w++r).takeWhile wch=w:=by
 rw [zdz wch w r hw]
 cases r with
 | nil=>simp
 | cons c r=>simp [List.takeWhile_cons,hr c rfl]
theorem z4r {w r:List UInt8} (hw:w.all wch=true) (hne:¬w=[]):bk (w++r)=w++r:=by
 cases w with
 | nil=>exact (hne rfl).elim
 | cons c w =>
  simp only [List.all_cons,Bool.and_eq_true] at hw
  exact za3 (zz00c hw.1)
theorem zax {w r:List UInt8} (hw:w.all wch=true) (hne:¬w=[]) (hr:zs2 r):wd (w++r)=w:=by
 unfold wd
 rw [z4r hw hne,zro hw hr]
theorem zoh {r:List UInt8} (h:wd r=[]):zs2 r:=by
 intro c hc
 cases r with
 | nil=>cases hc
 | cons d r =>
  simp only [List.head?_cons,Option.some.injEq] at hc
  subst hc
  by_cases hd:d=32
  ·rw [hd];decide
  ·unfold wd at h
   rw [za3 hd,List.takeWhile_cons] at h
   cases hw:wch d with
   | true=>rw [hw] at h;cases h
   | false=>rfl
theorem zl2 {w r:List UInt8} (hw:w.all wch=true) (hne:¬w=[]) (hr:zs2 r):tk w (w++r)=(true,r):=by
 unfold tk
 rw [zgy hw hne,zax hw hne hr,z4r hw hne]
 simp
theorem z83 {p s:List UInt8} (hp:p.all wch=true) (hne:¬p=[]) (h:¬wd s=p):tk p s=(false,bk s):=by
 unfold tk
 rw [zgy hp hne]
 simp [h]
theorem zgz {c:UInt8} {r:List UInt8} (h:wch c=false) (h2:¬c=32):tk [c] (c::r)=(true,r):=by
 unfold tk
 rw [zmx h,za3 h2]
 simp
theorem zrq {c:UInt8} {s:List UInt8} (h:wch c=false) (h2:¬(bk s).head? = some c):tk [c] s=(false,bk s):=by
 unfold tk
 rw [zmx h]
 simp [h2]
theorem zg0 {n:List UInt8} (h:isName n=true):n.all wch=true∧¬n=[]∧zz6 n=false∧n.length≤24:=by
 cases n with
 | nil=>cases h
 | cons c r =>
  simp only [isName,Bool.and_eq_true,decide_eq_true_eq,Bool.not_eq_true'] at h
  exact ⟨h.1.2,by simp,h.2,h.1.1.1⟩
theorem wrd_w {k:Int} (h1:3<k) (h2:k<13):(wrd k).all wch=true∧¬wrd k=[]∧¬wrd k=kPr∧zjq (wrd k)=some (k - 4).toNat:=by
 have:k=4∨k=5∨k=6∨k=7∨k=8∨k=9∨k=10∨k=11∨k=12:=by omega
 rcases this with rfl|rfl|rfl|rfl|rfl|rfl|rfl|rfl|rfl<;>decide
theorem zm4 {e:EX} (h:e.zf=[]):e=⟨e.za,e.zg,e.z04,[]⟩:=by
 cases e
 simp only at h
 rw [h]
theorem ztu {S:Nat→List UInt8→Rs (EX × List UInt8)} {d:Nat} {e:EX} {r:List UInt8} (hf:fm e=true) (hk:2<e.za) (hr:zs2 r):z5b S d (tx e++r) = .ok (e,r):=by
 obtain ⟨h1,h2,h3,h4⟩:=z8n hf hk
 obtain ⟨w1,w2,w3,_⟩:=zg0 h2
 have hkk:=z6x hf
 have hn:∀ q:List UInt8,tk zbb (e.zg++32::q)=(false,e.zg++32::q):=fun q=>by
  have:¬wd (e.zg++32::q)=zbb:=by
   rw [zax w1 w2 (z4l (by decide))]
   intro h
   rw [h] at w3
   revert w3;decide
  rw [z83 (by decide) (by decide) this,z4r w1 w2]
 have hb:∀ q:List UInt8,tk [40] (e.zg++32::q)=(false,e.zg++32::q):=fun q=>by
  rw [zrq (by decide),z4r w1 w2]
  rw [z4r w1 w2]
  cases hh:e.zg with
  | nil=>exact (w2 hh).elim
  | cons c t =>
   rw [hh] at w1
   simp only [List.all_cons,Bool.and_eq_true] at w1
   simp only [List.cons_append,List.head?_cons,Option.some.injEq]
   intro h
   rw [h] at w1
   exact absurd w1.1 (by decide)
 rw [zav]
 unfold z5b leaf
 by_cases h5:e.za=3
 ·rw [if_pos h5]
  have e1:e.zg++[32,112,114]++r=e.zg++32::(kPr++r):=by simp [kPr]
  rw [e1,hn]
  simp only
  rw [hb]
  simp only [Bool.false_eq_true,if_false,zax w1 w2 (z4l (c:=32) (r:=kPr++r) (by decide)),z4r w1 w2,List.drop_left]
  have e2:tk kPr (32::(kPr++r))=(true,r):=by rw [←z9y,zfn,z4r (by decide) (by decide),zl2 (by decide) (by decide) hr]
  rw [e2]
  simp only [Bool.not_false,Bool.true_and,h2,if_true]
  congr 1
  rw [zm4 h1,h5,h4 h5]
 ·have h6:3<e.za:=by omega
  obtain ⟨v1,v2,v3,v4⟩:=wrd_w h6 hkk.2
  rw [if_neg h5,if_pos h6]
  have e1:e.zg++[32]++wrd e.za++[32]++qt e.z04++r=e.zg++32::(wrd e.za++32::(qt e.z04++r)):=by simp
  rw [e1,hn]
  simp only
  rw [hb]
  simp only [Bool.false_eq_true,if_false,zax w1 w2 (z4l (c:=32) (r:=wrd e.za++32::(qt e.z04++r)) (by decide)),z4r w1 w2,List.drop_left]
  have ew:wd (32::(wrd e.za++32::(qt e.z04++r)))=wrd e.za:=by rw [←zjf,zfn,zjf,zax v1 v2 (z4l (by decide))]
  have eb:bk (32::(wrd e.za++32::(qt e.z04++r)))=wrd e.za++32::(qt e.z04++r):=by rw [zfn,z4r v1 v2]
  have e2:tk kPr (32::(wrd e.za++32::(qt e.z04++r)))=(false,wrd e.za++32::(qt e.z04++r)):=by
   rw [z83 (by decide) (by decide) (by rw [ew];exact v3),eb]
  rw [e2,ew,eb,List.drop_left,v4]
  have e3:vl (32::(qt e.z04++r)) = .ok (e.z04,r):=by
   have:vl (32::(qt e.z04++r))=vl (qt e.z04++r):=by unfold vl;rw [zfn]
   rw [this,vl_qt h3]
  simp only [Bool.not_false,Bool.true_and,h2,if_true,Bool.false_eq_true,if_false,e3]
  congr 1
  have:(4+(((e.za - 4).toNat:Nat):Int))=e.za:=by omega
  rw [this,zm4 h1]
/-- What a part answers at a text, whatever stands behind. -/
def Rd1 (next:List UInt8→Rs (EX × List UInt8)) (t:List UInt8) (x:EX) (r:List UInt8):Prop := ∃ r2,next (t++r) = .ok (x,r2)∧bk r2=bk r
def PS (S:Nat→List UInt8→Rs (EX × List UInt8)) (d:Nat):Prop:=d<16→∀ e,fm e=true→dp e+(d+1)≤16→∀ r,wd r=[]→Rd1 (S (d+1)) (tx e) e r
theorem wd_41 (r:List UInt8):wd (41::r)=[]:=by unfold wd;rw [za3 (by decide)];simp [show wch 41=false from by decide]
theorem zv9 {S:Nat→List UInt8→Rs (EX × List UInt8)} {d:Nat} (hS:PS S d) {x:EX} {r:List UInt8} (hf:fm x=true) (hd:dp x+1+d≤16):z5b S d (40::(tx x++[41])++r) = .ok (x,r):=by
 obtain ⟨r2,h1,h2⟩:=hS (by omega) x hf (by omega) (41::r) (wd_41 r)
 have e1:40::(tx x++[41])++r=40::(tx x++41::r):=by simp
 have hn:tk zbb (40::(tx x++41::r))=(false,40::(tx x++41::r)):=by
  have:wd (40::(tx x++41::r))=[]:=by unfold wd;rw [za3 (by decide)];simp [show wch 40=false from by decide]
  rw [z83 (by decide) (by decide) (by rw [this];decide),za3 (by decide)]
 unfold z5b
 rw [e1,hn]
 simp only
 rw [zgz (by decide) (by decide)]
 have ht:tk [41] r2=(true,r):=by rw [←z9y,h2,z9y,zgz (by decide) (by decide)]
 simp only [if_true,show d<16 by omega,h1,ht,Bool.false_eq_true,if_false]
theorem zx1 {S:Nat→List UInt8→Rs (EX × List UInt8)} {d:Nat} (hS:PS S d) {e:EX} {r:List UInt8} (hf:fm e=true) (hk:e.za=2) (hd:dp e+d≤16):z5b S d (tx e++r) = .ok (e,r):=by
 obtain ⟨x,hx,h1,h2,h3⟩:=zex hf hk
 have hdp:dp e=dp x+1:=by
  rw [za7,if_neg (by omega),hx,hk]
  simp [dpL,bra]
 obtain ⟨r2,h4,h5⟩:=hS (by omega) x h3 (by omega) (41::r) (wd_41 r)
 have ht:tx e++r=zbb++32::40::(tx x++41::r):=by
  rw [zav,if_neg (by omega),if_neg (by omega),if_pos hk,hx,hk]
  simp [txL,bra,zbb]
 unfold z5b
 rw [ht,zl2 (by decide) (by decide) (z4l (by decide))]
 simp only
 have hb:tk [40] (32::40::(tx x++41::r))=(true,tx x++41::r):=by rw [←z9y,zfn,z9y,zgz (by decide) (by decide)]
 rw [hb]
 have ht2:tk [41] r2=(true,r):=by rw [←z9y,h5,z9y,zgz (by decide) (by decide)]
 simp only [if_true,show d<16 by omega,h4,ht2]
 congr 1
 have:e=⟨e.za,e.zg,e.z04,e.zf⟩:=(z9e e).symm
 rw [this,hk,h1,h2,hx]
theorem zjt {k:Int} {x:EX}:∀ {l:List EX},x∈l→dp x+(if bra k x=true then 1 else 0)≤dpL k l
 | y::l,h=>by
  simp only [dpL]
  rcases List.mem_cons.1 h with rfl|h
  ·omega
  ·have:=zjt (k:=k) h;omega
/-- An element of a row, in its brackets where it needs them. -/
theorem zqs {S:Nat→List UInt8→Rs (EX × List UInt8)} {d:Nat} (hS:PS S d) {x:EX} {r:List UInt8} (hf:fm x=true) (hd:dp x+(if bra 0 x=true then 1 else 0)+d≤16) (hr:zs2 r):z5b S d (txb 0 x++r) = .ok (x,r):=by
 unfold txb
 cases hb:bra 0 x with
 | true =>
  rw [hb] at hd
  simp only [if_true] at hd ⊢
  exact zv9 hS hf hd
 | false =>
  rw [hb] at hd
  simp only [Bool.false_eq_true,if_false] at hd ⊢
  have hk:=z6x hf
  unfold bra at hb
  simp only [Bool.or_eq_false_iff,Bool.and_eq_false_iff,decide_eq_false_iff_not] at hb
  by_cases h2:x.za=2
  ·exact zx1 hS hf h2 (by omega)
  ·refine ztu hf ?_ hr
   have:=hb.2
   have h0:¬x.za=0:=this.resolve_right (by simp)
   have h1:¬x.za=1:=hb.1.2
   omega
theorem zqr {S:Nat→List UInt8→Rs (EX × List UInt8)} {d:Nat} (s:List UInt8):z5b S d (bk s)=z5b S d s:=by unfold z5b;rw [z9y]
theorem zzy {kind:Int} {word:List UInt8} {next:List UInt8→Rs (EX × List UInt8)} (h:∀ s,next (bk s)=next s) (s:List UInt8):row kind word next (bk s)=row kind word next s:=by unfold row;rw [h]
/-- The rest of a row. -/
theorem zmo {word:List UInt8} {next:List UInt8→Rs (EX × List UInt8)} {T:EX→List UInt8} {Q:List UInt8→Prop} {r:List UInt8} (hw:word.all wch=true) (hne:¬word=[]) (hnb:∀ s,next (bk s)=next s) (hQ:∀ q,Q (32::(word++32::q))) (hQr:Q r) (hr:¬wd r=word) :
  ∀ (xs:List EX) (f:Nat) (acc:List EX) (s:List UInt8),(∀ x∈xs,∀ r',Q r'→Rd1 next (T x) x r')→bk s=bk (Lib.joinTail (32::(word++[32])) (xs.map T)++r)→xs.length<f→zc3 word next f acc s = .ok (acc++xs,bk r)
 | [],f,acc,s,_,hs,hf=>by
  match f,hf with
  | f+1,_ =>
   unfold zc3
   have e:bk s=bk r:=by simpa [Lib.joinTail] using hs
   have:tk word s=(false,bk r):=by rw [←z9y,e,z9y,z83 hw hne hr]
   rw [this]
   simp
 | x::xs,f,acc,s,hn,hs,hf=>by
  match f,hf with
  | f+1,hf =>
   have e:bk s=word++32::(T x++(Lib.joinTail (32::(word++[32])) (xs.map T)++r)):=by
    rw [hs]
    simp only [Lib.joinTail,List.map_cons,List.flatten_cons,List.cons_append,List.append_assoc,List.nil_append]
    rw [zfn,z4r hw hne]
   have ht:tk word s=(true,32::(T x++(Lib.joinTail (32::(word++[32])) (xs.map T)++r))):=by
    rw [←z9y,e,zl2 hw hne (z4l (by decide))]
   have hq:Q (Lib.joinTail (32::(word++[32])) (xs.map T)++r):=by
    cases xs with
    | nil=>simpa [Lib.joinTail] using hQr
    | cons y ys =>
     simp only [Lib.joinTail,List.map_cons,List.flatten_cons,List.cons_append,List.append_assoc,List.nil_append]
     exact hQ _
   obtain ⟨r2,h1,h2⟩:=hn x List.mem_cons_self _ hq
   have h3:next (32::(T x++(Lib.joinTail (32::(word++[32])) (xs.map T)++r))) = .ok (x,r2):=by
    rw [←hnb,zfn,hnb,h1]
   unfold zc3
   rw [ht]
   simp only [if_true,h3]
   rw [zmo hw hne hnb hQ hQr hr xs f (acc++[x]) r2 (fun y hy=>hn y (List.mem_cons_of_mem _ hy)) h2 (by simpa using hf)]
   simp
theorem z8s (sep:List UInt8) (h:0<sep.length):∀ l:List (List UInt8),l.length≤(Lib.joinTail sep l).length
 | []=>by simp
 | x::l=>by
  have:=z8s sep h l
  simp only [Lib.joinTail,List.map_cons,List.flatten_cons,List.length_append,List.length_cons] at this ⊢
  omega
theorem zrb {kind:Int} {word:List UInt8} {next:List UInt8→Rs (EX × List UInt8)} {T:EX→List UInt8} {Q:List UInt8→Prop} {r:List UInt8} (hw:word.all wch=true) (hne:¬word=[]) (hnb:∀ s,next (bk s)=next s) (hQ:∀ q,Q (32::(word++32::q))) (hQr:Q r) (hr:¬wd r=word)
  (hbl:∀ q:List UInt8,(bk q).length≤q.length) (x:EX) (xs:List EX) (hn:∀ y∈x::xs,∀ r',Q r'→Rd1 next (T y) y r') (hT:∀ y∈x::xs,True):∃ r2,row kind word next (Lib.join ((x::xs).map T) (32::(word++[32]))++r) = .ok (zi2 kind (x::xs),r2)∧bk r2=bk r:=by
 have hq:Q (Lib.joinTail (32::(word++[32])) (xs.map T)++r):=by
  cases xs with
  | nil=>simpa [Lib.joinTail] using hQr
  | cons y ys =>
   simp only [Lib.joinTail,List.map_cons,List.flatten_cons,List.cons_append,List.append_assoc,List.nil_append]
   exact hQ _
 obtain ⟨r2,h1,h2⟩:=hn x List.mem_cons_self _ hq
 have e:Lib.join ((x::xs).map T) (32::(word++[32]))++r=T x++(Lib.joinTail (32::(word++[32])) (xs.map T)++r):=by
  rw [List.map_cons,Lib.join_cons,List.append_assoc]
 rw [e,zdo,h1]
 simp only
 have hlen:xs.length<r2.length+1:=by
  have h3:=z8s (32::(word++[32])) (by simp) (xs.map T)
  cases xs with
  | nil=>simp
  | cons y ys =>
   have h4:bk r2=word++32::(T y++(Lib.joinTail (32::(word++[32])) (ys.map T)++r)):=by
    rw [h2]
    simp only [Lib.joinTail,List.map_cons,List.flatten_cons,List.cons_append,List.append_assoc,List.nil_append]
    rw [zfn,z4r hw hne]
   have h5:=hbl r2
   rw [h4] at h5
   have h6:=z8s (32::(word++[32])) (by simp) (ys.map T)
   simp only [List.length_append,List.length_cons,List.length_map] at h5 h6 ⊢
   omega
 rw [zmo hw hne hnb hQ hQr hr xs _ [x] r2 (fun y hy=>hn y (List.mem_cons_of_mem _ hy)) h2 hlen]
 exact ⟨bk r,rfl,zhc r⟩
theorem zi3 {e:EX} (h:2≤e.zf.length) (h1:e.zg=[]) (h2:e.z04=[]):zi2 e.za e.zf=e:=by
 match hl:e.zf,h with
 | x::y::l,_ =>
  show (⟨e.za,[],[],x::y::l⟩:EX)=e
  have:=z9e e
  rw [←this,h1,h2,hl]
theorem zoz {S:Nat→List UInt8→Rs (EX × List UInt8)} {d:Nat} (hS:PS S d) {x:EX} {r:List UInt8} (hf:fm x=true) (hd:dp x+(if bra 1 x=true then 1 else 0)+d≤16) (hr:zs2 r) (hr2:¬wd r=zae):Rd1 (row 0 zae (z5b S d)) (txb 1 x) x r:=by
 have hk:=z6x hf
 have hsing:∀ t,z5b S d (t++r) = .ok (x,r)→Rd1 (row 0 zae (z5b S d)) t x r:=fun t h=>by
  unfold Rd1
  rw [zdo,h]
  simp only
  have h2:zc3 zae (z5b S d) (r.length+1) [x] r = .ok ([x],bk r):=by
   unfold zc3
   rw [z83 (by decide) (by decide) hr2]
   simp
  rw [h2]
  exact ⟨bk r,rfl,zhc r⟩
 by_cases h0:x.za=0
 ·obtain ⟨h1,h2,h3,h4⟩:=zpm hf (.inl h0)
  have hb:bra 1 x=false:=by simp [bra,h0]
  rw [hb] at hd
  simp only [Bool.false_eq_true,if_false] at hd
  unfold txb
  rw [hb]
  simp only [Bool.false_eq_true,if_false]
  have ht:tx x=Lib.join (x.zf.map (txb 0)) (32::(zae++[32])):=by
   rw [zav,if_neg (by omega),if_neg (by omega),if_neg (by omega),z90,h0]
   rfl
  have hdp:dp x=dpL 0 x.zf:=by rw [za7,if_neg (by omega),h0]
  match hl:x.zf,h1 with
  | y::ys,_ =>
   have hrow:=zrb (kind:=0) (word:=zae) (next:=z5b S d) (T:=txb 0) (Q:=zs2) (r:=r) (by decide) (by decide) zqr (fun q=>z4l (by decide)) hr hr2 z4q y ys (fun z hz r' hr'=>by
    rw [←hl] at hz
    have hm:=zjt (k:=0) hz
    exact ⟨r',zqs hS (h4 z hz) (by omega) hr',rfl⟩) (fun _ _=>trivial)
   rw [←hl] at hrow
   have hje:=zi3 h1 h2 h3
   rw [h0] at hje
   rw [hje] at hrow
   unfold Rd1
   rw [ht]
   exact hrow
 ·by_cases h1:x.za=1
  ·have hb:bra 1 x=true:=by simp [bra,h1]
   rw [hb] at hd
   simp only [if_true] at hd
   unfold txb
   rw [hb]
   simp only [if_true]
   exact hsing _ (zv9 hS hf hd)
  ·have hb:bra 1 x=false:=by simp [bra,h0,h1]
   have hb0:bra 0 x=false:=by simp [bra,h0,h1]
   rw [hb] at hd
   simp only [Bool.false_eq_true,if_false] at hd
   have e:txb 1 x=txb 0 x:=by unfold txb;rw [hb,hb0]
   rw [e]
   exact hsing _ (zqs hS hf (by rw [hb0];simpa using hd) hr)
theorem zqe {m d:Nat} (hS:PS (z29 m) d) {e:EX} (hf:fm e=true) (hd:dp e+d≤16) {r:List UInt8} (hr:wd r=[]):Rd1 (z29 (m+1) d) (tx e) e r:=by
 have hsep:=zoh hr
 have hna:¬wd r=zae:=by rw [hr];decide
 have hno:¬wd r=kOr:=by rw [hr];decide
 unfold Rd1
 show ∃ r2,row 1 kOr (row 0 zae (z5b (z29 m) d)) (tx e++r) = .ok (e,r2)∧bk r2=bk r
 by_cases h1:e.za=1
 ·obtain ⟨g1,g2,g3,g4⟩:=zpm hf (.inr h1)
  have ht:tx e=Lib.join (e.zf.map (txb 1)) (32::(kOr++[32])):=by
   rw [zav,if_neg (by omega),if_neg (by omega),if_neg (by omega),z90,h1]
   rfl
  have hdp:dp e=dpL 1 e.zf:=by rw [za7,if_neg (by omega),h1]
  match hl:e.zf,g1 with
  | y::ys,_ =>
   have hrow:=zrb (kind:=1) (word:=kOr) (next:=row 0 zae (z5b (z29 m) d)) (T:=txb 1) (Q:=fun q=>zs2 q∧¬wd q=zae) (r:=r) (by decide) (by decide) (zzy zqr) (fun q=>⟨z4l (by decide),by
     rw [←zjf,zfn,zjf,zax (by decide) (by decide) (z4l (by decide))]
     decide⟩) ⟨hsep,hna⟩ hno z4q y ys (fun z hz r' hr'=>by
    rw [←hl] at hz
    have hm:=zjt (k:=1) hz
    exact zoz hS (g4 z hz) (by omega) hr'.1 hr'.2) (fun _ _=>trivial)
   rw [←hl] at hrow
   have hje:=zi3 g1 g2 g3
   rw [h1] at hje
   rw [hje] at hrow
   rw [ht]
   exact hrow
 ·have hb:bra 1 e=false:=by
   have:=h1
   unfold bra
   simp [this]
  obtain ⟨r2,h2,h3⟩:=zoz hS hf (r:=r) (by rw [hb];simpa using hd) hsep hna
  have ht:txb 1 e=tx e:=by unfold txb;rw [hb];simp
  rw [ht] at h2
  rw [zdo,h2]
  simp only
  have hw:wd r2=[]:=by rw [←zjf,h3,zjf,hr]
  have h4:zc3 kOr (row 0 zae (z5b (z29 m) d)) (r2.length+1) [e] r2 = .ok ([e],bk r2):=by
   unfold zc3
   rw [z83 (by decide) (by decide) (by rw [hw];decide)]
   simp
  rw [h4]
  exact ⟨bk r2,rfl,by rw [zhc,h3]⟩
theorem zud:∀ (m d:Nat),d+m=16→∀ e,fm e=true→dp e+d≤16→∀ r,wd r=[]→Rd1 (z29 (m+1) d) (tx e) e r:=by
 intro m
 induction m with
 | zero=>exact fun d hdm e hf hd r hr=>zqe (fun h=>by omega) hf hd hr
 | succ m ih=>exact fun d hdm e hf hd r hr=>zqe (fun h e hf hd r hr=>ih (d+1) (by omega) e hf (by omega) r hr) hf hd hr
/-- An expression's text is read as it was. -/
theorem zx5 {e:EX} (h:z6n e=0) (hl:(tx e).length≤1024):pP (tx e)=(e,0):=by
 obtain ⟨h1,h2⟩:=za4 h
 obtain ⟨r2,h3,h4⟩:=zud 16 0 rfl e h1 (by omega) [] rfl
 rw [List.append_nil] at h3
 unfold pP
 rw [if_neg (by omega),h3]
 simp only
 have h5:bk r2=[]:=h4
 rw [if_pos h5]
/-! What is read may be. -/
theorem zki {q:List UInt8} {x:J} (hh:q.head? = some 34) (hx:parse q=(x,0)):Lib.validD x.z0d=true:=by
 unfold parse at hx
 have hb:z0u q=q:=by
  cases q with
  | nil=>cases hh
  | cons c r =>
   simp only [List.head?_cons,Option.some.injEq] at hh
   subst hh
   exact z13 (by decide)
 split at hx
 ·cases hx
 ·rw [hb] at hx
  unfold val at hx
  cases ht:text q with
  | some p =>
   obtain ⟨t,r⟩:=p
   rw [ht] at hx
   simp only at hx
   split at hx
   ·cases hx;exact zat ht
   ·cases hx
  | none =>
   rw [ht] at hx
   simp only [hh,if_true] at hx
   cases hx
/-- What a reader gives up with. -/
def Pn (next:List UInt8→Rs (EX × List UInt8)):Prop := ∀ s c,next s = .pan c→c=190∨c=193
theorem zz00a {s:List UInt8} {c:Int} (h:vl s = .pan c):c=190:=by
 unfold vl at h
 split at h
 ·split at h
  ·split at h
   ·cases h
   ·cases h;rfl
  ·cases h;rfl
 ·cases h;rfl
theorem ztk {no:Bool}:Pn (leaf no):=fun s c h=>by
 unfold leaf at h
 split at h
 ·split at h
  ·cases h
  ·split at h
   ·cases h;exact .inl rfl
   ·split at h
    ·rename_i e he
     cases h
     exact .inl (zz00a he)
    ·cases h
 ·cases h;exact .inl rfl
theorem zmg {S:Nat→List UInt8→Rs (EX × List UInt8)} {d:Nat} (hS:d<16→Pn (S (d+1))):Pn (z5b S d):=fun s c h=>by
 unfold z5b at h
 split at h
 ·split at h
  ·rename_i hd
   split at h
   ·rename_i e he
    cases h
    exact hS hd _ _ he
   ·split at h
    ·cases h
    ·cases h;exact .inl rfl
  ·cases h;exact .inr rfl
 ·exact ztk _ _ h
theorem zmn {word:List UInt8} {next:List UInt8→Rs (EX × List UInt8)} (hn:Pn next):∀ (f:Nat) (acc:List EX) (s:List UInt8) (c:Int),zc3 word next f acc s = .pan c→c=190∨c=193
 | 0,acc,s,c,h=>by cases h
 | f+1,acc,s,c,h=>by
  unfold zc3 at h
  split at h
  ·split at h
   ·rename_i e he
    cases h
    exact hn _ _ he
   ·exact zmn hn f _ _ _ h
  ·cases h
theorem zgq {k:Int} {word:List UInt8} {next:List UInt8→Rs (EX × List UInt8)} (hn:Pn next):Pn (row k word next):=fun s c h=>by
 rw [zdo] at h
 split at h
 ·rename_i e he
  cases h
  exact hn _ _ he
 ·split at h
  ·rename_i e he
   cases h
   exact zmn hn _ _ _ _ he
  ·cases h
theorem zj7:∀ (m d:Nat),d+m=16→Pn (z29 (m+1) d):=by
 intro m
 induction m with
 | zero=>exact fun d hd=>zgq (k:=1) (word:=kOr) (zgq (k:=0) (word:=zae) (zmg (S:=z29 0) fun h=>by omega))
 | succ m ih=>exact fun d hd=>zgq (k:=1) (word:=kOr) (zgq (k:=0) (word:=zae) (zmg (S:=z29 (m+1)) fun h=>ih (d+1) (by omega)))
def Ok1 (d:Nat) (x:EX):Prop:=fm x=true∧dp x+(if x.za=0∨x.za=1 then 1 else 0)+d≤16
def OkA (d:Nat) (x:EX):Prop:=fm x=true∧dp x+(if x.za=1 then 1 else 0)+d≤16
def OkS (d:Nat) (x:EX):Prop:=fm x=true∧dp x+d≤16
theorem zrx {s t r:List UInt8} (h:vl s = .ok (t,r)):z2n t=true:=by
 unfold vl at h
 split at h
 ·split at h
  ·split at h
   ·rename_i h1 h2 h3
    cases h
    generalize hq:(bk s).take (2+qsc ((bk s).drop 1))=q at h3 ⊢
    have hh:q.head? = some 34:=by
     rw [←hq]
     cases hb:bk s with
     | nil=>rw [hb] at h1;cases h1
     | cons c r =>
      rw [hb] at h1
      simp only [List.head?_cons,Option.some.injEq] at h1
      rw [h1,show 2+qsc ((34::r).drop 1)=(1+qsc ((34::r).drop 1))+1 by omega,List.take_succ_cons]
      rfl
    rcases zkh q with ⟨x,hx,hc⟩|⟨c,hx,hc⟩
    ·have hk:=zki hh hx
     rw [hx] at h3 ⊢
     simp only at h3 ⊢
     unfold z2n
     rw [decide_eq_true h3.2,hk]
     rfl
    ·rw [hx] at h3
     simp only at h3
     omega
   ·cases h
  ·cases h
 ·cases h
theorem zz2 {k:Int} {l:List EX} (hk:k=0∨k=1) (h:2≤l.length) (ha:∀ x∈l,fm x=true):fm ⟨k,[],[],l⟩=true:=by
 rw [zaa,zcp]
 have h1:fm0 k [] [] l.length=true:=by
  unfold fm0
  rw [if_pos hk]
  simp [h]
 have h2:l.all fm=true:=List.all_eq_true.2 ha
 simp [h1,h2]
theorem zwn {no:Bool} {d:Nat} {s r:List UInt8} {x:EX} (hd:d≤16) (h:leaf no s = .ok (x,r)):Ok1 d x:=by
 unfold leaf at h
 split at h
 ·rename_i hn
  simp only [Bool.and_eq_true] at hn
  split at h
  ·cases h
   refine ⟨?_,?_⟩
   ·rw [zaa];simp [fm0,hn.2,show z2n []=true from rfl]
   ·simp only [za7];simp;omega
  ·split at h
   ·cases h
   ·rename_i k hk
    split at h
    ·cases h
    ·rename_i v hv
     cases h
     obtain ⟨hk9,_⟩:=zcn hk
     have h9:cmpW.length=9:=rfl
     have ht:=zrx hv
     refine ⟨?_,?_⟩
     ·rw [zaa]
      have e0:¬((4+(k:Int))=0∨(4+(k:Int))=1):=by omega
      have e2:¬(4+(k:Int))=2:=by omega
      have e3:¬(4+(k:Int))=3:=by omega
      have e4:(2<(4+(k:Int))∧(4+(k:Int))<13):=by omega
      simp [fm0,e0,e2,e3,e4,hn.2,ht]
     ·have e2:2<(4+(k:Int)):=by omega
      have e0:¬((4+(k:Int))=0∨(4+(k:Int))=1):=by omega
      simp only [za7,e2,e0,if_true,if_false]
      omega
 ·cases h
theorem zwy {S:Nat→List UInt8→Rs (EX × List UInt8)} {d:Nat} (hd:d≤16) (hS:∀ s x r,S (d+1) s = .ok (x,r)→OkS (d+1) x) {s r:List UInt8} {x:EX} (h:z5b S d s = .ok (x,r)):Ok1 d x:=by
 unfold z5b at h
 split at h
 ·split at h
  ·split at h
   ·cases h
   ·rename_i y hy
    obtain ⟨h1,h2⟩:=hS _ _ _ hy
    split at h
    ·cases h
     split
     ·refine ⟨?_,?_⟩
      ·rw [zaa];simp [fm0,fmL,h1]
      ·rw [za7]
       simp only [dpL]
       simp [bra]
       omega
     ·refine ⟨h1,?_⟩
      split<;>omega
    ·cases h
  ·cases h
 ·exact zwn hd h
theorem zr8 {word:List UInt8} {next:List UInt8→Rs (EX × List UInt8)} {P:EX→Prop} (hn:∀ s x r,next s = .ok (x,r)→P x):∀ (f:Nat) (acc:List EX) (s:List UInt8) (l:List EX) (r:List UInt8),(∀ x∈acc,P x)→zc3 word next f acc s = .ok (l,r)→∀ x∈l,P x
 | 0,acc,s,l,r,ha,h=>by cases h;exact ha
 | f+1,acc,s,l,r,ha,h=>by
  unfold zc3 at h
  split at h
  ·split at h
   ·cases h
   ·rename_i x hx
    refine zr8 hn f _ _ _ _ (fun y hy => ?_) h
    rcases List.mem_append.1 hy with hy|hy
    ·exact ha y hy
    ·rw [List.mem_singleton] at hy;rw [hy];exact hn _ _ _ hx
  ·cases h;exact ha
theorem zpg {k:Int} {n:Nat}:∀ {l:List EX},(∀ x∈l,dp x+(if bra k x=true then 1 else 0)≤n)→dpL k l≤n
 | [],_=>by simp [dpL]
 | x::l,h=>by
  have h1:=h x List.mem_cons_self
  have h2:=zpg (l:=l) fun y hy=>h y (List.mem_cons_of_mem _ hy)
  simp only [dpL]
  omega
theorem zvh {k:Int} {word:List UInt8} {next:List UInt8→Rs (EX × List UInt8)} {P Q:EX→Prop} (hn:∀ s x r,next s = .ok (x,r)→P x) (h1:∀ x,P x→Q x) (h2:∀ l:List EX,2≤l.length→(∀ x∈l,P x)→Q ⟨k,[],[],l⟩) {s r:List UInt8} {x:EX} (h:row k word next s = .ok (x,r)):Q x:=by
 rw [zdo] at h
 split at h
 ·cases h
 ·rename_i y hy
  split at h
  ·cases h
  ·rename_i l hl
   cases h
   have ha:=zr8 hn _ _ _ _ _ (fun z hz=>by rw [List.mem_singleton] at hz;rw [hz];exact hn _ _ _ hy) hl
   obtain ⟨t,ht⟩:=z5u _ _ _ _ _ hl
   cases t with
   | nil =>
    simp only [List.append_nil] at ht
    rw [ht]
    exact h1 _ (hn _ _ _ hy)
   | cons z t =>
    rw [ht] at ha ⊢
    exact h2 _ (by simp) ha
theorem zuc:∀ (m d:Nat),d+m=16→∀ s x r,z29 (m+1) d s = .ok (x,r)→OkS d x:=by
 have lvl:∀ m d,d+m=16→(∀ s x r,z29 m (d+1) s = .ok (x,r)→OkS (d+1) x)→∀ s x r,z29 (m+1) d s = .ok (x,r)→OkS d x:=by
  intro m d hdm hS s x r h
  have h':row 1 kOr (row 0 zae (z5b (z29 m) d)) s = .ok (x,r):=h
  have hA:∀ s x r,row 0 zae (z5b (z29 m) d) s = .ok (x,r)→OkA d x:=fun s x r h=>by
   refine zvh (P:=Ok1 d) (fun s x r h=>zwy (by omega) hS h) (fun x hx=>⟨hx.1,?_⟩) (fun l hl ha=>⟨zz2 (.inl rfl) hl fun y hy=>(ha y hy).1,?_⟩) h
   ·have:=hx.2
    split
    ·rename_i h1
     rw [if_pos (.inr h1)] at this
     exact this
    ·split at this<;>omega
   ·rw [za7]
    have:dpL 0 l≤16 - d:=zpg fun y hy=>by
     have:=(ha y hy).2
     have hb:(bra 0 y=true)↔(y.za=0∨y.za=1):=by simp [bra];omega
     by_cases h01:y.za=0∨y.za=1
     ·rw [if_pos h01] at this
      rw [if_pos (hb.2 h01)]
      omega
     ·rw [if_neg h01] at this
      rw [if_neg fun h=>h01 (hb.1 h)]
      omega
    simp
    omega
  refine zvh hA (fun x hx=>⟨hx.1,?_⟩) (fun l hl ha=>⟨zz2 (.inr rfl) hl fun y hy=>(ha y hy).1,?_⟩) h'
  ·have:=hx.2
   split at this<;>omega
  ·rw [za7]
   have:dpL 1 l≤16 - d:=zpg fun y hy=>by
    have:=(ha y hy).2
    have hb:(bra 1 y=true)↔(y.za=1):=by simp [bra]
    by_cases h1:y.za=1
    ·rw [if_pos h1] at this
     rw [if_pos (hb.2 h1)]
     omega
    ·rw [if_neg h1] at this
     rw [if_neg fun h=>h1 (hb.1 h)]
     omega
   simp
   omega
 intro m
 induction m with
 | zero=>exact fun d hd=>lvl 0 d hd fun s x r h=>by cases h
 | succ m ih=>exact fun d hd=>lvl (m+1) d hd (ih (d+1) (by omega))
theorem zzq {s:List UInt8} {x:EX} (h:pP s=(x,0)):z6n x=0:=by
 unfold pP at h
 split at h
 ·cases h
 ·split at h
  ·rename_i e he
   cases h
   have:=zj7 16 0 rfl _ _ he
   omega
  ·rename_i y hy
   split at h
   ·cases h
    obtain ⟨h1,h2⟩:=zuc 16 0 rfl _ _ _ hy
    unfold z6n
    rw [h1]
    simp
    omega
   ·cases h
theorem zty (s:List UInt8):(∃ x,pP s=(x,0)∧z6n x=0)∨∃ c,pP s=(zE,c)∧(c=190∨c=191∨c=193):=by
 cases hp:pP s with
 | mk x c =>
  by_cases hc:c=0
  ·subst hc
   exact .inl ⟨x,rfl,zzq hp⟩
  ·right
   unfold pP at hp
   split at hp
   ·cases hp;exact ⟨_,rfl,.inr (.inl rfl)⟩
   ·split at hp
    ·rename_i e he
     cases hp
     have:=zj7 16 0 rfl _ _ he
     exact ⟨_,rfl,by omega⟩
    ·split at hp
     ·cases hp;exact (hc rfl).elim
     ·cases hp;exact ⟨_,rfl,.inl rfl⟩
/-! How big it is. -/
def Sz (next:List UInt8→Rs (EX × List UInt8)):Prop := ∀ s x r,next s = .ok (x,r)→x.sz+200*r.length≤200*s.length
theorem zf2 {t:List UInt8} (h:z2n t=true):t.length≤128:=by
 unfold z2n at h
 simp only [Bool.and_eq_true,decide_eq_true_eq] at h
 exact h.1
theorem zwo {no:Bool}:Sz (leaf no):=fun s x r h=>by
 have hb:=z4q s
 have hw:=zjg s
 unfold leaf at h
 split at h
 ·split at h
  ·rename_i hk
   cases h
   have:=zuj hk
   have hkl:kPr.length=2:=rfl
   simp only [List.length_drop] at this
   simp only [q01.sz,ezs,List.length_nil]
   omega
  ·split at h
   ·cases h
   ·split at h
    ·cases h
    ·rename_i v hv
     cases h
     have h1:=vl_le hv
     have h2:=z4q ((bk s).drop (wd s).length)
     have h3:=zf2 (zrx hv)
     simp only [List.length_drop] at h1 h2
     simp only [q01.sz,ezs]
     omega
 ·cases h
theorem zwz {S:Nat→List UInt8→Rs (EX × List UInt8)} {d:Nat} (hS:Sz (S (d+1))):Sz (z5b S d):=fun s x r h=>by
 have h1:=zbs zbb s
 have h2:=zbs [40] (tk zbb s).2
 unfold z5b at h
 split at h
 ·rename_i ho
  have h3:=zuj ho
  split at h
  ·split at h
   ·cases h
   ·rename_i y hy
    have h4:=hS _ _ _ hy
    split at h
    ·have h5:=zbs [41] y.2
     cases h
     simp only [List.length_cons,List.length_nil] at h3
     split
     ·simp only [q01.sz,ezs,List.length_nil];omega
     ·omega
    ·cases h
  ·cases h
 ·have:=zwo _ _ _ h
  omega
theorem zr9 {word:List UInt8} {next:List UInt8→Rs (EX × List UInt8)} (hw:1≤word.length) (hn:Sz next):∀ (f:Nat) (acc:List EX) (s:List UInt8) (l:List EX) (r:List UInt8),zc3 word next f acc s = .ok (l,r)→ezs l+200*r.length+200*(l.length - acc.length)≤ezs acc+200*s.length
 | 0,acc,s,l,r,h=>by cases h;omega
 | f+1,acc,s,l,r,h=>by
  unfold zc3 at h
  split at h
  ·rename_i ht
   have h1:=zuj ht
   split at h
   ·cases h
   ·rename_i x hx
    have h2:=hn _ _ _ hx
    have h3:=zr9 hw hn f _ _ _ _ h
    have h4:ezs (acc++[x.1])=ezs acc+x.1.sz:=by
     clear h h3
     induction acc with
     | nil=>simp [ezs]
     | cons y ys ih=>simp [ezs,ih];omega
    obtain ⟨t,ht2⟩:=z5u _ _ _ _ _ h
    rw [ht2] at h3 ⊢
    simp only [List.length_append,List.length_cons,List.length_nil] at h3 ⊢
    omega
  ·cases h
   have:=zbs word s
   omega
theorem zvi {k:Int} {word:List UInt8} {next:List UInt8→Rs (EX × List UInt8)} (hw:1≤word.length) (hn:Sz next):Sz (row k word next):=fun s x r h=>by
 rw [zdo] at h
 split at h
 ·cases h
 ·rename_i y hy
  have h1:=hn _ _ _ hy
  split at h
  ·cases h
  ·rename_i l hl
   cases h
   have h2:=zr9 hw hn _ _ _ _ _ hl
   obtain ⟨t,ht⟩:=z5u _ _ _ _ _ hl
   cases t with
   | nil =>
    simp only [List.append_nil] at ht
    rw [ht] at h2 ⊢
    simp only [zi2,ezs,List.length_cons,List.length_nil] at h2 ⊢
    omega
   | cons z t =>
    rw [ht] at h2 ⊢
    simp only [List.length_cons,List.length_append,List.length_nil,ezs] at h2
    show q01.sz ⟨k,[],[],y.1::z::t⟩+_≤_
    simp only [q01.sz,List.length_nil]
    have e:ezs ([y.1]++z::t)=ezs (y.1::z::t):=rfl
    rw [e] at h2
    omega
theorem zmv:∀ m d,Sz (z29 m d)
 | 0,_=>fun _ _ _ h=>by cases h
 | m+1,d=>zvi (k:=1) (word:=kOr) (by decide) (zvi (k:=0) (word:=zae) (by decide) (zwz (S:=z29 m) (zmv m (d+1))))
theorem zx4 (s:List UInt8):(pP s).1.sz≤204801:=by
 have hz:zE.sz≤204801:=by decide
 unfold pP
 split
 ·exact hz
 ·split
  ·exact hz
  ·rename_i x hx
   have:=zmv 17 0 _ _ _ hx
   split
   ·simp only
    omega
   ·exact hz
end Go.Sen
