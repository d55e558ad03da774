import Derived.Test.YtmmgdladipbedaaGreatDoorPaF
import Derived.Test.YtmmgdladipbedaaGreatDoorPaM
import Derived.Test.YtmmgdladipbedaaGreatDoorPeN
set_option linter.all false
section
set_option maxRecDepth 1000000
set_option maxHeartbeats 4000000
namespace Go.Proofs.YtmmgdladipbedaaGreatDoor
open Go.Lk Go.Pe Go.Sen Go.RowKit
theorem GGl {a b:Lb} {w:World} {O:Nat→Prop} (h : @GI.p a (@GG a) w O) (hb:b.n≤w.heap.size) : @GI.p b (@GG b) w O:=⟨h.1,h.2.1,hb⟩
theorem zzh {lb:Lb} {fuel:Nat} {p0:List q00} {p1 a:q04} {w0:World} {O0:Nat→Prop} {φ0:Nat→Nat} {α0:Nat→Value} {hF:∀ x,FI ⟨[.l51 p0,.agg p1.v],[],[]⟩ φ0 α0 x→O0 x} {hB:Bd O0 w0} {hG:GG.p w0 O0} {V:Env} {w1:World} {O1:Nat→Prop} {φ1:Nat→Nat} {α1:Nat→Value}
  (hS:M.q2p p1 p1=some true) (hA:zt8 fuel p0 p1=some a) (h1:Rl (zm5 GG ⟨[.l51 p0,.agg p1.v],[],[]⟩ w0 O0 φ0 α0 hF hB hG) (sl1 p0 p1 p1) V w1 O1 φ1 α1) (hs:∀ x,O0 x→O1 x) {hf:Tryz.prog.funcs[7]? = some Tryz.f7} :
  TW (CL (zf9 ⟨[.l51 p0,.agg p1.v],[],[]⟩ w0 O0 φ0 α0 (.ok [.b true] [] [])) hf) 80 [] [.code mdL] V w1:=by
 obtain ⟨u0,u3,wv,e0,k0,e3,⟨b,q,k3,k3'⟩,e5,o5,hbx,kw⟩:=zuo h1
 have n0:noF (.sl 51 8 (p0.map q00.enc))=true:=z8j zqy p0
 have nw:noF (.sl 48 2 (p1.za.map q02.enc))=true:=z8j zo7 p1.za
 have n3:zll p1.d=true:=by
  show (noF _&&(noF _&&(noF _&&(noF _&&true))))=true
  rw [nw]
  rfl
 have hg : @GI.p ⟨w1.heap.size⟩ (@GG ⟨w1.heap.size⟩) w1 O1:=GGl h1.gl (Nat.le_refl _)
 have hin := @zx0 ⟨w1.heap.size⟩ (z2L w1 O1 φ1 o5 h1.bd) p0 p1 V w1 O1 (ren φ1 5 (φ1 1005)) α1 u0 u3 wv (φ1 1005) rfl rfl rfl rfl (by simp [ren]) hg h1.bd e0 (RD.lb _ _ n0 k0) e3 ⟨b,q,k3,z3m.lb n3 k3'⟩ e5 o5 hbx (RD.lb _ _ nw kw)
 exact @mdTW ⟨w1.heap.size⟩ (z2L w1 O1 φ1 o5 h1.bd) _ hf fuel p0 p1 a u3 wv (fun _ _ h=>h) hA (fun j V3 w3 hr=>zzi hS h1 hs e3 o5 h1.bd hbx hr) V w1 hin
theorem ok1:okC AL 80 (sq1 lw0)=true∧okC AL 80 (sq1 (sq2 lw0))=true:=⟨by kernel_rfl,by kernel_rfl⟩
theorem lawL [Lb] {fuel:Nat} {p0:List q00} {p1 a:q04} (hC:M.q2m p1=some p1) (hS:M.q2p p1 p1=some true) (hA:zt8 fuel p0 p1=some a):Con Tryz.prog GG 7 ⟨[.l51 p0,.agg p1.v],[],[]⟩ (.ok [.b true] [] []):=by
 refine ⟨fun _ _=>rfl,fun w O φ α us hv hm hB hG => ?_⟩
 obtain ⟨hF,h0⟩:=ze0 (G:=GG) hv hm hB hG (Nat.zero_le _)
 have hlu:us.length=2:=hv.len
 have hf:Tryz.prog.funcs[7]? = some Tryz.f7:=rfl
 refine zdr hf (c:=z2x Tryz.f7) rfl 80 rfl (by rw [hlu];rfl) ?_
 rw [zyz]
 have h:=zyw (p0:=p0) (p1:=p1) p1 (by rw [hC];rfl)
 refine TW.seq (z14 (z:=zm5 GG ⟨[.l51 p0,.agg p1.v],[],[]⟩ w O φ α hF hB hG) (C:=CL (zf9 ⟨[.l51 p0,.agg p1.v],[],[]⟩ w O φ α (.ok [.b true] [] [])) hf) (ds:=[]) (G:=GG) TBG (fun _ _ _ h=>h) (fun _ _ h=>h) _ _ _ _ ok1.1 (.inl rfl) h (FSn fun s hs V w hr => ?_) _ _ ⟨O,φ,α,h0,fun _ hx=>hx⟩)
 refine TW.seq (z14 (C:=CL _ hf) (ds:=[]) (G:=GG) TBG (fun _ _ _ h=>h) (fun _ _ h=>h) _ _ _ _ ok1.2 (.inl rfl) hs (FSn fun s hs V w hr => ?_) V w hr)
 subst hs
 obtain ⟨O1,φ1,α1,h1,hs⟩:=hr
 exact zzh hS hA h1 hs
end Go.Proofs.YtmmgdladipbedaaGreatDoor
end
section
namespace Go.Sen
open Go.Lk Go.Pe
end Go.Sen
end
section
namespace Go.Sen
open _root_.List renaming isPrefixOf_iff_prefix → ya
open IntKind renaming bits → yb, signed → yc, wrap → yd
open Go.Lk Go.Pe
theorem w64 {x:Int} (h1 : -9223372036854775808≤x) (h2:x<9223372036854775808):yd .i64 x=x:=by
 have h:yd .i64 x=if x % 18446744073709551616≥9223372036854775808 then x % 18446744073709551616 - 18446744073709551616 else x % 18446744073709551616:=by
  simp [yd,yb,yc]
 rw [h]
 split<;>omega
theorem w32 {x:Int} (h1 : -2147483648≤x) (h2:x<2147483648):yd .i32 x=x:=by
 have h:yd .i32 x=if x % 4294967296≥2147483648 then x % 4294967296 - 4294967296 else x % 4294967296:=by
  simp [yd,yb,yc]
 rw [h]
 split<;>omega
theorem zzl {x:Int} (h1:0≤x) (h2:x<18446744073709551616):yd .u64 x=x:=by
 unfold yd
 simp only [yb,yc]
 simp
 omega
theorem w1 {n:Nat} (h:n<4611686018427387904):yd .i64 ((n:Int)+1)=((n+1:Nat):Int):=by rw [w64]<;>omega
theorem zxc {n m:Nat} (h:n+m<4611686018427387904):yd .i64 ((n:Int)+(m:Int))=((n+m:Nat):Int):=by rw [w64]<;>omega
theorem z2e {α:Type} {k:Nat} {l l2:List α} (h:(l.length+l2.length)*k≤140737488355328):app k l l2=some (l++l2):=by
 unfold app
 rw [if_pos h]
theorem z6u {a b:List UInt8} (h:a.length+b.length≤9223372036854775807):cat a b=some (a++b):=by
 unfold cat
 rw [if_pos h]
theorem z30 {b:Bool} (h:b=true):chk b=some ():=by subst h;rfl
theorem z3d {α:Type} (l:List α) (n:Nat):ix l (n:Int)=l[n]?:=by simp [ix]
theorem zjp {α:Type} (l:List α):ix l 0=l[0]?:=by simp [ix]
theorem zxu {α:Type} (l:List α):ix l 1=l[1]?:=by simp [ix]
theorem zrj {α:Type} {l:List α} {a b:Nat} (h1:a≤b) (h2:b≤l.length):sub l (a:Int) (b:Int)=some ((l.take b).drop a):=by
 unfold sub
 rw [if_pos (by omega)]
 simp
theorem za9 {α:Type} {l:List α} {a:Nat} (h:a≤l.length):sub l (a:Int) (l.length:Int)=some (l.drop a):=by
 rw [zrj h (Nat.le_refl _)]
 simp
theorem zit {α:Type} {l:List α} {a:Nat} (h:a≤l.length):sub l 0 (a:Int)=some (l.take a):=by
 have:=zrj (l:=l) (Nat.zero_le a) h
 simpa using this
theorem zx9 {α:Type} {l:List α} {a:Nat} (h:a<l.length) (h2:l.length<4611686018427387904):sub l (a:Int) (yd .i64 ((a:Int)+1))=some [l[a]]:=by
 rw [w1 (by omega),zrj (by omega) (by omega)]
 congr 1
 rw [List.drop_take]
 simp [List.take_one,h]
theorem z6q (s:List UInt8):(unb s).length=s.length:=by simp [unb]
theorem zp7 (s:List UInt8) (i:Nat):(unb s)[i]? = (s[i]?).map fun b=>(b.toNat:Int):=by simp [unb]
theorem z3y (a b:List UInt8):unb (a++b)=unb a++unb b:=by simp [unb]
theorem zmp (s:List UInt8):byt (unb s)=s:=by simp [unb,byt,Function.comp_def]
theorem z13 {α:Type} {l:List α} {i:Nat} (h:i<l.length):l.drop i=l[i]::l.drop (i+1):=by simp
theorem zqg {α:Type} {l r:List α} {i:Nat} {c:α} (h:l.drop i=c::r):l[i]? = some c∧l.drop (i+1)=r∧i<l.length:=by
 have hi:i<l.length:=by
  rcases Nat.lt_or_ge i l.length with h1|h1
  ·exact h1
  ·rw [List.drop_eq_nil_of_le h1] at h;cases h
 rw [List.drop_eq_getElem_cons hi] at h
 injection h with h1 h2
 exact ⟨by rw [List.getElem?_eq_getElem hi,h1],h2,hi⟩
theorem toNat_eq {b:UInt8} {n:Nat} (hn:n<256):((b.toNat:Int)=(n:Int))↔b=UInt8.ofNat n:=by
 constructor
 ·intro h
  have:b.toNat=n:=by omega
  rw [←this]
  simp
 ·rintro rfl
  simp [UInt8.toNat_ofNat']
  omega
theorem zo3 {b:UInt8}:b.toNat<256:=UInt8.toNat_lt b
theorem zbn {p s:List UInt8} (h:p.isPrefixOf s=true):p.length≤s.length:=(ya.1 h).length_le
theorem zr8 (p s:List UInt8):decide (s.take p.length=p)=p.isPrefixOf s:=by
 rw [Bool.eq_iff_iff,decide_eq_true_iff,ya,List.prefix_iff_eq_take]
 exact ⟨fun h=>h.symm,fun h=>h.symm⟩
end Go.Sen
end
section
namespace Go.Sen
open _root_.Option renaming bind_eq_bind → ya, bind_some → yb
open _root_.List renaming drop_eq_nil_of_le → yc, getElem?_eq_getElem → yd, length_drop → ye
open _root_.Nat renaming le_of_not_lt → yf
open IntKind renaming wrap → yg
open Go.Lk Go.Pe
theorem z1t (s p:List UInt8):M.q4d s p=some (p.isPrefixOf s):=by
 unfold M.q4d M.q0d
 by_cases h:p.length≤s.length
 ·have h':((p.length:Int)≤(s.length:Int)):=by omega
  simp only [h',decide_true,if_true,zit h,ya,yb,zr8]
 ·have h':¬((p.length:Int)≤(s.length:Int)):=by omega
  have:p.isPrefixOf s=false:=by
   cases hp:p.isPrefixOf s with
   | false=>rfl
   | true=>exact absurd (zbn hp) h
  simp [h',this]
theorem z5q (s p:List UInt8):M.q4b s p=some (if p.isPrefixOf s then (s.drop p.length,true) else (s,false)):=by
 have h:=z1t s p
 unfold M.q4d at h
 simp only [ya] at h
 unfold M.q4b M.q0b
 cases h1:M.q0d s p with
 | none=>rw [h1] at h;cases h
 | some b =>
  rw [h1] at h
  simp only [yb,Option.some.injEq] at h
  subst h
  cases hb:p.isPrefixOf s with
  | false=>simp
  | true=>simp [za9 (zbn hb)]
def isD (b:UInt8):Bool:=decide (48≤b.toNat)&&decide (b.toNat≤57)
theorem ztq:∀ b:UInt8,([48,49,50,51,52,53,54,55,56,57]:List UInt8).contains b=isD b:=by
 intro b
 have h:∀ n:Fin 256,([48,49,50,51,52,53,54,55,56,57]:List UInt8).contains (UInt8.ofNat n.val)=isD (UInt8.ofNat n.val):=by decide +kernel
 have:=h ⟨b.toNat,zo3⟩
 simpa using this
def z4v (s:List UInt8):Nat:=(s.takeWhile isD).length
theorem zaq (s:List UInt8):z4v s≤s.length:=by
 unfold z4v
 exact (List.takeWhile_sublist _).length_le
theorem zn1 (c:UInt8) (s:List UInt8):z4v (c::s)=if isD c then z4v s+1 else 0:=by
 unfold z4v
 rw [List.takeWhile_cons]
 split<;>simp
theorem z4j {s:List UInt8} (h:s.length<4611686018427387904):M.q0m s=some (z4v s:Int):=by
 unfold M.q0m M.trimLeft
 have e:(decide ((([48,49,50,51,52,53,54,55,56,57]:List UInt8)).length<4294967281)&&([48,49,50,51,52,53,54,55,56,57]:List UInt8).all fun b=>decide (b.toNat<128))=true:=by decide
 rw [z30 e]
 simp only [ya,yb]
 have e2:Lib.trimLeftS s [48,49,50,51,52,53,54,55,56,57]=s.dropWhile isD:=by
  unfold Lib.trimLeftS
  congr 1
  funext b
  exact ztq b
 rw [e2]
 have e3:z4v s+(s.dropWhile isD).length=s.length:=by
  unfold z4v
  rw [←List.length_append,List.takeWhile_append_dropWhile]
 rw [w64 (by omega) (by omega)]
 congr 1
 omega
def sgn (s:List UInt8):Nat:=if s.head? = some 45 then 1 else 0
def z6t (s:List UInt8):Nat:=if s.head? = some 48 then 1 else z4v s
def za3:List UInt8→Nat
 | 46::r=>if 0<z4v r then 1+z4v r else 0
 | _=>0
def z7d (s:List UInt8):Nat:=if s.head? = some 43∨s.head? = some 45 then 1 else 0
def ze2:List UInt8→Nat
 | c::r=>if c=101∨c=69 then (if 0<z4v (r.drop (z7d r)) then 1+z7d r+z4v (r.drop (z7d r)) else 0) else 0
 | []=>0
def num (s:List UInt8):Nat :=
 let i:=sgn s
 if z6t (s.drop i)=0 then 0 else
 let i:=i+z6t (s.drop i)
 let i:=i+za3 (s.drop i)
 i+ze2 (s.drop i)
theorem zsv (s:List UInt8):sgn s≤s.length:=by
 unfold sgn
 cases s<;>simp
 split<;>omega
theorem zow (s:List UInt8):z7d s≤s.length:=by
 unfold z7d
 cases s<;>simp
 split<;>omega
theorem zng (s:List UInt8):z6t s≤s.length:=by
 unfold z6t
 have:=zaq s
 cases s with
 | nil=>simp [z4v]
 | cons c r=>split<;>simp_all
theorem zna (s:List UInt8):za3 s≤s.length:=by
 unfold za3
 split
 ·rename_i r
  have:=zaq r
  split<;>simp<;>omega
 ·simp
theorem zth (s:List UInt8):ze2 s≤s.length:=by
 unfold ze2
 split
 ·rename_i c r
  have h1:=zow r
  have h2:=zaq (r.drop (z7d r))
  rw [ye] at h2
  repeat' split
  all_goals simp only [List.length_cons]
  all_goals omega
 ·simp
theorem zk1 (s:List UInt8):num s≤s.length:=by
 unfold num
 simp only
 split
 ·simp
 ·have h1:=zsv s
  have h2:=zng (s.drop (sgn s))
  have h3:=zna (s.drop (sgn s+z6t (s.drop (sgn s))))
  have h4:=zth (s.drop (sgn s+z6t (s.drop (sgn s))+za3 (s.drop (sgn s+z6t (s.drop (sgn s))))))
  simp only [ye] at h2 h3 h4
  omega
theorem z6w (s:List UInt8):z4v s=0↔z6t s=0:=by
 unfold z6t
 cases s with
 | nil=>simp [z4v]
 | cons c r =>
  by_cases h:c=48
  ·subst h
   simp [zn1,isD]
  ·simp [h]
theorem zqh (s:List UInt8):s.head? = s[0]?:=by cases s<;>rfl
theorem getD {s:List UInt8} {i:Nat}:(s.drop i).head? = s[i]?:=by rw [zqh];simp
theorem z73 {s:List UInt8} (h:s.length<1152921504606846976):M.q0p s=some (num s:Int):=by
 unfold M.q0p
 have a1:(do
   let a_7←M.q4d s ([45]:List UInt8)
   if a_7 then
    some 1
   else
    some 0:Option Int)=some ((sgn s:Nat):Int):=by
  rw [z1t]
  unfold sgn
  cases s with
  | nil=>rfl
  | cons c r =>
   by_cases hc:c=45
   ·subst hc;simp
   ·have:¬(45:UInt8)=c:=fun e=>hc e.symm
    simp [hc,this]
 rw [a1]
 simp only [ya,yb]
 have l1:=zsv s
 rw [za9 l1]
 simp only [yb]
 rw [z4j (by simp;omega)]
 simp only [yb]
 unfold num
 simp only
 by_cases hz:z4v (s.drop (sgn s))=0
 ·rw [if_pos (by simpa using hz),if_pos ((z6w _).1 hz)]
  rfl
 rw [if_neg (by simpa using hz),if_neg (fun e=>hz ((z6w _).2 e))]
 generalize hi:sgn s=i at *
 have hlt:i<s.length:=by
  rcases Nat.lt_or_ge i s.length with h1|h1
  ·exact h1
  ·rw [yc h1] at hz;exact absurd rfl hz
 rw [z3d,yd hlt]
 simp only [yb]
 have a2:(if (decide (((s[i]).toNat:Int)=48))=true then some 1 else some ((z4v (s.drop i):Nat):Int))=some ((z6t (s.drop i):Nat):Int):=by
  unfold z6t
  rw [getD,yd hlt]
  by_cases hc:s[i]=48
  ·have:((s[i]).toNat:Int)=48:=by rw [hc];rfl
   simp [hc]
  ·have:¬((s[i]).toNat:Int)=48:=fun e=>hc ((toNat_eq (n:=48) (by omega)).1 e)
   simp [hc,this]
 rw [a2]
 simp only [yb]
 have l2:=zng (s.drop i)
 generalize hn:z6t (s.drop i)=n at *
 rw [ye] at l2
 have e1:yg .i64 ((i:Int)+(n:Int))=((i+n:Nat):Int):=zxc (by omega)
 rw [e1]
 have hk:i+n≤s.length:=by omega
 generalize hj:i+n=j at *
 have a3:(do
   let s_31←sub s (j:Int) (s.length:Int)
   let a_32←M.q4d s_31 ([46]:List UInt8)
   if a_32 then
    let s_34←sub s (yg .i64 ((j:Int)+1)) (s.length:Int)
    let a_35←M.q0m s_34
    if (decide (0<a_35)) then
     some (yg .i64 ((j:Int)+(yg .i64 (1+a_35))))
    else
     some (j:Int)
   else
    some (j:Int):Option Int)=some ((j+za3 (s.drop j):Nat):Int):=by
  rw [za9 hk]
  simp only [ya,yb,z1t]
  have ex:(∃ r,s.drop j=46::r)∨(([46]:List UInt8).isPrefixOf (s.drop j)=false∧za3 (s.drop j)=0):=by
   cases hd:s.drop j with
   | nil=>exact .inr ⟨rfl,rfl⟩
   | cons c r =>
    by_cases hc:c=46
    ·subst hc;exact .inl ⟨r,rfl⟩
    ·have h46:¬(46:UInt8)=c:=fun e=>hc e.symm
     refine .inr ⟨by simp [List.isPrefixOf,h46],?_⟩
     unfold za3
     split
     ·rename_i r' hr
      injection hr with e1 e2
      exact absurd e1 hc
     ·rfl
  rcases ex with ⟨r,hr⟩|⟨e1,e2⟩
  ·obtain ⟨g1,g2,g3⟩:=zqg hr
   have:([46]:List UInt8).isPrefixOf (s.drop j)=true:=by rw [hr];rfl
   rw [this,if_pos rfl,w1 (by omega),za9 (by omega),hr]
   simp only [yb,za3]
   rw [g2,z4j (by rw [←g2];simp;omega)]
   simp only [yb]
   have:=zaq r
   have hr2:r.length+(j+1)=s.length:=by rw [←g2];simp;omega
   by_cases hd:0<z4v r
   ·rw [if_pos (by simpa using hd),if_pos hd]
    rw [show (1:Int)+(z4v r:Int)=((1+z4v r:Nat):Int) by omega,w64 (x:=((1+z4v r:Nat):Int)) (by omega) (by omega),zxc (by omega)]
   ·rw [if_neg (by simpa using hd),if_neg hd]
    rfl
  ·rw [e1,e2]
   simp
 simp only [ya] at a3
 rw [a3]
 simp only [yb]
 have l3:=zna (s.drop j)
 rw [ye] at l3
 have hk2:j+za3 (s.drop j)≤s.length:=by omega
 generalize j+za3 (s.drop j)=k at *
 clear a1 a2 a3
 by_cases hks:k<s.length
 ·have hks':((k:Int)<(s.length:Int)):=by omega
  have hdr:s.drop k=s[k]::s.drop (k+1):=by simp
  simp only [hks',decide_true,if_true,z3d,yd hks,yb]
  have ec:(if (decide (((s[k]).toNat:Int)=101))=true then some true else some (decide (((s[k]).toNat:Int)=69)))=some (decide (s[k]=101∨s[k]=69)):=by
   have t1:(((s[k]).toNat:Int)=101)↔s[k]=101:=toNat_eq (n:=101) (by omega)
   have t2:(((s[k]).toNat:Int)=69)↔s[k]=69:=toNat_eq (n:=69) (by omega)
   simp only [t1,t2]
   by_cases q:s[k]=101<;>simp [q]
  rw [ec]
  simp only [yb]
  rw [hdr]
  unfold ze2
  simp only
  by_cases hc:s[k]=101∨s[k]=69
  ·rw [if_pos (by simpa using hc),if_pos hc,w1 (by omega)]
   have es:(do
     let j_60 ← (if decide (((k + 1 : Nat) : Int) < (s.length : Int)) = true then do
        let c_61←ix s ((k+1:Nat):Int)
        if decide ((c_61.toNat:Int)=43)=true then some true
        else do
         let c_62←ix s ((k+1:Nat):Int)
         some (decide ((c_62.toNat:Int)=45))
       else some false)
     if j_60=true then some (yg .i64 (((k+1:Nat):Int)+1)) else some ((k+1:Nat):Int))=some ((k+1+z7d (s.drop (k+1)):Nat):Int):=by
    unfold z7d
    rw [getD]
    by_cases hk1:k+1<s.length
    ·have:(((k+1:Nat):Int)<(s.length:Int)):=by omega
     simp only [this,decide_true,if_true,z3d,yd hk1,ya,yb]
     have t1:(((s[k+1]).toNat:Int)=43)↔s[k+1]=43:=toNat_eq (n:=43) (by omega)
     have t2:(((s[k+1]).toNat:Int)=45)↔s[k+1]=45:=toNat_eq (n:=45) (by omega)
     simp only [t1,t2,Option.some.injEq]
     have ww:yg .i64 (((k+1:Nat):Int)+1)=((k+1+1:Nat):Int):=w1 (by omega)
     rw [ww]
     by_cases q:s[k+1]=43
     ·simp [q]
     ·by_cases q2:s[k+1]=45
      ·simp [q2]
      ·simp [q,q2]
    ·have:¬((k:Int)+1<(s.length:Int)):=by omega
     simp [this,List.getElem?_eq_none (yf hk1)]
   simp only [ya] at es
   rw [es]
   simp only [yb]
   have l4:=zow (s.drop (k+1))
   rw [ye] at l4
   rw [za9 (by omega)]
   simp only [yb]
   rw [z4j (by simp;omega),←List.drop_drop]
   simp only [yb]
   have l5:=zaq ((s.drop (k+1)).drop (z7d (s.drop (k+1))))
   rw [ye,ye] at l5
   by_cases hd:0<z4v ((s.drop (k+1)).drop (z7d (s.drop (k+1))))
   ·rw [if_pos (by simpa using hd),if_pos hd,zxc (by omega)]
    congr 2
    omega
   ·rw [if_neg (by simpa using hd),if_neg hd]
    rfl
  ·rw [if_neg (by simpa using hc),if_neg hc]
   rfl
 ·have hks':¬((k:Int)<(s.length:Int)):=by omega
  rw [yc (yf hks)]
  simp [hks',ze2]
end Go.Sen
end
section
namespace Go.Sen
open Go.Lk Go.Pe
end Go.Sen
end
section
namespace Go.Sen
open _root_.Option renaming bind_eq_bind → ya, bind_some → yb
open _root_.Bool renaming and_comm → yc, and_left_comm → yd
open _root_.List renaming drop_zero → ye, isPrefixOf → yf, le_antisymm → yg, length_cons → yh, nodup_iff_pairwise_ne → yi, pairwise_iff_getElem → yj
open Go.Lk Go.Pe
theorem zaz {P:UInt8→Prop} (h:∀ n:Fin 256,P (UInt8.ofNat n.val)) (b:UInt8):P b:=by
 have:=h ⟨b.toNat,zo3⟩
 simpa using this
theorem z4h (c:UInt8) (s:List UInt8):[c].isPrefixOf s=decide (s.head? = some c):=by
 cases s with
 | nil=>rfl
 | cons d r =>
  by_cases h:c=d
  ·simp [yf,h]
  ·have:¬d=c:=fun e=>h e.symm
   simp [yf,h,this]
def kys (ks:List (List UInt8)):Nat:=(ks.map fun k=>k.length+1).sum
mutual
def q03.sz:q03→Nat
 | ⟨_,t,l,ks⟩=>szs l+t.length+kys ks+1
def szs:List q03→Nat
 | []=>0
 | x::xs=>x.sz+szs xs+1
end
theorem q03.z2a (v:q03):v.sz=szs v.zh+v.z0q.length+kys v.z0m+1:=by cases v;simp [q03.sz]
theorem z7q:kys []=0:=rfl
theorem z3j (k:List UInt8) (ks:List (List UInt8)):kys (k::ks)=k.length+1+kys ks:=by simp [kys]
theorem z5b:∀ ks:List (List UInt8),ks.length≤kys ks
 | []=>by simp
 | k::ks=>by have:=z5b ks;rw [z3j,yh];omega
theorem zed:∀ {ks:List (List UInt8)} {k:List UInt8},k∈ks→k.length<kys ks
 | a::ks,k,h=>by
  rw [z3j]
  rcases List.mem_cons.1 h with rfl|h
  ·omega
  ·have:=zed h;omega
theorem zf5:∀ {l:List q03} {x:q03},x∈l→x.sz<szs l
 | y::l,x,hx=>by
  simp only [szs]
  rcases List.mem_cons.1 hx with rfl|hx
  ·omega
  ·have:=zf5 hx;omega
theorem zc1:∀ l:List q03,l.length≤szs l
 | []=>by simp
 | y::l=>by have:=zc1 l;simp only [szs,yh];omega
def frm (k:Int) (t:List UInt8) (n:Nat) (ks:List (List UInt8)):Bool :=
 ks.all Lib.validD &&
 if k=0∨k=1∨k=2 then decide (t=[])&&decide (n=0)&&decide (ks=[])
 else if k=3 then !decide (t=[])&&decide (num t=t.length)&&decide (n=0)&&decide (ks=[])
 else if k=4 then Lib.validD t&&decide (n=0)&&decide (ks=[])
 else if k=5 then decide (t=[])&&decide (ks=[])
 else if k=6 then decide (t=[])&&decide (ks.length=n)&&decide ks.Nodup
 else false
mutual
def z7z:q03→Nat→Int
 | ⟨k,t,l,ks⟩,w=>if (k=5∨k=6)∧16≤w then 21 else if frm k t l.length ks=false then 23 else zc5 l (w+1)
def zc5:List q03→Nat→Int
 | [],_=>0
 | x::xs,w=>if z7z x w=0 then zc5 xs w else z7z x w
end
theorem z4x (v:q03) (w:Nat):z7z v w=if (v.zc=5∨v.zc=6)∧16≤w then 21 else if frm v.zc v.z0q v.zh.length v.z0m=false then 23 else zc5 v.zh (w+1):=by cases v;simp only [z7z]
def zoo (e:Int):Rs Unit:=if e=0 then .ok () else .pan e
theorem zgn (e:Int):M.q0o true e=some (.ok ()):=by simp [M.q0o]
instance:Std.Antisymm (α:=List UInt8) (· ≤ ·):=⟨fun _ _ h1 h2=>yg h1 h2⟩
theorem zp1 (l:List (List UInt8)):(l.mergeSort fun x y=>decide (x≤y)).Pairwise (· ≤ ·):=by
 have:=List.pairwise_mergeSort (le:=fun x y:List UInt8=>decide (x≤y)) (by intro a b c h1 h2;simp only [decide_eq_true_eq] at *;exact List.le_trans h1 h2) (by intro a b;simp only [Bool.or_eq_true,decide_eq_true_eq];exact List.le_total a b) l
 exact this.imp fun h=>by simpa using h
theorem zh5 {m:List (List UInt8)} (hs:m.Pairwise (· ≤ ·)):(∀ j,j<m.length→Lib.keeps m.toArray j=true)↔m.Nodup:=by
 have get:∀ i (h:i<m.length),m.toArray[i]! = m[i]:=fun i h=>by simp [h]
 rw [yj] at hs
 constructor
 ·intro hk
  rw [yi,yj]
  intro i j hi hj hij he
  have h1:=hk j hj
  unfold Lib.keeps at h1
  simp only [decide_eq_true_eq] at h1
  rcases h1 with h1|h1
  ·omega
  ·rw [get j hj,get (j - 1) (by omega)] at h1
   apply h1
   have h3:m[j - 1]≤m[j]:=hs (j - 1) j (by omega) hj (by omega)
   rcases Nat.lt_or_ge i (j - 1) with h|h
   ·have h2:m[i]≤m[j - 1]:=hs i (j - 1) hi (by omega) h
    rw [he] at h2
    exact yg h2 h3
   ·have:i=j - 1:=by omega
    subst this
    exact he.symm
 ·intro hn j hj
  unfold Lib.keeps
  simp only [decide_eq_true_eq]
  rcases Nat.eq_zero_or_pos j with h|h
  ·exact .inl h
  ·refine .inr ?_
   rw [get j hj,get (j - 1) (by omega)]
   rw [yi,yj] at hn
   exact fun e=>hn (j - 1) j (by omega) hj (by omega) e.symm
theorem zhn (m:List (List UInt8)):(Lib.compact m).length=m.length↔∀ j,j<m.length→Lib.keeps m.toArray j=true:=by
 unfold Lib.compact Lib.compactUpTo
 rw [List.length_map]
 conv=>lhs;rhs;rw [←List.length_range (n:=m.length)]
 rw [List.length_filter_eq_length_iff]
 simp
theorem zh3 {l:List (List UInt8)} (h:l.length*16≤140737488355328):M.single l=some (decide l.Nodup):=by
 unfold M.single
 rw [z30 (by simpa using h)]
 simp only [ya,yb,Option.some.injEq]
 apply decide_eq_decide.2
 rw [←List.Perm.nodup_iff (List.mergeSort_perm l fun x y=>decide (x≤y)),←zh5 (zp1 l),←zhn,List.length_mergeSort]
 omega
theorem z2q {s:List UInt8} (h:s.length≤9223372036854775807):M.z0c s=some (Lib.validD s):=by
 unfold M.z0c
 rw [z30 (by simpa using h)]
 rfl
theorem zg9 {ks:List (List UInt8)} (hs:∀ k∈ks,k.length<1152921504606846976) (hl:ks.length<1152921504606846976):∀ (n i:Nat),ks.length - i=n→i≤ks.length →
  ∃ r,M.zp ks (i:Int)=some r∧(((ks.drop i).all Lib.validD=true∧r = .go ())∨((ks.drop i).all Lib.validD=false∧∃ j:Nat,r = .done (j:Int))):=by
 intro n
 induction n with
 | zero =>
  intro i hn hi
  rw [M.zp.eq_1]
  have:¬((i:Int)<(ks.length:Int)):=by omega
  exact ⟨_,by rw [if_neg (by simpa using this)],.inl ⟨by rw [List.drop_eq_nil_of_le (by omega)];rfl,rfl⟩⟩
 | succ n ih =>
  intro i hn hi
  have hlt:i<ks.length:=by omega
  rw [M.zp.eq_1]
  have h1:((i:Int)<(ks.length:Int)):=by omega
  have h2:=hs ks[i] (List.getElem_mem hlt)
  unfold M.q0l
  simp only [h1,decide_true,if_true,z3d,List.getElem?_eq_getElem hlt,ya,yb]
  rw [z2q (by omega),List.drop_eq_getElem_cons hlt]
  simp only [yb,List.all_cons]
  cases hv:Lib.validD ks[i] with
  | false=>exact ⟨_,by simp,.inr ⟨by simp,i,rfl⟩⟩
  | true =>
   rw [w1 (by omega)]
   obtain ⟨r,h3,h4⟩:=ih (i+1) (by omega) (by omega)
   exact ⟨r,by simpa using h3,by simpa using h4⟩
theorem zap {ks:List (List UInt8)} (hs:∀ k∈ks,k.length<1152921504606846976) (hl:ks.length<1152921504606846976):M.q3j ks=some (!ks.all Lib.validD):=by
 unfold M.q3j M.q3x
 obtain ⟨r,h1,h2⟩:=zg9 hs hl _ 0 rfl (Nat.zero_le _)
 have h1:M.zp ks 0=some r:=h1
 rw [h1]
 rcases h2 with ⟨h3,rfl⟩|⟨h3,j,rfl⟩
 ·simp only [ye] at h3
  rw [h3]
  simp
 ·simp only [ye] at h3
  rw [h3]
  simp
theorem zgd {k:Int} {t:List UInt8} {n:Nat} {ks:List (List UInt8)} (hw:¬(k=5∨k=6)∨True) :
  frm k t n ks=(((decide (0≤k))&&(decide (k<7)))&&((((decide (k=5))||(decide (k=6)))||(decide ((n:Int)=0)))&&((((decide (k=6))&&(decide ((ks.length:Int)=(n:Int))))||((decide ((ks.length:Int)=0))&&(!decide (k=6)))) &&
   ((ks.all Lib.validD&&decide ks.Nodup)&&(if k=3 then !decide (t=[])&&decide (num t=t.length) else if k=4 then Lib.validD t else decide (t=[])))))):=by
 have k0:((ks.length:Int)=0)↔ks=[]:=by rw [←List.length_eq_zero_iff];omega
 have n0:((n:Int)=0)↔n=0:=by omega
 simp only [k0,n0]
 unfold frm
 by_cases h0:k=0
 ·subst h0;cases ks<;>simp [and_comm,yc]
 by_cases h1:k=1
 ·subst h1;cases ks<;>simp [and_comm,yc]
 by_cases h2:k=2
 ·subst h2;cases ks<;>simp [and_comm,yc]
 by_cases h3:k=3
 ·subst h3;cases ks<;>simp [yc,yd]
 by_cases h4:k=4
 ·subst h4;cases ks<;>simp [yc,yd]
 by_cases h5:k=5
 ·subst h5;cases ks<;>simp
 by_cases h6:k=6
 ·subst h6
  have:(((ks.length:Int)=(n:Int)))↔ks.length=n:=by omega
  simp [this,yc,yd,Bool.and_assoc]
 have:((decide (0≤k))&&(decide (k<7)))=false:=by
  rw [←Bool.not_eq_true,Bool.and_eq_true,decide_eq_true_iff,decide_eq_true_iff]
  omega
 rw [this]
 simp [h0,h1,h2,h3,h4,h5,h6]
end Go.Sen
end
section
namespace Go.Sen
open _root_.Option renaming bind_eq_bind → ya, bind_some → yb
open _root_.Bool renaming not_eq_true → yc, not_eq_true' → yd, or_eq_true → ye
open Go.Lk Go.Pe
theorem z1l (b:Bool) (e:Int):M.q0o b e=some (if b=true then .ok () else .pan e):=by cases b<;>simp [M.q0o]
theorem zam (x:q03) (xs:List q03) (w:Nat):zc5 (x::xs) w=if z7z x w=0 then zc5 xs w else z7z x w:=by simp only [zc5]
theorem zkw {v:q03} {self:q03→Int→Option (Rs Unit)} {w:Nat} (hw:w≤16) (hl:v.zh.length<1152921504606846976) (hs:∀ x∈v.zh,self x ((w+1:Nat):Int)=some (zoo (z7z x (w+1)))) :
  ∀ (n i:Nat),v.zh.length - i=n→i≤v.zh.length→M.z0z v self (w:Int) (i:Int)=some (zoo (zc5 (v.zh.drop i) (w+1))):=by
 intro n
 induction n with
 | zero =>
  intro i hn hi
  rw [M.z0z.eq_1]
  have:¬((i:Int)<(v.zh.length:Int)):=by omega
  rw [if_neg (by simpa using this),List.drop_eq_nil_of_le (by omega)]
  rfl
 | succ n ih =>
  intro i hn hi
  have hlt:i<v.zh.length:=by omega
  rw [M.z0z.eq_1]
  have h1:((i:Int)<(v.zh.length:Int)):=by omega
  simp only [h1,decide_true,if_true,z3d,List.getElem?_eq_getElem hlt,ya,yb]
  rw [w1 (n:=w) (by omega),hs _ (List.getElem_mem hlt),w1 (by omega),ih (i+1) (by omega) (by omega),List.drop_eq_getElem_cons hlt,zam]
  simp only [yb]
  unfold zoo
  by_cases hc:z7z v.zh[i] (w+1)=0
  ·simp [hc]
  ·simp [hc]
def Small (v:q03):Prop:=v.sz<1000000000
theorem Small.mem {v x:q03} (h:Small v) (hx:x∈v.zh):Small x:=by
 unfold Small at *
 have:=zf5 hx
 rw [q03.z2a v] at h
 omega
theorem Small.parts {v:q03} (h:Small v):v.z0q.length<1000000000∧v.zh.length<1000000000∧v.z0m.length<1000000000∧∀ k∈v.z0m,k.length<1000000000:=by
 unfold Small at h
 rw [q03.z2a] at h
 have h1:=zc1 v.zh
 have h2:=z5b v.z0m
 exact ⟨by omega,by omega,by omega,fun k hk=>by have:=zed hk;omega⟩
theorem zb8:∀ (f:Nat) (v:q03) (w:Nat),w≤16→17≤f+w→Small v→M.q0k f v (w:Int)=some (zoo (z7z v w)):=by
 intro f
 induction f with
 | zero=>intro v w h1 h2;omega
 | succ f ih =>
  intro v w hw hf hsm
  obtain ⟨s1,s2,s3,s4⟩:=hsm.parts
  have hk1:(v.zh=[]∨w<16)→M.z0z v (M.q0k f) (w:Int) 0=some (zoo (zc5 v.zh (w+1))):=by
   intro h
   refine zkw hw (by omega) (fun x hx => ?_) _ 0 rfl (Nat.zero_le _)
   rcases h with h|h
   ·rw [h] at hx;cases hx
   ·exact ih x (w+1) (by omega) (by omega) (hsm.mem hx)
  rw [M.q0k,z4x,zgd (.inr trivial)]
  simp only [z1l,zap (fun k hk=>by have:=s4 k hk;omega) (show v.z0m.length<1152921504606846976 by omega),zh3 (show v.z0m.length*16≤140737488355328 by omega),ya,yb]
  have hj:(if (!(!v.z0m.all Lib.validD))=true then some (decide v.z0m.Nodup) else some false)=some (v.z0m.all Lib.validD&&decide v.z0m.Nodup):=by
   cases v.z0m.all Lib.validD<;>simp
  rw [hj]
  simp only [yb]
  have hn1:=z73 (s:=v.z0q) (by omega)
  have hn2:=z2q (s:=v.z0q) (by omega)
  generalize hb5:(v.z0m.all Lib.validD&&decide v.z0m.Nodup)=b5
  generalize hb4:(decide (v.zc=6)&&decide ((v.z0m.length:Int)=(v.zh.length:Int))||decide ((v.z0m.length:Int)=0) && !decide (v.zc=6))=b4
  generalize hb2:(decide (0≤v.zc)&&decide (v.zc<7))=b2
  by_cases hd:(v.zc=5∨v.zc=6)∧16≤w
  ·have:(!(decide (v.zc=5)||decide (v.zc=6))||decide ((w:Int)<16))=false:=by
    rw [←yc,ye,yd,←yc,ye]
    simp only [decide_eq_true_eq]
    omega
   rw [this,if_pos hd]
   rfl
  ·have h1:(!(decide (v.zc=5)||decide (v.zc=6))||decide ((w:Int)<16))=true:=by
    rw [ye,yd,←yc,ye]
    simp only [decide_eq_true_eq]
    omega
   rw [h1,if_neg hd]
   have h3:(decide (v.zc=5)||decide (v.zc=6)||decide ((v.zh.length:Int)=0))=true→(v.zh=[]∨w<16):=by
    rw [ye,ye]
    simp only [decide_eq_true_eq]
    intro h
    rcases h with h|h
    ·exact .inr (by omega)
    ·exact .inl (List.eq_nil_of_length_eq_zero (by omega))
   generalize (decide (v.zc=5)||decide (v.zc=6)||decide ((v.zh.length:Int)=0))=b3 at *
   cases b2 with
   | false=>rfl
   | true =>
    cases b3 with
    | false=>rfl
    | true =>
     cases b4 with
     | false=>rfl
     | true =>
      cases b5 with
      | false=>rfl
      | true =>
       have hk:=hk1 (h3 rfl)
       have e:((num v.z0q:Nat):Int)=(v.z0q.length:Int)↔num v.z0q=v.z0q.length:=by omega
       simp only [if_true,Bool.true_and]
       by_cases k3:v.zc=3
       ·by_cases ht:v.z0q=[]
        ·simp [k3,ht,zoo]
        ·by_cases hn:num v.z0q=v.z0q.length
         ·simp [k3,ht,hn,hn1,hk]
         ·have:¬((num v.z0q:Nat):Int)=(v.z0q.length:Int):=fun x=>hn (e.1 x)
          simp [k3,ht,hn,hn1,this,zoo]
       ·by_cases k4:v.zc=4
        ·cases hv:Lib.validD v.z0q<;>simp [k4,hv,hn2,hk,zoo]
        ·by_cases ht:v.z0q=[]<;>simp [k3,k4,ht,hk,zoo]
theorem ze9 {v:q03} {f:Nat} (hf:17≤f) (h:Small v):M.q0f f v=some (z7z v 0):=by
 unfold M.q0f
 have h1:=zb8 f v 0 (by omega) (by omega) h
 have h1:M.q0k f v 0=some (zoo (z7z v 0)):=h1
 rw [h1]
 simp only [ya,yb]
 unfold zoo
 by_cases hc:z7z v 0=0<;>simp [hc]
end Go.Sen
end
section
namespace Go.Sen
open _root_.Option renaming bind_eq_bind → ya, bind_some → yb
open _root_.Bool renaming and_false → yc, eq_iff_iff → yd, false_and → ye, false_eq_true → yf
open _root_.List renaming all_eq_not_any_not → yg, all_eq_true → yh, getElem?_cons_zero → yi
open Go.Lk Go.Pe
theorem z9a {α R X:Type} {l:List α} {p:α→Bool} {F:Int→Option (Jn R X)} (d:Nat→R) (x0:X) (hl:l.length<1152921504606846976)
  (hF:∀ (i:Nat) (h:i<l.length),F (i:Int)=if p l[i]=true then some (.done (d i)) else F (IntKind.wrap .i64 ((i:Int)+1))) (hE:F (l.length:Int)=some (.go x0)) :
  F 0=some (match l.findIdx? p with|some i => .done (d i)|none => .go x0):=by
 have key:∀ (n i:Nat),l.length - i=n→i≤l.length→F (i:Int)=some (match (l.drop i).findIdx? p with|some k => .done (d (i+k))|none => .go x0):=by
  intro n
  induction n with
  | zero =>
   intro i h1 h2
   have:i=l.length:=by omega
   subst this
   simp [hE]
  | succ n ih =>
   intro i h1 h2
   have hi:i<l.length:=by omega
   rw [hF i hi,z13 hi,List.findIdx?_cons]
   cases hp:p l[i] with
   | true=>simp
   | false =>
    rw [w1 (by omega),ih (i+1) (by omega) (by omega)]
    simp only [yf,if_false]
    cases (l.drop (i+1)).findIdx? p with
    | none=>rfl
    | some k=>simp [Nat.add_assoc,Nat.add_comm 1 k]
 have:=key _ 0 rfl (Nat.zero_le _)
 simpa using this
theorem z7l {α:Type} {l:List α} {p:α→Bool}:(l.findIdx? p).isSome=l.any p:=by
 rw [List.findIdx?_isSome]
theorem z2l {α:Type} (l:List α) (p:α→Bool):(l.findIdx? p=none∧l.any p=false)∨∃ i,l.findIdx? p=some i∧l.any p=true:=by
 have:=z7l (l:=l) (p:=p)
 cases h:l.findIdx? p with
 | none=>rw [h] at this;exact .inl ⟨rfl,this.symm⟩
 | some i=>rw [h] at this;exact .inr ⟨i,rfl,this.symm⟩
theorem z3i {α:Type} (l:List α) (p:α→Bool):(l.findIdx? (fun x => !p x)=none∧l.all p=true)∨∃ i,l.findIdx? (fun x => !p x)=some i∧l.all p=false:=by
 have e:l.all p = !(l.any fun x => !p x):=by rw [yg]
 rcases z2l l (fun x => !p x) with ⟨h1,h2⟩|⟨i,h1,h2⟩
 ·exact .inl ⟨h1,by rw [e,h2];rfl⟩
 ·exact .inr ⟨i,h1,by rw [e,h2];rfl⟩
def isL (b:UInt8):Bool:=decide (65≤b.toNat)&&decide (b.toNat≤90)||decide (97≤b.toNat)&&decide (b.toNat≤122)
def wch (b:UInt8):Bool:=isL b||isD b||decide (b=45)||decide (b=95)||decide (b=46)
def zbf:List UInt8:=[65,66,67,68,69,70,71,72,73,74,75,76,77,78,79,80,81,82,83,84,85,86,87,88,89,90,97,98,99,100,101,102,103,104,105,106,107,108,109,110,111,112,113,114,115,116,117,118,119,120,121,122]
def z8t:List UInt8:=zbf++[48,49,50,51,52,53,54,55,56,57,45,95,46]
theorem zi5:∀ b:UInt8,decide (0≤Lib.indexByte zbf b)=isL b:=zaz (by decide +kernel)
theorem zdm:∀ b:UInt8,z8t.contains b=wch b:=zaz (by decide +kernel)
def zxt (s:List UInt8):Bool:=decide (s=[97,110,100])||decide (s=[111,114])||decide (s=[110,111,116])
def isName (s:List UInt8):Bool:=match s with
 | []=>false
 | c::r=>decide ((c::r).length≤24)&&isL c&&(c::r).all wch && !zxt (c::r)
theorem z8x {α:Type} (p:α→Bool) (l:List α):l.dropWhile p=[]↔l.all p=true:=by
 induction l with
 | nil=>simp
 | cons a l ih =>
  rw [List.dropWhile_cons]
  cases h:p a<;>simp [h,ih]
theorem zp3 {l cs:List UInt8}:decide (Lib.trimS l cs=[])=l.all cs.contains:=by
 rw [yd,decide_eq_true_iff]
 unfold Lib.trimS Lib.trimLeftS Lib.trimRightS
 rw [z8x]
 constructor
 ·intro h
  rw [yh] at h ⊢
  intro x hx
  by_cases hc:cs.contains x=true
  ·exact hc
  ·exfalso
   have:l.reverse.dropWhile (cs.contains ·)=[]:=by
    cases hd:l.reverse.dropWhile (cs.contains ·) with
    | nil=>rfl
    | cons a r =>
     have h1:=List.head_dropWhile_not (p:=(cs.contains ·)) (l:=l.reverse) (by rw [hd];simp)
     have h2:cs.contains a=true:=h a (by rw [hd];simp)
     simp only [hd,List.head_cons] at h1
     rw [h2] at h1
     cases h1
   rw [z8x] at this
   rw [yh] at this
   exact hc (this x (by simpa using hx))
 ·intro h
  have:l.reverse.dropWhile (cs.contains ·)=[]:=by
   rw [z8x,yh]
   rw [yh] at h
   exact fun x hx=>h x (by simpa using hx)
  rw [this]
  rfl
theorem zga {l:List (List UInt8)} {s:List UInt8} (hl:l.length<1152921504606846976):M.z02 l s 0=some (match l.findIdx? (fun x=>decide (s=x)) with|some i => .done (i:Int)|none => .go ()):=by
 refine z9a (fun i:Nat=>(i:Int)) () hl (fun i h => ?_) ?_
 ·rw [M.z02]
  simp [z3d,h]
 ·rw [M.z02]
  simp
theorem z9j {l:List (List UInt8)} {s:List UInt8} (hl:l.length<1152921504606846976):M.q3n l s=some (l.contains s):=by
 unfold M.q3n M.q43
 rw [zga hl]
 have:l.contains s=(l.findIdx? (fun x=>decide (s=x))).isSome:=by
  rw [z7l,List.contains_eq_any_beq]
  congr 1
  funext x
  rw [yd]
  simp
 rw [this]
 cases l.findIdx? (fun x=>decide (s=x)) with
 | none=>simp
 | some i=>simp
theorem z3o (s:List UInt8):M.q1x s=some (isName s):=by
 unfold M.q1x
 cases s with
 | nil=>simp [isName]
 | cons c r =>
  by_cases h24:((c::r).length:Int)≤24
  ·have e1:M.indexByte zbf (c.toNat:Int)=some (Lib.indexByte zbf c):=by simp [M.indexByte]
   have e2:M.trim (c::r) z8t=some (Lib.trimS (c::r) z8t):=by
    unfold M.trim
    rw [z30]
    ·rfl
    ·have:z8t.all (fun b=>decide (b.toNat<128))=true:=by decide
     have h2:(z8t.length<4294967281):=by decide
     simp only [this,h2,decide_true,Bool.and_true,decide_eq_true_eq]
     omega
   have e3:M.q3n [[97,110,100],[111,114],[110,111,116]] (c::r)=some (zxt (c::r)):=by
    rw [z9j (by decide)]
    congr 1
    rw [yd,List.contains_iff_mem]
    simp [zxt,or_assoc]
   have h24':(c::r).length≤24:=by omega
   show (do
    let j_7←(do
     if ((!decide ((c::r)=([]:List UInt8)))&&(decide (((c::r).length:Int)≤24))) then
      let c_8←ix (c::r) 0
      let a_9←M.indexByte zbf (c_8.toNat:Int)
      some (decide (0≤a_9))
     else some false:Option Bool)
    let j_14←(do
     if j_7 then
      let a_15←M.trim (c::r) z8t
      some (decide (a_15=([]:List UInt8)))
     else some false:Option Bool)
    let j_20←(do
     if j_14 then
      let a_21←M.q3n [[97,110,100],[111,114],[110,111,116]] (c::r)
      some (!a_21)
     else some false:Option Bool)
    some j_20)=_
   have hc:((!decide ((c::r)=([]:List UInt8)))&&(decide (((c::r).length:Int)≤24)))=true:=by rw [decide_eq_true h24];simp
   simp only [hc,if_true,zjp,yi,ya,yb,e1,zi5]
   cases hL:isL c with
   | false=>simp [isName,hL]
   | true =>
    simp only [if_true,e2,yb,zp3]
    have hw:(c::r).all z8t.contains=(c::r).all wch:=by
     congr 1
     funext b
     exact zdm b
    rw [hw]
    cases hW:(c::r).all wch with
    | false=>simp [isName,hL,hW]
    | true =>
     simp only [if_true,e3,yb,isName,hL,hW,h24',decide_true,Bool.true_and]
  ·have h24':¬(c::r).length≤24:=by omega
   simp only [h24,decide_false,yc,yf,if_false,ya,yb,isName,h24',ye]
theorem letter_eq (c:UInt8):M.q30 (c.toNat:Int)=some (wch c):=by
 revert c
 exact zaz (by decide +kernel)
theorem z7x {s:List UInt8} (hs:s.length<1152921504606846976):M.q2o s=some (isName s):=by
 unfold M.q2o
 cases s with
 | nil=>simp [isName]
 | cons c r =>
  have hk:M.z2t (c::r) 0=some (match (c::r).findIdx? (fun x => !wch x) with|some i => .done false|none => .go ()):=by
   refine z9a (fun _=>false) () hs (fun i h => ?_) ?_
   ·rw [M.z2t]
    simp only [show ((i:Int)<((c::r).length:Int)) by omega,decide_true,if_true,z3d,List.getElem?_eq_getElem h,ya,yb,letter_eq]
   ·rw [M.z2t]
    simp
  rw [hk]
  have hall:(match (c::r).findIdx? (fun x => !wch x) with|some i=>(.done false:Jn Bool Unit)|none => .go ())=if (c::r).all wch=true then .go () else .done false:=by
   have:=z7l (l:=c::r) (p:=fun x => !wch x)
   cases h:(c::r).findIdx? (fun x => !wch x) with
   | none =>
    rw [h] at this
    simp only [Option.isSome_none] at this
    rw [if_pos]
    rw [yg,←this]
    rfl
   | some i =>
    rw [h] at this
    simp only [Option.isSome_some] at this
    rw [if_neg]
    rw [yg,←this]
    decide
  rw [hall]
  have hL:isL c=(decide (65≤(c.toNat:Int))&&decide ((c.toNat:Int)≤90)||decide (97≤(c.toNat:Int))&&decide ((c.toNat:Int)≤122)):=by
   unfold isL
   congr 1<;>congr 1<;>(rw [decide_eq_decide];omega)
  have hkw:(((decide ((c::r)=([97,110,100]:List UInt8)))||(decide ((c::r)=([111,114]:List UInt8))))||(decide ((c::r)=([110,111,116]:List UInt8))))=zxt (c::r):=rfl
  have hlen:decide (24<((c::r).length:Int)) = !decide ((c::r).length≤24):=by
   rw [←decide_not,decide_eq_decide]
   omega
  simp only [isName,hL,zjp,yi,ya,yb,hlen,←hkw]
  by_cases h1:(c::r).length≤24<;>by_cases h2:(c::r)=([97,110,100]:List UInt8)<;>by_cases h3:(c::r)=([111,114]:List UInt8)<;>by_cases h4:(c::r)=([110,111,116]:List UInt8) <;>
   simp only [h1,h2,h3,h4,decide_true,decide_false,Bool.not_true,Bool.not_false,Bool.or_true,Bool.true_or,Bool.or_false,Bool.false_or,Bool.and_true,yc,Bool.true_and,ye,if_true,if_false,yb,reduceCtorEq,yf]
  by_cases g1:65≤(c.toNat:Int)<;>by_cases g2:(c.toNat:Int)≤90<;>by_cases g3:97≤(c.toNat:Int)<;>by_cases g4:(c.toNat:Int)≤122<;>by_cases g5:(c::r).all wch=true<;>simp [g1,g2,g3,g4,g5]<;>simp_all
def z1q (s:List UInt8):Bool:=decide (s.length≤128)&&Lib.validD s
theorem z9w (s:List UInt8):M.q2e s=some (z1q s):=by
 unfold M.q2e z1q
 by_cases h:s.length≤128
 ·have h':(s.length:Int)≤128:=by omega
  simp [h,h',z2q (s:=s) (by omega)]
 ·have h':¬(s.length:Int)≤128:=by omega
  simp [h,h']
theorem zbu (s:List UInt8):M.q35 s=some (z1q s):=by
 unfold M.q35 z1q
 by_cases h:s.length≤128
 ·have h':(s.length:Int)≤128:=by omega
  simp [h,h',z2q (s:=s) (by omega)]
 ·have h':¬(s.length:Int)≤128:=by omega
  simp [h,h']
end Go.Sen
end
section
namespace Go.Sen
open _root_.Option renaming bind_eq_bind → ya, bind_some → yb
open _root_.List renaming length_append → yc, length_cons → yd
open IntKind renaming wrap → ye
open Go.Lk Go.Pe
theorem z1d {a:List Int} {b:Int} (h:a.length<1099511627776):M.q48 a b=some (a++[b]):=by
 unfold M.q48 M.z1p
 simp only [ya,yb]
 rw [z2e (by simp;omega)]
 rfl
theorem z1n {a:List Int} {b:List UInt8} (h:a.length+b.length<1099511627776):M.q4a a b=some ((b.length:Int),a++unb b):=by
 unfold M.q4a M.z1p
 simp only [ya,yb]
 rw [z2e (by simp [unb];omega)]
 rfl
theorem builderLen_eq (a:List Int):M.q46 a=some (a.length:Int):=rfl
theorem z5i (s:List UInt8):M.z08 (unb s)=some s:=by
 unfold M.z08
 rw [z30 (by simp [zmp])]
 simp [zmp]
def zzr (n:Nat):UInt8:=UInt8.ofNat (if n<10 then 48+n else 87+n)
def qb (c:UInt8):List UInt8 :=
 if c=34∨c=92 then [92,c] else if c=8 then [92,98] else if c=9 then [92,116] else if c=10 then [92,110] else if c=12 then [92,102] else if c=13 then [92,114]
 else if c.toNat<32 then [92,117,48,48,zzr (c.toNat / 16),zzr (c.toNat % 16)] else [c]
def qbs (s:List UInt8):List UInt8:=s.flatMap qb
def qt (s:List UInt8):List UInt8:=34::qbs s++[34]
theorem zsq (c:UInt8):(qb c).length≤6:=by
 unfold qb
 repeat' split
 all_goals simp
theorem zif:∀ s:List UInt8,(qbs s).length≤6*s.length
 | []=>by simp [qbs]
 | c::s=>by
  have h1:=zsq c
  have h2:=zif s
  simp only [qbs,List.flatMap_cons,yc,yd] at *
  omega
theorem zdf (s:List UInt8):(qt s).length≤6*s.length+2:=by
 have:=zif s
 simp only [qt,yc,yd,List.length_nil]
 omega
theorem zr9 (c:UInt8) (s:List UInt8):qbs (c::s)=qb c++qbs s:=by simp [qbs]
def zwc (x:Int):Option (List UInt8):=do
 let a←M.indexByte ([34,92,8,9,10,12,13]:List UInt8) x
 if (decide (0≤a)) then
  let s_87←sub ([34,92,98,116,110,102,114]:List UInt8) a (ye .i64 (a+1))
  cat ([92]:List UInt8) s_87
 else
  if (decide (x<32)) then
   let s_91←sub ([48,49]:List UInt8) (zpk .u8 x 4) (ye .u8 ((zpk .u8 x 4)+1))
   let s_92←cat ([92,117,48,48]:List UInt8) s_91
   let s_93←sub ([48,49,50,51,52,53,54,55,56,57,97,98,99,100,101,102]:List UInt8) (zs0 .u8 x 15) (ye .u8 ((zs0 .u8 x 15)+1))
   cat s_92 s_93
  else some [UInt8.ofNat x.toNat]
theorem zqn:∀ c:UInt8,zwc (c.toNat:Int)=some (qb c):=zaz (by decide +kernel)
theorem zog {s:List UInt8} (hs:s.length<100000000000):∀ (n i:Nat) (acc:List Int),s.length - i=n→i≤s.length→acc.length+6*n<1099511627776→M.z0n s (i:Int) acc=some (acc++unb (qbs (s.drop i))):=by
 intro n
 induction n with
 | zero =>
  intro i acc hn hi ha
  rw [M.z0n.eq_1]
  have:¬((i:Int)<((unb s).length:Int)):=by rw [z6q];omega
  rw [if_neg (by simpa using this),List.drop_eq_nil_of_le (by omega)]
  simp [qbs,unb]
 | succ n ih =>
  intro i acc hn hi ha
  have hlt:i<s.length:=by omega
  have h1:((i:Int)<((unb s).length:Int)):=by rw [z6q];omega
  have hj:=zqn s[i]
  have hq:=zsq s[i]
  rw [M.z0n.eq_1]
  simp only [h1,decide_true,if_true,z3d,zp7,List.getElem?_eq_getElem hlt,Option.map_some,ya,yb]
  rw [w1 (by omega)]
  have next:∀ a:List Int,a=acc++unb (qb s[i])→M.z0n s ((i+1:Nat):Int) a=some (acc++unb (qbs (s.drop i))):=by
   rintro a rfl
   rw [ih (i+1) _ (by omega) (by omega) (by simp [unb];omega),List.drop_eq_getElem_cons hlt,zr9,z3y,List.append_assoc]
  unfold zwc at hj
  simp only [ya] at hj
  cases hx:M.indexByte ([34,92,8,9,10,12,13]:List UInt8) ((s[i]).toNat:Int) with
  | none=>rw [hx] at hj;cases hj
  | some a =>
   rw [hx] at hj
   simp only [yb] at hj ⊢
   by_cases ca:0≤a
   ·rw [if_pos (by simpa using ca)] at hj ⊢
    cases hy:sub ([34,92,98,116,110,102,114]:List UInt8) a (ye .i64 (a+1)) with
    | none=>rw [hy] at hj;cases hj
    | some y =>
     rw [hy] at hj
     simp only [yb] at hj ⊢
     rw [hj]
     simp only [yb]
     rw [z1n (by omega)]
     exact next _ rfl
   ·rw [if_neg (by simpa using ca)] at hj ⊢
    by_cases cx:((s[i]).toNat:Int)<32
    ·rw [if_pos (by simpa using cx)] at hj ⊢
     cases hy:sub ([48,49]:List UInt8) (zpk .u8 ((s[i]).toNat:Int) 4) (ye .u8 ((zpk .u8 ((s[i]).toNat:Int) 4)+1)) with
     | none=>rw [hy] at hj;cases hj
     | some y =>
      rw [hy] at hj
      simp only [yb] at hj ⊢
      cases hz:cat ([92,117,48,48]:List UInt8) y with
      | none=>rw [hz] at hj;cases hj
      | some z =>
       rw [hz] at hj
       simp only [yb] at hj ⊢
       cases hu:sub ([48,49,50,51,52,53,54,55,56,57,97,98,99,100,101,102]:List UInt8) (zs0 .u8 ((s[i]).toNat:Int) 15) (ye .u8 ((zs0 .u8 ((s[i]).toNat:Int) 15)+1)) with
       | none=>rw [hu] at hj;cases hj
       | some u =>
        rw [hu] at hj
        simp only [yb] at hj ⊢
        rw [hj]
        simp only [yb]
        rw [z1n (by omega)]
        exact next _ rfl
    ·rw [if_neg (by simpa using cx)] at hj ⊢
     rw [z1d (by omega)]
     simp only [Option.some.injEq] at hj
     refine next _ ?_
     rw [←hj]
     simp [unb]
theorem z74 {s:List UInt8} {acc:List Int} (h:acc.length+6*s.length+2<100000000000):M.q0q acc s=some (acc++unb (qt s)):=by
 unfold M.q0q
 rw [z1d (by omega),z30 (by simp;omega)]
 simp only [ya,yb]
 have h1:=zog (s:=s) (by omega) _ 0 (acc++[34]) rfl (Nat.zero_le _) (by simp;omega)
 have h1:M.z0n s 0 (acc++[34])=_:=h1
 rw [h1]
 simp only [yb,List.drop_zero]
 have:=zif s
 rw [z1d (by simp [unb];omega)]
 simp [qt,unb]
end Go.Sen
end
