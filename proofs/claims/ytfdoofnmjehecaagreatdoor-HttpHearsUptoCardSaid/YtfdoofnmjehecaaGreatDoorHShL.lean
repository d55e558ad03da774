import Derived.Test.YtfdoofnmjehecaaGreatDoorHPfX
set_option linter.all false
namespace Go.Sen
open _root_.List renaming isPrefixOf_iff_prefix → ya
open IntKind renaming bits → yb, signed → yc, wrap → yd
open Go.Lk Go.Pe
def Le{α:Type}(a b:Option α):Prop:=∀v,a=some v→b=some v
theorem Le.refl{α:Type}(a:Option α):Le a a:=fun _ h=>h
theorem Le.none{α:Type}(b:Option α):Le Option.none b:=fun _ h=>by cases h
theorem Le.bind{α β:Type}{a b:Option α}{f g:α→Option β}(h:Le a b)(k:∀x,Le (f x) (g x)):Le (a>>=f) (b>>=g):=by intro v c;cases d:a with|none=>rw[d]at c;cases c|some x=>rw[d]at c;rw[h x d];exact k x v c
theorem Le.jn{R α β:Type}{a b:Option (Jn R α)}{f g:Jn R α→Option β}(h:Le a b)(k:∀x,Le (f (.done x)) (g (.done x)))(c:∀x,Le (f (.go x)) (g (.go x))):Le (a>>=f) (b>>=g):=h.bind fun x=>by cases x with|done r=>exact k r|go j=>exact c j
theorem Le.rs{α β:Type}{a b:Option (Rs α)}{f g:Rs α→Option β}(h:Le a b)(k:∀x,Le (f (.pan x)) (g (.pan x)))(c:∀x,Le (f (.ok x)) (g (.ok x))):Le (a>>=f) (b>>=g):=h.bind fun x=>by cases x with|pan r=>exact k r|ok j=>exact c j
theorem Le.rb{α γ β:Type}{a b:Option (Rb α γ)}{f g:Rb α γ→Option β}(h:Le a b)(k:∀x y,Le (f (.pan x y)) (g (.pan x y)))(c:∀x,Le (f (.ok x)) (g (.ok x))):Le (a>>=f) (b>>=g):=h.bind fun x=>by cases x with|pan r s=>exact k r s|ok j=>exact c j
theorem Le.ite{α:Type}{p:Prop}[Decidable p]{a b c d:Option α}(h:Le a b)(k:Le c d):Le (if p then a else c) (if p then b else d):=by
 by_cases e:p;·rw[if_pos e,if_pos e];exact h
 ·rw[if_neg e,if_neg e];exact k
def rc{T:Type}(f:Nat→T→T)(z:T)(n:Nat):T:=Nat.rec (motive:=fun _=>T) z f n
theorem w64{x:Int}(a:-9223372036854775808≤x)(h2:x<9223372036854775808):yd .i64 x=x:=by
 have h:yd .i64 x=if x%18446744073709551616≥9223372036854775808 then x%18446744073709551616-18446744073709551616 else x%18446744073709551616:=by simp[yd,yb,yc]
 rw[h];split<;>omega
theorem w32{x:Int}(a:-2147483648≤x)(h2:x<2147483648):yd .i32 x=x:=by
 have h:yd .i32 x=if x%4294967296≥2147483648 then x%4294967296-4294967296 else x%4294967296:=by simp[yd,yb,yc]
 rw[h];split<;>omega
theorem wu64{x:Int}(a:0≤x)(h2:x<18446744073709551616):yd .u64 x=x:=by unfold yd;simp only[yb,yc];simp;omega
theorem wu8(x:Int):yd .u8 x=x%256:=by unfold yd;simp[yb,yc]
theorem w1{n:Nat}(h:n<4611686018427387904):yd .i64 ((n:Int)+1)=((n+1:Nat):Int):=by rw[w64]<;>omega
theorem wadd{n m:Nat}(h:n+m<4611686018427387904):yd .i64 ((n:Int)+(m:Int))=((n+m:Nat):Int):=by rw[w64]<;>omega
theorem z15{α:Type}{k:Nat}{l l2:List α}(h:(l.length+l2.length)*k≤140737488355328):app k l l2=some (l++l2):=by unfold app;rw[if_pos h]
theorem z1v{a b:Z}(h:a.length+b.length≤9223372036854775807):cat a b=some (a++b):=by unfold cat;rw[if_pos h]
theorem z3a{b:Bool}(h:b=true):chk b=some ():=by subst h;rfl
theorem z3u{α:Type}(l:List α)(n:Nat):ix l (n:Int)=l[n]?:=by simp[ix]
theorem zuo{α:Type}(l:List α):ix l 0=l[0]?:=by simp[ix]
theorem ix_1{α:Type}(l:List α):ix l 1=l[1]?:=by simp[ix]
theorem zbj{α:Type}{l:List α}{a b:Nat}(c:a≤b)(h2:b≤l.length):sub l (a:Int) (b:Int)=some ((l.take b).drop a):=by unfold sub;rw[if_pos (by omega)];simp
theorem zcb{α:Type}{l:List α}{a:Nat}(h:a≤l.length):sub l (a:Int) (l.length:Int)=some (l.drop a):=by rw[zbj h (Nat.le_refl _)];simp
theorem ze9{α:Type}{l:List α}{a:Nat}(h:a≤l.length):sub l 0 (a:Int)=some (l.take a):=by have:=zbj (l:=l) (Nat.zero_le a) h;simpa using this
theorem sub_1{α:Type}{l:List α}{a:Nat}(h:a<l.length)(h2:l.length<4611686018427387904):sub l (a:Int) (yd .i64 ((a:Int)+1))=some [l[a]]:=by rw[w1 (by omega),zbj (by omega) (by omega)];congr 1;rw[List.drop_take];simp[List.take_one,h]
theorem z0s(s:Z):(unb s).length=s.length:=by simp[unb]
theorem zj5(s:Z)(i:Nat):(unb s)[i]?=s[i]?.map fun b=>(b.toNat:Int):=by simp[unb]
theorem z29(a b:Z):unb (a++b)=unb a++unb b:=by simp[unb]
theorem zei(s:Z):byt (unb s)=s:=by simp[unb,byt,Function.comp_def]
theorem zrk(b:UInt8):[(b.toNat:Int)]=unb [b]:=rfl
theorem zsa{α:Type}{l:List α}{i:Nat}(h:i<l.length):l.drop i=l[i]::l.drop (i+1):=by simp
theorem zlc{α:Type}{l r:List α}{i:Nat}{c:α}(h:l.drop i=c::r):l[i]?=some c∧l.drop (i+1)=r∧i<l.length:=by
 have b:i<l.length:=by
  rcases Nat.lt_or_ge i l.length with a|a;·exact a
  ·rw[List.drop_eq_nil_of_le a]at h;cases h
 rw[List.drop_eq_getElem_cons b]at h;injection h with a h2;exact⟨by rw[List.getElem?_eq_getElem b,a],h2,b⟩
theorem toNat_eq{b:UInt8}{n:Nat}(hn:n<256):(b.toNat:Int)=(n:Int)↔b=UInt8.ofNat n:=by
 constructor
 ·intro h;have:b.toNat=n:=by omega
  rw[←this];simp
 ·rintro rfl;simp[UInt8.toNat_ofNat'];omega
theorem zfq{b:UInt8}:b.toNat<256:=UInt8.toNat_lt b
theorem zf2{p s:Z}(h:p.isPrefixOf s=true):p.length≤s.length:=(ya.1 h).length_le
theorem zte(p s:Z):decide (s.take p.length=p)=p.isPrefixOf s:=by rw[Bool.eq_iff_iff,decide_eq_true_iff,ya,List.prefix_iff_eq_take];exact⟨fun h=>h.symm,fun h=>h.symm⟩
end Go.Sen
