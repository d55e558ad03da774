import Derived.Test.YtfdoofnmjehecaaGreatDoorPPfC
import Derived.Test.YtfdoofnmjehecaaGreatDoorPPfE
set_option linter.all false
namespace Go.Sen
open Go.Lk Go.Pe
def Le {α:Type} (a b:Option α):Prop := ∀ v,a=some v→b=some v
theorem Le.refl {α:Type} (a:Option α):Le a a:=fun _ h=>h
theorem Le.none {α:Type} (b:Option α):Le Option.none b:=fun _ h=>by cases h
theorem Le.zmy {α:Type} {a b:Option α} (h:a=Option.none):Le a b:=fun _ h'=>by rw [h] at h';cases h'
theorem Le.bind {α β:Type} {a b:Option α} {f g:α→Option β} (h:Le a b) (k:∀ x,Le (f x) (g x)):Le (a >>= f) (b >>= g):=by
 intro v hv
 cases ha:a with
 | none=>rw [ha] at hv;cases hv
 | some x =>
  rw [ha] at hv
  rw [h x ha]
  exact k x v hv
theorem Le.jn {R α β:Type} {a b:Option (Jn R α)} {f g:Jn R α→Option β} (h:Le a b) (k:∀ x,Le (f (.done x)) (g (.done x))) (k':∀ x,Le (f (.go x)) (g (.go x))):Le (a >>= f) (b >>= g):=h.bind fun x=>by cases x with|done r=>exact k r|go j=>exact k' j
theorem Le.rs {α β:Type} {a b:Option (Rs α)} {f g:Rs α→Option β} (h:Le a b) (k:∀ x,Le (f (.pan x)) (g (.pan x))) (k':∀ x,Le (f (.ok x)) (g (.ok x))):Le (a >>= f) (b >>= g):=h.bind fun x=>by cases x with|pan r=>exact k r|ok j=>exact k' j
theorem Le.rb {α γ β:Type} {a b:Option (Rb α γ)} {f g:Rb α γ→Option β} (h:Le a b) (k:∀ x y,Le (f (.pan x y)) (g (.pan x y))) (k':∀ x,Le (f (.ok x)) (g (.ok x))):Le (a >>= f) (b >>= g):=h.bind fun x=>by cases x with|pan r s=>exact k r s|ok j=>exact k' j
theorem Le.ite {α:Type} {p:Prop} [Decidable p] {a b c d:Option α} (h:Le a b) (k:Le c d):Le (if p then a else c) (if p then b else d):=by
 by_cases hp:p
 ·rw [if_pos hp,if_pos hp];exact h
 ·rw [if_neg hp,if_neg hp];exact k
def rc {T:Type} (f:Nat→T→T) (z:T) (n:Nat):T:=Nat.rec (motive:=fun _=>T) z f n
end Go.Sen
