/- The lockstep walk: strings.Builder's copyCheck. It speaks of no program. -/
import Derived.Test.YtmbckfhcljgniaaDoorLkJ
import Derived.Lib.Builder
import Derived.Laws.Externs
namespace Go.Lk
open Go.RowKit
section
variable {C : Cx} {n : Nat} {ds : List Deferred} {L : Env} {w : World} {o : Oper} {v : Value}
theorem EX.eqNN {t te u : TypeId} {x y : Operand} {j : TypeInfo} (ho : o.op = .binOp .eql t x y u) (ht : C.P.underlying t = some (.pointer te)) (hj : C.P.info? te = some j) (hx : ev L x = some (.pointer none)) (hy : ev L y = some (.pointer none)) : EX C n L w o (.bool true) := fun a ha => by
  have h : ∀ d : Nat, (Op.equalIn (d + 1) t (.pointer none) (.pointer none)).run C.P w = .ok true w := fun d => by
    simp [Op.equalIn, run_underlying ht, sizeOf, typeInfo, hj]
  simp [execOp, ho, ha.ev hx, ha.ev hy, binOp, eqGuard, Op.equal, Op.maxDepth, h 9999]
theorem EX.eqSN {t te u : TypeId} {x y : Operand} {j : TypeInfo} {p : Addr} (ho : o.op = .binOp .eql t x y u) (ht : C.P.underlying t = some (.pointer te)) (hj : C.P.info? te = some j) (hx : ev L x = some (.pointer (some p))) (hy : ev L y = some (.pointer none)) : EX C n L w o (.bool false) := fun a ha => by
  have h : ∀ d : Nat, (Op.equalIn (d + 1) t (.pointer (some p)) (.pointer none)).run C.P w = .ok false w := fun d => by
    simp [Op.equalIn, run_underlying ht, sizeOf, typeInfo, hj]
  simp [execOp, ho, ha.ev hx, ha.ev hy, binOp, eqGuard, Op.equal, Op.maxDepth, h 9999]
theorem EX.neSS {t te u : TypeId} {x y : Operand} {j : TypeInfo} {p : Addr} (ho : o.op = .binOp .neq t x y u) (ht : C.P.underlying t = some (.pointer te)) (hj : C.P.info? te = some j) (hx : ev L x = some (.pointer (some p))) (hy : ev L y = some (.pointer (some p))) : EX C n L w o (.bool false) := fun a ha => by
  simp [execOp, ho, ha.ev hx, ha.ev hy, eqGuard, Lib.run_neq_ptr_same w p ht hj]
theorem EX.toU {s t te e : TypeId} {x : Operand} {j : TypeInfo} {b cells : Nat} (ho : o.op = .convert s t x) (hs : C.P.underlying s = some (.pointer te)) (hd : C.P.underlying t = some .unsafePointer) (ht : C.P.info? te = some j) (hj : j.size ≠ 0)
    (hx : ev L x = some (.pointer (some ⟨b, 0, none⟩))) (hsh : w.shape? b = some (e, cells)) (hoff : 0 < cells) : EX C n L w o (.pointer (some ⟨b, 0, none⟩)) := fun a ha => by
  simp [execOp, ho, ha.ev hx, Lib.run_to_unsafe w ⟨b, 0, none⟩ hs hd ht hj hsh hoff]
theorem EX.fromU {s t te e : TypeId} {x : Operand} {j : TypeInfo} {b cells : Nat} (ho : o.op = .convert s t x) (hs : C.P.underlying s = some .unsafePointer) (hd : C.P.underlying t = some (.pointer te)) (ht : C.P.info? te = some j)
    (hx : ev L x = some (.pointer (some ⟨b, 0, none⟩))) (hsh : w.shape? b = some (e, cells)) (hl : liesAt C.P C.P.depth e (cells / C.P.cellsOf e) 0 te 1 = true) : EX C n L w o (.pointer (some ⟨b, 0, none⟩)) := fun a ha => by
  simp [execOp, ho, ha.ev hx, Lib.run_from_unsafe w ⟨b, 0, none⟩ hs hd ht hsh hl]
theorem EX.ext1 {x y : Operand} {ts : Array TypeId} {g : FuncId} {u : Value} (ho : o.op = .call { callee := .value x, args := #[y], argTypes := ts }) (hx : ev L x = some (.func (.func g) #[] #[])) (hy : ev L y = some u) (hent : ∀ w, (callFunc g #[u]).run C.P w = .ok (.value v) w) : EX C n L w o v := fun a ha => by
  simp only [execOp, ho, resolve, ha.ev hx, Deferred.ofValue, Sem.run_bind, Sem.run_pure, Result.andThen_ok]
  simp [invoke, ha.ev hy, hent]
theorem run_noEsc {P : Program} {g : FuncId} {fn : Func} (hf : P.funcs[g]? = some fn) (hname : (fn.name == "runtime.NumGoroutine") = false) (hb : fn.body.isNone = true) (hn : Extern.findNext fn = none) (he : Extern.find fn = some Extern.AbiNoEscape.same) (u : Value) (w : World) : (callFunc g #[u]).run P w = .ok (.value u) w := by
  rw [run_callFunc_extern hf hname hb hn he, Lib.run_noEscape]
  rfl
end
end Go.Lk
