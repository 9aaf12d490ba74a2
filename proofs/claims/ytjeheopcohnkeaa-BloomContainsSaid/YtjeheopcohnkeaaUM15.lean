/- A call of a function value in a region whose operations have no order of their own. -/
import Derived.Test.YtjeheopcohnkeaaULast
set_option linter.unusedVariables false
namespace Go.Proofs.YtjeheopcohnkeaaM
open Go Go.RowKit Go.Proofs.YtjeheopcohnkeaaW.PrintLast
theorem goesV_ {P : Program} {ops : Array Oper} {Q : Exit → Act → World → Prop} {oi : Oper} {N : Option Tmp} {a : Act} {w : World} {K : Act → World → Prop} {f : FuncId} {fn : Func} {c : Operand} {as : Array Operand} {ts : Array TypeId} (hf : P.funcs[f]? = some fn) (hname : (fn.name == "runtime.NumGoroutine") = false) (hb : fn.body.isSome = true) (args : Array Value)
    (hw : Region.wanted oi (yielded ops a.tmps) = true) (hN : oi.dst = N) (hop : oi.op = .call { callee := .value c, args := as, argTypes := ts }) (hargs : as.map a.eval = args) (hc : a.eval c = a.eval (.func f))
    (h : Calls P f args w fun e w' => ∃ v, e = .returned v ∧ K (a.put N v) w') : if Region.wanted oi (yielded ops a.tmps) = true then Oper.wp P oi a w K Q else K (a.put N undef) w := by
  refine call_ f args hw hN ?_ h
  have he := enters_ hf hname hb args w
  have hc' : a.eval c = Value.func (Fn.func f) #[] #[] := hc
  clear hc
  unfold execOp
  simp [hop, resolve, hc', Deferred.ofValue, invoke, hargs, he]
end Go.Proofs.YtjeheopcohnkeaaM
