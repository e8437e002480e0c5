/- A part of the proof. -/
import Derived.Test.YtmmpiojekgfdjaaDoorZpWWords
import Derived.Test.YtmmpiojekgfdjaaDoorZpWLast
import Derived.Test.YtmmpiojekgfdjaaDoorZpWApart
import Derived.Test.YtmmpiojekgfdjaaDoorZpWFoot
import Derived.Test.YtmmpiojekgfdjaaDoorZpWKept
import Derived.Test.YtmmpiojekgfdjaaDoorZpWN
namespace Go.Proofs.YtmmpiojekgfdjaaDoorW.PrintWords
open Go.RowKit
section
variable {P : Program} {ops : Array Oper} {rest : List Oper} {o : Oper} {a : Act} {Q : Exit → Act → World → Prop} {W : World}
theorem gate_callee {f : FuncId} {as : Array Operand} {ts : Array TypeId} (_ho : o.op = .call { callee := .value (.func f), args := as, argTypes := ts }) (h : wpList P ops Q (o :: rest) a W) : wpList P ops Q (o :: rest) a W := h
theorem gate_builtin {b : Builtin} {xs : Array Operand} {ts : Array TypeId} (_ho : o.op = .call { callee := .builtin b, args := xs, argTypes := ts }) (h : wpList P ops Q (o :: rest) a W) : wpList P ops Q (o :: rest) a W := h
end
def mx (a b : Int) : Int := if a < b then b else a
end Go.Proofs.YtmmpiojekgfdjaaDoorW.PrintWords
