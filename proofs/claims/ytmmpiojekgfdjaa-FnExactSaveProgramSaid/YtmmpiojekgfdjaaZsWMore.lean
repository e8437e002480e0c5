/- A part of the proof. -/
import Derived.Test.YtmmpiojekgfdjaaZsWWords
import Derived.Test.YtmmpiojekgfdjaaZsWLast
import Derived.Test.YtmmpiojekgfdjaaZsWApart
import Derived.Test.YtmmpiojekgfdjaaZsWFoot
import Derived.Test.YtmmpiojekgfdjaaZsWKept
import Derived.Test.YtmmpiojekgfdjaaZsWN
namespace Go.Proofs.YtmmpiojekgfdjaaW.PrintWords
open Go.RowKit
section
variable {P : Program} {ops : Array Oper} {rest : List Oper} {o : Oper} {a : Act} {Q : Exit → Act → World → Prop} {W : World}
/-- The operation is a call of this function (a cheap look ahead of a dear step). -/
theorem gate_callee {f : FuncId} {as : Array Operand} {ts : Array TypeId} (_ho : o.op = .call { callee := .value (.func f), args := as, argTypes := ts }) (h : wpList P ops Q (o :: rest) a W) : wpList P ops Q (o :: rest) a W := h
end
end Go.Proofs.YtmmpiojekgfdjaaW.PrintWords
