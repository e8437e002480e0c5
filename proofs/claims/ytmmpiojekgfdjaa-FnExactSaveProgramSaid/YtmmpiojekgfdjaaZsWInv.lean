/- A part of the proof. -/
import Derived.Test.YtmmpiojekgfdjaaZsWTab
namespace Go.Proofs.YtmmpiojekgfdjaaW.PrintLast
/-- Number i is listed too. -/
def up (b : Nat → Bool) (i : Nat) : Nat → Bool := fun j => if j = i then true else b j
end Go.Proofs.YtmmpiojekgfdjaaW.PrintLast
