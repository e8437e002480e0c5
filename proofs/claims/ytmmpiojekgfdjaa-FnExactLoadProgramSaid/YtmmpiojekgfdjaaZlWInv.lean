/- A part of the proof. -/
import Derived.Test.YtmmpiojekgfdjaaZlWTab
namespace Go.Proofs.YtmmpiojekgfdjaaW.PrintLast
def up (b : Nat → Bool) (i : Nat) : Nat → Bool := fun j => if j = i then true else b j
end Go.Proofs.YtmmpiojekgfdjaaW.PrintLast
