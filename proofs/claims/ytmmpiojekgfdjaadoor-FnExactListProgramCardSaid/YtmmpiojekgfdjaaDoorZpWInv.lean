/- A part of the proof. -/
import Derived.Test.YtmmpiojekgfdjaaDoorZpWTab
namespace Go.Proofs.YtmmpiojekgfdjaaDoorW.PrintLast
def up (b : Nat → Bool) (i : Nat) : Nat → Bool := fun j => if j = i then true else b j
end Go.Proofs.YtmmpiojekgfdjaaDoorW.PrintLast
