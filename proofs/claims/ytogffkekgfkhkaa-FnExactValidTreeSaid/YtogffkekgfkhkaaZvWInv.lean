/- A part of the proof. -/
import Derived.Test.YtogffkekgfkhkaaZvWTab
namespace Go.Proofs.YtogffkekgfkhkaaW.PrintLast
/-- Number i is listed too. -/
def up (b : Nat → Bool) (i : Nat) : Nat → Bool := fun j => if j = i then true else b j
end Go.Proofs.YtogffkekgfkhkaaW.PrintLast
