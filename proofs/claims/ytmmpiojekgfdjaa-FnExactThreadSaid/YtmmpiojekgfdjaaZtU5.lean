/- The contract. -/
import Derived.Test.YtmmpiojekgfdjaaZtSayFnExactThread
import Derived.Test.YtmmpiojekgfdjaaZtK
namespace Go.Proofs.Ytmmpiojekgfdjaa.C
open Go.RowKit YtmmpiojekgfdjaaW.PrintWords YtmmpiojekgfdjaaW.PrintLast
set_option linter.unusedVariables false
set_option linter.unusedSimpArgs false
theorem laws_FnExactThread.calls (A0_0 : Option Addr) (c0_0 : Nat) (l0_0 : List (S98)) (A0_1 : Option Addr) (c0_1 : Nat) (l0_1 : List (S103)) (w : World) (hr0_0 : Kd.C k98 w A0_0 l0_0.length l0_0) (hc0_0 : l0_0.length ≤ c0_0) (hr0_1 : Kd.C k103 w A0_1 l0_1.length l0_1) (hc0_1 : l0_1.length ≤ c0_1)
  (w0_0 : l0_0.length ≤ maxLen ∧ ∀ y ∈ l0_0, W98 y) (w0_1 : l0_1.length ≤ maxLen ∧ ∀ y ∈ l0_1, W103 y) :
  Calls Try.prog 5 #[.agg #[.slice A0_0 l0_0.length c0_0, .slice A0_1 l0_1.length c0_1]] w fun e w' => e = .returned (.bool true) ∧ Below w.heap.size w w' :=
 law_Thread_calls A0_0 A0_1 c0_0 c0_1 l0_0 l0_1 w hr0_0 hc0_0 hr0_1 hc0_1 (fun y hy => (w0_0.2 y hy).2.2.1) (fun y hy => ⟨(w0_1.2 y hy).2.2.1.1, (w0_1.2 y hy).2.2.2.1⟩)
end Go.Proofs.Ytmmpiojekgfdjaa.C
