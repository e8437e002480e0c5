/- The contract. -/
import Derived.Test.YtmmpiojekgfdjaaZlG5
import Derived.Test.YtmmpiojekgfdjaaZlOp
import Derived.KernelRfl
import Derived.Test.YtmmpiojekgfdjaaZlK
namespace Go.Proofs.Ytmmpiojekgfdjaa.C
open Go.RowKit YtmmpiojekgfdjaaW.PrintWords YtmmpiojekgfdjaaW.PrintLast
set_option linter.unusedVariables false
set_option linter.unusedSimpArgs false
theorem lit_byt {x : Int} (h : (Lit.int .u8 x).wf = true) : 0 ≤ x ∧ x < 256 := by
 have h2 := h
 simp [Lit.wf] at h2
 have a : IntKind.u8.min = 0 := by decide
 have b : IntKind.u8.max = 255 := by decide
 rw [a, b] at h2
 omega
theorem laws_FnExactLoadProgram.calls (A0 : Option Addr) (c0 : Nat) (l0 : List Int) (w : World) (hr0 : Kd.C (Kd.int .u8) w A0 l0.length l0) (hc0 : l0.length ≤ c0) (w0 : l0.length ≤ maxLen ∧ ∀ yl0 ∈ l0, (Lit.int .u8 yl0).wf = true) :
  Calls Try.prog 6 #[.slice A0 l0.length c0] w fun e w' => e = .returned (.bool true) ∧ Below w.heap.size w w' :=
 law_Load_calls A0 c0 l0 w hr0 hc0 (fun y hy => lit_byt (w0.2 y hy))
end Go.Proofs.Ytmmpiojekgfdjaa.C
