/- The statement over lists and numbers alone that is left of FnExactValidTree, and the readings of its parameters' types. -/
import Derived.Test.YtogffkekgfkhkaaZvCx9
import Derived.Test.YtogffkekgfkhkaaZvOp
import Derived.KernelRfl
import Derived.Test.YtogffkekgfkhkaaZvK
namespace Go.Proofs.Ytogffkekgfkhkaa.C
open Go.RowKit Go.Proofs.YtogffkekgfkhkaaW.PrintWords Go.Proofs.YtogffkekgfkhkaaW.PrintLast Go.Proofs.YtogffkekgfkhkaaW.Op
set_option linter.unusedVariables false
def W33 (x : S33) : Prop := (Lit.int .i64 x.f0).wf = true ∧ (Lit.int .i64 x.f1).wf = true ∧ (x.f2.length ≤ maxLen ∧ ∀ yx_f2 ∈ x.f2, (Lit.int .u8 yx_f2).wf = true) ∧ (x.f3.length ≤ maxLen ∧ ∀ yx_f3 ∈ x.f3, yx_f3.length ≤ maxLen ∧ ∀ yyx_f3 ∈ yx_f3, (Lit.int .u8 yyx_f3).wf = true) ∧ (Lit.int .i64 x.f4).wf = true
theorem open33 : Opens Try.prog 33 k33 W33 := opens_struct (fun y => ⟨y.1, y.2.1, y.2.2.1, y.2.2.2.1, y.2.2.2.2⟩) Try.underlying33 rfl (by kernel_rfl) (fun _ => rfl) (opensF_cons rfl rfl (by kernel_rfl) (opens_int Try.underlying3) (opensF_cons rfl rfl (by kernel_rfl) (opens_int Try.underlying3) (opensF_cons rfl rfl (by kernel_rfl) (opens_slice Try.underlying30 (by kernel_rfl) (opens_int Try.underlying5)) (opensF_cons rfl rfl (by kernel_rfl) (opens_slice Try.underlying31 (by kernel_rfl) (opens_slice Try.underlying30 (by kernel_rfl) (opens_int Try.underlying5))) (opensF_one rfl rfl (by kernel_rfl) (opens_int Try.underlying3))))))
def laws_FnExactValidTree.Pure : Prop := ∀ (l0 : List (S33)), (l0.length ≤ maxLen ∧ ∀ yl0 ∈ l0, W33 yl0) → ∃ k, laws_FnExactValidTree.f k l0 = some true
end Go.Proofs.Ytogffkekgfkhkaa.C
