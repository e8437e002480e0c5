/- The statement over lists and numbers alone that is left of FnExactThread, and the readings of its parameters' types. -/
import Derived.Test.YtmmpiojekgfdjaaZtU4
import Derived.Test.YtmmpiojekgfdjaaZtOp
import Derived.KernelRfl
import Derived.Test.YtmmpiojekgfdjaaZtK
namespace Go.Proofs.Ytmmpiojekgfdjaa.C
open Go.RowKit YtmmpiojekgfdjaaW.PrintWords YtmmpiojekgfdjaaW.PrintLast YtmmpiojekgfdjaaW.Op
set_option linter.unusedVariables false
def W98 (x : S98) : Prop := True ∧ (Lit.int .i64 x.f1).wf = true ∧ (x.f2.length ≤ maxLen ∧ ∀ yx_f2 ∈ x.f2, (Lit.int .u8 yx_f2).wf = true)
theorem open98 : Opens Try.prog 98 k98 W98 := opens_struct (fun y => ⟨y.1, y.2.1, y.2.2⟩) Try.underlying98 rfl (by kernel_rfl) (fun _ => rfl) (opensF_cons rfl rfl (by kernel_rfl) (opens_bool Try.underlying4) (opensF_cons rfl rfl (by kernel_rfl) (opens_int Try.underlying3) (opensF_one rfl rfl (by kernel_rfl) (opens_slice Try.underlying35 (by kernel_rfl) (opens_int Try.underlying5)))))
def W162 (x : S162) : Prop := True ∧ (Lit.int .i64 x.f1).wf = true
theorem open162 : Opens Try.prog 162 k162 W162 := opens_struct (fun y => ⟨y.1, y.2⟩) Try.underlying162 rfl (by kernel_rfl) (fun _ => rfl) (opensF_cons rfl rfl (by kernel_rfl) (opens_bool Try.underlying4) (opensF_one rfl rfl (by kernel_rfl) (opens_int Try.underlying3)))
def W164 (x : S164) : Prop := (Lit.int .i64 x.f0).wf = true ∧ (Lit.int .i64 x.f1).wf = true ∧ (Lit.int .i64 x.f2).wf = true
theorem open164 : Opens Try.prog 164 k164 W164 := opens_struct (fun y => ⟨y.1, y.2.1, y.2.2⟩) Try.underlying164 rfl (by kernel_rfl) (fun _ => rfl) (opensF_cons rfl rfl (by kernel_rfl) (opens_int Try.underlying3) (opensF_cons rfl rfl (by kernel_rfl) (opens_int Try.underlying3) (opensF_one rfl rfl (by kernel_rfl) (opens_int Try.underlying3))))
def W103 (x : S103) : Prop := (Lit.int .i64 x.f0).wf = true ∧ (Lit.int .i64 x.f1).wf = true ∧ (x.f2.length ≤ maxLen ∧ ∀ yx_f2 ∈ x.f2, W162 yx_f2) ∧ (x.f3.length ≤ maxLen ∧ ∀ yx_f3 ∈ x.f3, W164 yx_f3)
theorem open103 : Opens Try.prog 103 k103 W103 := opens_struct (fun y => ⟨y.1, y.2.1, y.2.2.1, y.2.2.2⟩) Try.underlying103 rfl (by kernel_rfl) (fun _ => rfl) (opensF_cons rfl rfl (by kernel_rfl) (opens_int Try.underlying3) (opensF_cons rfl rfl (by kernel_rfl) (opens_int Try.underlying3) (opensF_cons rfl rfl (by kernel_rfl) (opens_slice Try.underlying100 (by kernel_rfl) open162) (opensF_one rfl rfl (by kernel_rfl) (opens_slice Try.underlying101 (by kernel_rfl) open164)))))
def k25 : Kd ((List (S98)) × (List (S103))) := Kd.iso (Kd.pair (Kd.slice 98 k98) (Kd.slice 103 k103)) (fun x => x)
def W25 (x : (List (S98)) × (List (S103))) : Prop := (x.1.length ≤ maxLen ∧ ∀ yx_1 ∈ x.1, W98 yx_1) ∧ (x.2.length ≤ maxLen ∧ ∀ yx_2 ∈ x.2, W103 yx_2)
theorem open25 : Opens Try.prog 25 k25 W25 := opens_struct (fun y => y) Try.underlying25 rfl (by kernel_rfl) (fun _ => rfl) (opensF_cons rfl rfl (by kernel_rfl) (opens_slice Try.underlying22 (by kernel_rfl) open98) (opensF_one rfl rfl (by kernel_rfl) (opens_slice Try.underlying23 (by kernel_rfl) open103)))
end Go.Proofs.Ytmmpiojekgfdjaa.C
