/- The statement over lists and numbers alone that is left of FnExactListProgram, and the readings of its parameters' types. -/
import Derived.Test.YtmmpiojekgfdjaaDoorZpB8
import Derived.Test.YtmmpiojekgfdjaaDoorZpOp
import Derived.KernelRfl
import Derived.Test.YtmmpiojekgfdjaaDoorZpK
namespace Go.Proofs.YtmmpiojekgfdjaaDoor.C
open Go.RowKit YtmmpiojekgfdjaaDoorW.PrintWords YtmmpiojekgfdjaaDoorW.PrintLast YtmmpiojekgfdjaaDoorW.Op
set_option linter.unusedVariables false
def W77 (x : S77) : Prop := True ∧ (Lit.int .i64 x.f1).wf = true ∧ (x.f2.length ≤ maxLen ∧ ∀ yx_f2 ∈ x.f2, (Lit.int .u8 yx_f2).wf = true)
theorem open77 : Opens Tryd.prog 77 k77 W77 := opens_struct (fun y => ⟨y.1, y.2.1, y.2.2⟩) Tryd.underlying77 rfl (by kernel_rfl) (fun _ => rfl) (opensF_cons rfl rfl (by kernel_rfl) (opens_bool Tryd.underlying4) (opensF_cons rfl rfl (by kernel_rfl) (opens_int Tryd.underlying3) (opensF_one rfl rfl (by kernel_rfl) (opens_slice Tryd.underlying27 (by kernel_rfl) (opens_int Tryd.underlying5)))))
def W131 (x : S131) : Prop := True ∧ (Lit.int .i64 x.f1).wf = true
theorem open131 : Opens Tryd.prog 131 k131 W131 := opens_struct (fun y => ⟨y.1, y.2⟩) Tryd.underlying131 rfl (by kernel_rfl) (fun _ => rfl) (opensF_cons rfl rfl (by kernel_rfl) (opens_bool Tryd.underlying4) (opensF_one rfl rfl (by kernel_rfl) (opens_int Tryd.underlying3)))
def W133 (x : S133) : Prop := (Lit.int .i64 x.f0).wf = true ∧ (Lit.int .i64 x.f1).wf = true ∧ (Lit.int .i64 x.f2).wf = true
theorem open133 : Opens Tryd.prog 133 k133 W133 := opens_struct (fun y => ⟨y.1, y.2.1, y.2.2⟩) Tryd.underlying133 rfl (by kernel_rfl) (fun _ => rfl) (opensF_cons rfl rfl (by kernel_rfl) (opens_int Tryd.underlying3) (opensF_cons rfl rfl (by kernel_rfl) (opens_int Tryd.underlying3) (opensF_one rfl rfl (by kernel_rfl) (opens_int Tryd.underlying3))))
def W82 (x : S82) : Prop := (Lit.int .i64 x.f0).wf = true ∧ (Lit.int .i64 x.f1).wf = true ∧ (x.f2.length ≤ maxLen ∧ ∀ yx_f2 ∈ x.f2, W131 yx_f2) ∧ (x.f3.length ≤ maxLen ∧ ∀ yx_f3 ∈ x.f3, W133 yx_f3)
theorem open82 : Opens Tryd.prog 82 k82 W82 := opens_struct (fun y => ⟨y.1, y.2.1, y.2.2.1, y.2.2.2⟩) Tryd.underlying82 rfl (by kernel_rfl) (fun _ => rfl) (opensF_cons rfl rfl (by kernel_rfl) (opens_int Tryd.underlying3) (opensF_cons rfl rfl (by kernel_rfl) (opens_int Tryd.underlying3) (opensF_cons rfl rfl (by kernel_rfl) (opens_slice Tryd.underlying79 (by kernel_rfl) open131) (opensF_one rfl rfl (by kernel_rfl) (opens_slice Tryd.underlying80 (by kernel_rfl) open133)))))
def k25 : Kd ((List (S77)) × (List (S82))) := Kd.iso (Kd.pair (Kd.slice 77 k77) (Kd.slice 82 k82)) (fun x => x)
def W25 (x : (List (S77)) × (List (S82))) : Prop := (x.1.length ≤ maxLen ∧ ∀ yx_1 ∈ x.1, W77 yx_1) ∧ (x.2.length ≤ maxLen ∧ ∀ yx_2 ∈ x.2, W82 yx_2)
theorem open25 : Opens Tryd.prog 25 k25 W25 := opens_struct (fun y => y) Tryd.underlying25 rfl (by kernel_rfl) (fun _ => rfl) (opensF_cons rfl rfl (by kernel_rfl) (opens_slice Tryd.underlying22 (by kernel_rfl) open77) (opensF_one rfl rfl (by kernel_rfl) (opens_slice Tryd.underlying23 (by kernel_rfl) open82)))
end Go.Proofs.YtmmpiojekgfdjaaDoor.C
