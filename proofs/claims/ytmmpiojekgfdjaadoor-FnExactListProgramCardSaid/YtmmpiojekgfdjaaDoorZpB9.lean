/- The contract. -/
import Derived.Test.YtmmpiojekgfdjaaDoorZpB8
import Derived.Test.YtmmpiojekgfdjaaDoorZpSayFnExactListProgram
import Derived.Test.YtmmpiojekgfdjaaDoorZpK
namespace Go.Proofs.YtmmpiojekgfdjaaDoor.C
open Go.RowKit YtmmpiojekgfdjaaDoorW.PrintWords YtmmpiojekgfdjaaDoorW.PrintLast
set_option linter.unusedVariables false
set_option linter.unusedSimpArgs false
theorem lit_u8 {x : Int} (h : (Lit.int .u8 x).wf = true) : 0 ≤ x ∧ x ≤ 255 := by
 have h2 := h
 simp [Lit.wf] at h2
 have a : IntKind.u8.min = 0 := by decide
 have b : IntKind.u8.max = 255 := by decide
 rw [a, b] at h2
 omega
theorem lit_i64 {x : Int} (h : (Lit.int .i64 x).wf = true) : IntOK x := by
 have h2 := h
 simp [Lit.wf] at h2
 have a : IntKind.i64.min = -9223372036854775808 := by decide
 try have b : IntKind.i64.max = 9223372036854775807 := by decide
 try rw [a] at h2
 try rw [b] at h2
 exact ⟨by omega, by omega⟩
theorem laws_FnExactListProgram.calls (A0_0 : Option Addr) (c0_0 : Nat) (l0_0 : List (S77)) (A0_1 : Option Addr) (c0_1 : Nat) (l0_1 : List (S82)) (w : World) (hr0_0 : Kd.C k77 w A0_0 l0_0.length l0_0) (hc0_0 : l0_0.length ≤ c0_0) (hr0_1 : Kd.C k82 w A0_1 l0_1.length l0_1) (hc0_1 : l0_1.length ≤ c0_1)
  (w0_0 : l0_0.length ≤ maxLen ∧ ∀ y ∈ l0_0, W77 y) (w0_1 : l0_1.length ≤ maxLen ∧ ∀ y ∈ l0_1, W82 y) (hpw : PowTab w) :
  Calls Tryd.prog 3 #[.agg #[.slice A0_0 l0_0.length c0_0, .slice A0_1 l0_1.length c0_1]] w fun e w' => e = .returned (.bool true) ∧ Below w.heap.size w w' :=
 law_List_calls A0_0 A0_1 c0_0 c0_1 l0_0 l0_1 w hr0_0 hc0_0 hr0_1 hc0_1 (fun y hy => (w0_0.2 y hy).2.2.1) (fun y hy => ⟨(w0_1.2 y hy).2.2.1.1, (w0_1.2 y hy).2.2.2.1⟩) (fun y hy => ⟨lit_i64 (w0_0.2 y hy).2.1, fun b hb => lit_u8 ((w0_0.2 y hy).2.2.2 b hb)⟩) hpw
end Go.Proofs.YtmmpiojekgfdjaaDoor.C
