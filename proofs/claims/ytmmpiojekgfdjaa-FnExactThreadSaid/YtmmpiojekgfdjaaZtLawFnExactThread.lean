/- The law FnExactThread of the program answers true whatever the input, and its arguments read behind the call as they read before. No condition. -/
import Derived.Test.YtmmpiojekgfdjaaRows
import Derived.Test.YtmmpiojekgfdjaaZtU5
import Derived.Test.YtmmpiojekgfdjaaZtOp
import Derived.WalkKit
import Derived.ProofKit
import Derived.OpenShut
import Derived.ShutString
import Derived.ChangeOld
import Derived.Below
import Derived.SizedLaws
import Derived.Test.YtmmpiojekgfdjaaZtK
namespace Go.Proofs.Ytmmpiojekgfdjaa.fnExactThread
open Go.ChangeShapes Go.WideShapes Go.ChangeAt Go.RowKit YtmmpiojekgfdjaaW.PrintWords YtmmpiojekgfdjaaW.Op Ytmmpiojekgfdjaa.C
open Go.ChangeMaps (open_string shut_string)
set_option linter.unusedVariables false
theorem own : ownKnob Try.prog.godebug = none := by kernel_rfl
theorem laidOut : laidOutB Try.prog = true := by kernel_rfl
set_option maxRecDepth 100000 in
theorem lifted (os : Os) (started : os.Started) (H : Type) (enc : TypeId × Value → H) :
  ReturnsInHanded {} Try.checked os 5 .any (Rows.fnExactThreadSpec.pre6 enc Try.prog Try.f5 Rows.fnExactThreadRow.domain false) (Rows.fnExactThreadSpec.post enc Try.prog Try.f5 false true false false) := by
 refine returnsInHanded_of_change_sized (C := Try.checked) own started (by kernel_rfl) Try.func5
  (ChangeSpec.witness6 (enc := enc) (C := Try.checked) false ⟨#[], #[.agg #[.slice none 0 0, .slice none 0 0]], []⟩ 8 (by kernel_rfl) (by kernel_rfl) (by kernel_rfl) (by kernel_rfl)) ?_
 intro W base args ds gs before hval0 hW hcnd hsz0 _
 have hval : ∀ (j : Nat) t v, Try.f5.params[j]? = some t → args[j]? = some v → Value.okWide Try.prog W .any base t v := hval0
 have hW' := hW
 obtain ⟨p, q, hA0, hV, rfl, hfz, hnd⟩ := hW
 have hA : DataW.TrodAll enc Try.prog W 0 (fun _ => true) true Try.f5.params.toList args.toList ds p := hA0
 rw [Try.params5] at hA hval
 obtain ⟨v0, vs0, d0, ds0, p0, q0, hargs, rfl, rfl, h0, r0⟩ := trodAll_cons hA
 obtain ⟨rfl, rfl, rfl⟩ := trodAll_nil r0
 obtain rfl : args = #[v0] := by cases args; simp_all
 obtain ⟨rfl, rfl⟩ := trodVars_none hV
 obtain ⟨cs0, rfl, hz0⟩ := okWide_struct Try.underlying25 (hval 0 25 v0 rfl rfl)
 have k0 := h0
 have lt0 : ∀ x ∈ p0, x.block < W.heap.size := by obtain ⟨m, hm⟩ := k0; exact DataW.trod_lt m _ _ _ hm
 obtain ⟨fuel0, hf0⟩ := h0
 obtain ⟨x0, hK0, wf0⟩ := open25 hf0
 obtain ⟨c_0, d_0, hcs0, ⟨A0_0, c0_0, rfl, hc0_0, hr0_0⟩, ⟨A0_1, c0_1, rfl, hc0_1, hr0_1⟩⟩ := hK0
 obtain rfl : cs0 = #[.slice A0_0 x0.1.length c0_0, .slice A0_1 x0.2.length c0_1] := by
  have hc_ : (Value.agg cs0).cells = cs0 := rfl
  rw [hc_] at hcs0
  exact Array.toList_inj.1 hcs0
 obtain ⟨w0_0, w0_1⟩ := wf0
 clear hA0 hval0 hsz0
 refine (laws_FnExactThread.calls A0_0 c0_0 x0.1 A0_1 c0_1 x0.2 W hr0_0 hc0_0 hr0_1 hc0_1 w0_0 w0_1).mono fun e W' hpost => ?_
 obtain ⟨rfl, bel⟩ := hpost
 exact ⟨_, rfl, _, _, _, [], _, [], hW', trodAll_mk1 (shut_bool Try.underlying4 _), (trodAll_cons_mk (Below.trod laidOut (by kernel_rfl) (of_decide_eq_true (by kernel_rfl)) k0 bel lt0) trodAll_mk0), rfl, bel.frame _, fun h => by cases h⟩
theorem over : Rows.fnExactThreadRow.holds Try.pinned (OpenSpec.ofChange Rows.fnExactThreadSpec) :=
 OpenClaim.holds_of_wide 5 Try.f5 rfl rfl rfl rfl rfl rfl rfl ⟨rfl, rfl, rfl, rfl, rfl⟩ rfl rfl rfl rfl rfl (by kernel_rfl) Try.func5 (by kernel_rfl)
  (of_decide_eq_true (by kernel_rfl)) (by unfold Func.isWrapper; first | (rw [if_pos (by decide +kernel)]; kernel_rfl) | (rw [if_neg (by decide +kernel)]; exact ⟨rfl, rfl⟩))
  (fun os started H enc _ => lifted os started H enc)
theorem proved : Rows.FnExactThreadSaid := over
#print axioms proved
end Go.Proofs.Ytmmpiojekgfdjaa.fnExactThread
namespace Go.Proofs.Ytmmpiojekgfdjaa
theorem fnExactThread_holds : Rows.FnExactThreadSaid := fnExactThread.proved
end Go.Proofs.Ytmmpiojekgfdjaa
