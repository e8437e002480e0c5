/- The law FnExactValidTree of the program answers true whatever the input, and its arguments read behind the call as they read before. No condition. -/
import Derived.Test.YtogffkekgfkhkaaRows
import Derived.Test.YtogffkekgfkhkaaZvCx9
import Derived.Test.YtogffkekgfkhkaaZvPureFnExactValidTree
import Derived.Test.YtogffkekgfkhkaaZvOp
import Derived.WalkKit
import Derived.ProofKit
import Derived.OpenShut
import Derived.ShutString
import Derived.ChangeOld
import Derived.Below
import Derived.SizedLaws
import Derived.HandedShaped
import Derived.Test.YtogffkekgfkhkaaZvShelf
import Derived.Test.YtogffkekgfkhkaaZvK
namespace Go.Proofs.Ytogffkekgfkhkaa.fnExactValidTree
open Go.ChangeShapes Go.WideShapes Go.ChangeAt Go.RowKit Go.Proofs.YtogffkekgfkhkaaW.PrintWords Go.Proofs.YtogffkekgfkhkaaW.Op Go.Proofs.Ytogffkekgfkhkaa.C
open Go.ChangeMaps (open_string shut_string)
set_option linter.unusedVariables false
theorem own : ownKnob Try.prog.godebug = none := by kernel_rfl
theorem laidOut : laidOutB Try.prog = true := by kernel_rfl
set_option maxRecDepth 100000 in
theorem lifted (os : Os) (started : os.Started) (H : Type) (enc : TypeId × Value → H) :
    ReturnsInHanded {} Try.checked os 3 .any (Rows.fnExactValidTreeSpec.pre6 enc Try.prog Try.f3 Rows.fnExactValidTreeRow.domain false) (Rows.fnExactValidTreeSpec.post enc Try.prog Try.f3 false true false false) := by
  refine returnsInHanded_of_change_shaped (C := Try.checked) own started (by kernel_rfl) Try.func3
    (ChangeSpec.witness6 (enc := enc) (C := Try.checked) false ⟨#[], #[.slice none 0 0], []⟩ 8 (by kernel_rfl) (by kernel_rfl) (by kernel_rfl) (by kernel_rfl)) ?_
  intro W base args ds gs before hval0 hW hcnd hsz0 hsh _
  have hval : ∀ (j : Nat) t v, Try.f3.params[j]? = some t → args[j]? = some v → Value.okWide Try.prog W .any base t v := hval0
  have hW' := hW
  obtain ⟨p, q, hA0, hV, rfl, hfz, hnd⟩ := hW
  have hA : DataW.TrodAll enc Try.prog W 0 (fun _ => true) true Try.f3.params.toList args.toList ds p := hA0
  rw [Try.params3] at hA hval
  obtain ⟨v0, vs0, d0, ds0, p0, q0, hargs, rfl, rfl, h0, r0⟩ := trodAll_cons hA
  obtain ⟨rfl, rfl, rfl⟩ := trodAll_nil r0
  obtain rfl : args = #[v0] := by cases args; simp_all
  obtain ⟨rfl, rfl⟩ := trodVars_none hV
  obtain ⟨a0, len0, cap0, rfl⟩ := okWide_slice Try.underlying22 (hval 0 22 v0 rfl rfl)
  have k0 := h0
  have lt0 : ∀ x ∈ p0, x.block < W.heap.size := by obtain ⟨m, hm⟩ := k0; exact DataW.trod_lt m _ _ _ hm
  obtain ⟨fuel0, hf0⟩ := h0
  obtain ⟨l0, ⟨A0, c0, hcs0, hc0, hr0⟩, wf0⟩ := opens_slice Try.underlying22 (by kernel_rfl) open33 hf0
  simp [Value.cells] at hcs0
  obtain ⟨rfl, rfl, rfl⟩ := hcs0
  obtain ⟨k, h⟩ := Pure.FnExactValidTree l0 wf0
  clear hA0 hval0 hsz0
  refine (laws_FnExactValidTree.calls k a0 cap0 l0 true W (Try.laysM144.s1_3 W hsh) hr0 hc0 h).mono fun e W' hpost => ?_
  obtain ⟨rfl, bel⟩ := hpost
  exact ⟨_, rfl, _, _, _, [], _, [], hW', trodAll_mk1 (shut_bool Try.underlying4 _), (trodAll_cons_mk (Below.trod laidOut (by kernel_rfl) (of_decide_eq_true (by kernel_rfl)) k0 bel lt0) trodAll_mk0), rfl, bel.frame _, fun h => by cases h⟩
theorem over : Rows.fnExactValidTreeRow.holds Try.pinned (OpenSpec.ofChange Rows.fnExactValidTreeSpec) :=
  OpenClaim.holds_of_wide 3 Try.f3 rfl rfl rfl rfl rfl rfl rfl ⟨rfl, rfl, rfl, rfl, rfl⟩ rfl rfl rfl rfl rfl (by kernel_rfl) Try.func3 (by kernel_rfl)
    (of_decide_eq_true (by kernel_rfl)) (by unfold Func.isWrapper; first | (rw [if_pos (by decide +kernel)]; kernel_rfl) | (rw [if_neg (by decide +kernel)]; exact ⟨rfl, rfl⟩))
    (fun os started H enc _ => lifted os started H enc)
theorem proved : Rows.FnExactValidTreeSaid := over
#print axioms proved
end Go.Proofs.Ytogffkekgfkhkaa.fnExactValidTree
namespace Go.Proofs.Ytogffkekgfkhkaa
/-- The row, under a short name, for the claim. -/
theorem fnExactValidTree_holds : Rows.FnExactValidTreeSaid := fnExactValidTree.proved
end Go.Proofs.Ytogffkekgfkhkaa
