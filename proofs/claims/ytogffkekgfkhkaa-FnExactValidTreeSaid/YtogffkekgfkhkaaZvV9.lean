/- impl.ValidTree. -/
import Derived.Test.YtogffkekgfkhkaaZvV8
import Derived.Test.YtogffkekgfkhkaaZvVK
import Derived.Test.YtogffkekgfkhkaaZvK
namespace Go.Proofs.Ytogffkekgfkhkaa.C
open Go.RowKit Go.Proofs.YtogffkekgfkhkaaW.PrintWords Go.Proofs.YtogffkekgfkhkaaW.PrintLast Go.Proofs.YtogffkekgfkhkaaW.PrintMore
set_option linter.unusedVariables false
set_option linter.unusedSimpArgs false
def validB (l : List NV) : Bool := match treeOK l with
  | none => false
  | some t => brkT false t
def impl_ValidTree.f (l : List S34) : Option Bool := some (validB l)
set_option maxHeartbeats 4000000 in
theorem valid_in (gk : GKC) (A : Option Addr) (c : Nat) (l : List NV) (w : World) (hm : MaxLenCell w) (hC : Kd.C k34 w A l.length l) (hc : l.length ≤ c) :
    Calls Try.prog 7 #[.slice A l.length c] w fun e w' => e = .returned (.bool (validB l)) ∧ Below w.heap.size w w' := by
  have H := (validTree_calls gk A c l w hm hC hc).mono (R' := fun e w' => ∃ v, e = .returned (.tuple #[v, .bool (validB l)]) ∧ Below w.heap.size w w') (fun e w' ⟨h, hb⟩ => by
    unfold ValidR at h
    unfold validB
    cases ht : treeOK l with
    | none => rw [ht] at h; exact ⟨_, h, hb⟩
    | some t => rw [ht] at h; obtain ⟨b, he, _⟩ := h; exact ⟨_, he, hb⟩)
  have HH := Aside0.mk H
  clear H hC hm
  go_enter Try.func7, Try.ntmps7
  go_wp2_with (go_at_call 13; refine HH.out.mono ?_; rintro e w1 ⟨v, rfl, hb1⟩; have HB := Aside0.mk hb1; clear hb1)
  go_ret
  exact ⟨rfl, HB.out⟩
theorem impl_ValidTree.calls (A0 : Option Addr) (c0 : Nat) (l0 : List S34) (r : Bool) (w : World) (hWP : MaxLenCell w) (hr0 : Kd.C k34 w A0 l0.length l0) (hc0 : l0.length ≤ c0) (h : impl_ValidTree.f l0 = some r) :
    Calls Try.prog 7 #[.slice A0 l0.length c0] w fun e w' => e = .returned (.bool r) ∧ Below w.heap.size w w' := by
  cases h
  exact valid_in goodKids_calls A0 c0 l0 w hWP hr0 hc0
end Go.Proofs.Ytogffkekgfkhkaa.C
