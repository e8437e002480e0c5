/- FnExactValidTree: the statement over lists and numbers. -/
import Derived.Test.YtogffkekgfkhkaaZvSayFnExactValidTree
import Derived.Test.YtogffkekgfkhkaaZvVPg
import Derived.Test.YtogffkekgfkhkaaZvK
namespace Go.Proofs.Ytogffkekgfkhkaa.Pure
open Go.RowKit Go.Proofs.Ytogffkekgfkhkaa.C Go.Proofs.YtogffkekgfkhkaaW.PrintWords Go.Proofs.YtogffkekgfkhkaaW.PrintLast
theorem FnExactValidTree : laws_FnExactValidTree.Pure := by
  intro l0 h
  have main : Ev (fun k => laws_FnExactValidTree.f k l0) true := by
    obtain ⟨t, e1, ht⟩ := szNodeS_ev l0 h.1 (fun x hx => (h.2 x hx).2.2.1.1) (fun x hx => (h.2 x hx).2.2.2.1.1) (fun x hx s hs => ((h.2 x hx).2.2.2.1.2 s hs).1)
    refine Ev.bind (f := fun k t211 => (if t211 < 0 then (some true) else ((laws_toNodeS.f k l0).bind fun t212 => ((spec_ValidTree.f k t212).bind fun t215 => ((laws_toNodeS.f k l0).bind fun t216 => ((impl_ValidTree.f t216).bind fun t219 => (if (t219 != t215) = true then (some false) else ((laws_toNodeS.f k l0).bind fun t220 => ((laws_eqNodeS.f k t216 t220).bind fun t223 => (if t223 = true then (some true) else (some false))))))))))) e1 ?_
    by_cases c : t < 0
    · exact Ev.congr (fun k => if_pos c) (Ev.now _)
    have hs : sizeN l0 ≤ 1048576 := by rcases ht with ht | ht; exact absurd ht c; exact ht
    have hl : l0.length ≤ 1048576 := by unfold sizeN at hs; omega
    have sm := small_of l0 hs
    have hm : ∀ y ∈ l0.map cN, y.f2.length ≤ 1048576 ∧ y.f3.length ≤ 1048576 ∧ ∀ s ∈ y.f3, s.length ≤ 1048576 := fun y hy => by
      obtain ⟨x, hx, rfl⟩ := List.mem_map.1 hy
      exact ⟨(sm x hx).t, (sm x hx).n, (sm x hx).s⟩
    have e2 := toNodeS_ev l0 hl sm
    have e3 := validTree_ev (l0.map cN) (fun y hy => (hm y hy).2.1)
    have e4 := eqNodeS_ev (l0.map cN) (by rw [List.length_map]; exact hl) hm
    refine Ev.congr (fun k => if_neg c) ?_
    refine Ev.bind (f := fun k t212 => ((spec_ValidTree.f k t212).bind fun t215 => ((laws_toNodeS.f k l0).bind fun t216 => ((impl_ValidTree.f t216).bind fun t219 => (if (t219 != t215) = true then (some false) else ((laws_toNodeS.f k l0).bind fun t220 => ((laws_eqNodeS.f k t216 t220).bind fun t223 => (if t223 = true then (some true) else (some false))))))))) e2 ?_
    refine Ev.bind (f := fun k t215 => ((laws_toNodeS.f k l0).bind fun t216 => ((impl_ValidTree.f t216).bind fun t219 => (if (t219 != t215) = true then (some false) else ((laws_toNodeS.f k l0).bind fun t220 => ((laws_eqNodeS.f k t216 t220).bind fun t223 => (if t223 = true then (some true) else (some false)))))))) e3 ?_
    refine Ev.bind (f := fun k t216 => ((impl_ValidTree.f t216).bind fun t219 => (if (t219 != validB (l0.map cN)) = true then (some false) else ((laws_toNodeS.f k l0).bind fun t220 => ((laws_eqNodeS.f k t216 t220).bind fun t223 => (if t223 = true then (some true) else (some false))))))) e2 ?_
    refine Ev.congr (f := fun k => ((laws_toNodeS.f k l0).bind fun t220 => ((laws_eqNodeS.f k (l0.map cN) t220).bind fun t223 => (if t223 = true then (some true) else (some false))))) (fun k => ?_) ?_
    · show (if (validB (l0.map cN) != validB (l0.map cN)) = true then (some false) else _) = _
      rw [if_neg (by simp)]
    refine Ev.bind (f := fun k t220 => ((laws_eqNodeS.f k (l0.map cN) t220).bind fun t223 => (if t223 = true then (some true) else (some false)))) e2 ?_
    refine Ev.bind (f := fun _ t223 => (if t223 = true then (some true) else (some false))) e4 ?_
    exact Ev.now _
  obtain ⟨k, hk⟩ := main
  exact ⟨k, hk k (Nat.le_refl _)⟩
end Go.Proofs.Ytogffkekgfkhkaa.Pure
