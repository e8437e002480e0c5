/- impl.goodKids. -/
import Derived.Test.YtogffkekgfkhkaaZvVKa
import Derived.Test.YtogffkekgfkhkaaZvVKb
import Derived.Test.YtogffkekgfkhkaaZvVKc
import Derived.Test.YtogffkekgfkhkaaZvVKd
import Derived.Test.YtogffkekgfkhkaaZvVKe
import Derived.Test.YtogffkekgfkhkaaZvVKf
import Derived.Test.YtogffkekgfkhkaaZvVKg
import Derived.Test.YtogffkekgfkhkaaZvV8
import Derived.Test.YtogffkekgfkhkaaZvK
namespace Go.Proofs.Ytogffkekgfkhkaa.C
open Go.RowKit Go.Proofs.YtogffkekgfkhkaaW.PrintWords Go.Proofs.YtogffkekgfkhkaaW.PrintLast Go.Proofs.YtogffkekgfkhkaaW.PrintMore
set_option linter.unusedVariables false
set_option linter.unusedSimpArgs false
theorem goodKids_calls : GKC := by
  intro d hd b h k w hn h0 h26
  rcases (show h.f0 = 0 ∨ h.f0 = 1 ∨ h.f0 = 2 ∨ h.f0 = 3 ∨ h.f0 = 4 ∨ h.f0 = 5 ∨ h.f0 = 6 ∨ h.f0 = 7 ∨ h.f0 = 8 ∨ h.f0 = 9 ∨ h.f0 = 10 ∨ h.f0 = 11 ∨ h.f0 = 12 ∨ h.f0 = 13 ∨ h.f0 = 14 ∨ h.f0 = 15 ∨ h.f0 = 16 ∨ h.f0 = 17 ∨ h.f0 = 18 ∨ h.f0 = 19 ∨ h.f0 = 20 ∨ h.f0 = 21 ∨ h.f0 = 22 ∨ h.f0 = 23 ∨ h.f0 = 24 ∨ h.f0 = 25 ∨ h.f0 = 26 by omega) with e | e | e | e | e | e | e | e | e | e | e | e | e | e | e | e | e | e | e | e | e | e | e | e | e | e | e
  · rw [e]
    exact goodKids_0 hd b h k w hn e
  · rw [e]
    by_cases c : k.trees.length ≤ 50
    · exact goodKids_1t hd b h k w hn e c
    · exact goodKids_1f hd b h k w hn e c
  · rw [e]
    by_cases c : h.f1 < 1
    · exact goodKids_2a hd b h k w hn e c
    by_cases c2 : 50 < h.f1
    · exact goodKids_2b hd b h k w hn e c c2
    by_cases c3 : (k.trees.length : Int) ≤ h.f1
    · exact goodKids_2c hd b h k w hn e c c2 c3
    by_cases c4 : h.f1 + 50 < (k.trees.length : Int)
    · exact goodKids_2d hd b h k w hn e c c2 c3 c4
    cases hr : ((k.trees.take h.f1.toNat).all fun t => isK [16, 17] t.1.f0) with
    | true => exact goodKids_2gt hd b h k w hn e c c2 c3 c4 hr
    | false => exact goodKids_2gf hd b h k w hn e c c2 c3 c4 hr
  · rw [e]
    exact goodKids_3 hd b h k w hn e
  · rw [e]
    exact goodKids_4 hd b h k w hn e
  · rw [e]
    exact goodKids_5 hd b h k w hn e
  · rw [e]
    cases h2 : decide (2 ≤ k.trees.length) with
    | true => exact goodKids_6t hd b h k w hn e h2
    | false => exact goodKids_6f hd b h k w hn e h2
  · rw [e]
    cases he : areB [isExprB, isExprB, isK [0]] k.trees with
    | true => exact goodKids_7t hd b h k w hn e he
    | false => exact goodKids_7f hd b h k w hn e he
  · rw [e]
    exact goodKids_8 hd b h k w hn e
  · rw [e]
    by_cases c : k.trees.length ≤ 50
    · exact goodKids_9t hd b h k w hn e c
    · exact goodKids_9f hd b h k w hn e c
  · rw [e]
    exact goodKids_10 hd b h k w hn e
  · rw [e]
    exact goodKids_11 hd b h k w hn e
  · rw [e]
    exact goodKids_12 hd b h k w hn e
  · rw [e]
    exact goodKids_13 hd b h k w hn e
  · rw [e]
    exact goodKids_14 hd b h k w hn e
  · rw [e]
    exact goodKids_15 hd b h k w hn e
  · rw [e]
    exact goodKids_16 hd b h k w hn e
  · rw [e]
    exact goodKids_17 hd b h k w hn e
  · rw [e]
    by_cases c : 1 ≤ k.trees.length
    · by_cases c2 : k.trees.length ≤ 51
      · exact goodKids_18t hd b h k w hn e c c2
      · exact goodKids_18u hd b h k w hn e c2 c
    · exact goodKids_18f hd b h k w hn e c
  · rw [e]
    exact goodKids_19 hd b h k w hn e
  · rw [e]
    by_cases c : k.trees.length % 2 = 0
    · exact goodKids_20t hd b h k w hn e c
    · exact goodKids_20f hd b h k w hn e c
  · rw [e]
    exact goodKids_21 hd b h k w hn e
  · rw [e]
    exact goodKids_22 hd b h k w hn e
  · rw [e]
    exact goodKids_23 hd b h k w hn e
  · rw [e]
    exact goodKids_24 hd b h k w hn e
  · rw [e]
    exact goodKids_25 hd b h k w hn e
  · rw [e]
    exact goodKids_26 hd b h k w hn e
end Go.Proofs.Ytogffkekgfkhkaa.C
