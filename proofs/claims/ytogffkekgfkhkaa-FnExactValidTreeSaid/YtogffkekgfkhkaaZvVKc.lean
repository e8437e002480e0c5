/- Kinds of nodes. -/
import Derived.Test.YtogffkekgfkhkaaZvV3
import Derived.Test.YtogffkekgfkhkaaZvK
namespace Go.Proofs.Ytogffkekgfkhkaa.C
open Go.RowKit Go.Proofs.YtogffkekgfkhkaaW.PrintWords Go.Proofs.YtogffkekgfkhkaaW.PrintLast Go.Proofs.YtogffkekgfkhkaaW.PrintMore
set_option linter.unusedVariables false
set_option linter.unusedSimpArgs false
set_option maxHeartbeats 4000000 in
set_option maxRecDepth 100000 in
theorem goodKids_0 {d : Kd NV} (hd : NKd d) (b : Nat) (h : NV) (k : Fo) (w : World) (hn : NodeAt d w b h k) (hk : h.f0 = 0) :
    Calls Try.prog 26 #[nv b] w fun e w' => e = .returned (.bool (blockB k.trees)) ∧ Below w.heap.size w w' := by
  have h0 := hn.c0
  rw [hk] at h0
  obtain ⟨A, c, h5, hl, hC⟩ := hn.kids
  have HC := Aside0.mk hC
  have HN := Aside0.mk hn
  have HK := Aside0.mk hk
  have HLen := Aside0.mk hC.2.1
  have hmh := method_head
  have hmk := method_kids
  clear hC hn hk hl
  go_enter Try.func26, Try.ntmps26
  go_wp2_with (first | (go_at_call 81; refine (head_calls b _ _ h0).mono ?_; rintro e w1 ⟨rfl, rfl⟩) | (go_at_call 82; refine (kids_calls b _ _ h5).mono ?_; rintro e w1 ⟨rfl, rfl⟩))
  refine (isKind_calls (some ⟨w.heap.size + 1, 0, none⟩) 1 [0] _ (by exact ints_new _ [0] 3 (by decide) _ (by simp))).mono ?_
  rintro e w1 ⟨B2, rfl, hq, hb1⟩
  have HG := Aside0.mk (GK.mk' HN.out HC.out hb1 hq)
  clear hq hb1 h0 h5
  have g0 := HG.out.n.c0
  rw [HK.out] at g0
  have g1 := HG.out.x
  obtain ⟨ts, hts⟩ : ∃ x, x = k.trees := ⟨_, rfl⟩
  have HTS := Aside0.mk hts
  have HD := Aside0.mk hd
  rw [← hts] at HLen HC g1 ⊢
  clear hts hd
  go_wp2
  clear g0 g1
  have hlw : wrap64 (((ts.length : Nat) : Int) - 1) = ((ts.length : Nat) : Int) - 1 := by have := HLen.out; unfold wrap64; omega
  go_loopg [28, 8, 9] ts.length (fun g v28 v8 v9 wr => ∃ (j : Nat), v28 = .int .i64 (j : Int) ∧ Aside0 (j + g = ts.length) ∧ Aside0 (blockB (ts.drop j) = blockB ts) ∧ Aside0 (GK d w wr b h k A c B2))
  case atStart => exact ⟨0, rfl, ⟨by omega⟩, ⟨by simp⟩, HG⟩
  case round =>
    clear HG
    obtain ⟨j, rfl, hj, hi, HG⟩ := hrel
    by_cases hlt : j < ts.length
    · obtain ⟨ad, b1, e, hx0, hN⟩ := kn_at HD.out HG.out.C j (by rw [← HTS.out]; exact hlt)
      cases e
      obtain ⟨t, ht⟩ : ∃ t, t = ts[j] := ⟨_, rfl⟩
      have hte : k.trees[j]'(by rw [← HTS.out]; exact hlt) = t := by rw [ht]; congr 1; exact HTS.out.symm
      rw [hte] at hN
      have hc0 := hN.c0
      have HNN := Aside0.mk hN
      have HI : Aside0 ((isStatB t.1.f0 && ((ts.drop (j + 1)).isEmpty || !isK [9, 8] t.1.f0) && blockB (ts.drop (j + 1))) = blockB ts) := ⟨by have := hi.out; rw [List.drop_eq_getElem_cons hlt, ← ht] at this; exact this⟩
      have hemp : (ts.drop (j + 1)).isEmpty = decide (ts.length ≤ j + 1) := by rw [Bool.eq_iff_iff, List.isEmpty_iff, List.drop_eq_nil_iff, decide_eq_true_eq]
      rw [hemp] at HI
      have hxx := HG.out.x
      rw [← HTS.out] at hxx
      clear ht hte hi hN hemp
      have p0 : (0 ≤ (j : Int)) = True := eq_true (by omega)
      have q0 : ((j : Int) < (ts.length : Int)) = True := eq_true (by omega)
      have hdl : decide ((j : Int) < (ts.length : Int)) = true := decide_eq_true (by omega)
      have hdn : decide (j < ts.length) = true := decide_eq_true hlt
      have HL := Aside0.mk hlt
      cases hs : isStatB t.1.f0 with
      | false =>
        have HJ : Aside0 (false = blockB ts) := ⟨by rw [← HI.out, hs]; rfl⟩
        have HS := Aside0.mk ((isStat_calls b1 wr _ hc0).mono (R' := fun e w' => e = .returned (.bool false) ∧ wr = w') (fun e w' ⟨h1, h2⟩ => ⟨by rw [h1, hs], h2⟩))
        clear HI hs hlt
        go_wp2_with (go_at_call 43; refine HS.out.mono ?_; rintro e w1 ⟨rfl, rfl⟩)
        go_ret
        exact ⟨ret_bool (HJ.out.trans (congrArg blockB HTS.out)), HG.out.B⟩
      | true =>
        have HS := Aside0.mk ((isStat_calls b1 wr _ hc0).mono (R' := fun e w' => e = .returned (.bool true) ∧ wr = w') (fun e w' ⟨h1, h2⟩ => ⟨by rw [h1, hs], h2⟩))
        by_cases hla : ts.length ≤ j + 1
        · have hdm : decide ((j : Int) < ((ts.length : Nat) : Int) - 1) = false := decide_eq_false (by omega)
          have HJ : Aside0 (blockB (ts.drop (j + 1)) = blockB ts) := ⟨by rw [← HI.out, hs, decide_eq_true hla]; rfl⟩
          clear HI hs hlt hla
          go_wp2_with (go_at_call 43; refine HS.out.mono ?_; rintro e w1 ⟨rfl, rfl⟩)
          go_roundg (ts.length - (j + 1))
          case measure => have := hj.out; have := HL.out; omega
          case rel => exact ⟨j + 1, i64_next HL.out HLen.out, ⟨by have := HL.out; omega⟩, HJ, HG⟩
        · have hdm : decide ((j : Int) < ((ts.length : Nat) : Int) - 1) = true := decide_eq_true (by omega)
          cases hk9 : isK [9, 8] t.1.f0 with
          | true =>
            have HJ : Aside0 (false = blockB ts) := ⟨by rw [← HI.out, hs, decide_eq_false hla, hk9]; rfl⟩
            have HK9 := Aside0.mk hk9
            clear HI hs hlt hla hk9
            go_wp2_with (first | (go_at_call 43; refine HS.out.mono ?_; rintro e w1 ⟨rfl, rfl⟩) | (go_at_call 42; refine (isKind_calls (some ⟨wr.heap.size, 0, none⟩) 2 [9, 8] _ (by exact ints_new _ [9, 8] 3 (by decide) _ rfl)).mono ?_; rintro e w3 ⟨B3, rfl, hq3, hb3⟩; have HG3 := Aside0.mk (HG.out.below (below_step (below_alloc (Below.refl _ _) _) hb3)); have HC3 := Aside0.mk (isKind1_calls B3 b1 [9, 8] _ w3 hq3 (HNN.out.below (below_step (below_alloc (Below.refl _ _) _) hb3)).c0); clear hq3 hb3) | (go_at_call 52; refine (HC3.out.mono (R' := fun e w' => e = .returned (.bool true) ∧ Below w3.heap.size w3 w') (fun e w' ⟨h1, h2⟩ => ⟨by rw [h1]; exact congrArg (fun x => Ending.returned (.bool x)) HK9.out, h2⟩)).mono ?_; rintro e w4 ⟨rfl, hb4⟩; have HG4 := Aside0.mk (HG3.out.below hb4); clear hb4))
            go_ret
            exact ⟨ret_bool (HJ.out.trans (congrArg blockB HTS.out)), HG4.out.B⟩
          | false =>
            have HJ : Aside0 (blockB (ts.drop (j + 1)) = blockB ts) := ⟨by rw [← HI.out, hs, decide_eq_false hla, hk9]; rfl⟩
            have HK9 := Aside0.mk hk9
            clear HI hs hlt hla hk9
            go_wp2_with (first | (go_at_call 43; refine HS.out.mono ?_; rintro e w1 ⟨rfl, rfl⟩) | (go_at_call 42; refine (isKind_calls (some ⟨wr.heap.size, 0, none⟩) 2 [9, 8] _ (by exact ints_new _ [9, 8] 3 (by decide) _ rfl)).mono ?_; rintro e w3 ⟨B3, rfl, hq3, hb3⟩; have HG3 := Aside0.mk (HG.out.below (below_step (below_alloc (Below.refl _ _) _) hb3)); have HC3 := Aside0.mk (isKind1_calls B3 b1 [9, 8] _ w3 hq3 (HNN.out.below (below_step (below_alloc (Below.refl _ _) _) hb3)).c0); clear hq3 hb3) | (go_at_call 52; refine (HC3.out.mono (R' := fun e w' => e = .returned (.bool false) ∧ Below w3.heap.size w3 w') (fun e w' ⟨h1, h2⟩ => ⟨by rw [h1]; exact congrArg (fun x => Ending.returned (.bool x)) HK9.out, h2⟩)).mono ?_; rintro e w4 ⟨rfl, hb4⟩; have HG4 := Aside0.mk (HG3.out.below hb4); clear hb4))
            go_roundg (ts.length - (j + 1))
            case measure => have := hj.out; have := HL.out; omega
            case rel => exact ⟨j + 1, i64_next HL.out HLen.out, ⟨by have := HL.out; omega⟩, HJ, HG4⟩
    · have e0 : (ts.drop j) = [] := List.drop_eq_nil_of_le (by omega)
      have HJ : Aside0 (true = blockB ts) := ⟨by rw [← hi.out, e0]; rfl⟩
      have hdl : decide ((j : Int) < (ts.length : Int)) = false := decide_eq_false (by omega)
      have hdn : decide (j < ts.length) = false := decide_eq_false hlt
      clear e0 hi hlt
      go_wp2
      go_ret
      exact ⟨ret_bool (HJ.out.trans (congrArg blockB HTS.out)), HG.out.B⟩
end Go.Proofs.Ytogffkekgfkhkaa.C
