/- Kinds of nodes. -/
import Derived.Test.YtogffkekgfkhkaaZvVKe
import Derived.Deep.RegionHeld
import Derived.Test.YtogffkekgfkhkaaZvK
namespace Go.Proofs.Ytogffkekgfkhkaa.C
open Go.RowKit Go.Proofs.YtogffkekgfkhkaaW.PrintWords Go.Proofs.YtogffkekgfkhkaaW.PrintLast Go.Proofs.YtogffkekgfkhkaaW.PrintMore
set_option linter.unusedVariables false
set_option linter.unusedSimpArgs false
set_option maxHeartbeats 40000000 in
set_option maxRecDepth 100000 in
theorem goodKids_2gf {d : Kd NV} (hd : NKd d) (b : Nat) (h : NV) (k : Fo) (w : World) (hn : NodeAt d w b h k) (hk : h.f0 = 2) (hc : ¬ h.f1 < 1) (hc2 : ¬ 50 < h.f1) (hc3 : ¬ (k.trees.length : Int) ≤ h.f1) (hc4 : ¬ h.f1 + 50 < (k.trees.length : Int)) (hr : ((k.trees.take h.f1.toNat).all fun t => isK [16, 17] t.1.f0) = false) :
    Calls Try.prog 26 #[nv b] w fun e w' => e = .returned (.bool (asgB h.f1 k.trees)) ∧ Below w.heap.size w w' := by
  have he : asgB h.f1 k.trees = (((k.trees.take h.f1.toNat).all fun t => isK [16, 17] t.1.f0) && ((k.trees.drop h.f1.toNat).all fun t => isExprB t.1.f0)) := by simp [asgB, hc, hc2, hc3, hc4]
  have hl0 := hn.kids
  obtain ⟨A, c, h5, hl, hC⟩ := hl0
  have s1 := run_head A k.trees.length c h.f1 (by omega) (by omega) hl
  have s2 := run_tail A k.trees.length c h.f1 (by omega) (by omega) hl
  have e1 : (k.trees.take h.f1.toNat).length = h.f1.toNat := by rw [List.length_take]; omega
  have e2 : (k.trees.drop h.f1.toNat).length = k.trees.length - h.f1.toNat := List.length_drop
  have c1 : ∀ W, (kn d).C W A k.trees.length k.trees → (kn d).C W A (k.trees.take h.f1.toNat).length (k.trees.take h.f1.toNat) := fun W hh => Kd.C_take hh (by omega)
  have c2 : ∀ W, (kn d).C W A k.trees.length k.trees → (kn d).C W (if c = h.f1.toNat then A else A.map (·.add (h.f1.toNat * 1))) (k.trees.drop h.f1.toNat).length (k.trees.drop h.f1.toNat) := fun W hh => Kd.C_drop hh (by omega) hl
  rw [← e1] at s1
  rw [← e2] at s2
  obtain ⟨c', hc'⟩ : ∃ x, x = c - h.f1.toNat := ⟨_, rfl⟩
  obtain ⟨A', hA'⟩ : ∃ x, x = (if c = h.f1.toNat then A else A.map (·.add (h.f1.toNat * 1))) := ⟨_, rfl⟩
  rw [← hA'] at s2 c2
  rw [← hc'] at s2
  clear hA' hc' e1 e2
  rw [he, hr]
  obtain ⟨t1, ht1⟩ : ∃ x, x = k.trees.take h.f1.toNat := ⟨_, rfl⟩
  obtain ⟨t2, ht2⟩ : ∃ x, x = k.trees.drop h.f1.toNat := ⟨_, rfl⟩
  rw [← ht1] at s1 hr c1
  rw [← ht2] at s2 c2 ⊢
  have HC1 := Aside0.mk c1
  have HC2 := Aside0.mk c2
  have HR := Aside0.mk hr
  rw [Bool.false_and]
  clear he ht1 ht2 c1 c2 hr
  have h0 := hn.c0
  rw [hk] at h0
  have HC := Aside0.mk hC
  have HN := Aside0.mk hn
  have HK := Aside0.mk hk
  have HLen := Aside0.mk hC.2.1
  have hmh := method_head
  have hmk := method_kids
  have d1 : decide (h.f1 < 1) = false := decide_eq_false hc
  have d2 : decide (50 < h.f1) = false := decide_eq_false hc2
  have d3 : decide (((k.trees.length : Nat) : Int) ≤ h.f1) = false := decide_eq_false hc3
  have hw : wrap64 (h.f1 + 50) = h.f1 + 50 := by unfold wrap64; omega
  have d4 : decide (h.f1 + 50 < ((k.trees.length : Nat) : Int)) = false := decide_eq_false hc4
  clear hC hn hk hl hc hc2 hc3 hc4
  go_enter Try.func26, Try.ntmps26
  go_wp2_with (first | (go_at_call 81; refine (head_calls b _ _ h0).mono ?_; rintro e w1 ⟨rfl, rfl⟩) | (go_at_call 82; refine (kids_calls b _ _ h5).mono ?_; rintro e w1 ⟨rfl, rfl⟩))
  refine (isKind_calls (some ⟨w.heap.size + 1, 0, none⟩) 1 [0] _ (by exact ints_new _ [0] 3 (by decide) _ (by simp))).mono ?_
  rintro e w1 ⟨B2, rfl, hq, hb1⟩
  have HG := Aside0.mk (GK.mk' HN.out HC.out hb1 hq)
  clear hq hb1 h0 h5
  have g0 := HG.out.n.c0
  rw [HK.out] at g0
  have g1 := HG.out.x
  have gN := HG.out.n.c1
  go_wp2
  go_quiet (fail)
  obtain ⟨W1, hW1⟩ : ∃ W, W = w1.drewN nq := ⟨_, rfl⟩
  rw [← hW1]
  have HG1 : Aside0 (GK d w W1 b h k A c B2) := ⟨by rw [hW1]; exact HG.out.below (below_drewN (Below.refl _ _) _)⟩
  clear hW1 HG g0 g1 gN
  have g1 := HG1.out.x
  have gN := HG1.out.n.c1
  go_wp2_with fail
  refine wp_region_held_drew (S := (fun w' => w'.cell? ⟨w.heap.size, 0, none⟩ = some (.slice A k.trees.length c) ∧ w'.cell? ⟨b, 1, none⟩ = some (.int .i64 h.f1))) (by kernel_rfl) ?_ (fun hHeld => ?_)
  · go_keep
  refine wpAnyH_take (i := 0) (v := ?v0) rfl (by kernel_rfl) (by kernel_rfl) (by kernel_rfl) (fun _ _ _ h => h) (Or.inl ⟨by rfl, ?hy0⟩) (by assumption) ?rest0
  case hy0 => (intro w hSw; (try dsimp only at hSw); go_simp <;> with_reducible rfl)
  show wpAnyH _ _ _ _ _ _ _ (Act.put _ (some 94) _) _
  simp only [Act.put, List.setIfInBounds_toArray, List.set_cons_zero, List.set_cons_succ]
  refine wpAnyH_take (i := 1) (v := ?v1) rfl (by kernel_rfl) (by kernel_rfl) (by kernel_rfl) (fun _ _ _ h => h) (Or.inl ⟨by rfl, ?hy1⟩) (by assumption) ?rest1
  case hy1 => (intro w hSw; (try dsimp only at hSw); go_simp <;> with_reducible rfl)
  show wpAnyH _ _ _ _ _ _ _ (Act.put _ (some 95) _) _
  simp only [Act.put, List.setIfInBounds_toArray, List.set_cons_zero, List.set_cons_succ]
  refine wpAnyH_take (i := 2) (v := ?v2) rfl (by kernel_rfl) (by kernel_rfl) (by kernel_rfl) (fun _ _ _ h => h) (Or.inl ⟨by rfl, ?hy2⟩) (by assumption) ?rest2
  case hy2 => (intro w hSw; (try dsimp only at hSw); go_simp <;> with_reducible rfl)
  show wpAnyH _ _ _ _ _ _ _ (Act.put _ (some 96) _) _
  simp only [Act.put, List.setIfInBounds_toArray, List.set_cons_zero, List.set_cons_succ]
  refine wpAnyH_take (i := 3) (v := ?v3) rfl (by kernel_rfl) (by kernel_rfl) (by kernel_rfl) (fun _ _ _ h => h) (Or.inl ⟨by rfl, ?hy3⟩) (by assumption) ?rest3
  case hy3 => (intro w hSw; (try dsimp only at hSw); go_simp <;> with_reducible rfl)
  show wpAnyH _ _ _ _ _ _ _ (Act.put _ (some 97) _) _
  simp only [Act.put, List.setIfInBounds_toArray, List.set_cons_zero, List.set_cons_succ]
  refine wpAnyH_take (i := 4) (v := ?v4) rfl (by kernel_rfl) (by kernel_rfl) (by kernel_rfl) (fun _ _ _ h => h) (Or.inl ⟨by rfl, ?hy4⟩) (by assumption) ?rest4
  case hy4 => (intro w hSw; (try dsimp only at hSw); go_simp <;> with_reducible rfl)
  show wpAnyH _ _ _ _ _ _ _ (Act.put _ (some 98) _) _
  simp only [Act.put, List.setIfInBounds_toArray, List.set_cons_zero, List.set_cons_succ]
  refine wpAnyH_take (i := 5) (v := ?v5) rfl (by kernel_rfl) (by kernel_rfl) (by kernel_rfl) (fun _ _ _ h => h) (Or.inl ⟨by rfl, ?hy5⟩) (by assumption) ?rest5
  case hy5 => (intro w hSw; (try dsimp only at hSw); go_simp <;> with_reducible rfl)
  show wpAnyH _ _ _ _ _ _ _ (Act.put _ (some 99) _) _
  simp only [Act.put, List.setIfInBounds_toArray, List.set_cons_zero, List.set_cons_succ]
  refine wpAnyH_take (i := 6) (v := ?v6) rfl (by kernel_rfl) (by kernel_rfl) (by kernel_rfl) (fun _ _ _ h => h) (Or.inl ⟨by rfl, ?hy6⟩) (by assumption) ?rest6
  case hy6 => (intro w hSw; (try dsimp only at hSw); go_simp <;> with_reducible rfl)
  show wpAnyH _ _ _ _ _ _ _ (Act.put _ (some 100) _) _
  simp only [Act.put, List.setIfInBounds_toArray, List.set_cons_zero, List.set_cons_succ]
  refine wpAnyH_ready (rs := [7]) (by kernel_rfl) (by simp) ?_
  refine AllReadyH.cons rfl (fun K hK => ?_) AllReadyH.nil
  go_simp
  refine hK.out _ _ ?_ (fun hHeld => ?_)
  · go_keep
  clear hK K
  refine wpAnyH_ready (rs := [8]) (by kernel_rfl) (by simp) ?_
  refine AllReadyH.cons rfl (fun K hK => ?_) AllReadyH.nil
  go_simp
  go_wp2_with (go_at_call 42; refine (isKind_calls (some ⟨W1.heap.size, 0, none⟩) 2 [16, 17] _ (by first | exact ints_new _ [16, 17] 3 (by decide) _ (by simp) | exact Kd.C_drew (ints_new _ [16, 17] 3 (by decide) _ (by simp)))).mono ?_; rintro e w3 ⟨B3, rfl, hq3, hb3⟩; have HG3 := Aside0.mk (HG1.out.below (below_step (by repeat (first | (with_reducible first | exact Below.refl _ _ | apply below_alloc | apply pw_below_drewN | apply below_drew1) | exact Below.refl _ _)) hb3)); have HQ3 := Aside0.mk hq3; clear hq3 hb3; have g31 := HG3.out.x; have g3N := HG3.out.n.c1)
  refine hK.out _ _ ?_ (fun hHeld => ?_)
  · exact ⟨g31, g3N⟩
  clear hK K
  refine wpAnyH_ready (rs := [9]) (by kernel_rfl) (by simp) ?_
  refine AllReadyH.cons rfl (fun K hK => ?_) AllReadyH.nil
  go_simp
  go_wp2_with (go_at_call 39; (with_reducible refine (everyK hd B3 [16, 17] A c t1 _ _ HR.out (HC1.out _ HG3.out.C) HQ3.out).mono ?_); rintro e w4 ⟨rfl, hb4⟩; have HG4 := Aside0.mk (HG3.out.below hb4); clear hb4; have g41 := HG4.out.x; have g4N := HG4.out.n.c1)
  refine hK.out _ _ ?_ (fun hHeld => ?_)
  · exact ⟨g41, g4N⟩
  clear hK K
  refine wpAnyH_take (i := 10) (v := ?v10) rfl (by kernel_rfl) (by kernel_rfl) (by kernel_rfl) (fun _ _ _ h => h) (Or.inl ⟨by rfl, ?hy10⟩) (by assumption) ?rest10
  case hy10 => (intro w hSw; (try dsimp only at hSw); go_simp <;> with_reducible rfl)
  show wpAnyH _ _ _ _ _ _ _ (Act.put _ (some 104) _) _
  simp only [Act.put, List.setIfInBounds_toArray, List.set_cons_zero, List.set_cons_succ]
  refine wpAnyH_take (i := 11) (v := undef) rfl (by kernel_rfl) (by kernel_rfl) (by kernel_rfl) (fun _ _ _ h => h) (Or.inr ⟨by kernel_rfl, rfl⟩) (by assumption) ?_
  show wpAnyH _ _ _ _ _ _ _ (Act.put _ (some 105) undef) _
  simp only [Act.put, List.setIfInBounds_toArray, List.set_cons_zero, List.set_cons_succ]
  refine wpAnyH_take (i := 12) (v := undef) rfl (by kernel_rfl) (by kernel_rfl) (by kernel_rfl) (fun _ _ _ h => h) (Or.inr ⟨by kernel_rfl, rfl⟩) (by assumption) ?_
  show wpAnyH _ _ _ _ _ _ _ (Act.put _ (some 106) undef) _
  simp only [Act.put, List.setIfInBounds_toArray, List.set_cons_zero, List.set_cons_succ]
  refine wpAnyH_take (i := 13) (v := undef) rfl (by kernel_rfl) (by kernel_rfl) (by kernel_rfl) (fun _ _ _ h => h) (Or.inr ⟨by kernel_rfl, rfl⟩) (by assumption) ?_
  show wpAnyH _ _ _ _ _ _ _ (Act.put _ (some 107) undef) _
  simp only [Act.put, List.setIfInBounds_toArray, List.set_cons_zero, List.set_cons_succ]
  refine wpAnyH_take (i := 14) (v := undef) rfl (by kernel_rfl) (by kernel_rfl) (by kernel_rfl) (fun _ _ _ h => h) (Or.inr ⟨by kernel_rfl, rfl⟩) (by assumption) ?_
  show wpAnyH _ _ _ _ _ _ _ (Act.put _ (some 108) undef) _
  simp only [Act.put, List.setIfInBounds_toArray, List.set_cons_zero, List.set_cons_succ]
  refine wpAnyH_take (i := 15) (v := undef) rfl (by kernel_rfl) (by kernel_rfl) (by kernel_rfl) (fun _ _ _ h => h) (Or.inr ⟨by kernel_rfl, rfl⟩) (by assumption) ?_
  show wpAnyH _ _ _ _ _ _ _ (Act.put _ (some 109) undef) _
  simp only [Act.put, List.setIfInBounds_toArray, List.set_cons_zero, List.set_cons_succ]
  refine wpAnyH_take (i := 16) (v := undef) rfl (by kernel_rfl) (by kernel_rfl) (by kernel_rfl) (fun _ _ _ h => h) (Or.inr ⟨by kernel_rfl, rfl⟩) (by assumption) ?_
  show wpAnyH _ _ _ _ _ _ _ (Act.put _ (some 110) undef) _
  simp only [Act.put, List.setIfInBounds_toArray, List.set_cons_zero, List.set_cons_succ]
  refine wpAnyH_take (i := 17) (v := undef) rfl (by kernel_rfl) (by kernel_rfl) (by kernel_rfl) (fun _ _ _ h => h) (Or.inr ⟨by kernel_rfl, rfl⟩) (by assumption) ?_
  show wpAnyH _ _ _ _ _ _ _ (Act.put _ (some 111) undef) _
  simp only [Act.put, List.setIfInBounds_toArray, List.set_cons_zero, List.set_cons_succ]
  refine wpAnyH_take (i := 18) (v := undef) rfl (by kernel_rfl) (by kernel_rfl) (by kernel_rfl) (fun _ _ _ h => h) (Or.inr ⟨by kernel_rfl, rfl⟩) (by assumption) ?_
  show wpAnyH _ _ _ _ _ _ _ (Act.put _ (some 112) undef) _
  simp only [Act.put, List.setIfInBounds_toArray, List.set_cons_zero, List.set_cons_succ]
  refine wpAnyH_take (i := 19) (v := ?v19) rfl (by kernel_rfl) (by kernel_rfl) (by kernel_rfl) (fun _ _ _ h => h) (Or.inl ⟨by rfl, ?hy19⟩) (by assumption) ?rest19
  case hy19 => (intro w hSw; (try dsimp only at hSw); go_simp <;> with_reducible rfl)
  show wpAnyH _ _ _ _ _ _ _ (Act.put _ (some 113) _) _
  refine wpAnyH_take (i := 20) (v := ?v20) rfl (by kernel_rfl) (by kernel_rfl) (by kernel_rfl) (fun _ _ _ h => h) (Or.inl ⟨by rfl, ?hy20⟩) (by assumption) ?rest20
  case hy20 => (intro w hSw; (try dsimp only at hSw); go_simp <;> with_reducible rfl)
  show wpAnyH _ _ _ _ _ _ _ (Act.put _ (some 2) _) _
  refine wpAnyH_done (by kernel_rfl) ?_ _
  go_wp2
  go_ret
  exact ⟨rfl, HG4.out.B⟩
end Go.Proofs.Ytogffkekgfkhkaa.C
