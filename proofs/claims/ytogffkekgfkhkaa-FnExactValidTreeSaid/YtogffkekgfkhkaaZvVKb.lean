/- Kinds of nodes. -/
import Derived.Test.YtogffkekgfkhkaaZvV3
import Derived.Test.YtogffkekgfkhkaaZvK
namespace Go.Proofs.Ytogffkekgfkhkaa.C
open Go.RowKit Go.Proofs.YtogffkekgfkhkaaW.PrintWords Go.Proofs.YtogffkekgfkhkaaW.PrintLast Go.Proofs.YtogffkekgfkhkaaW.PrintMore
set_option linter.unusedVariables false
set_option linter.unusedSimpArgs false
set_option maxHeartbeats 4000000 in
set_option maxRecDepth 100000 in
theorem goodKids_10 {d : Kd NV} (hd : NKd d) (b : Nat) (h : NV) (k : Fo) (w : World) (hn : NodeAt d w b h k) (hk : h.f0 = 10) :
    Calls Try.prog 26 #[nv b] w fun e w' => e = .returned (.bool (areB [isK [18]] k.trees)) ∧ Below w.heap.size w w' := by
  have h0 := hn.c0
  rw [hk] at h0
  obtain ⟨A, c, h5, hl, hC⟩ := hn.kids
  have HC := Aside0.mk hC
  have HN := Aside0.mk hn
  have HK := Aside0.mk hk
  have HLen := Aside0.mk hC.2.1
  have hmh := method_head
  have hmk := method_kids
  clear hC hn hk hl
  go_enter Try.func26, Try.ntmps26
  go_wp2_with (first | (go_at_call 81; refine (head_calls b _ _ h0).mono ?_; rintro e w1 ⟨rfl, rfl⟩) | (go_at_call 82; refine (kids_calls b _ _ h5).mono ?_; rintro e w1 ⟨rfl, rfl⟩))
  refine (isKind_calls (some ⟨w.heap.size + 1, 0, none⟩) 1 [0] _ (by exact ints_new _ [0] 3 (by decide) _ (by simp))).mono ?_
  rintro e w1 ⟨B2, rfl, hq, hb1⟩
  have HG := Aside0.mk (GK.mk' HN.out HC.out hb1 hq)
  clear hq hb1 h0 h5
  have g0 := HG.out.n.c0
  rw [HK.out] at g0
  have g1 := HG.out.x
  go_wp2_with fail
  refine (isKind_calls (some ⟨w1.heap.size, 0, none⟩) 1 [18] _ (by exact ints_new _ [18] 3 (by decide) _ rfl)).mono ?_
  rintro e w3 ⟨B3, rfl, hq3, hb3⟩
  have HG3 := Aside0.mk (HG.out.below (below_step (below_alloc (Below.refl _ _) _) hb3))
  have HQ3 := Aside0.mk hq3
  clear hq3 hb3 HG
  go_wp2_with (go_at_call 38; refine (are_calls' hd [qK B3 [18]] ⟨w3.heap.size, 0, none⟩ 1 w.heap.size A c k.trees _ _ rfl (HG3.out.below (below_alloc (Below.refl _ _) _)).x (HG3.out.below (below_alloc (Below.refl _ _) _)).C (by exact askRow_new _ [qK B3 [18]] 59 _ rfl) (List.forall_mem_cons.2 ⟨qK_ok (HQ3.out.below (below_alloc (Below.refl _ _) _)), (fun _ h_ => absurd h_ List.not_mem_nil)⟩) (by simp)).mono ?_; rintro e w2 ⟨rfl, hb2⟩; have HB2 := Aside0.mk (below_step (HG3.out.below (below_alloc (Below.refl _ _) _)).B hb2); clear hb2)
  go_ret
  exact ⟨rfl, HB2.out⟩
set_option maxHeartbeats 4000000 in
set_option maxRecDepth 100000 in
theorem goodKids_26 {d : Kd NV} (hd : NKd d) (b : Nat) (h : NV) (k : Fo) (w : World) (hn : NodeAt d w b h k) (hk : h.f0 = 26) :
    Calls Try.prog 26 #[nv b] w fun e w' => e = .returned (.bool (areB [isK [19]] k.trees)) ∧ Below w.heap.size w w' := by
  have h0 := hn.c0
  rw [hk] at h0
  obtain ⟨A, c, h5, hl, hC⟩ := hn.kids
  have HC := Aside0.mk hC
  have HN := Aside0.mk hn
  have HK := Aside0.mk hk
  have HLen := Aside0.mk hC.2.1
  have hmh := method_head
  have hmk := method_kids
  clear hC hn hk hl
  go_enter Try.func26, Try.ntmps26
  go_wp2_with (first | (go_at_call 81; refine (head_calls b _ _ h0).mono ?_; rintro e w1 ⟨rfl, rfl⟩) | (go_at_call 82; refine (kids_calls b _ _ h5).mono ?_; rintro e w1 ⟨rfl, rfl⟩))
  refine (isKind_calls (some ⟨w.heap.size + 1, 0, none⟩) 1 [0] _ (by exact ints_new _ [0] 3 (by decide) _ (by simp))).mono ?_
  rintro e w1 ⟨B2, rfl, hq, hb1⟩
  have HG := Aside0.mk (GK.mk' HN.out HC.out hb1 hq)
  clear hq hb1 h0 h5
  have g0 := HG.out.n.c0
  rw [HK.out] at g0
  have g1 := HG.out.x
  go_wp2_with fail
  refine (isKind_calls (some ⟨w1.heap.size, 0, none⟩) 1 [19] _ (by exact ints_new _ [19] 3 (by decide) _ rfl)).mono ?_
  rintro e w3 ⟨B3, rfl, hq3, hb3⟩
  have HG3 := Aside0.mk (HG.out.below (below_step (below_alloc (Below.refl _ _) _) hb3))
  have HQ3 := Aside0.mk hq3
  clear hq3 hb3 HG
  go_wp2_with (go_at_call 38; refine (are_calls' hd [qK B3 [19]] ⟨w3.heap.size, 0, none⟩ 1 w.heap.size A c k.trees _ _ rfl (HG3.out.below (below_alloc (Below.refl _ _) _)).x (HG3.out.below (below_alloc (Below.refl _ _) _)).C (by exact askRow_new _ [qK B3 [19]] 59 _ rfl) (List.forall_mem_cons.2 ⟨qK_ok (HQ3.out.below (below_alloc (Below.refl _ _) _)), (fun _ h_ => absurd h_ List.not_mem_nil)⟩) (by simp)).mono ?_; rintro e w2 ⟨rfl, hb2⟩; have HB2 := Aside0.mk (below_step (HG3.out.below (below_alloc (Below.refl _ _) _)).B hb2); clear hb2)
  go_ret
  exact ⟨rfl, HB2.out⟩
set_option maxHeartbeats 4000000 in
set_option maxRecDepth 100000 in
theorem goodKids_7t {d : Kd NV} (hd : NKd d) (b : Nat) (h : NV) (k : Fo) (w : World) (hn : NodeAt d w b h k) (hk : h.f0 = 7) (he3 : areB [isExprB, isExprB, isK [0]] k.trees = true) :
    Calls Try.prog 26 #[nv b] w fun e w' => e = .returned (.bool (areB [isExprB, isExprB, isK [0]] k.trees || areB [isExprB, isExprB, isExprB, isK [0]] k.trees)) ∧ Below w.heap.size w w' := by
  have HE3 := Aside0.mk he3
  rw [he3, Bool.true_or]
  clear he3
  have h0 := hn.c0
  rw [hk] at h0
  obtain ⟨A, c, h5, hl, hC⟩ := hn.kids
  have HC := Aside0.mk hC
  have HN := Aside0.mk hn
  have HK := Aside0.mk hk
  have HLen := Aside0.mk hC.2.1
  have hmh := method_head
  have hmk := method_kids
  clear hC hn hk hl
  go_enter Try.func26, Try.ntmps26
  go_wp2_with (first | (go_at_call 81; refine (head_calls b _ _ h0).mono ?_; rintro e w1 ⟨rfl, rfl⟩) | (go_at_call 82; refine (kids_calls b _ _ h5).mono ?_; rintro e w1 ⟨rfl, rfl⟩))
  refine (isKind_calls (some ⟨w.heap.size + 1, 0, none⟩) 1 [0] _ (by exact ints_new _ [0] 3 (by decide) _ (by simp))).mono ?_
  rintro e w1 ⟨B2, rfl, hq, hb1⟩
  have HG := Aside0.mk (GK.mk' HN.out HC.out hb1 hq)
  clear hq hb1 h0 h5
  have g0 := HG.out.n.c0
  rw [HK.out] at g0
  have g1 := HG.out.x
  go_wp2_with (go_at_call 38; refine (are_calls' hd [qE, qE, qK B2 [0]] ⟨w1.heap.size, 0, none⟩ 3 w.heap.size A c k.trees _ true HE3.out (HG.out.below (below_alloc (Below.refl _ _) _)).x (HG.out.below (below_alloc (Below.refl _ _) _)).C (by exact askRow_new _ [qE, qE, qK B2 [0]] 59 _ rfl) (List.forall_mem_cons.2 ⟨qE_ok _ _, (List.forall_mem_cons.2 ⟨qE_ok _ _, (List.forall_mem_cons.2 ⟨qK_ok (HG.out.below (below_alloc (Below.refl _ _) _)).q, (fun _ h_ => absurd h_ List.not_mem_nil)⟩)⟩)⟩) (by simp)).mono ?_; rintro e w2 ⟨rfl, hb2⟩; have HB2 := Aside0.mk (below_step (HG.out.below (below_alloc (Below.refl _ _) _)).B hb2); clear hb2)
  go_ret
  exact ⟨rfl, HB2.out⟩
set_option maxHeartbeats 4000000 in
set_option maxRecDepth 100000 in
theorem goodKids_7f {d : Kd NV} (hd : NKd d) (b : Nat) (h : NV) (k : Fo) (w : World) (hn : NodeAt d w b h k) (hk : h.f0 = 7) (he3 : areB [isExprB, isExprB, isK [0]] k.trees = false) :
    Calls Try.prog 26 #[nv b] w fun e w' => e = .returned (.bool (areB [isExprB, isExprB, isK [0]] k.trees || areB [isExprB, isExprB, isExprB, isK [0]] k.trees)) ∧ Below w.heap.size w w' := by
  have HE3 := Aside0.mk he3
  rw [he3, Bool.false_or]
  clear he3
  have h0 := hn.c0
  rw [hk] at h0
  obtain ⟨A, c, h5, hl, hC⟩ := hn.kids
  have HC := Aside0.mk hC
  have HN := Aside0.mk hn
  have HK := Aside0.mk hk
  have HLen := Aside0.mk hC.2.1
  have hmh := method_head
  have hmk := method_kids
  clear hC hn hk hl
  go_enter Try.func26, Try.ntmps26
  go_wp2_with (first | (go_at_call 81; refine (head_calls b _ _ h0).mono ?_; rintro e w1 ⟨rfl, rfl⟩) | (go_at_call 82; refine (kids_calls b _ _ h5).mono ?_; rintro e w1 ⟨rfl, rfl⟩))
  refine (isKind_calls (some ⟨w.heap.size + 1, 0, none⟩) 1 [0] _ (by exact ints_new _ [0] 3 (by decide) _ (by simp))).mono ?_
  rintro e w1 ⟨B2, rfl, hq, hb1⟩
  have HG := Aside0.mk (GK.mk' HN.out HC.out hb1 hq)
  clear hq hb1 h0 h5
  have g0 := HG.out.n.c0
  rw [HK.out] at g0
  have g1 := HG.out.x
  go_wp2_with fail
  refine (are_calls' hd [qE, qE, qK B2 [0]] ⟨w1.heap.size, 0, none⟩ 3 w.heap.size A c k.trees _ false HE3.out (HG.out.below (below_alloc (Below.refl _ _) _)).x (HG.out.below (below_alloc (Below.refl _ _) _)).C (by exact askRow_new _ [qE, qE, qK B2 [0]] 59 _ rfl) (List.forall_mem_cons.2 ⟨qE_ok _ _, (List.forall_mem_cons.2 ⟨qE_ok _ _, (List.forall_mem_cons.2 ⟨qK_ok (HG.out.below (below_alloc (Below.refl _ _) _)).q, (fun _ h_ => absurd h_ List.not_mem_nil)⟩)⟩)⟩) (by simp)).mono ?_
  rintro e w2 ⟨rfl, hb2⟩
  have HB2 := Aside0.mk (below_step (HG.out.below (below_alloc (Below.refl _ _) _)).B hb2)
  have HG2 := Aside0.mk (HG.out.below (below_step (below_alloc (Below.refl _ _) _) hb2))
  clear hb2 HB2 HG
  have g2 := HG2.out.x
  go_wp2_with (go_at_call 38; refine (are_calls' hd [qE, qE, qE, qK B2 [0]] ⟨w2.heap.size, 0, none⟩ 4 w.heap.size A c k.trees _ _ rfl (HG2.out.below (below_alloc (Below.refl _ _) _)).x (HG2.out.below (below_alloc (Below.refl _ _) _)).C (by exact askRow_new _ [qE, qE, qE, qK B2 [0]] 59 _ rfl) (List.forall_mem_cons.2 ⟨qE_ok _ _, (List.forall_mem_cons.2 ⟨qE_ok _ _, (List.forall_mem_cons.2 ⟨qE_ok _ _, (List.forall_mem_cons.2 ⟨qK_ok (HG2.out.below (below_alloc (Below.refl _ _) _)).q, (fun _ h_ => absurd h_ List.not_mem_nil)⟩)⟩)⟩)⟩) (by simp)).mono ?_; rintro e w4 ⟨rfl, hb2⟩; have HB2 := Aside0.mk (below_step (HG2.out.below (below_alloc (Below.refl _ _) _)).B hb2); clear hb2)
  go_ret
  exact ⟨rfl, HB2.out⟩
set_option maxHeartbeats 4000000 in
set_option maxRecDepth 100000 in
theorem goodKids_1t {d : Kd NV} (hd : NKd d) (b : Nat) (h : NV) (k : Fo) (w : World) (hn : NodeAt d w b h k) (hk : h.f0 = 1) (hc : k.trees.length ≤ 50) :
    Calls Try.prog 26 #[nv b] w fun e w' => e = .returned (.bool (decide (k.trees.length ≤ 50) && allE k.trees)) ∧ Below w.heap.size w w' := by
  rw [decide_eq_true hc, Bool.true_and]
  have h0 := hn.c0
  rw [hk] at h0
  obtain ⟨A, c, h5, hl, hC⟩ := hn.kids
  have HC := Aside0.mk hC
  have HN := Aside0.mk hn
  have HK := Aside0.mk hk
  have HLen := Aside0.mk hC.2.1
  have hmh := method_head
  have hmk := method_kids
  have d0 : decide (((k.trees.length : Nat) : Int) ≤ 50) = true := decide_eq_true (by omega)
  have d1 : decide (k.trees.length ≤ 50) = true := decide_eq_true hc
  clear hc
  clear hC hn hk hl
  go_enter Try.func26, Try.ntmps26
  go_wp2_with (first | (go_at_call 81; refine (head_calls b _ _ h0).mono ?_; rintro e w1 ⟨rfl, rfl⟩) | (go_at_call 82; refine (kids_calls b _ _ h5).mono ?_; rintro e w1 ⟨rfl, rfl⟩))
  refine (isKind_calls (some ⟨w.heap.size + 1, 0, none⟩) 1 [0] _ (by exact ints_new _ [0] 3 (by decide) _ (by simp))).mono ?_
  rintro e w1 ⟨B2, rfl, hq, hb1⟩
  have HG := Aside0.mk (GK.mk' HN.out HC.out hb1 hq)
  clear hq hb1 h0 h5
  have g0 := HG.out.n.c0
  rw [HK.out] at g0
  have g1 := HG.out.x
  go_wp2_with (go_at_call 39; refine (every_calls' hd qE A c k.trees _ _ rfl HG.out.C (qE_ok _ _)).mono ?_; rintro e w2 ⟨rfl, hb2⟩; have HB2 := Aside0.mk (below_step HG.out.B hb2); clear hb2)
  go_ret
  exact ⟨rfl, HB2.out⟩
set_option maxHeartbeats 4000000 in
set_option maxRecDepth 100000 in
theorem goodKids_1f {d : Kd NV} (hd : NKd d) (b : Nat) (h : NV) (k : Fo) (w : World) (hn : NodeAt d w b h k) (hk : h.f0 = 1) (hc : ¬ k.trees.length ≤ 50) :
    Calls Try.prog 26 #[nv b] w fun e w' => e = .returned (.bool (decide (k.trees.length ≤ 50) && allE k.trees)) ∧ Below w.heap.size w w' := by
  rw [decide_eq_false hc, Bool.false_and]
  have h0 := hn.c0
  rw [hk] at h0
  obtain ⟨A, c, h5, hl, hC⟩ := hn.kids
  have HC := Aside0.mk hC
  have HN := Aside0.mk hn
  have HK := Aside0.mk hk
  have HLen := Aside0.mk hC.2.1
  have hmh := method_head
  have hmk := method_kids
  have d0 : decide (((k.trees.length : Nat) : Int) ≤ 50) = false := decide_eq_false (by omega)
  have d1 : decide (k.trees.length ≤ 50) = false := decide_eq_false hc
  clear hc
  clear hC hn hk hl
  go_enter Try.func26, Try.ntmps26
  go_wp2_with (first | (go_at_call 81; refine (head_calls b _ _ h0).mono ?_; rintro e w1 ⟨rfl, rfl⟩) | (go_at_call 82; refine (kids_calls b _ _ h5).mono ?_; rintro e w1 ⟨rfl, rfl⟩))
  refine (isKind_calls (some ⟨w.heap.size + 1, 0, none⟩) 1 [0] _ (by exact ints_new _ [0] 3 (by decide) _ (by simp))).mono ?_
  rintro e w1 ⟨B2, rfl, hq, hb1⟩
  have HG := Aside0.mk (GK.mk' HN.out HC.out hb1 hq)
  clear hq hb1 h0 h5
  have g0 := HG.out.n.c0
  rw [HK.out] at g0
  have g1 := HG.out.x
  go_wp2
  go_ret
  exact ⟨rfl, HG.out.B⟩
set_option maxHeartbeats 4000000 in
set_option maxRecDepth 100000 in
theorem goodKids_9t {d : Kd NV} (hd : NKd d) (b : Nat) (h : NV) (k : Fo) (w : World) (hn : NodeAt d w b h k) (hk : h.f0 = 9) (hc : k.trees.length ≤ 50) :
    Calls Try.prog 26 #[nv b] w fun e w' => e = .returned (.bool (decide (k.trees.length ≤ 50) && allE k.trees)) ∧ Below w.heap.size w w' := by
  rw [decide_eq_true hc, Bool.true_and]
  have h0 := hn.c0
  rw [hk] at h0
  obtain ⟨A, c, h5, hl, hC⟩ := hn.kids
  have HC := Aside0.mk hC
  have HN := Aside0.mk hn
  have HK := Aside0.mk hk
  have HLen := Aside0.mk hC.2.1
  have hmh := method_head
  have hmk := method_kids
  have d0 : decide (((k.trees.length : Nat) : Int) ≤ 50) = true := decide_eq_true (by omega)
  have d1 : decide (k.trees.length ≤ 50) = true := decide_eq_true hc
  clear hc
  clear hC hn hk hl
  go_enter Try.func26, Try.ntmps26
  go_wp2_with (first | (go_at_call 81; refine (head_calls b _ _ h0).mono ?_; rintro e w1 ⟨rfl, rfl⟩) | (go_at_call 82; refine (kids_calls b _ _ h5).mono ?_; rintro e w1 ⟨rfl, rfl⟩))
  refine (isKind_calls (some ⟨w.heap.size + 1, 0, none⟩) 1 [0] _ (by exact ints_new _ [0] 3 (by decide) _ (by simp))).mono ?_
  rintro e w1 ⟨B2, rfl, hq, hb1⟩
  have HG := Aside0.mk (GK.mk' HN.out HC.out hb1 hq)
  clear hq hb1 h0 h5
  have g0 := HG.out.n.c0
  rw [HK.out] at g0
  have g1 := HG.out.x
  go_wp2_with (go_at_call 39; refine (every_calls' hd qE A c k.trees _ _ rfl HG.out.C (qE_ok _ _)).mono ?_; rintro e w2 ⟨rfl, hb2⟩; have HB2 := Aside0.mk (below_step HG.out.B hb2); clear hb2)
  go_ret
  exact ⟨rfl, HB2.out⟩
set_option maxHeartbeats 4000000 in
set_option maxRecDepth 100000 in
theorem goodKids_9f {d : Kd NV} (hd : NKd d) (b : Nat) (h : NV) (k : Fo) (w : World) (hn : NodeAt d w b h k) (hk : h.f0 = 9) (hc : ¬ k.trees.length ≤ 50) :
    Calls Try.prog 26 #[nv b] w fun e w' => e = .returned (.bool (decide (k.trees.length ≤ 50) && allE k.trees)) ∧ Below w.heap.size w w' := by
  rw [decide_eq_false hc, Bool.false_and]
  have h0 := hn.c0
  rw [hk] at h0
  obtain ⟨A, c, h5, hl, hC⟩ := hn.kids
  have HC := Aside0.mk hC
  have HN := Aside0.mk hn
  have HK := Aside0.mk hk
  have HLen := Aside0.mk hC.2.1
  have hmh := method_head
  have hmk := method_kids
  have d0 : decide (((k.trees.length : Nat) : Int) ≤ 50) = false := decide_eq_false (by omega)
  have d1 : decide (k.trees.length ≤ 50) = false := decide_eq_false hc
  clear hc
  clear hC hn hk hl
  go_enter Try.func26, Try.ntmps26
  go_wp2_with (first | (go_at_call 81; refine (head_calls b _ _ h0).mono ?_; rintro e w1 ⟨rfl, rfl⟩) | (go_at_call 82; refine (kids_calls b _ _ h5).mono ?_; rintro e w1 ⟨rfl, rfl⟩))
  refine (isKind_calls (some ⟨w.heap.size + 1, 0, none⟩) 1 [0] _ (by exact ints_new _ [0] 3 (by decide) _ (by simp))).mono ?_
  rintro e w1 ⟨B2, rfl, hq, hb1⟩
  have HG := Aside0.mk (GK.mk' HN.out HC.out hb1 hq)
  clear hq hb1 h0 h5
  have g0 := HG.out.n.c0
  rw [HK.out] at g0
  have g1 := HG.out.x
  go_wp2
  go_ret
  exact ⟨rfl, HG.out.B⟩
set_option maxHeartbeats 4000000 in
set_option maxRecDepth 100000 in
theorem goodKids_18t {d : Kd NV} (hd : NKd d) (b : Nat) (h : NV) (k : Fo) (w : World) (hn : NodeAt d w b h k) (hk : h.f0 = 18) (hc : 1 ≤ k.trees.length) (hc2 : k.trees.length ≤ 51) :
    Calls Try.prog 26 #[nv b] w fun e w' => e = .returned (.bool (decide (1 ≤ k.trees.length) && decide (k.trees.length ≤ 51) && allE k.trees)) ∧ Below w.heap.size w w' := by
  rw [decide_eq_true hc, decide_eq_true hc2, Bool.true_and, Bool.true_and]
  have h0 := hn.c0
  rw [hk] at h0
  obtain ⟨A, c, h5, hl, hC⟩ := hn.kids
  have HC := Aside0.mk hC
  have HN := Aside0.mk hn
  have HK := Aside0.mk hk
  have HLen := Aside0.mk hC.2.1
  have hmh := method_head
  have hmk := method_kids
  have d0 : decide (1 ≤ ((k.trees.length : Nat) : Int)) = true := decide_eq_true (by omega)
  have d1 : decide (((k.trees.length : Nat) : Int) ≤ 51) = true := decide_eq_true (by omega)
  have d2 : decide (k.trees.length ≤ 51) = true := decide_eq_true hc2
  have d3 : decide (0 < k.trees.length) = true := decide_eq_true (by omega)
  clear hc hc2
  clear hC hn hk hl
  go_enter Try.func26, Try.ntmps26
  go_wp2_with (first | (go_at_call 81; refine (head_calls b _ _ h0).mono ?_; rintro e w1 ⟨rfl, rfl⟩) | (go_at_call 82; refine (kids_calls b _ _ h5).mono ?_; rintro e w1 ⟨rfl, rfl⟩))
  refine (isKind_calls (some ⟨w.heap.size + 1, 0, none⟩) 1 [0] _ (by exact ints_new _ [0] 3 (by decide) _ (by simp))).mono ?_
  rintro e w1 ⟨B2, rfl, hq, hb1⟩
  have HG := Aside0.mk (GK.mk' HN.out HC.out hb1 hq)
  clear hq hb1 h0 h5
  have g0 := HG.out.n.c0
  rw [HK.out] at g0
  have g1 := HG.out.x
  go_wp2_with (go_at_call 39; refine (every_calls' hd qE A c k.trees _ _ rfl HG.out.C (qE_ok _ _)).mono ?_; rintro e w2 ⟨rfl, hb2⟩; have HB2 := Aside0.mk (below_step HG.out.B hb2); clear hb2)
  go_ret
  exact ⟨rfl, HB2.out⟩
set_option maxHeartbeats 4000000 in
set_option maxRecDepth 100000 in
theorem goodKids_18u {d : Kd NV} (hd : NKd d) (b : Nat) (h : NV) (k : Fo) (w : World) (hn : NodeAt d w b h k) (hk : h.f0 = 18) (hc : ¬ k.trees.length ≤ 51) (hc2 : 1 ≤ k.trees.length) :
    Calls Try.prog 26 #[nv b] w fun e w' => e = .returned (.bool (decide (1 ≤ k.trees.length) && decide (k.trees.length ≤ 51) && allE k.trees)) ∧ Below w.heap.size w w' := by
  rw [decide_eq_true hc2, decide_eq_false hc, Bool.true_and, Bool.false_and]
  have h0 := hn.c0
  rw [hk] at h0
  obtain ⟨A, c, h5, hl, hC⟩ := hn.kids
  have HC := Aside0.mk hC
  have HN := Aside0.mk hn
  have HK := Aside0.mk hk
  have HLen := Aside0.mk hC.2.1
  have hmh := method_head
  have hmk := method_kids
  have d0 : decide (1 ≤ ((k.trees.length : Nat) : Int)) = true := decide_eq_true (by omega)
  have d1 : decide (((k.trees.length : Nat) : Int) ≤ 51) = false := decide_eq_false (by omega)
  have d2 : decide (k.trees.length ≤ 51) = false := decide_eq_false hc
  have d3 : decide (0 < k.trees.length) = true := decide_eq_true (by omega)
  clear hc hc2
  clear hC hn hk hl
  go_enter Try.func26, Try.ntmps26
  go_wp2_with (first | (go_at_call 81; refine (head_calls b _ _ h0).mono ?_; rintro e w1 ⟨rfl, rfl⟩) | (go_at_call 82; refine (kids_calls b _ _ h5).mono ?_; rintro e w1 ⟨rfl, rfl⟩))
  refine (isKind_calls (some ⟨w.heap.size + 1, 0, none⟩) 1 [0] _ (by exact ints_new _ [0] 3 (by decide) _ (by simp))).mono ?_
  rintro e w1 ⟨B2, rfl, hq, hb1⟩
  have HG := Aside0.mk (GK.mk' HN.out HC.out hb1 hq)
  clear hq hb1 h0 h5
  have g0 := HG.out.n.c0
  rw [HK.out] at g0
  have g1 := HG.out.x
  go_wp2
  go_ret
  exact ⟨rfl, HG.out.B⟩
set_option maxHeartbeats 4000000 in
set_option maxRecDepth 100000 in
theorem goodKids_18f {d : Kd NV} (hd : NKd d) (b : Nat) (h : NV) (k : Fo) (w : World) (hn : NodeAt d w b h k) (hk : h.f0 = 18) (hc : ¬ 1 ≤ k.trees.length) :
    Calls Try.prog 26 #[nv b] w fun e w' => e = .returned (.bool (decide (1 ≤ k.trees.length) && decide (k.trees.length ≤ 51) && allE k.trees)) ∧ Below w.heap.size w w' := by
  rw [decide_eq_false hc, Bool.false_and, Bool.false_and]
  have h0 := hn.c0
  rw [hk] at h0
  obtain ⟨A, c, h5, hl, hC⟩ := hn.kids
  have HC := Aside0.mk hC
  have HN := Aside0.mk hn
  have HK := Aside0.mk hk
  have HLen := Aside0.mk hC.2.1
  have hmh := method_head
  have hmk := method_kids
  have d0 : decide (1 ≤ ((k.trees.length : Nat) : Int)) = false := decide_eq_false (by omega)
  have d3 : decide (0 < k.trees.length) = false := decide_eq_false (by omega)
  clear hc
  clear hC hn hk hl
  go_enter Try.func26, Try.ntmps26
  go_wp2_with (first | (go_at_call 81; refine (head_calls b _ _ h0).mono ?_; rintro e w1 ⟨rfl, rfl⟩) | (go_at_call 82; refine (kids_calls b _ _ h5).mono ?_; rintro e w1 ⟨rfl, rfl⟩))
  refine (isKind_calls (some ⟨w.heap.size + 1, 0, none⟩) 1 [0] _ (by exact ints_new _ [0] 3 (by decide) _ (by simp))).mono ?_
  rintro e w1 ⟨B2, rfl, hq, hb1⟩
  have HG := Aside0.mk (GK.mk' HN.out HC.out hb1 hq)
  clear hq hb1 h0 h5
  have g0 := HG.out.n.c0
  rw [HK.out] at g0
  have g1 := HG.out.x
  go_wp2
  go_ret
  exact ⟨rfl, HG.out.B⟩
set_option maxHeartbeats 4000000 in
set_option maxRecDepth 100000 in
theorem goodKids_20t {d : Kd NV} (hd : NKd d) (b : Nat) (h : NV) (k : Fo) (w : World) (hn : NodeAt d w b h k) (hk : h.f0 = 20) (hc : k.trees.length % 2 = 0) :
    Calls Try.prog 26 #[nv b] w fun e w' => e = .returned (.bool (decide (k.trees.length % 2 = 0) && allE k.trees)) ∧ Below w.heap.size w w' := by
  rw [decide_eq_true hc, Bool.true_and]
  have h0 := hn.c0
  rw [hk] at h0
  obtain ⟨A, c, h5, hl, hC⟩ := hn.kids
  have HC := Aside0.mk hC
  have HN := Aside0.mk hn
  have HK := Aside0.mk hk
  have HLen := Aside0.mk hC.2.1
  have hmh := method_head
  have hmk := method_kids
  have d0 : ((((k.trees.length : Nat) : Int) % 2) == 0) = true := beq_iff_eq.mpr (by omega)
  have d1 : ((((k.trees.length : Nat) : Int) % 2) = 0) = True := eq_true (by omega)
  clear hc
  clear hC hn hk hl
  go_enter Try.func26, Try.ntmps26
  go_wp2_with (first | (go_at_call 81; refine (head_calls b _ _ h0).mono ?_; rintro e w1 ⟨rfl, rfl⟩) | (go_at_call 82; refine (kids_calls b _ _ h5).mono ?_; rintro e w1 ⟨rfl, rfl⟩))
  refine (isKind_calls (some ⟨w.heap.size + 1, 0, none⟩) 1 [0] _ (by exact ints_new _ [0] 3 (by decide) _ (by simp))).mono ?_
  rintro e w1 ⟨B2, rfl, hq, hb1⟩
  have HG := Aside0.mk (GK.mk' HN.out HC.out hb1 hq)
  clear hq hb1 h0 h5
  have g0 := HG.out.n.c0
  rw [HK.out] at g0
  have g1 := HG.out.x
  go_wp2_with (go_at_call 39; refine (every_calls' hd qE A c k.trees _ _ rfl HG.out.C (qE_ok _ _)).mono ?_; rintro e w2 ⟨rfl, hb2⟩; have HB2 := Aside0.mk (below_step HG.out.B hb2); clear hb2)
  go_ret
  exact ⟨rfl, HB2.out⟩
set_option maxHeartbeats 4000000 in
set_option maxRecDepth 100000 in
theorem goodKids_20f {d : Kd NV} (hd : NKd d) (b : Nat) (h : NV) (k : Fo) (w : World) (hn : NodeAt d w b h k) (hk : h.f0 = 20) (hc : ¬ k.trees.length % 2 = 0) :
    Calls Try.prog 26 #[nv b] w fun e w' => e = .returned (.bool (decide (k.trees.length % 2 = 0) && allE k.trees)) ∧ Below w.heap.size w w' := by
  rw [decide_eq_false hc, Bool.false_and]
  have h0 := hn.c0
  rw [hk] at h0
  obtain ⟨A, c, h5, hl, hC⟩ := hn.kids
  have HC := Aside0.mk hC
  have HN := Aside0.mk hn
  have HK := Aside0.mk hk
  have HLen := Aside0.mk hC.2.1
  have hmh := method_head
  have hmk := method_kids
  have d0 : ((((k.trees.length : Nat) : Int) % 2) == 0) = false := beq_eq_false_iff_ne.mpr (by omega)
  have d1 : ((((k.trees.length : Nat) : Int) % 2) = 0) = False := eq_false (by omega)
  clear hc
  clear hC hn hk hl
  go_enter Try.func26, Try.ntmps26
  go_wp2_with (first | (go_at_call 81; refine (head_calls b _ _ h0).mono ?_; rintro e w1 ⟨rfl, rfl⟩) | (go_at_call 82; refine (kids_calls b _ _ h5).mono ?_; rintro e w1 ⟨rfl, rfl⟩))
  refine (isKind_calls (some ⟨w.heap.size + 1, 0, none⟩) 1 [0] _ (by exact ints_new _ [0] 3 (by decide) _ (by simp))).mono ?_
  rintro e w1 ⟨B2, rfl, hq, hb1⟩
  have HG := Aside0.mk (GK.mk' HN.out HC.out hb1 hq)
  clear hq hb1 h0 h5
  have g0 := HG.out.n.c0
  rw [HK.out] at g0
  have g1 := HG.out.x
  go_wp2
  go_ret
  exact ⟨rfl, HG.out.B⟩
end Go.Proofs.Ytogffkekgfkhkaa.C
