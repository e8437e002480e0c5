/- Kinds of nodes. -/
import Derived.Test.YtogffkekgfkhkaaZvV3
import Derived.Test.YtogffkekgfkhkaaZvK
namespace Go.Proofs.Ytogffkekgfkhkaa.C
open Go.RowKit Go.Proofs.YtogffkekgfkhkaaW.PrintWords Go.Proofs.YtogffkekgfkhkaaW.PrintLast Go.Proofs.YtogffkekgfkhkaaW.PrintMore
set_option linter.unusedVariables false
set_option linter.unusedSimpArgs false
set_option maxHeartbeats 4000000 in
set_option maxRecDepth 100000 in
theorem goodKids_3 {d : Kd NV} (hd : NKd d) (b : Nat) (h : NV) (k : Fo) (w : World) (hn : NodeAt d w b h k) (hk : h.f0 = 3) :
    Calls Try.prog 26 #[nv b] w fun e w' => e = .returned (.bool (areB [isK [0]] k.trees)) ∧ Below w.heap.size w w' := by
  have h0 := hn.c0
  rw [hk] at h0
  obtain ⟨A, c, h5, hl, hC⟩ := hn.kids
  have HC := Aside0.mk hC
  have HN := Aside0.mk hn
  have HK := Aside0.mk hk
  have HLen := Aside0.mk hC.2.1
  have hmh := method_head
  have hmk := method_kids
  clear hC hn hk hl
  go_enter Try.func26, Try.ntmps26
  go_wp2_with (first | (go_at_call 81; refine (head_calls b _ _ h0).mono ?_; rintro e w1 ⟨rfl, rfl⟩) | (go_at_call 82; refine (kids_calls b _ _ h5).mono ?_; rintro e w1 ⟨rfl, rfl⟩))
  refine (isKind_calls (some ⟨w.heap.size + 1, 0, none⟩) 1 [0] _ (by exact ints_new _ [0] 3 (by decide) _ (by simp))).mono ?_
  rintro e w1 ⟨B2, rfl, hq, hb1⟩
  have HG := Aside0.mk (GK.mk' HN.out HC.out hb1 hq)
  clear hq hb1 h0 h5
  have g0 := HG.out.n.c0
  rw [HK.out] at g0
  have g1 := HG.out.x
  go_wp2_with (go_at_call 38; refine (are_calls' hd [qK B2 [0]] ⟨w1.heap.size, 0, none⟩ 1 w.heap.size A c k.trees _ _ rfl (HG.out.below (below_alloc (Below.refl _ _) _)).x (HG.out.below (below_alloc (Below.refl _ _) _)).C (by exact askRow_new _ [qK B2 [0]] 59 _ rfl) (List.forall_mem_cons.2 ⟨qK_ok (HG.out.below (below_alloc (Below.refl _ _) _)).q, (fun _ h_ => absurd h_ List.not_mem_nil)⟩) (by simp)).mono ?_; rintro e w2 ⟨rfl, hb2⟩; have HB2 := Aside0.mk (below_step (HG.out.below (below_alloc (Below.refl _ _) _)).B hb2); clear hb2)
  go_ret
  exact ⟨rfl, HB2.out⟩
set_option maxHeartbeats 4000000 in
set_option maxRecDepth 100000 in
theorem goodKids_19 {d : Kd NV} (hd : NKd d) (b : Nat) (h : NV) (k : Fo) (w : World) (hn : NodeAt d w b h k) (hk : h.f0 = 19) :
    Calls Try.prog 26 #[nv b] w fun e w' => e = .returned (.bool (areB [isK [0]] k.trees)) ∧ Below w.heap.size w w' := by
  have h0 := hn.c0
  rw [hk] at h0
  obtain ⟨A, c, h5, hl, hC⟩ := hn.kids
  have HC := Aside0.mk hC
  have HN := Aside0.mk hn
  have HK := Aside0.mk hk
  have HLen := Aside0.mk hC.2.1
  have hmh := method_head
  have hmk := method_kids
  clear hC hn hk hl
  go_enter Try.func26, Try.ntmps26
  go_wp2_with (first | (go_at_call 81; refine (head_calls b _ _ h0).mono ?_; rintro e w1 ⟨rfl, rfl⟩) | (go_at_call 82; refine (kids_calls b _ _ h5).mono ?_; rintro e w1 ⟨rfl, rfl⟩))
  refine (isKind_calls (some ⟨w.heap.size + 1, 0, none⟩) 1 [0] _ (by exact ints_new _ [0] 3 (by decide) _ (by simp))).mono ?_
  rintro e w1 ⟨B2, rfl, hq, hb1⟩
  have HG := Aside0.mk (GK.mk' HN.out HC.out hb1 hq)
  clear hq hb1 h0 h5
  have g0 := HG.out.n.c0
  rw [HK.out] at g0
  have g1 := HG.out.x
  go_wp2_with (go_at_call 38; refine (are_calls' hd [qK B2 [0]] ⟨w1.heap.size, 0, none⟩ 1 w.heap.size A c k.trees _ _ rfl (HG.out.below (below_alloc (Below.refl _ _) _)).x (HG.out.below (below_alloc (Below.refl _ _) _)).C (by exact askRow_new _ [qK B2 [0]] 59 _ rfl) (List.forall_mem_cons.2 ⟨qK_ok (HG.out.below (below_alloc (Below.refl _ _) _)).q, (fun _ h_ => absurd h_ List.not_mem_nil)⟩) (by simp)).mono ?_; rintro e w2 ⟨rfl, hb2⟩; have HB2 := Aside0.mk (below_step (HG.out.below (below_alloc (Below.refl _ _) _)).B hb2); clear hb2)
  go_ret
  exact ⟨rfl, HB2.out⟩
set_option maxHeartbeats 4000000 in
set_option maxRecDepth 100000 in
theorem goodKids_4 {d : Kd NV} (hd : NKd d) (b : Nat) (h : NV) (k : Fo) (w : World) (hn : NodeAt d w b h k) (hk : h.f0 = 4) :
    Calls Try.prog 26 #[nv b] w fun e w' => e = .returned (.bool (areB [isExprB, isK [0]] k.trees)) ∧ Below w.heap.size w w' := by
  have h0 := hn.c0
  rw [hk] at h0
  obtain ⟨A, c, h5, hl, hC⟩ := hn.kids
  have HC := Aside0.mk hC
  have HN := Aside0.mk hn
  have HK := Aside0.mk hk
  have HLen := Aside0.mk hC.2.1
  have hmh := method_head
  have hmk := method_kids
  clear hC hn hk hl
  go_enter Try.func26, Try.ntmps26
  go_wp2_with (first | (go_at_call 81; refine (head_calls b _ _ h0).mono ?_; rintro e w1 ⟨rfl, rfl⟩) | (go_at_call 82; refine (kids_calls b _ _ h5).mono ?_; rintro e w1 ⟨rfl, rfl⟩))
  refine (isKind_calls (some ⟨w.heap.size + 1, 0, none⟩) 1 [0] _ (by exact ints_new _ [0] 3 (by decide) _ (by simp))).mono ?_
  rintro e w1 ⟨B2, rfl, hq, hb1⟩
  have HG := Aside0.mk (GK.mk' HN.out HC.out hb1 hq)
  clear hq hb1 h0 h5
  have g0 := HG.out.n.c0
  rw [HK.out] at g0
  have g1 := HG.out.x
  go_wp2_with (go_at_call 38; refine (are_calls' hd [qE, qK B2 [0]] ⟨w1.heap.size, 0, none⟩ 2 w.heap.size A c k.trees _ _ rfl (HG.out.below (below_alloc (Below.refl _ _) _)).x (HG.out.below (below_alloc (Below.refl _ _) _)).C (by exact askRow_new _ [qE, qK B2 [0]] 59 _ rfl) (List.forall_mem_cons.2 ⟨qE_ok _ _, (List.forall_mem_cons.2 ⟨qK_ok (HG.out.below (below_alloc (Below.refl _ _) _)).q, (fun _ h_ => absurd h_ List.not_mem_nil)⟩)⟩) (by simp)).mono ?_; rintro e w2 ⟨rfl, hb2⟩; have HB2 := Aside0.mk (below_step (HG.out.below (below_alloc (Below.refl _ _) _)).B hb2); clear hb2)
  go_ret
  exact ⟨rfl, HB2.out⟩
set_option maxHeartbeats 4000000 in
set_option maxRecDepth 100000 in
theorem goodKids_5 {d : Kd NV} (hd : NKd d) (b : Nat) (h : NV) (k : Fo) (w : World) (hn : NodeAt d w b h k) (hk : h.f0 = 5) :
    Calls Try.prog 26 #[nv b] w fun e w' => e = .returned (.bool (areB [isK [0], isExprB] k.trees)) ∧ Below w.heap.size w w' := by
  have h0 := hn.c0
  rw [hk] at h0
  obtain ⟨A, c, h5, hl, hC⟩ := hn.kids
  have HC := Aside0.mk hC
  have HN := Aside0.mk hn
  have HK := Aside0.mk hk
  have HLen := Aside0.mk hC.2.1
  have hmh := method_head
  have hmk := method_kids
  clear hC hn hk hl
  go_enter Try.func26, Try.ntmps26
  go_wp2_with (first | (go_at_call 81; refine (head_calls b _ _ h0).mono ?_; rintro e w1 ⟨rfl, rfl⟩) | (go_at_call 82; refine (kids_calls b _ _ h5).mono ?_; rintro e w1 ⟨rfl, rfl⟩))
  refine (isKind_calls (some ⟨w.heap.size + 1, 0, none⟩) 1 [0] _ (by exact ints_new _ [0] 3 (by decide) _ (by simp))).mono ?_
  rintro e w1 ⟨B2, rfl, hq, hb1⟩
  have HG := Aside0.mk (GK.mk' HN.out HC.out hb1 hq)
  clear hq hb1 h0 h5
  have g0 := HG.out.n.c0
  rw [HK.out] at g0
  have g1 := HG.out.x
  go_wp2_with (go_at_call 38; refine (are_calls' hd [qK B2 [0], qE] ⟨w1.heap.size, 0, none⟩ 2 w.heap.size A c k.trees _ _ rfl (HG.out.below (below_alloc (Below.refl _ _) _)).x (HG.out.below (below_alloc (Below.refl _ _) _)).C (by exact askRow_new _ [qK B2 [0], qE] 59 _ rfl) (List.forall_mem_cons.2 ⟨qK_ok (HG.out.below (below_alloc (Below.refl _ _) _)).q, (List.forall_mem_cons.2 ⟨qE_ok _ _, (fun _ h_ => absurd h_ List.not_mem_nil)⟩)⟩) (by simp)).mono ?_; rintro e w2 ⟨rfl, hb2⟩; have HB2 := Aside0.mk (below_step (HG.out.below (below_alloc (Below.refl _ _) _)).B hb2); clear hb2)
  go_ret
  exact ⟨rfl, HB2.out⟩
set_option maxHeartbeats 4000000 in
set_option maxRecDepth 100000 in
theorem goodKids_17 {d : Kd NV} (hd : NKd d) (b : Nat) (h : NV) (k : Fo) (w : World) (hn : NodeAt d w b h k) (hk : h.f0 = 17) :
    Calls Try.prog 26 #[nv b] w fun e w' => e = .returned (.bool (areB [isExprB, isExprB] k.trees)) ∧ Below w.heap.size w w' := by
  have h0 := hn.c0
  rw [hk] at h0
  obtain ⟨A, c, h5, hl, hC⟩ := hn.kids
  have HC := Aside0.mk hC
  have HN := Aside0.mk hn
  have HK := Aside0.mk hk
  have HLen := Aside0.mk hC.2.1
  have hmh := method_head
  have hmk := method_kids
  clear hC hn hk hl
  go_enter Try.func26, Try.ntmps26
  go_wp2_with (first | (go_at_call 81; refine (head_calls b _ _ h0).mono ?_; rintro e w1 ⟨rfl, rfl⟩) | (go_at_call 82; refine (kids_calls b _ _ h5).mono ?_; rintro e w1 ⟨rfl, rfl⟩))
  refine (isKind_calls (some ⟨w.heap.size + 1, 0, none⟩) 1 [0] _ (by exact ints_new _ [0] 3 (by decide) _ (by simp))).mono ?_
  rintro e w1 ⟨B2, rfl, hq, hb1⟩
  have HG := Aside0.mk (GK.mk' HN.out HC.out hb1 hq)
  clear hq hb1 h0 h5
  have g0 := HG.out.n.c0
  rw [HK.out] at g0
  have g1 := HG.out.x
  go_wp2_with (go_at_call 38; refine (are_calls' hd [qE, qE] ⟨w1.heap.size, 0, none⟩ 2 w.heap.size A c k.trees _ _ rfl (HG.out.below (below_alloc (Below.refl _ _) _)).x (HG.out.below (below_alloc (Below.refl _ _) _)).C (by exact askRow_new _ [qE, qE] 59 _ rfl) (List.forall_mem_cons.2 ⟨qE_ok _ _, (List.forall_mem_cons.2 ⟨qE_ok _ _, (fun _ h_ => absurd h_ List.not_mem_nil)⟩)⟩) (by simp)).mono ?_; rintro e w2 ⟨rfl, hb2⟩; have HB2 := Aside0.mk (below_step (HG.out.below (below_alloc (Below.refl _ _) _)).B hb2); clear hb2)
  go_ret
  exact ⟨rfl, HB2.out⟩
set_option maxHeartbeats 4000000 in
set_option maxRecDepth 100000 in
theorem goodKids_21 {d : Kd NV} (hd : NKd d) (b : Nat) (h : NV) (k : Fo) (w : World) (hn : NodeAt d w b h k) (hk : h.f0 = 21) :
    Calls Try.prog 26 #[nv b] w fun e w' => e = .returned (.bool (areB [isExprB, isExprB] k.trees)) ∧ Below w.heap.size w w' := by
  have h0 := hn.c0
  rw [hk] at h0
  obtain ⟨A, c, h5, hl, hC⟩ := hn.kids
  have HC := Aside0.mk hC
  have HN := Aside0.mk hn
  have HK := Aside0.mk hk
  have HLen := Aside0.mk hC.2.1
  have hmh := method_head
  have hmk := method_kids
  clear hC hn hk hl
  go_enter Try.func26, Try.ntmps26
  go_wp2_with (first | (go_at_call 81; refine (head_calls b _ _ h0).mono ?_; rintro e w1 ⟨rfl, rfl⟩) | (go_at_call 82; refine (kids_calls b _ _ h5).mono ?_; rintro e w1 ⟨rfl, rfl⟩))
  refine (isKind_calls (some ⟨w.heap.size + 1, 0, none⟩) 1 [0] _ (by exact ints_new _ [0] 3 (by decide) _ (by simp))).mono ?_
  rintro e w1 ⟨B2, rfl, hq, hb1⟩
  have HG := Aside0.mk (GK.mk' HN.out HC.out hb1 hq)
  clear hq hb1 h0 h5
  have g0 := HG.out.n.c0
  rw [HK.out] at g0
  have g1 := HG.out.x
  go_wp2_with (go_at_call 38; refine (are_calls' hd [qE, qE] ⟨w1.heap.size, 0, none⟩ 2 w.heap.size A c k.trees _ _ rfl (HG.out.below (below_alloc (Below.refl _ _) _)).x (HG.out.below (below_alloc (Below.refl _ _) _)).C (by exact askRow_new _ [qE, qE] 59 _ rfl) (List.forall_mem_cons.2 ⟨qE_ok _ _, (List.forall_mem_cons.2 ⟨qE_ok _ _, (fun _ h_ => absurd h_ List.not_mem_nil)⟩)⟩) (by simp)).mono ?_; rintro e w2 ⟨rfl, hb2⟩; have HB2 := Aside0.mk (below_step (HG.out.below (below_alloc (Below.refl _ _) _)).B hb2); clear hb2)
  go_ret
  exact ⟨rfl, HB2.out⟩
set_option maxHeartbeats 4000000 in
set_option maxRecDepth 100000 in
theorem goodKids_22 {d : Kd NV} (hd : NKd d) (b : Nat) (h : NV) (k : Fo) (w : World) (hn : NodeAt d w b h k) (hk : h.f0 = 22) :
    Calls Try.prog 26 #[nv b] w fun e w' => e = .returned (.bool (areB [isExprB, isExprB] k.trees)) ∧ Below w.heap.size w w' := by
  have h0 := hn.c0
  rw [hk] at h0
  obtain ⟨A, c, h5, hl, hC⟩ := hn.kids
  have HC := Aside0.mk hC
  have HN := Aside0.mk hn
  have HK := Aside0.mk hk
  have HLen := Aside0.mk hC.2.1
  have hmh := method_head
  have hmk := method_kids
  clear hC hn hk hl
  go_enter Try.func26, Try.ntmps26
  go_wp2_with (first | (go_at_call 81; refine (head_calls b _ _ h0).mono ?_; rintro e w1 ⟨rfl, rfl⟩) | (go_at_call 82; refine (kids_calls b _ _ h5).mono ?_; rintro e w1 ⟨rfl, rfl⟩))
  refine (isKind_calls (some ⟨w.heap.size + 1, 0, none⟩) 1 [0] _ (by exact ints_new _ [0] 3 (by decide) _ (by simp))).mono ?_
  rintro e w1 ⟨B2, rfl, hq, hb1⟩
  have HG := Aside0.mk (GK.mk' HN.out HC.out hb1 hq)
  clear hq hb1 h0 h5
  have g0 := HG.out.n.c0
  rw [HK.out] at g0
  have g1 := HG.out.x
  go_wp2_with (go_at_call 38; refine (are_calls' hd [qE, qE] ⟨w1.heap.size, 0, none⟩ 2 w.heap.size A c k.trees _ _ rfl (HG.out.below (below_alloc (Below.refl _ _) _)).x (HG.out.below (below_alloc (Below.refl _ _) _)).C (by exact askRow_new _ [qE, qE] 59 _ rfl) (List.forall_mem_cons.2 ⟨qE_ok _ _, (List.forall_mem_cons.2 ⟨qE_ok _ _, (fun _ h_ => absurd h_ List.not_mem_nil)⟩)⟩) (by simp)).mono ?_; rintro e w2 ⟨rfl, hb2⟩; have HB2 := Aside0.mk (below_step (HG.out.below (below_alloc (Below.refl _ _) _)).B hb2); clear hb2)
  go_ret
  exact ⟨rfl, HB2.out⟩
set_option maxHeartbeats 4000000 in
set_option maxRecDepth 100000 in
theorem goodKids_23 {d : Kd NV} (hd : NKd d) (b : Nat) (h : NV) (k : Fo) (w : World) (hn : NodeAt d w b h k) (hk : h.f0 = 23) :
    Calls Try.prog 26 #[nv b] w fun e w' => e = .returned (.bool (areB [isExprB, isExprB] k.trees)) ∧ Below w.heap.size w w' := by
  have h0 := hn.c0
  rw [hk] at h0
  obtain ⟨A, c, h5, hl, hC⟩ := hn.kids
  have HC := Aside0.mk hC
  have HN := Aside0.mk hn
  have HK := Aside0.mk hk
  have HLen := Aside0.mk hC.2.1
  have hmh := method_head
  have hmk := method_kids
  clear hC hn hk hl
  go_enter Try.func26, Try.ntmps26
  go_wp2_with (first | (go_at_call 81; refine (head_calls b _ _ h0).mono ?_; rintro e w1 ⟨rfl, rfl⟩) | (go_at_call 82; refine (kids_calls b _ _ h5).mono ?_; rintro e w1 ⟨rfl, rfl⟩))
  refine (isKind_calls (some ⟨w.heap.size + 1, 0, none⟩) 1 [0] _ (by exact ints_new _ [0] 3 (by decide) _ (by simp))).mono ?_
  rintro e w1 ⟨B2, rfl, hq, hb1⟩
  have HG := Aside0.mk (GK.mk' HN.out HC.out hb1 hq)
  clear hq hb1 h0 h5
  have g0 := HG.out.n.c0
  rw [HK.out] at g0
  have g1 := HG.out.x
  go_wp2_with (go_at_call 38; refine (are_calls' hd [qE, qE] ⟨w1.heap.size, 0, none⟩ 2 w.heap.size A c k.trees _ _ rfl (HG.out.below (below_alloc (Below.refl _ _) _)).x (HG.out.below (below_alloc (Below.refl _ _) _)).C (by exact askRow_new _ [qE, qE] 59 _ rfl) (List.forall_mem_cons.2 ⟨qE_ok _ _, (List.forall_mem_cons.2 ⟨qE_ok _ _, (fun _ h_ => absurd h_ List.not_mem_nil)⟩)⟩) (by simp)).mono ?_; rintro e w2 ⟨rfl, hb2⟩; have HB2 := Aside0.mk (below_step (HG.out.below (below_alloc (Below.refl _ _) _)).B hb2); clear hb2)
  go_ret
  exact ⟨rfl, HB2.out⟩
set_option maxHeartbeats 4000000 in
set_option maxRecDepth 100000 in
theorem goodKids_24 {d : Kd NV} (hd : NKd d) (b : Nat) (h : NV) (k : Fo) (w : World) (hn : NodeAt d w b h k) (hk : h.f0 = 24) :
    Calls Try.prog 26 #[nv b] w fun e w' => e = .returned (.bool (areB [isExprB] k.trees)) ∧ Below w.heap.size w w' := by
  have h0 := hn.c0
  rw [hk] at h0
  obtain ⟨A, c, h5, hl, hC⟩ := hn.kids
  have HC := Aside0.mk hC
  have HN := Aside0.mk hn
  have HK := Aside0.mk hk
  have HLen := Aside0.mk hC.2.1
  have hmh := method_head
  have hmk := method_kids
  clear hC hn hk hl
  go_enter Try.func26, Try.ntmps26
  go_wp2_with (first | (go_at_call 81; refine (head_calls b _ _ h0).mono ?_; rintro e w1 ⟨rfl, rfl⟩) | (go_at_call 82; refine (kids_calls b _ _ h5).mono ?_; rintro e w1 ⟨rfl, rfl⟩))
  refine (isKind_calls (some ⟨w.heap.size + 1, 0, none⟩) 1 [0] _ (by exact ints_new _ [0] 3 (by decide) _ (by simp))).mono ?_
  rintro e w1 ⟨B2, rfl, hq, hb1⟩
  have HG := Aside0.mk (GK.mk' HN.out HC.out hb1 hq)
  clear hq hb1 h0 h5
  have g0 := HG.out.n.c0
  rw [HK.out] at g0
  have g1 := HG.out.x
  go_wp2_with (go_at_call 38; refine (are_calls' hd [qE] ⟨w1.heap.size, 0, none⟩ 1 w.heap.size A c k.trees _ _ rfl (HG.out.below (below_alloc (Below.refl _ _) _)).x (HG.out.below (below_alloc (Below.refl _ _) _)).C (by exact askRow_new _ [qE] 59 _ rfl) (List.forall_mem_cons.2 ⟨qE_ok _ _, (fun _ h_ => absurd h_ List.not_mem_nil)⟩) (by simp)).mono ?_; rintro e w2 ⟨rfl, hb2⟩; have HB2 := Aside0.mk (below_step (HG.out.below (below_alloc (Below.refl _ _) _)).B hb2); clear hb2)
  go_ret
  exact ⟨rfl, HB2.out⟩
set_option maxHeartbeats 4000000 in
set_option maxRecDepth 100000 in
theorem goodKids_25 {d : Kd NV} (hd : NKd d) (b : Nat) (h : NV) (k : Fo) (w : World) (hn : NodeAt d w b h k) (hk : h.f0 = 25) :
    Calls Try.prog 26 #[nv b] w fun e w' => e = .returned (.bool (areB [isExprB] k.trees)) ∧ Below w.heap.size w w' := by
  have h0 := hn.c0
  rw [hk] at h0
  obtain ⟨A, c, h5, hl, hC⟩ := hn.kids
  have HC := Aside0.mk hC
  have HN := Aside0.mk hn
  have HK := Aside0.mk hk
  have HLen := Aside0.mk hC.2.1
  have hmh := method_head
  have hmk := method_kids
  clear hC hn hk hl
  go_enter Try.func26, Try.ntmps26
  go_wp2_with (first | (go_at_call 81; refine (head_calls b _ _ h0).mono ?_; rintro e w1 ⟨rfl, rfl⟩) | (go_at_call 82; refine (kids_calls b _ _ h5).mono ?_; rintro e w1 ⟨rfl, rfl⟩))
  refine (isKind_calls (some ⟨w.heap.size + 1, 0, none⟩) 1 [0] _ (by exact ints_new _ [0] 3 (by decide) _ (by simp))).mono ?_
  rintro e w1 ⟨B2, rfl, hq, hb1⟩
  have HG := Aside0.mk (GK.mk' HN.out HC.out hb1 hq)
  clear hq hb1 h0 h5
  have g0 := HG.out.n.c0
  rw [HK.out] at g0
  have g1 := HG.out.x
  go_wp2_with (go_at_call 38; refine (are_calls' hd [qE] ⟨w1.heap.size, 0, none⟩ 1 w.heap.size A c k.trees _ _ rfl (HG.out.below (below_alloc (Below.refl _ _) _)).x (HG.out.below (below_alloc (Below.refl _ _) _)).C (by exact askRow_new _ [qE] 59 _ rfl) (List.forall_mem_cons.2 ⟨qE_ok _ _, (fun _ h_ => absurd h_ List.not_mem_nil)⟩) (by simp)).mono ?_; rintro e w2 ⟨rfl, hb2⟩; have HB2 := Aside0.mk (below_step (HG.out.below (below_alloc (Below.refl _ _) _)).B hb2); clear hb2)
  go_ret
  exact ⟨rfl, HB2.out⟩
set_option maxHeartbeats 4000000 in
set_option maxRecDepth 100000 in
theorem goodKids_8 {d : Kd NV} (hd : NKd d) (b : Nat) (h : NV) (k : Fo) (w : World) (hn : NodeAt d w b h k) (hk : h.f0 = 8) :
    Calls Try.prog 26 #[nv b] w fun e w' => e = .returned (.bool (decide (k.trees.length = 0))) ∧ Below w.heap.size w w' := by
  obtain ⟨z, hz⟩ : ∃ z, z = decide (k.trees.length = 0) := ⟨_, rfl⟩
  have hz2 : (((k.trees.length : Nat) : Int) == 0) = z := by
    rw [hz, Bool.eq_iff_iff, beq_iff_eq, decide_eq_true_eq]; omega
  rw [← hz]
  clear hz
  have h0 := hn.c0
  rw [hk] at h0
  obtain ⟨A, c, h5, hl, hC⟩ := hn.kids
  have HC := Aside0.mk hC
  have HN := Aside0.mk hn
  have HK := Aside0.mk hk
  have HLen := Aside0.mk hC.2.1
  have hmh := method_head
  have hmk := method_kids
  clear hC hn hk hl
  go_enter Try.func26, Try.ntmps26
  go_wp2_with (first | (go_at_call 81; refine (head_calls b _ _ h0).mono ?_; rintro e w1 ⟨rfl, rfl⟩) | (go_at_call 82; refine (kids_calls b _ _ h5).mono ?_; rintro e w1 ⟨rfl, rfl⟩))
  refine (isKind_calls (some ⟨w.heap.size + 1, 0, none⟩) 1 [0] _ (by exact ints_new _ [0] 3 (by decide) _ (by simp))).mono ?_
  rintro e w1 ⟨B2, rfl, hq, hb1⟩
  have HG := Aside0.mk (GK.mk' HN.out HC.out hb1 hq)
  clear hq hb1 h0 h5
  have g0 := HG.out.n.c0
  rw [HK.out] at g0
  have g1 := HG.out.x
  go_wp2
  go_ret
  exact ⟨rfl, HG.out.B⟩
set_option maxHeartbeats 4000000 in
set_option maxRecDepth 100000 in
theorem goodKids_11 {d : Kd NV} (hd : NKd d) (b : Nat) (h : NV) (k : Fo) (w : World) (hn : NodeAt d w b h k) (hk : h.f0 = 11) :
    Calls Try.prog 26 #[nv b] w fun e w' => e = .returned (.bool (decide (k.trees.length = 0))) ∧ Below w.heap.size w w' := by
  obtain ⟨z, hz⟩ : ∃ z, z = decide (k.trees.length = 0) := ⟨_, rfl⟩
  have hz2 : (((k.trees.length : Nat) : Int) == 0) = z := by
    rw [hz, Bool.eq_iff_iff, beq_iff_eq, decide_eq_true_eq]; omega
  rw [← hz]
  clear hz
  have h0 := hn.c0
  rw [hk] at h0
  obtain ⟨A, c, h5, hl, hC⟩ := hn.kids
  have HC := Aside0.mk hC
  have HN := Aside0.mk hn
  have HK := Aside0.mk hk
  have HLen := Aside0.mk hC.2.1
  have hmh := method_head
  have hmk := method_kids
  clear hC hn hk hl
  go_enter Try.func26, Try.ntmps26
  go_wp2_with (first | (go_at_call 81; refine (head_calls b _ _ h0).mono ?_; rintro e w1 ⟨rfl, rfl⟩) | (go_at_call 82; refine (kids_calls b _ _ h5).mono ?_; rintro e w1 ⟨rfl, rfl⟩))
  refine (isKind_calls (some ⟨w.heap.size + 1, 0, none⟩) 1 [0] _ (by exact ints_new _ [0] 3 (by decide) _ (by simp))).mono ?_
  rintro e w1 ⟨B2, rfl, hq, hb1⟩
  have HG := Aside0.mk (GK.mk' HN.out HC.out hb1 hq)
  clear hq hb1 h0 h5
  have g0 := HG.out.n.c0
  rw [HK.out] at g0
  have g1 := HG.out.x
  go_wp2
  go_ret
  exact ⟨rfl, HG.out.B⟩
set_option maxHeartbeats 4000000 in
set_option maxRecDepth 100000 in
theorem goodKids_12 {d : Kd NV} (hd : NKd d) (b : Nat) (h : NV) (k : Fo) (w : World) (hn : NodeAt d w b h k) (hk : h.f0 = 12) :
    Calls Try.prog 26 #[nv b] w fun e w' => e = .returned (.bool (decide (k.trees.length = 0))) ∧ Below w.heap.size w w' := by
  obtain ⟨z, hz⟩ : ∃ z, z = decide (k.trees.length = 0) := ⟨_, rfl⟩
  have hz2 : (((k.trees.length : Nat) : Int) == 0) = z := by
    rw [hz, Bool.eq_iff_iff, beq_iff_eq, decide_eq_true_eq]; omega
  rw [← hz]
  clear hz
  have h0 := hn.c0
  rw [hk] at h0
  obtain ⟨A, c, h5, hl, hC⟩ := hn.kids
  have HC := Aside0.mk hC
  have HN := Aside0.mk hn
  have HK := Aside0.mk hk
  have HLen := Aside0.mk hC.2.1
  have hmh := method_head
  have hmk := method_kids
  clear hC hn hk hl
  go_enter Try.func26, Try.ntmps26
  go_wp2_with (first | (go_at_call 81; refine (head_calls b _ _ h0).mono ?_; rintro e w1 ⟨rfl, rfl⟩) | (go_at_call 82; refine (kids_calls b _ _ h5).mono ?_; rintro e w1 ⟨rfl, rfl⟩))
  refine (isKind_calls (some ⟨w.heap.size + 1, 0, none⟩) 1 [0] _ (by exact ints_new _ [0] 3 (by decide) _ (by simp))).mono ?_
  rintro e w1 ⟨B2, rfl, hq, hb1⟩
  have HG := Aside0.mk (GK.mk' HN.out HC.out hb1 hq)
  clear hq hb1 h0 h5
  have g0 := HG.out.n.c0
  rw [HK.out] at g0
  have g1 := HG.out.x
  go_wp2
  go_ret
  exact ⟨rfl, HG.out.B⟩
set_option maxHeartbeats 4000000 in
set_option maxRecDepth 100000 in
theorem goodKids_13 {d : Kd NV} (hd : NKd d) (b : Nat) (h : NV) (k : Fo) (w : World) (hn : NodeAt d w b h k) (hk : h.f0 = 13) :
    Calls Try.prog 26 #[nv b] w fun e w' => e = .returned (.bool (decide (k.trees.length = 0))) ∧ Below w.heap.size w w' := by
  obtain ⟨z, hz⟩ : ∃ z, z = decide (k.trees.length = 0) := ⟨_, rfl⟩
  have hz2 : (((k.trees.length : Nat) : Int) == 0) = z := by
    rw [hz, Bool.eq_iff_iff, beq_iff_eq, decide_eq_true_eq]; omega
  rw [← hz]
  clear hz
  have h0 := hn.c0
  rw [hk] at h0
  obtain ⟨A, c, h5, hl, hC⟩ := hn.kids
  have HC := Aside0.mk hC
  have HN := Aside0.mk hn
  have HK := Aside0.mk hk
  have HLen := Aside0.mk hC.2.1
  have hmh := method_head
  have hmk := method_kids
  clear hC hn hk hl
  go_enter Try.func26, Try.ntmps26
  go_wp2_with (first | (go_at_call 81; refine (head_calls b _ _ h0).mono ?_; rintro e w1 ⟨rfl, rfl⟩) | (go_at_call 82; refine (kids_calls b _ _ h5).mono ?_; rintro e w1 ⟨rfl, rfl⟩))
  refine (isKind_calls (some ⟨w.heap.size + 1, 0, none⟩) 1 [0] _ (by exact ints_new _ [0] 3 (by decide) _ (by simp))).mono ?_
  rintro e w1 ⟨B2, rfl, hq, hb1⟩
  have HG := Aside0.mk (GK.mk' HN.out HC.out hb1 hq)
  clear hq hb1 h0 h5
  have g0 := HG.out.n.c0
  rw [HK.out] at g0
  have g1 := HG.out.x
  go_wp2
  go_ret
  exact ⟨rfl, HG.out.B⟩
set_option maxHeartbeats 4000000 in
set_option maxRecDepth 100000 in
theorem goodKids_14 {d : Kd NV} (hd : NKd d) (b : Nat) (h : NV) (k : Fo) (w : World) (hn : NodeAt d w b h k) (hk : h.f0 = 14) :
    Calls Try.prog 26 #[nv b] w fun e w' => e = .returned (.bool (decide (k.trees.length = 0))) ∧ Below w.heap.size w w' := by
  obtain ⟨z, hz⟩ : ∃ z, z = decide (k.trees.length = 0) := ⟨_, rfl⟩
  have hz2 : (((k.trees.length : Nat) : Int) == 0) = z := by
    rw [hz, Bool.eq_iff_iff, beq_iff_eq, decide_eq_true_eq]; omega
  rw [← hz]
  clear hz
  have h0 := hn.c0
  rw [hk] at h0
  obtain ⟨A, c, h5, hl, hC⟩ := hn.kids
  have HC := Aside0.mk hC
  have HN := Aside0.mk hn
  have HK := Aside0.mk hk
  have HLen := Aside0.mk hC.2.1
  have hmh := method_head
  have hmk := method_kids
  clear hC hn hk hl
  go_enter Try.func26, Try.ntmps26
  go_wp2_with (first | (go_at_call 81; refine (head_calls b _ _ h0).mono ?_; rintro e w1 ⟨rfl, rfl⟩) | (go_at_call 82; refine (kids_calls b _ _ h5).mono ?_; rintro e w1 ⟨rfl, rfl⟩))
  refine (isKind_calls (some ⟨w.heap.size + 1, 0, none⟩) 1 [0] _ (by exact ints_new _ [0] 3 (by decide) _ (by simp))).mono ?_
  rintro e w1 ⟨B2, rfl, hq, hb1⟩
  have HG := Aside0.mk (GK.mk' HN.out HC.out hb1 hq)
  clear hq hb1 h0 h5
  have g0 := HG.out.n.c0
  rw [HK.out] at g0
  have g1 := HG.out.x
  go_wp2
  go_ret
  exact ⟨rfl, HG.out.B⟩
set_option maxHeartbeats 4000000 in
set_option maxRecDepth 100000 in
theorem goodKids_15 {d : Kd NV} (hd : NKd d) (b : Nat) (h : NV) (k : Fo) (w : World) (hn : NodeAt d w b h k) (hk : h.f0 = 15) :
    Calls Try.prog 26 #[nv b] w fun e w' => e = .returned (.bool (decide (k.trees.length = 0))) ∧ Below w.heap.size w w' := by
  obtain ⟨z, hz⟩ : ∃ z, z = decide (k.trees.length = 0) := ⟨_, rfl⟩
  have hz2 : (((k.trees.length : Nat) : Int) == 0) = z := by
    rw [hz, Bool.eq_iff_iff, beq_iff_eq, decide_eq_true_eq]; omega
  rw [← hz]
  clear hz
  have h0 := hn.c0
  rw [hk] at h0
  obtain ⟨A, c, h5, hl, hC⟩ := hn.kids
  have HC := Aside0.mk hC
  have HN := Aside0.mk hn
  have HK := Aside0.mk hk
  have HLen := Aside0.mk hC.2.1
  have hmh := method_head
  have hmk := method_kids
  clear hC hn hk hl
  go_enter Try.func26, Try.ntmps26
  go_wp2_with (first | (go_at_call 81; refine (head_calls b _ _ h0).mono ?_; rintro e w1 ⟨rfl, rfl⟩) | (go_at_call 82; refine (kids_calls b _ _ h5).mono ?_; rintro e w1 ⟨rfl, rfl⟩))
  refine (isKind_calls (some ⟨w.heap.size + 1, 0, none⟩) 1 [0] _ (by exact ints_new _ [0] 3 (by decide) _ (by simp))).mono ?_
  rintro e w1 ⟨B2, rfl, hq, hb1⟩
  have HG := Aside0.mk (GK.mk' HN.out HC.out hb1 hq)
  clear hq hb1 h0 h5
  have g0 := HG.out.n.c0
  rw [HK.out] at g0
  have g1 := HG.out.x
  go_wp2
  go_ret
  exact ⟨rfl, HG.out.B⟩
set_option maxHeartbeats 4000000 in
set_option maxRecDepth 100000 in
theorem goodKids_16 {d : Kd NV} (hd : NKd d) (b : Nat) (h : NV) (k : Fo) (w : World) (hn : NodeAt d w b h k) (hk : h.f0 = 16) :
    Calls Try.prog 26 #[nv b] w fun e w' => e = .returned (.bool (decide (k.trees.length = 0))) ∧ Below w.heap.size w w' := by
  obtain ⟨z, hz⟩ : ∃ z, z = decide (k.trees.length = 0) := ⟨_, rfl⟩
  have hz2 : (((k.trees.length : Nat) : Int) == 0) = z := by
    rw [hz, Bool.eq_iff_iff, beq_iff_eq, decide_eq_true_eq]; omega
  rw [← hz]
  clear hz
  have h0 := hn.c0
  rw [hk] at h0
  obtain ⟨A, c, h5, hl, hC⟩ := hn.kids
  have HC := Aside0.mk hC
  have HN := Aside0.mk hn
  have HK := Aside0.mk hk
  have HLen := Aside0.mk hC.2.1
  have hmh := method_head
  have hmk := method_kids
  clear hC hn hk hl
  go_enter Try.func26, Try.ntmps26
  go_wp2_with (first | (go_at_call 81; refine (head_calls b _ _ h0).mono ?_; rintro e w1 ⟨rfl, rfl⟩) | (go_at_call 82; refine (kids_calls b _ _ h5).mono ?_; rintro e w1 ⟨rfl, rfl⟩))
  refine (isKind_calls (some ⟨w.heap.size + 1, 0, none⟩) 1 [0] _ (by exact ints_new _ [0] 3 (by decide) _ (by simp))).mono ?_
  rintro e w1 ⟨B2, rfl, hq, hb1⟩
  have HG := Aside0.mk (GK.mk' HN.out HC.out hb1 hq)
  clear hq hb1 h0 h5
  have g0 := HG.out.n.c0
  rw [HK.out] at g0
  have g1 := HG.out.x
  go_wp2
  go_ret
  exact ⟨rfl, HG.out.B⟩
end Go.Proofs.Ytogffkekgfkhkaa.C
