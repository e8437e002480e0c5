/- Kinds of nodes. -/
import Derived.Test.YtogffkekgfkhkaaZvV3
import Derived.Deep.RegionLaw
import Derived.Test.YtogffkekgfkhkaaZvK
namespace Go.Proofs.Ytogffkekgfkhkaa.C
open Go.RowKit Go.Proofs.YtogffkekgfkhkaaW.PrintWords Go.Proofs.YtogffkekgfkhkaaW.PrintLast Go.Proofs.YtogffkekgfkhkaaW.PrintMore
set_option linter.unusedVariables false
set_option linter.unusedSimpArgs false
theorem run_head (A : Option Addr) (n c : Nat) (m : Int) (h0 : 0 ≤ m) (hm : m ≤ n) (hc : n ≤ c) : ∀ W : World, (Instr.slice 68 (.slice A n c) none (some (.int .i64 m)) none).run Try.prog W = .ok (.slice A m.toNat c) W := by
  obtain ⟨i, hi, h1⟩ := Option.map_eq_some_iff.1 info39
  simp only [Prod.mk.injEq] at h1
  intro W
  have hel : Try.prog.elem 68 = 39 := by simp [Program.elem, Try.underlying68]
  have hu : Try.prog.underlying 68 = some (.slice (Try.prog.elem 68)) := by rw [hel]; exact Try.underlying68
  rw [run_slice_h W 68 A n c hu .i64 m h0 (by omega), hel]
  simp [sizeOf, typeInfo, hi, h1.2.1, sliced, Result.andThen]
  intro _
  cases A <;> simp [Addr.add]
theorem run_tail (A : Option Addr) (n c : Nat) (m : Int) (h0 : 0 ≤ m) (hm : m ≤ n) (hc : n ≤ c) : ∀ W : World, (Instr.slice 68 (.slice A n c) (some (.int .i64 m)) none none).run Try.prog W = .ok (.slice (if c = m.toNat then A else A.map (·.add (m.toNat * 1))) (n - m.toNat) (c - m.toNat)) W := by
  obtain ⟨i, hi, h1⟩ := Option.map_eq_some_iff.1 info39
  simp only [Prod.mk.injEq] at h1
  intro W
  have hel : Try.prog.elem 68 = 39 := by simp [Program.elem, Try.underlying68]
  have hu : Try.prog.underlying 68 = some (.slice (Try.prog.elem 68)) := by rw [hel]; exact Try.underlying68
  rw [run_slice_l W 68 A n c hu .i64 m h0 (by omega), hel]
  simp [sizeOf, typeInfo, hi, h1.2.1, sliced, Result.andThen]
theorem NodeAt.c1 {d : Kd NV} {w : World} {b : Nat} {h : NV} {k : Fo} (hn : NodeAt d w b h k) : w.cell? ⟨b, 1, none⟩ = some (.int .i64 h.f1) := by
  obtain ⟨v2, v3, A, c, h1, -⟩ := hn
  exact (blk_cell h1 1).trans rfl
set_option maxHeartbeats 4000000 in
set_option maxRecDepth 100000 in
theorem goodKids_2a {d : Kd NV} (hd : NKd d) (b : Nat) (h : NV) (k : Fo) (w : World) (hn : NodeAt d w b h k) (hk : h.f0 = 2) (hc : h.f1 < 1) :
    Calls Try.prog 26 #[nv b] w fun e w' => e = .returned (.bool (asgB h.f1 k.trees)) ∧ Below w.heap.size w w' := by
  have he : asgB h.f1 k.trees = false := by simp [asgB, hc]
  have HE := Aside0.mk he
  rw [he]
  clear he
  have h0 := hn.c0
  rw [hk] at h0
  obtain ⟨A, c, h5, hl, hC⟩ := hn.kids
  have HC := Aside0.mk hC
  have HN := Aside0.mk hn
  have HK := Aside0.mk hk
  have HLen := Aside0.mk hC.2.1
  have hmh := method_head
  have hmk := method_kids
  have d1 : decide (h.f1 < 1) = true := decide_eq_true hc
  clear hc
  have HL := Aside0.mk hl
  clear hC hn hk hl
  go_enter Try.func26, Try.ntmps26
  go_wp2_with (first | (go_at_call 81; refine (head_calls b _ _ h0).mono ?_; rintro e w1 ⟨rfl, rfl⟩) | (go_at_call 82; refine (kids_calls b _ _ h5).mono ?_; rintro e w1 ⟨rfl, rfl⟩))
  refine (isKind_calls (some ⟨w.heap.size + 1, 0, none⟩) 1 [0] _ (by exact ints_new _ [0] 3 (by decide) _ (by simp))).mono ?_
  rintro e w1 ⟨B2, rfl, hq, hb1⟩
  have HG := Aside0.mk (GK.mk' HN.out HC.out hb1 hq)
  clear hq hb1 h0 h5
  have g0 := HG.out.n.c0
  rw [HK.out] at g0
  have g1 := HG.out.x
  have gN := HG.out.n.c1
  go_wp2
  go_quiet (fail)
  go_wp2
  go_ret
  exact ⟨rfl, below_drewN HG.out.B _⟩
set_option maxHeartbeats 4000000 in
set_option maxRecDepth 100000 in
theorem goodKids_2b {d : Kd NV} (hd : NKd d) (b : Nat) (h : NV) (k : Fo) (w : World) (hn : NodeAt d w b h k) (hk : h.f0 = 2) (hc : ¬ h.f1 < 1) (hc2 : 50 < h.f1) :
    Calls Try.prog 26 #[nv b] w fun e w' => e = .returned (.bool (asgB h.f1 k.trees)) ∧ Below w.heap.size w w' := by
  have he : asgB h.f1 k.trees = false := by simp [asgB, hc, hc2]
  have HE := Aside0.mk he
  rw [he]
  clear he
  have h0 := hn.c0
  rw [hk] at h0
  obtain ⟨A, c, h5, hl, hC⟩ := hn.kids
  have HC := Aside0.mk hC
  have HN := Aside0.mk hn
  have HK := Aside0.mk hk
  have HLen := Aside0.mk hC.2.1
  have hmh := method_head
  have hmk := method_kids
  have d1 : decide (h.f1 < 1) = false := decide_eq_false hc
  have d2 : decide (50 < h.f1) = true := decide_eq_true hc2
  clear hc hc2
  have HL := Aside0.mk hl
  clear hC hn hk hl
  go_enter Try.func26, Try.ntmps26
  go_wp2_with (first | (go_at_call 81; refine (head_calls b _ _ h0).mono ?_; rintro e w1 ⟨rfl, rfl⟩) | (go_at_call 82; refine (kids_calls b _ _ h5).mono ?_; rintro e w1 ⟨rfl, rfl⟩))
  refine (isKind_calls (some ⟨w.heap.size + 1, 0, none⟩) 1 [0] _ (by exact ints_new _ [0] 3 (by decide) _ (by simp))).mono ?_
  rintro e w1 ⟨B2, rfl, hq, hb1⟩
  have HG := Aside0.mk (GK.mk' HN.out HC.out hb1 hq)
  clear hq hb1 h0 h5
  have g0 := HG.out.n.c0
  rw [HK.out] at g0
  have g1 := HG.out.x
  have gN := HG.out.n.c1
  go_wp2
  go_quiet (fail)
  go_wp2
  go_ret
  exact ⟨rfl, below_drewN HG.out.B _⟩
set_option maxHeartbeats 4000000 in
set_option maxRecDepth 100000 in
theorem goodKids_2c {d : Kd NV} (hd : NKd d) (b : Nat) (h : NV) (k : Fo) (w : World) (hn : NodeAt d w b h k) (hk : h.f0 = 2) (hc : ¬ h.f1 < 1) (hc2 : ¬ 50 < h.f1) (hc3 : (k.trees.length : Int) ≤ h.f1) :
    Calls Try.prog 26 #[nv b] w fun e w' => e = .returned (.bool (asgB h.f1 k.trees)) ∧ Below w.heap.size w w' := by
  have he : asgB h.f1 k.trees = false := by simp [asgB, hc, hc2, hc3]
  have HE := Aside0.mk he
  rw [he]
  clear he
  have h0 := hn.c0
  rw [hk] at h0
  obtain ⟨A, c, h5, hl, hC⟩ := hn.kids
  have HC := Aside0.mk hC
  have HN := Aside0.mk hn
  have HK := Aside0.mk hk
  have HLen := Aside0.mk hC.2.1
  have hmh := method_head
  have hmk := method_kids
  have d1 : decide (h.f1 < 1) = false := decide_eq_false hc
  have d2 : decide (50 < h.f1) = false := decide_eq_false hc2
  have d3 : decide (((k.trees.length : Nat) : Int) ≤ h.f1) = true := decide_eq_true hc3
  clear hc hc2 hc3
  have HL := Aside0.mk hl
  clear hC hn hk hl
  go_enter Try.func26, Try.ntmps26
  go_wp2_with (first | (go_at_call 81; refine (head_calls b _ _ h0).mono ?_; rintro e w1 ⟨rfl, rfl⟩) | (go_at_call 82; refine (kids_calls b _ _ h5).mono ?_; rintro e w1 ⟨rfl, rfl⟩))
  refine (isKind_calls (some ⟨w.heap.size + 1, 0, none⟩) 1 [0] _ (by exact ints_new _ [0] 3 (by decide) _ (by simp))).mono ?_
  rintro e w1 ⟨B2, rfl, hq, hb1⟩
  have HG := Aside0.mk (GK.mk' HN.out HC.out hb1 hq)
  clear hq hb1 h0 h5
  have g0 := HG.out.n.c0
  rw [HK.out] at g0
  have g1 := HG.out.x
  have gN := HG.out.n.c1
  go_wp2
  go_quiet (fail)
  go_wp2
  go_ret
  exact ⟨rfl, below_drewN HG.out.B _⟩
set_option maxHeartbeats 4000000 in
set_option maxRecDepth 100000 in
theorem goodKids_2d {d : Kd NV} (hd : NKd d) (b : Nat) (h : NV) (k : Fo) (w : World) (hn : NodeAt d w b h k) (hk : h.f0 = 2) (hc : ¬ h.f1 < 1) (hc2 : ¬ 50 < h.f1) (hc3 : ¬ (k.trees.length : Int) ≤ h.f1) (hc4 : h.f1 + 50 < (k.trees.length : Int)) :
    Calls Try.prog 26 #[nv b] w fun e w' => e = .returned (.bool (asgB h.f1 k.trees)) ∧ Below w.heap.size w w' := by
  have he : asgB h.f1 k.trees = false := by simp [asgB, hc, hc2, hc3, hc4]
  have HE := Aside0.mk he
  rw [he]
  clear he
  have h0 := hn.c0
  rw [hk] at h0
  obtain ⟨A, c, h5, hl, hC⟩ := hn.kids
  have HC := Aside0.mk hC
  have HN := Aside0.mk hn
  have HK := Aside0.mk hk
  have HLen := Aside0.mk hC.2.1
  have hmh := method_head
  have hmk := method_kids
  have d1 : decide (h.f1 < 1) = false := decide_eq_false hc
  have d2 : decide (50 < h.f1) = false := decide_eq_false hc2
  have d3 : decide (((k.trees.length : Nat) : Int) ≤ h.f1) = false := decide_eq_false hc3
  have hw : wrap64 (h.f1 + 50) = h.f1 + 50 := by unfold wrap64; omega
  have d4 : decide (h.f1 + 50 < ((k.trees.length : Nat) : Int)) = true := decide_eq_true hc4
  clear hc hc2 hc3 hc4
  have HL := Aside0.mk hl
  clear hC hn hk hl
  go_enter Try.func26, Try.ntmps26
  go_wp2_with (first | (go_at_call 81; refine (head_calls b _ _ h0).mono ?_; rintro e w1 ⟨rfl, rfl⟩) | (go_at_call 82; refine (kids_calls b _ _ h5).mono ?_; rintro e w1 ⟨rfl, rfl⟩))
  refine (isKind_calls (some ⟨w.heap.size + 1, 0, none⟩) 1 [0] _ (by exact ints_new _ [0] 3 (by decide) _ (by simp))).mono ?_
  rintro e w1 ⟨B2, rfl, hq, hb1⟩
  have HG := Aside0.mk (GK.mk' HN.out HC.out hb1 hq)
  clear hq hb1 h0 h5
  have g0 := HG.out.n.c0
  rw [HK.out] at g0
  have g1 := HG.out.x
  have gN := HG.out.n.c1
  go_wp2
  go_quiet (fail)
  go_wp2
  go_ret
  exact ⟨rfl, below_drewN HG.out.B _⟩
end Go.Proofs.Ytogffkekgfkhkaa.C
