/- impl.validTree. -/
import Derived.Test.YtogffkekgfkhkaaZvV2
import Derived.Test.YtogffkekgfkhkaaZvV3
import Derived.Test.YtogffkekgfkhkaaZvV4
import Derived.Test.YtogffkekgfkhkaaZvV5
import Derived.Test.YtogffkekgfkhkaaZvV6
import Derived.Test.YtogffkekgfkhkaaZvV7
import Derived.RangeFuncFrom
import Derived.Test.YtogffkekgfkhkaaZvK
namespace Go.Proofs.Ytogffkekgfkhkaa.C
open Go.RowKit Go.Proofs.YtogffkekgfkhkaaW.PrintWords Go.Proofs.YtogffkekgfkhkaaW.PrintLast Go.Proofs.YtogffkekgfkhkaaW.PrintMore
set_option linter.unusedVariables false
set_option linter.unusedSimpArgs false
open Go.Shelf
attribute [local go_sem] Oper.semAt_some
def okN (t : NV × Fo) : Bool := decide (0 ≤ t.1.f0) && decide (t.1.f0 ≤ 26) && fieldsB t.1 && goodKidsB t.1.f0 t.1.f1 t.2.trees
def GKC : Prop := ∀ (d : Kd NV), NKd d → ∀ (b : Nat) (h : NV) (k : Fo) (w : World), NodeAt d w b h k → 0 ≤ h.f0 → h.f0 ≤ 26 → Calls Try.prog 26 #[nv b] w fun e w' => e = .returned (.bool (goodKidsB h.f0 h.f1 k.trees)) ∧ Below w.heap.size w w'
def treeOK (l : List NV) : Option (NV × Fo) := if l.length < 1 ∨ 6000 < l.length then none else
  match l with
  | [] => none
  | h :: _ => if h.f0 = 0 then match treeF 200 l with
    | some (t, []) => if (nodesT t).all okN then some t else none
    | _ => none
  else none
/-- What validTree hands back: the tree, where the list is a good one. -/
def ValidR (w0 w : World) (l : List NV) (e : Ending) (w' : World) : Prop := match treeOK l with
  | none => e = .returned (.tuple #[.nilIface, .bool false])
  | some t => ∃ b, e = .returned (.tuple #[nv b, .bool (brkT false t)]) ∧ (kn (Kd.fixed k34 w0)).M w' w.heap.size (fun _ => True) t [nv b]
theorem below_kept {n : Nat} {w W W' : World} {row : Option Nat} (h : Below n w W) (hg : W.grownBy W' row) (hr : ∀ r, row = some r → n ≤ r) (hn : n ≤ W.heap.size) : Below n w W' :=
  h.trans ⟨hg.os, hg.tape, hg.output, hg.size, fun k hk => hg.block k (Nat.lt_of_lt_of_le hk hn) (fun e => by have := hr k e.symm; omega)⟩
theorem KP.kept {w0 A W W' : World} {row : Option Nat} (h : KP w0 A W) (hg : W.grownBy W' row) (hr : ∀ r, row = some r → w0.heap.size ≤ r ∧ ∃ o : Obj, W.heap[r]? = some o ∧ o.isCells = false) (hn : w0.heap.size ≤ W.heap.size) : KP w0 A W' :=
  h.trans ⟨below_kept (Below.refl _ _) hg (fun r e => (hr r e).1) hn, hg.size, fun k cs t r hk => (hg.block k (blk_lt hk) (fun e => by
    obtain ⟨_, o, ho, hc⟩ := hr k e.symm
    rw [ho] at hk
    cases hk
    simp [Obj.isCells] at hc)).trans hk⟩
theorem keepsOthers_of {W W' : World} (h : Below W.heap.size W W') : KeepsOthers W W' := ⟨h.size, fun k o hk _ => (h.block k (blk_lt hk)).trans hk⟩
theorem two_cells (w : World) (v0 v1 : Value) (t0 t1 : TypeId) : ((w.alloc (.cells #[v0] t0)).alloc (.cells #[v1] t1)).cell? ⟨w.heap.size, 0, none⟩ = some v0 ∧ ((w.alloc (.cells #[v0] t0)).alloc (.cells #[v1] t1)).cell? ⟨w.heap.size + 1, 0, none⟩ = some v1 := by
  constructor
  · exact cell_old _ ((blk_cell (heap_alloc_new w _) 0).trans rfl)
  · have := (blk_cell (heap_alloc_new (w.alloc (.cells #[v0] t0)) (.cells #[v1] t1)) 0).trans rfl
    rw [World.size_alloc] at this
    exact this
theorem blk_kept {W W' : World} {row : Option Nat} {k : Nat} {cs : Array Value} {t : TypeId} {r : Nat × Nat} (h : W.heap[k]? = some (.cells cs t r)) (hg : W.grownBy W' row) (hr : ∀ r, row = some r → ∃ o : Obj, W.heap[r]? = some o ∧ o.isCells = false) : W'.heap[k]? = some (.cells cs t r) :=
  (hg.block k (blk_lt h) (fun e => by
    obtain ⟨o, ho, hc⟩ := hr k e.symm
    rw [ho] at h
    cases h
    simp [Obj.isCells] at hc)).trans h
theorem two_blks (w : World) (v0 v1 : Value) (t0 t1 : TypeId) : ((w.alloc (.cells #[v0] t0)).alloc (.cells #[v1] t1)).heap[w.heap.size]? = some (.cells #[v0] t0 (0, 0)) ∧ ((w.alloc (.cells #[v0] t0)).alloc (.cells #[v1] t1)).heap[w.heap.size + 1]? = some (.cells #[v1] t1 (0, 0)) := by
  constructor
  · rw [heap_alloc_old _ _ (by simp), heap_alloc_new]
  · have := heap_alloc_new (w.alloc (.cells #[v0] t0)) (.cells #[v1] t1)
    rw [World.size_alloc] at this
    exact this
theorem two_set {W : World} {r0 r1 : Nat} {a b : Value} {t0 t1 : TypeId} (v0 v1 : Value) (h0 : W.heap[r0]? = some (.cells #[a] t0 (0, 0))) (h1 : W.heap[r1]? = some (.cells #[b] t1 (0, 0))) (hn : r0 ≠ r1) :
    ((W.setCell ⟨r0, 0, none⟩ v0).setCell ⟨r1, 0, none⟩ v1).heap[r0]? = some (.cells #[v0] t0 (0, 0)) ∧ ((W.setCell ⟨r0, 0, none⟩ v0).setCell ⟨r1, 0, none⟩ v1).heap[r1]? = some (.cells #[v1] t1 (0, 0)) := by
  constructor
  · exact (Below.heap_setCell _ ⟨r1, 0, none⟩ v1 r0 hn).trans (heap_setCell_same W r0 0 _ t0 v0 h0)
  · exact heap_setCell_same _ r1 0 _ t1 v1 ((Below.heap_setCell W ⟨r0, 0, none⟩ v0 r1 (Ne.symm hn)).trans h1)
theorem valid_no {w0 w w' : World} {l : List NV} {e : Ending} (h : treeOK l = none) (he : e = .returned (.tuple #[.nilIface, .bool false])) : ValidR w0 w l e w' := by unfold ValidR; rw [h]; exact he
theorem valid_yes {w0 w w' : World} {l : List NV} {t : NV × Fo} {e : Ending} (h : treeOK l = some t) {b : Nat} (he : e = .returned (.tuple #[nv b, .bool (brkT false t)])) (hM : (kn (Kd.fixed k34 w0)).M w' w.heap.size (fun _ => True) t [nv b]) : ValidR w0 w l e w' := by unfold ValidR; rw [h]; exact ⟨b, he, hM⟩
set_option maxHeartbeats 8000000 in
set_option maxRecDepth 100000 in
/-- what stands ahead of the tree's reading -/
theorem valid_short (A : Option Addr) (c : Nat) (l : List NV) (w : World) (hl : l.length < 1 ∨ 6000 < l.length) :
    CallsIn Fence.wide 3 Try.prog 13 #[.slice A l.length c] w fun e w' => ValidR w w l e w' ∧ Below w.heap.size w w' := by
  have HV : Aside0 (treeOK l = none) := ⟨by unfold treeOK; rw [if_pos hl]⟩
  have d1 : decide (((l.length : Nat) : Int) < 1) = decide (l.length < 1) := decide_eq_decide.2 (by omega)
  have d2 : decide (6000 < ((l.length : Nat) : Int)) = decide (6000 < l.length) := decide_eq_decide.2 (by omega)
  obtain ⟨hc0, hc1⟩ := two_cells w .nilIface (.bool false) 39 4
  have H0 := Aside0.mk hc0
  have H1 := Aside0.mk hc1
  have HL : Aside0 (decide (l.length < 1) = false → decide (6000 < l.length) = true) := ⟨fun h => decide_eq_true (by have := of_decide_eq_false h; omega)⟩
  obtain ⟨z1, hz1⟩ : ∃ z, z = decide (l.length < 1) := ⟨_, rfl⟩
  obtain ⟨z2, hz2⟩ : ∃ z, z = decide (6000 < l.length) := ⟨_, rfl⟩
  rw [← hz1] at d1 HL
  rw [← hz2] at d2 HL
  have HZ1 := Aside0.mk hz1
  have HZ2 := Aside0.mk hz2
  clear hc0 hc1 hl hz1 hz2
  cases z1 with
  | true =>
    clear HL d2
    refine callsIn_of_wp_marks Try.func13 rfl trivial ?_ rfl
    simp only [Try.ntmps13, List.size_toArray, List.length_cons, List.length_nil, Nat.reduceAdd, Nat.reduceSub, Array.replicate_succ, Array.replicate_zero, List.push_toArray, List.append_toArray, List.nil_append, List.cons_append]
    gi_wp2
    have hc0 := H0.out
    have hc1 := H1.out
    refine ⟨.tuple #[.nilIface, .bool false], ?_, valid_no HV.out rfl, below_alloc (below_alloc (Below.refl _ _) _) _⟩
    simp [results, Try.f13, go_sem, hc0, hc1]
  | false =>
    obtain rfl := HL.out rfl
    clear HL
    refine callsIn_of_wp_marks Try.func13 rfl trivial ?_ rfl
    simp only [Try.ntmps13, List.size_toArray, List.length_cons, List.length_nil, Nat.reduceAdd, Nat.reduceSub, Array.replicate_succ, Array.replicate_zero, List.push_toArray, List.append_toArray, List.nil_append, List.cons_append]
    gi_wp2
    have hc0 := H0.out
    have hc1 := H1.out
    refine ⟨.tuple #[.nilIface, .bool false], ?_, valid_no HV.out rfl, below_alloc (below_alloc (Below.refl _ _) _) _⟩
    simp [results, Try.f13, go_sem, hc0, hc1]
set_option maxHeartbeats 8000000 in
set_option maxRecDepth 100000 in
theorem valid_long (gk : GKC) (A : Option Addr) (c : Nat) (h : NV) (l : List NV) (w : World) (hm : MaxLenCell w) (hC : Kd.C k34 w A (h :: l).length (h :: l)) (hc : (h :: l).length ≤ c) (h6 : (h :: l).length ≤ 6000) :
    CallsIn Fence.wide 3 Try.prog 13 #[.slice A (h :: l).length c] w fun e w' => ValidR w w (h :: l) e w' ∧ Below w.heap.size w w' := by
  obtain ⟨ad, A2, c2, A3, c3, rfl, x0, -, -, -, -, -⟩ := head_T34 hC
  have y0 : ∀ o o', ((w.alloc o).alloc o').cell? ad = some (.int .i64 h.f0) := fun o o' => cell_old _ (cell_old _ x0)
  obtain ⟨hc0, hc1⟩ := two_cells w .nilIface (.bool false) 39 4
  have H0 := Aside0.mk hc0
  have H1 := Aside0.mk hc1
  obtain ⟨hb0, hb1⟩ := two_blks w .nilIface (.bool false) 39 4
  have K0 := Aside0.mk hb0
  have K1 := Aside0.mk hb1
  clear hb0 hb1
  have HB2 : Aside0 (Below w.heap.size w ((w.alloc (.cells #[.nilIface] 39)).alloc (.cells #[.bool false] 4))) := ⟨below_alloc (below_alloc (Below.refl _ _) _) _⟩
  have htr := treeOf_calls w 200 (Nat.le_refl _) _ c _ _ hC hc h6 HB2.out
  obtain ⟨ls, hls⟩ : ∃ x, x = h :: l := ⟨_, rfl⟩
  have HLS := Aside0.mk hls
  rw [← hls] at htr hC hc h6 ⊢
  have hp : 1 ≤ ls.length := by rw [hls]; simp
  have d1 : decide (((ls.length : Nat) : Int) < 1) = false := decide_eq_false (by omega)
  have d2 : decide (6000 < ((ls.length : Nat) : Int)) = false := decide_eq_false (by omega)
  have d3 : decide (6000 < ls.length) = false := decide_eq_false (by omega)
  have d4 : decide (ls.length < 1) = false := decide_eq_false (by omega)
  have d5 : ((0 : Int) < ((ls.length : Nat) : Int)) = True := eq_true (by omega)
  have d6 : (0 < ls.length) = True := eq_true (by omega)
  have HM := Aside0.mk hm
  have HP := Aside0.mk (show ¬ (ls.length < 1 ∨ 6000 < ls.length) by omega)
  clear hc0 hc1 hm x0 hC hc h6 hls hp
  rcases Decidable.em (¬ h.f0 = 0) with h0 | h0
  · have HV : Aside0 (treeOK ls = none) := ⟨by unfold treeOK; rw [if_neg HP.out, HLS.out]; simp only; rw [if_neg h0]⟩
    have n0 : (h.f0 != 0) = true := bne_iff_ne.mpr h0
    have n1 : (h.f0 == 0) = false := beq_eq_false_iff_ne.mpr h0
    clear h0 htr
    refine callsIn_of_wp_marks Try.func13 rfl trivial ?_ rfl
    simp only [Try.ntmps13, List.size_toArray, List.length_cons, List.length_nil, Nat.reduceAdd, Nat.reduceSub, Array.replicate_succ, Array.replicate_zero, List.push_toArray, List.append_toArray, List.nil_append, List.cons_append]
    gi_wp2
    have hc0 := H0.out
    have hc1 := H1.out
    refine ⟨.tuple #[.nilIface, .bool false], ?_, valid_no HV.out rfl, HB2.out⟩
    simp [results, Try.f13, go_sem, hc0, hc1]
  have h0 : h.f0 = 0 := Decidable.not_not.1 h0
  have HTO : Aside0 (treeOK ls = match treeF 200 ls with | some (t, []) => if (nodesT t).all okN then some t else none | _ => none) := ⟨by
    unfold treeOK
    rw [if_neg HP.out]
    cases ls with
    | nil => cases HLS.out
    | cons a b =>
      have := HLS.out
      simp only [List.cons.injEq] at this
      obtain ⟨rfl, rfl⟩ := this
      simp only
      rw [if_pos h0]⟩
  have f23 : Fence.wide.fn 23 := trivial
  have f24 : Fence.wide.fn 24 := trivial
  have f27 : Fence.wide.fn 27 := trivial
  have hdd : ∀ q : Nat, (Fence.wide.depth.isSome = true → 1 ≤ q) := fun _ h => by cases h
  rw [h0] at y0
  cases ht : treeF 200 ls with
  | none =>
    have HV : Aside0 (treeOK ls = none) := ⟨by rw [HTO.out, ht]⟩
    have hc2 := htr.mono (R' := fun e w' => e = .returned (.tuple #[.nilIface, .slice none 0 0, .bool false]) ∧ Below ((w.alloc (.cells #[.nilIface] 39)).alloc (.cells #[.bool false] 4)).heap.size ((w.alloc (.cells #[.nilIface] 39)).alloc (.cells #[.bool false] 4)) w') (fun e w' ⟨hr, hb⟩ => by
      rcases hr.cases with ⟨_, he⟩ | ⟨t, rest, h1, _⟩
      · exact ⟨he, hb⟩
      · rw [ht] at h1; cases h1)
    have HC2 := Aside0.mk hc2
    clear htr hc2 ht h0 HTO
    refine callsIn_of_wp_marks Try.func13 rfl trivial ?_ rfl
    simp only [Try.ntmps13, List.size_toArray, List.length_cons, List.length_nil, Nat.reduceAdd, Nat.reduceSub, Array.replicate_succ, Array.replicate_zero, List.push_toArray, List.append_toArray, List.nil_append, List.cons_append]
    gi_wp2_with ((try refine ⟨hdd _, ?_⟩); gi_at_call 23; refine (callsIn_wide.2 HC2.out).mono ?_; rintro e w1 ⟨rfl, hb1⟩; have HB3 := Aside0.mk (below_step HB2.out hb1); have B0 := Aside0.mk ((hb1.block _ (blk_lt K0.out)).trans K0.out); have B1 := Aside0.mk ((hb1.block _ (blk_lt K1.out)).trans K1.out); have k0 : w1.cell? ⟨w.heap.size, 0, none⟩ = some .nilIface := (blk_cell B0.out 0).trans rfl; have k1 : w1.cell? ⟨w.heap.size + 1, 0, none⟩ = some (.bool false) := (blk_cell B1.out 0).trans rfl; have fz0 := blk_frozen B0.out 0; have fz1 := blk_frozen B1.out 0; clear hb1)
    obtain ⟨s0, s1⟩ := two_set .nilIface (.bool false) B0.out B1.out (by omega)
    have hc0 := (blk_cell s0 0).trans rfl
    have hc1 := (blk_cell s1 0).trans rfl
    refine ⟨.tuple #[.nilIface, .bool false], ?_, valid_no HV.out rfl, (HB3.out.setCell (p := ⟨w.heap.size, 0, none⟩) (Nat.le_refl _) _).setCell (p := ⟨w.heap.size + 1, 0, none⟩) (Nat.le_succ _) _⟩
    simp [results, Try.f13, go_sem, hc0, hc1]
  | some x =>
    obtain ⟨t, rest⟩ := x
    have hc2 := htr.mono (R' := fun e w' => ∃ b1 A2 c2, e = .returned (.tuple #[nv b1, .slice A2 rest.length c2, .bool true]) ∧ (kn (Kd.fixed k34 w)).M w' ((w.alloc (.cells #[.nilIface] 39)).alloc (.cells #[.bool false] 4)).heap.size (fun _ => True) t [nv b1] ∧ Below ((w.alloc (.cells #[.nilIface] 39)).alloc (.cells #[.bool false] 4)).heap.size ((w.alloc (.cells #[.nilIface] 39)).alloc (.cells #[.bool false] 4)) w') (fun e w' ⟨hr, hb⟩ => by
      rcases hr.cases with ⟨h1, _⟩ | ⟨t', rest', h1, v, A2, c2, he, hM, hC2, hl2⟩
      · rw [ht] at h1; cases h1
      · rw [ht] at h1
        simp only [Option.some.injEq, Prod.mk.injEq] at h1
        obtain ⟨rfl, rfl⟩ := h1
        have hM2 := hM
        obtain ⟨n, hn⟩ := hM
        cases n with
        | zero => exact hn.elim
        | succ n =>
          obtain ⟨b1, cells, e1, _⟩ := hn
          injection e1 with e1 _
          subst e1
          exact ⟨b1, A2, c2, he, hM2, hb⟩)
    cases rest with
    | cons x rest =>
      have HV : Aside0 (treeOK ls = none) := ⟨by rw [HTO.out, ht]⟩
      have d7 : decide ((0 : Int) < (((x :: rest).length : Nat) : Int)) = true := decide_eq_true (by simp)
      have d8 : decide (0 < (x :: rest).length) = true := decide_eq_true (by simp)
      obtain ⟨n, hn⟩ : ∃ n, n = (x :: rest).length := ⟨_, rfl⟩
      rw [← hn] at hc2 d7 d8
      have HC2 := Aside0.mk hc2
      clear htr hc2 ht h0 HTO hn
      refine callsIn_of_wp_marks Try.func13 rfl trivial ?_ rfl
      simp only [Try.ntmps13, List.size_toArray, List.length_cons, List.length_nil, Nat.reduceAdd, Nat.reduceSub, Array.replicate_succ, Array.replicate_zero, List.push_toArray, List.append_toArray, List.nil_append, List.cons_append]
      gi_wp2_with ((try refine ⟨hdd _, ?_⟩); gi_at_call 23; refine (callsIn_wide.2 HC2.out).mono ?_; rintro e w1 ⟨b1, A4, c4, rfl, hM, hb1⟩; have HB3 := Aside0.mk (below_step HB2.out hb1); have B0 := Aside0.mk ((hb1.block _ (blk_lt K0.out)).trans K0.out); have B1 := Aside0.mk ((hb1.block _ (blk_lt K1.out)).trans K1.out); have k0 : w1.cell? ⟨w.heap.size, 0, none⟩ = some .nilIface := (blk_cell B0.out 0).trans rfl; have k1 : w1.cell? ⟨w.heap.size + 1, 0, none⟩ = some (.bool false) := (blk_cell B1.out 0).trans rfl; have fz0 := blk_frozen B0.out 0; have fz1 := blk_frozen B1.out 0; clear hb1 hM)
      obtain ⟨s0, s1⟩ := two_set .nilIface (.bool false) B0.out B1.out (by omega)
      have hc0 := (blk_cell s0 0).trans rfl
      have hc1 := (blk_cell s1 0).trans rfl
      refine ⟨.tuple #[.nilIface, .bool false], ?_, valid_no HV.out rfl, (HB3.out.setCell (p := ⟨w.heap.size, 0, none⟩) (Nat.le_refl _) _).setCell (p := ⟨w.heap.size + 1, 0, none⟩) (Nat.le_succ _) _⟩
      simp [results, Try.f13, go_sem, hc0, hc1]
    | nil =>
      have HV : Aside0 (treeOK ls = if (nodesT t).all okN then some t else none) := ⟨by rw [HTO.out, ht]⟩
      simp only [List.length_nil] at hc2
      have HC2 := Aside0.mk hc2
      clear htr hc2 ht h0 HTO
      refine callsIn_of_wp_marks Try.func13 rfl trivial ?_ rfl
      simp only [Try.ntmps13, List.size_toArray, List.length_cons, List.length_nil, Nat.reduceAdd, Nat.reduceSub, Array.replicate_succ, Array.replicate_zero, List.push_toArray, List.append_toArray, List.nil_append, List.cons_append]
      gi_wp2_with (first | ((try refine ⟨hdd _, ?_⟩); gi_at_call 23; refine (callsIn_wide.2 HC2.out).mono ?_; rintro e w1 ⟨b1, A4, c4, rfl, hM, hb1⟩; have HM1 := Aside0.mk hM; have HB3 := Aside0.mk (below_step HB2.out hb1); have B0 := Aside0.mk ((hb1.block _ (blk_lt K0.out)).trans K0.out); have B1 := Aside0.mk ((hb1.block _ (blk_lt K1.out)).trans K1.out); clear hb1 hM) | ((try refine ⟨hdd _, ?_⟩); gi_at_call 24; refine (all_in b1 _ _).mono ?_; rintro e w2 ⟨rfl, hw2⟩))
      obtain ⟨th, tk⟩ := t
      have hw0 : w2.cell? ⟨w1.heap.size, 0, none⟩ = some (nv b1) := by rw [hw2]; exact (blk_cell (heap_alloc_new w1 _) 0).trans rfl
      have hb12 : Below w1.heap.size w1 w2 := by rw [hw2]; exact below_alloc (Below.refl _ _) _
      have hBw2 : Below w.heap.size w w2 := below_step HB3.out hb12
      have HB12 := Aside0.mk hb12
      have hN2 : NodeAt (Kd.fixed k34 w) w2 b1 th tk := by
        obtain ⟨b', e', hN⟩ := kn_open (nkdFixed w) ((kn (Kd.fixed k34 w)).K_of_M HM1.out)
        injection e' with e' _
        injection e' with _ e'
        injection e' with e'
        injection e' with e'
        injection e' with e'
        subst e'
        exact hN.below hb12
      have R0 := Aside0.mk ((hb12.block _ (blk_lt B0.out)).trans B0.out)
      have R1 := Aside0.mk ((hb12.block _ (blk_lt B1.out)).trans B1.out)
      have HBW := Aside0.mk hBw2
      have HN2 := Aside0.mk hN2
      rw [← hw2]
      clear hw2 hb12 hBw2 hN2 y0 d1 d2 d3 d4 d5 d6
      refine wpIn_rangeFunc_ownF (n := 3) (F := Fence.wide) rfl (by decide) (gf := 35) (lb := #[pv w1.heap.size]) rfl trivial (enters_of Try.func35 (by kernel_rfl) rfl) (all_stops (nkdFixed w) b1 w1.heap.size th tk 2 HN2.out hw0) KP_t KP_b (Below.refl _ _) (fun _ => rfl)
        (fun pre W => KP w2 w2 W ∧ (xsT pre).all okN = true)
        (fun cde pre W => cde = .ret ∧ W.heap[w.heap.size]? = some (.cells #[.nilIface] 39 (0, 0)) ∧ W.heap[w.heap.size + 1]? = some (.cells #[.bool false] 4 (0, 0)) ∧ Below w.heap.size w W ∧ w2.heap.size ≤ W.heap.size ∧ (xsT pre).all okN = false)
        (fun s A B row hs hg hr => ⟨hs.1.kept hg hr hs.1.size, hs.2⟩)
        (fun cde s A B row hs hg hr => ⟨hs.1, blk_kept hs.2.1 hg (fun r e => (hr r e).2), blk_kept hs.2.2.1 hg (fun r e => (hr r e).2), below_kept hs.2.2.2.1 hg (fun r e => Nat.le_trans HBW.out.size (hr r e).1) (Nat.le_trans HBW.out.size hs.2.2.2.2.1), Nat.le_trans hs.2.2.2.2.1 hg.size, hs.2.2.2.2.2⟩)
        ⟨KP.refl _ _, rfl⟩ ?a1 ?assign ?body ?done ?stop
      case assign =>
        intro l x W K hK
        gi_wp2
        exact hK
      case body =>
        rintro l pre x W ⟨hKP, hall⟩ _
        have hN := x.at_.below hKP.B
        have hnn := hN
        obtain ⟨v2, v3, Ak, ck, hbk, hKk, -, -⟩ := hnn
        have hBW := HBW.out.trans (hKP.B.mono HBW.out.size)
        have hK34 : k34.K W x.t.1 [.int .i64 x.t.1.f0, .int .i64 x.t.1.f1, v2, v3, .int .i64 x.t.1.f4] := k34.K_below hBW hKk
        have HGF := Aside0.mk (goodFields_calls x.b x.t.1 W (HM.out.below hBW HM.out.pos) hbk hK34)
        have hcx := hN.c0
        have hfxs : ∀ t, okN x.t = t → (xsT (pre ++ [x])).all okN = t := fun t ht => by
          have := hall
          unfold xsT at this ⊢
          rw [List.map_append, List.all_append, this, Bool.true_and]
          simp [ht]
        have HFX := Aside0.mk hfxs
        have HNX := Aside0.mk hN
        have HKP := Aside0.mk hKP
        have HBWx := Aside0.mk hBW
        have HR0 := Aside0.mk ((hKP.cells _ _ _ _ R0.out))
        have HR1 := Aside0.mk ((hKP.cells _ _ _ _ R1.out))
        have e0 : W.cell? ⟨w.heap.size, 0, none⟩ = some .nilIface := (blk_cell HR0.out 0).trans rfl
        have e1 : W.cell? ⟨w.heap.size + 1, 0, none⟩ = some (.bool false) := (blk_cell HR1.out 0).trans rfl
        have z0 := blk_frozen HR0.out 0
        have z1 := blk_frozen HR1.out 0
        have f81 : Fence.wide.fn 81 := trivial
        have f25 : Fence.wide.fn 25 := trivial
        have f26 : Fence.wide.fn 26 := trivial
        have hmh := method_head
        clear hbk hKk hK34 hfxs hN hKP hBW hall hw0 f23 f24 f27
        obtain ⟨xb, hxb⟩ : ∃ y, y = x.b := ⟨_, rfl⟩
        obtain ⟨k0, hk0⟩ : ∃ y, y = x.t.1.f0 := ⟨_, rfl⟩
        have HX0 := Aside0.mk hk0
        rw [← hxb] at hcx HGF HNX ⊢
        rw [← hk0] at hcx
        clear hxb hk0
        have BAD : ∀ {W' : World}, okN x.t = false → Below W.heap.size W W' → KeepsOthers W ((W'.setCell ⟨w.heap.size, 0, none⟩ .nilIface).setCell ⟨w.heap.size + 1, 0, none⟩ (.bool false)) ∧ (Code.ret = Code.ret ∧ ((W'.setCell ⟨w.heap.size, 0, none⟩ .nilIface).setCell ⟨w.heap.size + 1, 0, none⟩ (.bool false)).heap[w.heap.size]? = some (.cells #[.nilIface] 39 (0, 0)) ∧ ((W'.setCell ⟨w.heap.size, 0, none⟩ .nilIface).setCell ⟨w.heap.size + 1, 0, none⟩ (.bool false)).heap[w.heap.size + 1]? = some (.cells #[.bool false] 4 (0, 0)) ∧ Below w.heap.size w ((W'.setCell ⟨w.heap.size, 0, none⟩ .nilIface).setCell ⟨w.heap.size + 1, 0, none⟩ (.bool false)) ∧ w2.heap.size ≤ ((W'.setCell ⟨w.heap.size, 0, none⟩ .nilIface).setCell ⟨w.heap.size + 1, 0, none⟩ (.bool false)).heap.size ∧ (xsT (pre ++ [x])).all okN = false) := fun {W'} ho hb => by
          obtain ⟨s0, s1⟩ := two_set .nilIface (.bool false) ((hb.block _ (blk_lt HR0.out)).trans HR0.out) ((hb.block _ (blk_lt HR1.out)).trans HR1.out) (by omega)
          exact ⟨((keepsOthers_of hb).trans (KeepsOthers.setCell _ _ _)).trans (KeepsOthers.setCell _ _ _), rfl, s0, s1, ((below_step HBWx.out hb).setCell (p := ⟨w.heap.size, 0, none⟩) (Nat.le_refl _) _).setCell (p := ⟨w.heap.size + 1, 0, none⟩) (Nat.le_succ _) _, by simp only [World.size_setCell]; exact Nat.le_trans HKP.out.size hb.size, HFX.out _ ho⟩
        have HBAD := Aside0.mk @BAD
        clear BAD
        have hdr : ∀ q : Nat, ((Fence.wide.inRound l).depth.isSome = true → 1 ≤ q) := fun _ h => by cases h
        rcases Decidable.em (k0 < 0) with c1 | c1
        · have d1 : decide (k0 < 0) = true := decide_eq_true c1
          have HO : Aside0 (okN x.t = false) := ⟨by unfold okN; rw [← HX0.out, decide_eq_false (show ¬ 0 ≤ k0 by omega)]; rfl⟩
          clear c1
          gi_wp2_with (first | ((try refine ⟨hdr _, ?_⟩); gi_at_call 81; refine (CallsIn.inRound l (callsIn_wide.2 (head_calls xb _ _ hcx))).mono ?_; rintro e w3 ⟨rfl, rfl⟩))
          iterate 3 all_goals (try (refine ⟨fun _ _ => trivial, ?_⟩; gi_wp2))
          all_goals (have hbd := HBAD.out HO.out (Below.refl _ _); exact ⟨hbd.1, rfl, hbd.2.2⟩)
        have d1 : decide (k0 < 0) = false := decide_eq_false c1
        rcases Decidable.em (26 < k0) with c2 | c2
        · have d2 : decide (26 < k0) = true := decide_eq_true c2
          have HO : Aside0 (okN x.t = false) := ⟨by unfold okN; rw [← HX0.out, decide_eq_false (show ¬ k0 ≤ 26 by omega), Bool.and_false]; rfl⟩
          clear c1 c2
          gi_wp2_with (first | ((try refine ⟨hdr _, ?_⟩); gi_at_call 81; refine (CallsIn.inRound l (callsIn_wide.2 (head_calls xb _ _ hcx))).mono ?_; rintro e w3 ⟨rfl, rfl⟩))
          iterate 3 all_goals (try (refine ⟨fun _ _ => trivial, ?_⟩; gi_wp2))
          all_goals (have hbd := HBAD.out HO.out (Below.refl _ _); exact ⟨hbd.1, rfl, hbd.2.2⟩)
        have d2 : decide (26 < k0) = false := decide_eq_false c2
        have hok : okN x.t = (fieldsB x.t.1 && goodKidsB x.t.1.f0 x.t.1.f1 x.t.2.trees) := by unfold okN; rw [← HX0.out, decide_eq_true (show 0 ≤ k0 by omega), decide_eq_true (show k0 ≤ 26 by omega)]; rfl
        have HGK : Aside0 (∀ W', Below W.heap.size W W' → Calls Try.prog 26 #[nv xb] W' fun e w' => e = .returned (.bool (goodKidsB x.t.1.f0 x.t.1.f1 x.t.2.trees)) ∧ Below W'.heap.size W' w') := ⟨fun W' hb => gk _ (nkdFixed w) xb x.t.1 x.t.2 W' (HNX.out.below hb) (by rw [← HX0.out]; omega) (by rw [← HX0.out]; omega)⟩
        cases hf : fieldsB x.t.1 with
        | false =>
          have HO : Aside0 (okN x.t = false) := ⟨by rw [hok, hf]; rfl⟩
          have hg2 := HGF.out
          rw [hf] at hg2
          have HG2 := Aside0.mk hg2
          clear hg2 HGF hok hf c1 c2
          gi_wp2_with (first | ((try refine ⟨hdr _, ?_⟩); gi_at_call 81; refine (CallsIn.inRound l (callsIn_wide.2 (head_calls xb _ _ hcx))).mono ?_; rintro e w3 ⟨rfl, rfl⟩) | ((try refine ⟨hdr _, ?_⟩); gi_at_call 25; refine (CallsIn.inRound l (callsIn_wide.2 HG2.out)).mono ?_; rintro e w4 ⟨rfl, hb4⟩; have HB4 := Aside0.mk hb4; have e04 := (hb4.cell (World.block_lt_of_cell? _ _ e0)).trans e0; have e14 := (hb4.cell (World.block_lt_of_cell? _ _ e1)).trans e1; have z04 := blk_frozen ((hb4.block _ (blk_lt HR0.out)).trans HR0.out) 0; have z14 := blk_frozen ((hb4.block _ (blk_lt HR1.out)).trans HR1.out) 0; clear hb4))
          have hbd := HBAD.out HO.out HB4.out
          exact ⟨hbd.1, rfl, hbd.2.2⟩
        | true =>
          rw [hf, Bool.true_and] at hok
          have hg2 := HGF.out
          rw [hf] at hg2
          have HG2 := Aside0.mk hg2
          cases hk : goodKidsB x.t.1.f0 x.t.1.f1 x.t.2.trees with
          | false =>
            have HO : Aside0 (okN x.t = false) := ⟨by rw [hok, hk]⟩
            have hg3 := HGK.out
            rw [hk] at hg3
            have HG3 := Aside0.mk hg3
            clear hg2 HGF hok hf c1 c2 hg3 HGK hk
            gi_wp2_with (first | ((try refine ⟨hdr _, ?_⟩); gi_at_call 81; refine (CallsIn.inRound l (callsIn_wide.2 (head_calls xb _ _ hcx))).mono ?_; rintro e w3 ⟨rfl, rfl⟩) | ((try refine ⟨hdr _, ?_⟩); gi_at_call 25; refine (CallsIn.inRound l (callsIn_wide.2 HG2.out)).mono ?_; rintro e w4 ⟨rfl, hb4⟩; have HB4 := Aside0.mk hb4; clear hb4) | ((try refine ⟨hdr _, ?_⟩); gi_at_call 26; refine (CallsIn.inRound l (callsIn_wide.2 (HG3.out _ HB4.out))).mono ?_; rintro e w5 ⟨rfl, hb5'⟩; have hb5 := below_step HB4.out hb5'; have HB5 := Aside0.mk hb5; have e04 := (hb5.cell (World.block_lt_of_cell? _ _ e0)).trans e0; have e14 := (hb5.cell (World.block_lt_of_cell? _ _ e1)).trans e1; have z04 := blk_frozen ((hb5.block _ (blk_lt HR0.out)).trans HR0.out) 0; have z14 := blk_frozen ((hb5.block _ (blk_lt HR1.out)).trans HR1.out) 0; clear hb5 hb5'))
            have hbd := HBAD.out HO.out HB5.out
            exact ⟨hbd.1, rfl, hbd.2.2⟩
          | true =>
            have HO : Aside0 (okN x.t = true) := ⟨by rw [hok, hk]⟩
            have hg3 := HGK.out
            rw [hk] at hg3
            have HG3 := Aside0.mk hg3
            clear hg2 HGF hok hf c1 c2 hg3 HGK hk
            gi_wp2_with (first | ((try refine ⟨hdr _, ?_⟩); gi_at_call 81; refine (CallsIn.inRound l (callsIn_wide.2 (head_calls xb _ _ hcx))).mono ?_; rintro e w3 ⟨rfl, rfl⟩) | ((try refine ⟨hdr _, ?_⟩); gi_at_call 25; refine (CallsIn.inRound l (callsIn_wide.2 HG2.out)).mono ?_; rintro e w4 ⟨rfl, hb4⟩; have HB4 := Aside0.mk hb4; clear hb4) | ((try refine ⟨hdr _, ?_⟩); gi_at_call 26; refine (CallsIn.inRound l (callsIn_wide.2 (HG3.out _ HB4.out))).mono ?_; rintro e w5 ⟨rfl, hb5'⟩; have HB5 := Aside0.mk (below_step HB4.out hb5'); clear hb5'))
            have hkp := KP.grown (w0 := w2) HKP.out.size HB5.out
            exact ⟨keepsOthers_of HB5.out, hkp, HKP.out.trans hkp, HFX.out _ HO.out⟩
      case done =>
        rintro D xs W hD hS ⟨hKP, hall⟩ hDef
        have hT : treeOK ls = some (th, tk) := by rw [HV.out, if_pos (by rw [← hS]; exact hall)]
        have HT := Aside0.mk hT
        have HBR := Aside0.mk (brk_all (nkdFixed w) (.cons th tk .nil) (th, tk) (by simp [Fo.trees]) false b1 W (HN2.out.below hKP.B))
        have HR0 := Aside0.mk ((hKP.cells _ _ _ _ R0.out))
        have HR1 := Aside0.mk ((hKP.cells _ _ _ _ R1.out))
        have HKP := Aside0.mk hKP
        have HDF := Aside0.mk hDef
        have HD := Aside0.mk hD
        clear hKP hall hS hT hDef hD hw0
        gi_wp2_with ((try refine ⟨hdd _, ?_⟩); gi_at_call 27; refine (callsIn_wide.2 HBR.out).mono ?_; rintro e w5 ⟨rfl, hb5⟩; have HB5 := Aside0.mk hb5; have C0 := Aside0.mk ((hb5.block _ (blk_lt HR0.out)).trans HR0.out); have C1 := Aside0.mk ((hb5.block _ (blk_lt HR1.out)).trans HR1.out); have e04 : w5.cell? ⟨w.heap.size, 0, none⟩ = some .nilIface := (blk_cell C0.out 0).trans rfl; have e14 : w5.cell? ⟨w.heap.size + 1, 0, none⟩ = some (.bool false) := (blk_cell C1.out 0).trans rfl; have z04 := blk_frozen C0.out 0; have z14 := blk_frozen C1.out 0; clear hb5)
        obtain ⟨s0, s1⟩ := two_set (nv b1) (.bool (brkT false (th, tk))) C0.out C1.out (by omega)
        have hD5 : ((w5.setCell ⟨w.heap.size, 0, none⟩ (nv b1)).setCell ⟨w.heap.size + 1, 0, none⟩ (.bool (brkT false (th, tk)))).heap[D]? = some (.deferred (some [])) := by
          have a0 : D ≠ w.heap.size := by have := HD.out; have := HBW.out.size; have := blk_lt R0.out; omega
          have a1 : D ≠ w.heap.size + 1 := by have := HD.out; have := HBW.out.size; have := blk_lt R1.out; omega
          exact (Below.heap_setCell _ ⟨w.heap.size + 1, 0, none⟩ _ D a1).trans ((Below.heap_setCell _ ⟨w.heap.size, 0, none⟩ _ D a0).trans ((HB5.out.block _ (blk_lt HDF.out)).trans HDF.out))
        have hBl : Below w.heap.size w ((w5.setCell ⟨w.heap.size, 0, none⟩ (nv b1)).setCell ⟨w.heap.size + 1, 0, none⟩ (.bool (brkT false (th, tk)))) := ((below_step (HBW.out.trans (HKP.out.B.mono HBW.out.size)) HB5.out).setCell (p := ⟨w.heap.size, 0, none⟩) (Nat.le_refl _) _).setCell (p := ⟨w.heap.size + 1, 0, none⟩) (Nat.le_succ _) _
        have hDge : w.heap.size ≤ D := Nat.le_trans HBW.out.size HD.out
        have hc0 := cell_kept ((blk_cell s0 0).trans rfl) (grownBy_putObj' _ D (.deferred none)) (fun r e => by cases e; exact ⟨_, hD5, rfl⟩)
        have hc1 := cell_kept ((blk_cell s1 0).trans rfl) (grownBy_putObj' _ D (.deferred none)) (fun r e => by cases e; exact ⟨_, hD5, rfl⟩)
        have hMF : (kn (Kd.fixed k34 w)).M (((w5.setCell ⟨w.heap.size, 0, none⟩ (nv b1)).setCell ⟨w.heap.size + 1, 0, none⟩ (.bool (brkT false (th, tk)))).putObj D (.deferred none)) w.heap.size (fun _ => True) (th, tk) [nv b1] := by
          refine (kn (Kd.fixed k34 w)).M_mono (fun _ _ => trivial) ((kn (Kd.fixed k34 w)).M_lower (by simp; omega) ((kn (Kd.fixed k34 w)).M_move ?_ ((kn (Kd.fixed k34 w)).M_bound HM1.out)))
          rintro k ⟨-, h1, h2, -⟩
          simp only [World.size_alloc] at h1
          have h3 : k < w2.heap.size := Nat.lt_of_lt_of_le h2 HB12.out.size
          have h4 : k < W.heap.size := Nat.lt_of_lt_of_le h3 HKP.out.size
          have h5 : k ≠ D := by have := HD.out; omega
          refine ((grownBy_putObj' _ D (.deferred none)).block k ?_ (fun e => h5 (by injection e))).trans ?_
          · simp only [World.size_setCell]; exact Nat.lt_of_lt_of_le h4 HB5.out.size
          · exact (Below.heap_setCell _ ⟨w.heap.size + 1, 0, none⟩ _ k (by show k ≠ w.heap.size + 1; omega)).trans ((Below.heap_setCell _ ⟨w.heap.size, 0, none⟩ _ k (by show k ≠ w.heap.size; omega)).trans ((HB5.out.block k h4).trans ((HKP.out.B.block k h3).trans (HB12.out.block k h2))))
        refine ⟨by simp, .inl ⟨_, _, rfl, run_takeDeferred hD5, ?_⟩⟩
        refine ⟨.tuple #[nv b1, .bool (brkT false (th, tk))], ?_, valid_yes HT.out rfl hMF, below_kept hBl (grownBy_putObj' _ D _) (fun r e => by cases e; exact hDge) hBl.size⟩
        simp [results, Try.f13, go_sem, hc0, hc1]
      case stop =>
        rintro D cde pre W hD hS ⟨rfl, h0, h1, hB, hsz, hall⟩ hDef
        have hT : treeOK ls = none := by
          rw [HV.out, if_neg]
          intro hh
          obtain ⟨q, hq⟩ := hS
          rw [← hq, List.all_append, hall] at hh
          cases hh
        gi_wp2
        have hc0 := cell_kept ((blk_cell h0 0).trans rfl) (grownBy_putObj' W D (.deferred none)) (fun r e => by cases e; exact ⟨_, hDef, rfl⟩)
        have hc1 := cell_kept ((blk_cell h1 0).trans rfl) (grownBy_putObj' W D (.deferred none)) (fun r e => by cases e; exact ⟨_, hDef, rfl⟩)
        refine ⟨by simp, .inl ⟨_, _, rfl, run_takeDeferred hDef, ?_⟩⟩
        refine ⟨.tuple #[.nilIface, .bool false], ?_, valid_no hT rfl, below_kept hB (grownBy_putObj' W D _) (fun r e => by cases e; exact Nat.le_trans HBW.out.size hD) (Nat.le_trans HBW.out.size hsz)⟩
        simp [results, Try.f13, go_sem, hc0, hc1]
theorem validTree_calls (gk : GKC) (A : Option Addr) (c : Nat) (l : List NV) (w : World) (hm : MaxLenCell w) (hC : Kd.C k34 w A l.length l) (hc : l.length ≤ c) :
    Calls Try.prog 13 #[.slice A l.length c] w fun e w' => ValidR w w l e w' ∧ Below w.heap.size w w' := by
  refine (callsIn_wide (n := 3)).1 ?_
  by_cases hl : l.length < 1 ∨ 6000 < l.length
  · exact valid_short A c l w hl
  · cases l with
    | nil => exact absurd (.inl (by simp)) hl
    | cons h l => exact valid_long gk A c h l w hm hC hc (by omega)
end Go.Proofs.Ytogffkekgfkhkaa.C
