import Derived.Test.YtchfdpmkgjblgaaDoorAs
import Derived.Laws.EntriesVeiled
import Derived.Laws.Tables
import Derived.Laws.Rows
import Derived.Lib.Hide
namespace Go.Proofs.YtchfdpmkgjblgaaDoor
open Go.RowKit
abbrev fnv (f : Nat) : Value := .func (.func f) #[] #[]
abbrev clo (b : Nat) : Value := .func (.func 20) #[] #[.pointer (some ⟨b, 0, none⟩)]
abbrev opv (h : Nat) : Array Value := #[fnv 22, fnv 23, fnv 24, fnv 25, fnv 26, .nilFunc, clo (h + 1), clo (h + 1 + 1), clo (h + 1 + 1 + 1), clo (h + 1 + 1 + 1 + 1), clo (h + 1 + 1 + 1 + 1 + 1), clo (h + 1 + 1 + 1 + 1 + 1 + 1)]
theorem mk19 (f : Nat) (w : World) : Calls Tryd.prog 19 #[fnv f] w fun e w' => e = .returned (clo w.heap.size) ∧ w.alloc (.cells #[fnv f] 42) = w' := by
  go_enter Tryd.func19, Tryd.ntmps19
  go_wp2
  go_ret
  exact ⟨rfl, rfl⟩
abbrev opsW (w : World) : World := ((((((w.alloc (.cells (opv w.heap.size) 36)).alloc (.cells #[fnv 27] 42)).alloc (.cells #[fnv 28] 42)).alloc (.cells #[fnv 29] 42)).alloc (.cells #[fnv 30] 42)).alloc (.cells #[fnv 31] 42)).alloc (.cells #[fnv 32] 42)
theorem opsW_row (w : World) : (opsW w).heap[w.heap.size]? = some (.cells (opv w.heap.size) 36) := by
  unfold opsW
  rw [heap_alloc_old _ _ (by simp; omega), heap_alloc_old _ _ (by simp; omega), heap_alloc_old _ _ (by simp; omega), heap_alloc_old _ _ (by simp; omega), heap_alloc_old _ _ (by simp; omega), heap_alloc_old _ _ (by simp)]
  exact heap_alloc_new _ _
set_option maxHeartbeats 4000000 in
set_option maxRecDepth 100000 in
theorem ops_calls (w : World) : Calls Tryd.prog 16 #[] w fun e w' => e = .returned (.agg (opv w.heap.size)) ∧ opsW w = w' := by
  have hrow := Lib.hid (opsW_row w)
  go_enter Tryd.func16, Tryd.ntmps16
  go_wp2_with (first | (go_at_call 19; refine (mk19 _ _).mono ?_; rintro e w' ⟨rfl, rfl⟩))
  exact bodyPost_ret (v := .agg (opv w.heap.size)) (results_cell_row rfl _ _ w.heap.size 36 (opv w.heap.size) (0, 0) _ rfl hrow.out Tryd.underlying36 rfl (by kernel_rfl)) rfl ⟨rfl, rfl⟩
theorem below_ops (w : World) (o : Obj) {w' : World} (hb : Below ((opsW w).alloc o).heap.size ((opsW w).alloc o) w') : Below w.heap.size w w' := by
  refine Below.trans ?_ (hb.mono (by simp; omega))
  unfold opsW
  repeat (first | exact Below.refl _ _ | refine Below.alloc ?_ (by first | exact Nat.le_refl _ | (simp; done) | (simp; omega)) _)
set_option maxHeartbeats 8000000 in
set_option maxRecDepth 100000 in
theorem arith_0 (a b : Int) (w : World) : Calls Tryd.prog 11 #[.int .i64 0, .int .i64 a, .int .i64 b] w fun e w' => e = .returned (.tuple #[.int .i64 (wrap64 (a + b)), .int .i64 0]) ∧ Below w.heap.size w w' := by
  go_enter Tryd.func11, Tryd.ntmps11
  go_wp2_with (first | (go_at_call 16; refine (ops_calls _).mono ?_; rintro e w' ⟨rfl, rfl⟩) | (go_at_call 17; refine (codeOf_nil _).mono ?_; rintro e w' ⟨rfl, hb1⟩) | go_in)
  go_ret2
  exact ⟨rfl, below_ops w _ hb1⟩
set_option maxHeartbeats 8000000 in
set_option maxRecDepth 100000 in
theorem arith_1 (a b : Int) (w : World) : Calls Tryd.prog 11 #[.int .i64 1, .int .i64 a, .int .i64 b] w fun e w' => e = .returned (.tuple #[.int .i64 (wrap64 (a - b)), .int .i64 0]) ∧ Below w.heap.size w w' := by
  go_enter Tryd.func11, Tryd.ntmps11
  go_wp2_with (first | (go_at_call 16; refine (ops_calls _).mono ?_; rintro e w' ⟨rfl, rfl⟩) | (go_at_call 17; refine (codeOf_nil _).mono ?_; rintro e w' ⟨rfl, hb1⟩) | go_in)
  go_ret2
  exact ⟨rfl, below_ops w _ hb1⟩
set_option maxHeartbeats 8000000 in
set_option maxRecDepth 100000 in
theorem arith_2 (a b : Int) (w : World) : Calls Tryd.prog 11 #[.int .i64 2, .int .i64 a, .int .i64 b] w fun e w' => e = .returned (.tuple #[.int .i64 (wrap64 (a * b)), .int .i64 0]) ∧ Below w.heap.size w w' := by
  go_enter Tryd.func11, Tryd.ntmps11
  go_wp2_with (first | (go_at_call 16; refine (ops_calls _).mono ?_; rintro e w' ⟨rfl, rfl⟩) | (go_at_call 17; refine (codeOf_nil _).mono ?_; rintro e w' ⟨rfl, hb1⟩) | go_in)
  go_ret2
  exact ⟨rfl, below_ops w _ hb1⟩
set_option maxHeartbeats 8000000 in
set_option maxRecDepth 100000 in
theorem arith_6_1 (a b : Int) (w : World) (h : (a == b) = true) : Calls Tryd.prog 11 #[.int .i64 6, .int .i64 a, .int .i64 b] w fun e w' => e = .returned (.tuple #[.int .i64 1, .int .i64 0]) ∧ Below w.heap.size w w' := by
  go_enter Tryd.func11, Tryd.ntmps11
  go_wp2_with (first | (go_at_call 16; refine (ops_calls _).mono ?_; rintro e w' ⟨rfl, rfl⟩) | (go_at_call 17; refine (codeOf_nil _).mono ?_; rintro e w' ⟨rfl, hb1⟩) | go_in)
  go_ret2
  exact ⟨rfl, below_ops w _ hb1⟩
set_option maxHeartbeats 8000000 in
set_option maxRecDepth 100000 in
theorem arith_6_0 (a b : Int) (w : World) (h : (a == b) = false) : Calls Tryd.prog 11 #[.int .i64 6, .int .i64 a, .int .i64 b] w fun e w' => e = .returned (.tuple #[.int .i64 0, .int .i64 0]) ∧ Below w.heap.size w w' := by
  go_enter Tryd.func11, Tryd.ntmps11
  go_wp2_with (first | (go_at_call 16; refine (ops_calls _).mono ?_; rintro e w' ⟨rfl, rfl⟩) | (go_at_call 17; refine (codeOf_nil _).mono ?_; rintro e w' ⟨rfl, hb1⟩) | go_in)
  go_ret2
  exact ⟨rfl, below_ops w _ hb1⟩
set_option maxHeartbeats 8000000 in
set_option maxRecDepth 100000 in
theorem arith_7_1 (a b : Int) (w : World) (h : (a != b) = true) : Calls Tryd.prog 11 #[.int .i64 7, .int .i64 a, .int .i64 b] w fun e w' => e = .returned (.tuple #[.int .i64 1, .int .i64 0]) ∧ Below w.heap.size w w' := by
  go_enter Tryd.func11, Tryd.ntmps11
  go_wp2_with (first | (go_at_call 16; refine (ops_calls _).mono ?_; rintro e w' ⟨rfl, rfl⟩) | (go_at_call 17; refine (codeOf_nil _).mono ?_; rintro e w' ⟨rfl, hb1⟩) | go_in)
  go_ret2
  exact ⟨rfl, below_ops w _ hb1⟩
set_option maxHeartbeats 8000000 in
set_option maxRecDepth 100000 in
theorem arith_7_0 (a b : Int) (w : World) (h : (a != b) = false) : Calls Tryd.prog 11 #[.int .i64 7, .int .i64 a, .int .i64 b] w fun e w' => e = .returned (.tuple #[.int .i64 0, .int .i64 0]) ∧ Below w.heap.size w w' := by
  go_enter Tryd.func11, Tryd.ntmps11
  go_wp2_with (first | (go_at_call 16; refine (ops_calls _).mono ?_; rintro e w' ⟨rfl, rfl⟩) | (go_at_call 17; refine (codeOf_nil _).mono ?_; rintro e w' ⟨rfl, hb1⟩) | go_in)
  go_ret2
  exact ⟨rfl, below_ops w _ hb1⟩
set_option maxHeartbeats 8000000 in
set_option maxRecDepth 100000 in
theorem arith_8_1 (a b : Int) (w : World) (h : decide (a < b) = true) : Calls Tryd.prog 11 #[.int .i64 8, .int .i64 a, .int .i64 b] w fun e w' => e = .returned (.tuple #[.int .i64 1, .int .i64 0]) ∧ Below w.heap.size w w' := by
  go_enter Tryd.func11, Tryd.ntmps11
  go_wp2_with (first | (go_at_call 16; refine (ops_calls _).mono ?_; rintro e w' ⟨rfl, rfl⟩) | (go_at_call 17; refine (codeOf_nil _).mono ?_; rintro e w' ⟨rfl, hb1⟩) | go_in)
  go_ret2
  exact ⟨rfl, below_ops w _ hb1⟩
set_option maxHeartbeats 8000000 in
set_option maxRecDepth 100000 in
theorem arith_8_0 (a b : Int) (w : World) (h : decide (a < b) = false) : Calls Tryd.prog 11 #[.int .i64 8, .int .i64 a, .int .i64 b] w fun e w' => e = .returned (.tuple #[.int .i64 0, .int .i64 0]) ∧ Below w.heap.size w w' := by
  go_enter Tryd.func11, Tryd.ntmps11
  go_wp2_with (first | (go_at_call 16; refine (ops_calls _).mono ?_; rintro e w' ⟨rfl, rfl⟩) | (go_at_call 17; refine (codeOf_nil _).mono ?_; rintro e w' ⟨rfl, hb1⟩) | go_in)
  go_ret2
  exact ⟨rfl, below_ops w _ hb1⟩
set_option maxHeartbeats 8000000 in
set_option maxRecDepth 100000 in
theorem arith_9_1 (a b : Int) (w : World) (h : decide (a ≤ b) = true) : Calls Tryd.prog 11 #[.int .i64 9, .int .i64 a, .int .i64 b] w fun e w' => e = .returned (.tuple #[.int .i64 1, .int .i64 0]) ∧ Below w.heap.size w w' := by
  go_enter Tryd.func11, Tryd.ntmps11
  go_wp2_with (first | (go_at_call 16; refine (ops_calls _).mono ?_; rintro e w' ⟨rfl, rfl⟩) | (go_at_call 17; refine (codeOf_nil _).mono ?_; rintro e w' ⟨rfl, hb1⟩) | go_in)
  go_ret2
  exact ⟨rfl, below_ops w _ hb1⟩
set_option maxHeartbeats 8000000 in
set_option maxRecDepth 100000 in
theorem arith_9_0 (a b : Int) (w : World) (h : decide (a ≤ b) = false) : Calls Tryd.prog 11 #[.int .i64 9, .int .i64 a, .int .i64 b] w fun e w' => e = .returned (.tuple #[.int .i64 0, .int .i64 0]) ∧ Below w.heap.size w w' := by
  go_enter Tryd.func11, Tryd.ntmps11
  go_wp2_with (first | (go_at_call 16; refine (ops_calls _).mono ?_; rintro e w' ⟨rfl, rfl⟩) | (go_at_call 17; refine (codeOf_nil _).mono ?_; rintro e w' ⟨rfl, hb1⟩) | go_in)
  go_ret2
  exact ⟨rfl, below_ops w _ hb1⟩
set_option maxHeartbeats 8000000 in
set_option maxRecDepth 100000 in
theorem arith_10_1 (a b : Int) (w : World) (h : decide (b < a) = true) : Calls Tryd.prog 11 #[.int .i64 10, .int .i64 a, .int .i64 b] w fun e w' => e = .returned (.tuple #[.int .i64 1, .int .i64 0]) ∧ Below w.heap.size w w' := by
  go_enter Tryd.func11, Tryd.ntmps11
  go_wp2_with (first | (go_at_call 16; refine (ops_calls _).mono ?_; rintro e w' ⟨rfl, rfl⟩) | (go_at_call 17; refine (codeOf_nil _).mono ?_; rintro e w' ⟨rfl, hb1⟩) | go_in)
  go_ret2
  exact ⟨rfl, below_ops w _ hb1⟩
set_option maxHeartbeats 8000000 in
set_option maxRecDepth 100000 in
theorem arith_10_0 (a b : Int) (w : World) (h : decide (b < a) = false) : Calls Tryd.prog 11 #[.int .i64 10, .int .i64 a, .int .i64 b] w fun e w' => e = .returned (.tuple #[.int .i64 0, .int .i64 0]) ∧ Below w.heap.size w w' := by
  go_enter Tryd.func11, Tryd.ntmps11
  go_wp2_with (first | (go_at_call 16; refine (ops_calls _).mono ?_; rintro e w' ⟨rfl, rfl⟩) | (go_at_call 17; refine (codeOf_nil _).mono ?_; rintro e w' ⟨rfl, hb1⟩) | go_in)
  go_ret2
  exact ⟨rfl, below_ops w _ hb1⟩
set_option maxHeartbeats 8000000 in
set_option maxRecDepth 100000 in
theorem arith_11_1 (a b : Int) (w : World) (h : decide (b ≤ a) = true) : Calls Tryd.prog 11 #[.int .i64 11, .int .i64 a, .int .i64 b] w fun e w' => e = .returned (.tuple #[.int .i64 1, .int .i64 0]) ∧ Below w.heap.size w w' := by
  go_enter Tryd.func11, Tryd.ntmps11
  go_wp2_with (first | (go_at_call 16; refine (ops_calls _).mono ?_; rintro e w' ⟨rfl, rfl⟩) | (go_at_call 17; refine (codeOf_nil _).mono ?_; rintro e w' ⟨rfl, hb1⟩) | go_in)
  go_ret2
  exact ⟨rfl, below_ops w _ hb1⟩
set_option maxHeartbeats 8000000 in
set_option maxRecDepth 100000 in
theorem arith_11_0 (a b : Int) (w : World) (h : decide (b ≤ a) = false) : Calls Tryd.prog 11 #[.int .i64 11, .int .i64 a, .int .i64 b] w fun e w' => e = .returned (.tuple #[.int .i64 0, .int .i64 0]) ∧ Below w.heap.size w w' := by
  go_enter Tryd.func11, Tryd.ntmps11
  go_wp2_with (first | (go_at_call 16; refine (ops_calls _).mono ?_; rintro e w' ⟨rfl, rfl⟩) | (go_at_call 17; refine (codeOf_nil _).mono ?_; rintro e w' ⟨rfl, hb1⟩) | go_in)
  go_ret2
  exact ⟨rfl, below_ops w _ hb1⟩
set_option maxHeartbeats 8000000 in
set_option maxRecDepth 100000 in
theorem arith_bad_lo (op a b : Int) (w : World) (h : op < 0) : Calls Tryd.prog 11 #[.int .i64 op, .int .i64 a, .int .i64 b] w fun e w' => e = .returned (.tuple #[.int .i64 0, .int .i64 1]) ∧ Below w.heap.size w w' := by
  go_enter Tryd.func11, Tryd.ntmps11
  go_wp2_with (first | (go_at_call 16; refine (ops_calls _).mono ?_; rintro e w' ⟨rfl, rfl⟩))
  go_ret2
  exact ⟨rfl, below_ops w _ (Below.refl _ _)⟩
set_option maxHeartbeats 8000000 in
set_option maxRecDepth 100000 in
theorem arith_bad_hi (op a b : Int) (w : World) (h0 : 0 ≤ op) (h : 12 ≤ op) : Calls Tryd.prog 11 #[.int .i64 op, .int .i64 a, .int .i64 b] w fun e w' => e = .returned (.tuple #[.int .i64 0, .int .i64 1]) ∧ Below w.heap.size w w' := by
  go_enter Tryd.func11, Tryd.ntmps11
  go_wp2_with (first | (go_at_call 16; refine (ops_calls _).mono ?_; rintro e w' ⟨rfl, rfl⟩))
  go_ret2
  exact ⟨rfl, below_ops w _ (Below.refl _ _)⟩
set_option maxHeartbeats 8000000 in
set_option maxRecDepth 100000 in
theorem arith_bad_cat (a b : Int) (w : World) : Calls Tryd.prog 11 #[.int .i64 5, .int .i64 a, .int .i64 b] w fun e w' => e = .returned (.tuple #[.int .i64 0, .int .i64 1]) ∧ Below w.heap.size w w' := by
  go_enter Tryd.func11, Tryd.ntmps11
  go_wp2_with (first | (go_at_call 16; refine (ops_calls _).mono ?_; rintro e w' ⟨rfl, rfl⟩))
  go_ret2
  exact ⟨rfl, below_ops w _ (Below.refl _ _)⟩
/-! ### the quotient -/
theorem quo_zero (a : Int) (w : World) : Calls Tryd.prog 25 #[.int .i64 a, .int .i64 0] w fun e w' => e = .returned (.tuple #[.int .i64 0, .iface 44 (.int .i64 5)]) ∧ w = w' := by
  go_enter Tryd.func25, Tryd.ntmps25
  go_wp2
  go_ret2
  exact ⟨rfl, rfl⟩
/-- The quotient rounded down, as the walk spells it. -/
def quoR (a b : Int) : Int := wrap64 (a - wrap64 (wrap64 (a.tdiv b) * b))
def quoDown (a b : Int) : Bool := (quoR a b != 0) && (decide (quoR a b < 0) != decide (b < 0))
def quo (a b : Int) : Int := if quoDown a b then wrap64 (wrap64 (a.tdiv b) - 1) else wrap64 (a.tdiv b)
set_option maxHeartbeats 4000000 in
theorem quo_calls (a b : Int) (w : World) (hb : ¬ b = 0) : Calls Tryd.prog 25 #[.int .i64 a, .int .i64 b] w fun e w' => e = .returned (.tuple #[.int .i64 (quo a b), .nilIface]) ∧ w = w' := by
  have hb0 : (b == 0) = false := beq_eq_false_iff_ne.2 hb
  obtain ⟨q, hq⟩ : ∃ q, wrap64 (a.tdiv b) = q := ⟨_, rfl⟩
  obtain ⟨m, hm⟩ : ∃ m, wrap64 (q * b) = m := ⟨_, rfl⟩
  obtain ⟨r, hr⟩ : ∃ r, wrap64 (a - m) = r := ⟨_, rfl⟩
  have eR : quoR a b = r := by unfold quoR; rw [hq, hm, hr]
  have eQ : quo a b = if ((r != 0) && (decide (r < 0) != decide (b < 0))) = true then wrap64 (q - 1) else q := by unfold quo quoDown; rw [eR, hq]
  rw [eQ]
  clear eR eQ
  cases h1 : (r != 0)
  · go_enter Tryd.func25, Tryd.ntmps25
    go_wp2
    go_ret2
    exact ⟨rfl, rfl⟩
  · cases h3 : decide (r < 0) <;> cases h4 : decide (b < 0)
    all_goals
      go_enter Tryd.func25, Tryd.ntmps25
      go_wp2
      go_ret2
      exact ⟨rfl, rfl⟩
/-! ### division and remainder -/
def Laid (w : World) : Prop := w.cell? ⟨0, 0, none⟩ = some (.iface 68 (.agg #[.pointer (some ⟨4, 39, none⟩)]))
theorem Laid.lt {w : World} (h : Laid w) : 0 < w.heap.size := World.block_lt_of_cell? w (a := ⟨0, 0, none⟩) h
theorem Laid.alloc {w : World} (h : Laid w) (o : Obj) : Laid (w.alloc o) := by
  have hl := h.lt
  unfold Laid at *
  rw [World.cell?_alloc_lt _ _ ⟨0, 0, none⟩ hl]
  exact h
theorem Laid.below {w w' : World} (h : Laid w) (hb : Below w.heap.size w w') : Laid w' := (hb.cell (p := ⟨0, 0, none⟩) h.lt).trans h
theorem Laid.ops {w : World} (h : Laid w) (o : Obj) : Laid ((opsW w).alloc o) := by
  unfold opsW
  exact (((((((h.alloc _).alloc _).alloc _).alloc _).alloc _).alloc _).alloc _).alloc _
set_option maxHeartbeats 8000000 in
set_option maxRecDepth 100000 in
theorem arith_3_0 (a : Int) (w : World) (hg : Laid w) : Calls Tryd.prog 11 #[.int .i64 3, .int .i64 a, .int .i64 0] w fun e w' => e = .returned (.tuple #[.int .i64 0, .int .i64 5]) ∧ Below w.heap.size w w' := by
  have HG := Lib.hid hg
  clear hg
  go_enter Tryd.func11, Tryd.ntmps11
  go_wp2_with (first | (go_at_call 16; refine (ops_calls _).mono ?_; rintro e w' ⟨rfl, rfl⟩) | (go_at_call 17; refine (codeOf_err 5 _ (HG.out.ops _)).mono ?_; rintro e w' ⟨rfl, hb1⟩) | (go_at_call 25; refine (quo_zero _ _).mono ?_; rintro e w' ⟨rfl, rfl⟩) | go_in)
  go_ret2
  exact ⟨rfl, below_ops w _ hb1⟩
set_option maxHeartbeats 8000000 in
set_option maxRecDepth 100000 in
theorem arith_4_0 (a : Int) (w : World) (hg : Laid w) : Calls Tryd.prog 11 #[.int .i64 4, .int .i64 a, .int .i64 0] w fun e w' => e = .returned (.tuple #[.int .i64 0, .int .i64 5]) ∧ Below w.heap.size w w' := by
  have HG := Lib.hid hg
  clear hg
  go_enter Tryd.func11, Tryd.ntmps11
  go_wp2_with (first | (go_at_call 16; refine (ops_calls _).mono ?_; rintro e w' ⟨rfl, rfl⟩) | (go_at_call 17; refine (codeOf_err 5 _ (HG.out.ops _)).mono ?_; rintro e w' ⟨rfl, hb1⟩) | (go_at_call 25; refine (quo_zero _ _).mono ?_; rintro e w' ⟨rfl, rfl⟩) | go_in)
  go_ret2
  exact ⟨rfl, below_ops w _ hb1⟩
set_option maxHeartbeats 8000000 in
set_option maxRecDepth 100000 in
theorem arith_3 (a b : Int) (w : World) (hb : ¬ b = 0) : Calls Tryd.prog 11 #[.int .i64 3, .int .i64 a, .int .i64 b] w fun e w' => e = .returned (.tuple #[.int .i64 (quo a b), .int .i64 0]) ∧ Below w.heap.size w w' := by
  go_enter Tryd.func11, Tryd.ntmps11
  go_wp2_with (first | (go_at_call 16; refine (ops_calls _).mono ?_; rintro e w' ⟨rfl, rfl⟩) | (go_at_call 17; refine (codeOf_nil _).mono ?_; rintro e w' ⟨rfl, hb1⟩) | (go_at_call 25; refine (quo_calls _ _ _ hb).mono ?_; rintro e w' ⟨rfl, rfl⟩) | go_in)
  go_ret2
  exact ⟨rfl, below_ops w _ hb1⟩
set_option maxHeartbeats 8000000 in
set_option maxRecDepth 100000 in
theorem arith_4 (a b : Int) (w : World) (hb : ¬ b = 0) : Calls Tryd.prog 11 #[.int .i64 4, .int .i64 a, .int .i64 b] w fun e w' => e = .returned (.tuple #[.int .i64 (wrap64 (a - wrap64 (quo a b * b))), .int .i64 0]) ∧ Below w.heap.size w w' := by
  go_enter Tryd.func11, Tryd.ntmps11
  go_wp2_with (first | (go_at_call 16; refine (ops_calls _).mono ?_; rintro e w' ⟨rfl, rfl⟩) | (go_at_call 17; refine (codeOf_nil _).mono ?_; rintro e w' ⟨rfl, hb1⟩) | (go_at_call 25; refine (quo_calls _ _ _ hb).mono ?_; rintro e w' ⟨rfl, rfl⟩) | go_in)
  go_ret2
  exact ⟨rfl, below_ops w _ hb1⟩
end Go.Proofs.YtchfdpmkgjblgaaDoor
