/- Copies of rows. -/
import Derived.Test.YtmmpiojekgfdjaaZlG1
import Derived.Test.YtmmpiojekgfdjaaZlH6
import Derived.Test.YtmmpiojekgfdjaaZlK
namespace Go.Proofs.Ytmmpiojekgfdjaa.C
open Go.RowKit YtmmpiojekgfdjaaW.PrintWords YtmmpiojekgfdjaaW.PrintLast
set_option linter.unusedVariables false
set_option linter.unusedSimpArgs false
theorem C_none {α : Type} {d : Kd α} {w : World} {xs : List α} (h : d.C w none xs.length xs) : xs = [] := by
 cases xs with
 | nil => rfl
 | cons x xs => obtain ⟨_, e, _⟩ := h.2.2 (by simp); cases e
theorem R_fresh {α : Type} (d : Kd α) (e : Nat) (w : World) (base : Nat) (hb : base ≤ w.heap.size) : d.R e (w.alloc (.cells #[] e)) base (fun _ => True) (.slice (some ⟨w.heap.size, 0, none⟩) 0 0) [] := by
 refine ⟨fun _ _ => trivial, [], ⟨by simp, .inr ⟨w.heap.size, 0, #[], rfl, hb, heap_alloc_new _ _, by simp, by decide, by simp, by simp⟩⟩, ?_⟩
 exact ⟨by simp, fun j p hj => by simp at hj⟩
set_option maxHeartbeats 1000000 in
set_option maxRecDepth 100000 in
theorem cloneU8_calls (A : Option Addr) (c : Nat) (l : List Int) (w : World) (hr : Kd.C (Kd.int .u8) w A l.length l) (hl : l.length ≤ 1048576) :
  Calls Try.prog 74 #[.slice A l.length c] w fun e w' => ∃ v, e = .returned v ∧ Kd.R (Kd.int .u8) 5 w' w.heap.size (fun _ => True) v l ∧ Below w.heap.size w w' := by
 have HB := amZ (Below.refl w.heap.size w)
 cases A with
 | none =>
  obtain rfl := C_none hr
  clear hr hl
  have kc := fun A_ l_ c_ => run_eql_slice_nil (P := Try.prog) w 35 5 A_ l_ c_ Try.underlying35
  go_enter Try.func74, Try.ntmps74
  go_wp2
  go_ret
  exact ⟨_, rfl, Kd.R_nil _ _ _ _ _, HB.out⟩
 | some ad =>
  have HW := amZ ((Below.refl w.heap.size w).alloc (Nat.le_refl _) (.cells #[] 5))
  have HR := amZ (Kd.C_below hr HW.out)
  have HN := amZ (R_fresh (Kd.int .u8) 5 w w.heap.size (Nat.le_refl _))
  have HL := amZ hl
  clear hr hl
  have kc := fun A_ l_ c_ => run_eql_slice_nil (P := Try.prog) w 35 5 A_ l_ c_ Try.underlying35
  go_enter Try.func74, Try.ntmps74
  go_wp2_with (at_builtin; refine Kd.R_append_rows (Kd.int .u8) (w0 := w) w.heap.size rfl (.tmp 5) (.tmp 6) 35 5 (.int .u8 0) 1 rfl Try.underlying35 info5 rfl (by decide) (by omega) (.slice (some ⟨w.heap.size, 0, none⟩) 0 0) [] l _ _ _ (fun _ => True) (fun _ => False) rfl rfl HN.out HR.out (fun _ _ h => h) (fun _ h => h.elim) (fun _ _ => trivial) HW.out (by simp) (by have := HL.out; simp; omega) ?_; intro v1 w1 ho hb hg hat; have HO := amZ ho; have HB1 := amZ hb; clear ho hb hg hat)
  go_ret
  exact ⟨_, rfl, by simpa using HO.out, HB1.out⟩
end Go.Proofs.Ytmmpiojekgfdjaa.C
