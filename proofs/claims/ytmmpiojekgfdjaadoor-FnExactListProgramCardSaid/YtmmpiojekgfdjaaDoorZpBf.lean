/- Numbers in letters. -/
import Derived.Test.YtmmpiojekgfdjaaDoorZpB0
import Derived.Test.YtmmpiojekgfdjaaDoorZpShelf
import Derived.Test.YtmmpiojekgfdjaaDoorZpK
namespace Go.Proofs.YtmmpiojekgfdjaaDoor.C
open Go.RowKit YtmmpiojekgfdjaaDoorW.PrintWords YtmmpiojekgfdjaaDoorW.PrintLast
set_option linter.unusedVariables false
set_option linter.unusedSimpArgs false
def PowTab (w : World) : Prop := Lib.TabIs Tryd.prog w "internal/strconv.uint64pow10" .u64 Lib.pow10Tab
theorem PowTab.below {w w1 : World} (h : PowTab w) (hb : Below w.heap.size w w1) (_ : True) : PowTab w1 := Lib.tabBelow_of_tabIs h w1 hb
def impl_FormatInt.f (a0 : Int) : Option (List Int) := if -9223372036854775808 ≤ a0 ∧ a0 ≤ 9223372036854775807 then some ((Lib.itoa a0).map fun c => (c.toNat : Int)) else none
set_option maxHeartbeats 4000000 in
set_option maxRecDepth 100000 in
theorem impl_FormatInt.calls (a0 : Int) (r : List Int) (w : World) (hWP : PowTab w) (h : impl_FormatInt.f a0 = some r) :
  Calls Tryd.prog 24 #[.int .i64 a0] w fun e w' => ∃ v0_ : Value, e = .returned (v0_) ∧ Kd.R (Kd.int .u8) 5 w' w.heap.size (fun _ => True) v0_ r ∧ Below w.heap.size w w' := by
 by_cases hb : -9223372036854775808 ≤ a0 ∧ a0 ≤ 9223372036854775807
 ·
  obtain ⟨h0, h1⟩ := hb
  have hr : r = (Lib.itoa a0).map fun c => (c.toNat : Int) := by
   unfold impl_FormatInt.f at h
   rw [if_pos ⟨h0, h1⟩] at h
   exact (Option.some.inj h).symm
  have H := amZ hr
  have HWP := amZ hWP
  clear h hr hWP
  go_enter Tryd.func24, Tryd.ntmps24
  go_wp2_with (go_at_call 47; refine (Tryd.strconv_AppendInt_10 w.heap.size 0 a0 h0 h1 (.slice none 0 0) [] w (World.ownsRow_nil _ _ _ _) (Nat.le_refl _) (by omega) (Lib.tabBelow_of_tabIs HWP.out)).mono ?_; rintro e w1 ⟨v1, rfl, hown1, hnx1, -⟩; have HO1 := amZ hown1; clear hown1)
  go_ret
  have hown1 := HO1.out
  refine ⟨v1, rfl, Kd.R_of_own (enc := Value.int .u8) ?_ (fun _ _ => trivial), hnx1⟩
  rw [H.out]
  rw [Nat.zero_add, List.nil_append] at hown1
  simpa [encs, Lib.byteCells, Function.comp_def] using hown1
 ·
  unfold impl_FormatInt.f at h
  rw [if_neg hb] at h
  cases h
end Go.Proofs.YtmmpiojekgfdjaaDoor.C
