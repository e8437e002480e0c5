/- The checker, part 2: contracts of functions of the program that the printer does not take. -/
import Derived.Test.YtmmpiojekgfdjaaDoorZpH1
import Derived.WalkKit
import Derived.Deep.LoopGhost
import Derived.Deep.QuietTactic
import Derived.BigQuiet
import Derived.Deep.DeepCutAuto
import Derived.Deep.RegionHeld3
import Derived.Laws.Rows
import Derived.StillTactics
import Derived.StillTailTactics
import Derived.LoopTactic
import Derived.RegionTactic
import Derived.BigRegion
import Derived.Outline
import Derived.Maps.OwnOps
import Derived.Maps.OwnSet
import Derived.WalkSpells
import Derived.Laws.EntriesVeiled
import Derived.Laws.Tables
import Derived.Deep.RegionLaw
import Derived.ChangeAlike
import Derived.Test.YtmmpiojekgfdjaaDoorZpK
namespace Go.Proofs.YtmmpiojekgfdjaaDoor.C
open Go.RowKit YtmmpiojekgfdjaaDoorW.PrintWords YtmmpiojekgfdjaaDoorW.PrintLast
set_option linter.unusedVariables false
set_option linter.unusedSimpArgs false
def rowsV : Array Value := #[.string ⟨#[99, 111, 110, 115, 116]⟩, .int .u8 99, .int .u8 0, .int .i64 0, .int .i64 1, .string ⟨#[110, 105, 108]⟩, .int .u8 0, .int .u8 0, .int .i64 0, .int .i64 1, .string ⟨#[116, 114, 117, 101]⟩, .int .u8 0, .int .u8 0, .int .i64 0, .int .i64 1, .string ⟨#[102, 97, 108, 115, 101]⟩, .int .u8 0, .int .u8 0, .int .i64 0, .int .i64 1, .string ⟨#[98, 117, 105, 108, 116, 105, 110]⟩, .int .u8 105, .int .u8 0, .int .i64 0, .int .i64 1, .string ⟨#[103, 101, 116]⟩, .int .u8 115, .int .u8 0, .int .i64 0, .int .i64 1, .string ⟨#[115, 101, 116]⟩, .int .u8 115, .int .u8 0, .int .i64 1, .int .i64 0, .string ⟨#[110, 101, 119]⟩, .int .u8 115, .int .u8 0, .int .i64 1, .int .i64 0, .string ⟨#[117, 112]⟩, .int .u8 117, .int .u8 0, .int .i64 0, .int .i64 1, .string ⟨#[115, 101, 116, 117, 112]⟩, .int .u8 117, .int .u8 0, .int .i64 1, .int .i64 0, .string ⟨#[102, 117, 110, 99]⟩, .int .u8 112, .int .u8 0, .int .i64 0, .int .i64 1, .string ⟨#[116, 97, 98, 108, 101]⟩, .int .u8 0, .int .u8 0, .int .i64 0, .int .i64 1, .string ⟨#[102, 105, 101, 108, 100]⟩, .int .u8 0, .int .u8 0, .int .i64 3, .int .i64 1, .string ⟨#[105, 110, 100, 101, 120]⟩, .int .u8 0, .int .u8 0, .int .i64 2, .int .i64 1, .string ⟨#[115, 116, 111, 114, 101]⟩, .int .u8 0, .int .u8 0, .int .i64 3, .int .i64 0, .string ⟨#[98, 105, 110]⟩, .int .u8 111, .int .u8 0, .int .i64 2, .int .i64 1, .string ⟨#[110, 111, 116]⟩, .int .u8 0, .int .u8 0, .int .i64 1, .int .i64 1, .string ⟨#[110, 101, 103]⟩, .int .u8 0, .int .u8 0, .int .i64 1, .int .i64 1, .string ⟨#[106, 117, 109, 112]⟩, .int .u8 116, .int .u8 0, .int .i64 0, .int .i64 0, .string ⟨#[106, 117, 109, 112, 102, 97, 108, 115, 101]⟩, .int .u8 116, .int .u8 0, .int .i64 1, .int .i64 0, .string ⟨#[97, 110, 100]⟩, .int .u8 116, .int .u8 0, .int .i64 1, .int .i64 0, .string ⟨#[111, 114]⟩, .int .u8 116, .int .u8 0, .int .i64 1, .int .i64 0, .string ⟨#[99, 97, 108, 108]⟩, .int .u8 110, .int .u8 110, .int .i64 1, .int .i64 0, .string ⟨#[116, 97, 105, 108]⟩, .int .u8 110, .int .u8 0, .int .i64 1, .int .i64 0, .string ⟨#[114, 101, 116, 117, 114, 110]⟩, .int .u8 110, .int .u8 0, .int .i64 0, .int .i64 0, .string ⟨#[112, 111, 112]⟩, .int .u8 0, .int .u8 0, .int .i64 1, .int .i64 0, .string ⟨#[102, 111, 114, 116, 101, 115, 116]⟩, .int .u8 51, .int .u8 116, .int .i64 0, .int .i64 0, .string ⟨#[102, 111, 114, 110, 101, 120, 116]⟩, .int .u8 51, .int .u8 116, .int .i64 0, .int .i64 0]
def rowW : Nat → ByteArray
  | 0 => ⟨#[99, 111, 110, 115, 116]⟩
  | 1 => ⟨#[110, 105, 108]⟩
  | 2 => ⟨#[116, 114, 117, 101]⟩
  | 3 => ⟨#[102, 97, 108, 115, 101]⟩
  | 4 => ⟨#[98, 117, 105, 108, 116, 105, 110]⟩
  | 5 => ⟨#[103, 101, 116]⟩
  | 6 => ⟨#[115, 101, 116]⟩
  | 7 => ⟨#[110, 101, 119]⟩
  | 8 => ⟨#[117, 112]⟩
  | 9 => ⟨#[115, 101, 116, 117, 112]⟩
  | 10 => ⟨#[102, 117, 110, 99]⟩
  | 11 => ⟨#[116, 97, 98, 108, 101]⟩
  | 12 => ⟨#[102, 105, 101, 108, 100]⟩
  | 13 => ⟨#[105, 110, 100, 101, 120]⟩
  | 14 => ⟨#[115, 116, 111, 114, 101]⟩
  | 15 => ⟨#[98, 105, 110]⟩
  | 16 => ⟨#[110, 111, 116]⟩
  | 17 => ⟨#[110, 101, 103]⟩
  | 18 => ⟨#[106, 117, 109, 112]⟩
  | 19 => ⟨#[106, 117, 109, 112, 102, 97, 108, 115, 101]⟩
  | 20 => ⟨#[97, 110, 100]⟩
  | 21 => ⟨#[111, 114]⟩
  | 22 => ⟨#[99, 97, 108, 108]⟩
  | 23 => ⟨#[116, 97, 105, 108]⟩
  | 24 => ⟨#[114, 101, 116, 117, 114, 110]⟩
  | 25 => ⟨#[112, 111, 112]⟩
  | 26 => ⟨#[102, 111, 114, 116, 101, 115, 116]⟩
  | 27 => ⟨#[102, 111, 114, 110, 101, 120, 116]⟩
  | _ => ⟨#[]⟩
def rowA : Nat → Int
  | 0 => 99
  | 4 => 105
  | 5 => 115
  | 6 => 115
  | 7 => 115
  | 8 => 117
  | 9 => 117
  | 10 => 112
  | 15 => 111
  | 18 => 116
  | 19 => 116
  | 20 => 116
  | 21 => 116
  | 22 => 110
  | 23 => 110
  | 24 => 110
  | 26 => 51
  | 27 => 51
  | _ => 0
def rowB : Nat → Int
  | 22 => 110
  | 26 => 116
  | 27 => 116
  | _ => 0
def rowT : Nat → Int
  | 6 => 1
  | 7 => 1
  | 9 => 1
  | 12 => 3
  | 13 => 2
  | 14 => 3
  | 15 => 2
  | 16 => 1
  | 17 => 1
  | 19 => 1
  | 20 => 1
  | 21 => 1
  | 22 => 1
  | 23 => 1
  | 25 => 1
  | _ => 0
def rowL : Nat → Int
  | 0 => 1
  | 1 => 1
  | 2 => 1
  | 3 => 1
  | 4 => 1
  | 5 => 1
  | 8 => 1
  | 10 => 1
  | 11 => 1
  | 12 => 1
  | 13 => 1
  | 15 => 1
  | 16 => 1
  | 17 => 1
  | _ => 0
set_option maxRecDepth 100000 in
theorem build65 (w : World) : (Instr.build 66 #[(0, .agg #[.string ⟨#[99, 111, 110, 115, 116]⟩, .int .u8 99, .int .u8 0, .int .i64 0, .int .i64 1]), (1, .agg #[.string ⟨#[110, 105, 108]⟩, .int .u8 0, .int .u8 0, .int .i64 0, .int .i64 1]), (2, .agg #[.string ⟨#[116, 114, 117, 101]⟩, .int .u8 0, .int .u8 0, .int .i64 0, .int .i64 1]), (3, .agg #[.string ⟨#[102, 97, 108, 115, 101]⟩, .int .u8 0, .int .u8 0, .int .i64 0, .int .i64 1]), (4, .agg #[.string ⟨#[98, 117, 105, 108, 116, 105, 110]⟩, .int .u8 105, .int .u8 0, .int .i64 0, .int .i64 1]), (5, .agg #[.string ⟨#[103, 101, 116]⟩, .int .u8 115, .int .u8 0, .int .i64 0, .int .i64 1]), (6, .agg #[.string ⟨#[115, 101, 116]⟩, .int .u8 115, .int .u8 0, .int .i64 1, .int .i64 0]), (7, .agg #[.string ⟨#[110, 101, 119]⟩, .int .u8 115, .int .u8 0, .int .i64 1, .int .i64 0]), (8, .agg #[.string ⟨#[117, 112]⟩, .int .u8 117, .int .u8 0, .int .i64 0, .int .i64 1]), (9, .agg #[.string ⟨#[115, 101, 116, 117, 112]⟩, .int .u8 117, .int .u8 0, .int .i64 1, .int .i64 0]), (10, .agg #[.string ⟨#[102, 117, 110, 99]⟩, .int .u8 112, .int .u8 0, .int .i64 0, .int .i64 1]), (11, .agg #[.string ⟨#[116, 97, 98, 108, 101]⟩, .int .u8 0, .int .u8 0, .int .i64 0, .int .i64 1]), (12, .agg #[.string ⟨#[102, 105, 101, 108, 100]⟩, .int .u8 0, .int .u8 0, .int .i64 3, .int .i64 1]), (13, .agg #[.string ⟨#[105, 110, 100, 101, 120]⟩, .int .u8 0, .int .u8 0, .int .i64 2, .int .i64 1]), (14, .agg #[.string ⟨#[115, 116, 111, 114, 101]⟩, .int .u8 0, .int .u8 0, .int .i64 3, .int .i64 0]), (15, .agg #[.string ⟨#[98, 105, 110]⟩, .int .u8 111, .int .u8 0, .int .i64 2, .int .i64 1]), (16, .agg #[.string ⟨#[110, 111, 116]⟩, .int .u8 0, .int .u8 0, .int .i64 1, .int .i64 1]), (17, .agg #[.string ⟨#[110, 101, 103]⟩, .int .u8 0, .int .u8 0, .int .i64 1, .int .i64 1]), (18, .agg #[.string ⟨#[106, 117, 109, 112]⟩, .int .u8 116, .int .u8 0, .int .i64 0, .int .i64 0]), (19, .agg #[.string ⟨#[106, 117, 109, 112, 102, 97, 108, 115, 101]⟩, .int .u8 116, .int .u8 0, .int .i64 1, .int .i64 0]), (20, .agg #[.string ⟨#[97, 110, 100]⟩, .int .u8 116, .int .u8 0, .int .i64 1, .int .i64 0]), (21, .agg #[.string ⟨#[111, 114]⟩, .int .u8 116, .int .u8 0, .int .i64 1, .int .i64 0]), (22, .agg #[.string ⟨#[99, 97, 108, 108]⟩, .int .u8 110, .int .u8 110, .int .i64 1, .int .i64 0]), (23, .agg #[.string ⟨#[116, 97, 105, 108]⟩, .int .u8 110, .int .u8 0, .int .i64 1, .int .i64 0]), (24, .agg #[.string ⟨#[114, 101, 116, 117, 114, 110]⟩, .int .u8 110, .int .u8 0, .int .i64 0, .int .i64 0]), (25, .agg #[.string ⟨#[112, 111, 112]⟩, .int .u8 0, .int .u8 0, .int .i64 1, .int .i64 0]), (26, .agg #[.string ⟨#[102, 111, 114, 116, 101, 115, 116]⟩, .int .u8 51, .int .u8 116, .int .i64 0, .int .i64 0]), (27, .agg #[.string ⟨#[102, 111, 114, 110, 101, 120, 116]⟩, .int .u8 51, .int .u8 116, .int .i64 0, .int .i64 0])]).run Tryd.prog w = .ok (.agg rowsV) w :=
  run_build w 66 _ _ (by kernel_rfl)
theorem build64 (w : World) (s : ByteArray) (a b t l : Int) : (Instr.build 65 #[(0, .string s), (1, .int .u8 a), (2, .int .u8 b), (3, .int .i64 t), (4, .int .i64 l)]).run Tryd.prog w = .ok (.agg #[.string s, .int .u8 a, .int .u8 b, .int .i64 t, .int .i64 l]) w :=
  run_build w 65 _ _ (by kernel_rfl)
theorem setRow_below (w : World) (o : Obj) (cs : Array Value) : Below w.heap.size w ((w.alloc o).setRow w.heap.size cs) := by
  have hb := (Below.refl w.heap.size w).alloc (Nat.le_refl _) o
  refine ⟨hb.os, hb.tape, hb.output, ?_, fun i hi => ?_⟩
  · unfold World.setRow; simp
  · rw [setRow_other _ _ _ _ (by omega)]; exact hb.block i hi
set_option maxHeartbeats 8000000 in
set_option maxRecDepth 100000 in
theorem rows_calls (w : World) : Calls Tryd.prog 25 #[] w fun e w' => e = .returned (.agg rowsV) ∧ Below w.heap.size w w' := by
  have hb := build64
  have hb5 := build65
  go_enter Tryd.func25, Tryd.ntmps25
  go_wp2_with (with_reducible refine wpList_store_row rfl 66 (.tmp 0) (.tmp 29) rfl w.heap.size rowsV rfl rfl 66 Tryd.zeroCells66 (heap_alloc_new _ _) (by kernel_rfl) (by kernel_rfl) (by kernel_rfl) ?_)
  exact bodyPost_ret (v := .agg rowsV) (results_cell_row rfl _ _ w.heap.size 66 rowsV (0, 0) _ rfl (setRow_heap _ _ _ _ _ _ (heap_alloc_new _ _)) Tryd.underlying66 rfl (by kernel_rfl)) rfl ⟨rfl, setRow_below w _ _⟩
end Go.Proofs.YtmmpiojekgfdjaaDoor.C
