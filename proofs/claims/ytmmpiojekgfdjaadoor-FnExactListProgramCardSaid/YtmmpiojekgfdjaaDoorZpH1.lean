/- The checker, part 1: contracts of functions of the program that the printer does not take. -/
import Derived.Test.YtmmpiojekgfdjaaDoorZpCx0
import Derived.WalkKit
import Derived.Deep.LoopGhost
import Derived.Deep.QuietTactic
import Derived.BigQuiet
import Derived.Deep.DeepCutAuto
import Derived.Deep.RegionHeld3
import Derived.Laws.Rows
import Derived.StillTactics
import Derived.StillTailTactics
import Derived.LoopTactic
import Derived.RegionTactic
import Derived.BigRegion
import Derived.Outline
import Derived.Maps.OwnOps
import Derived.Maps.OwnSet
import Derived.WalkSpells
import Derived.Laws.EntriesVeiled
import Derived.Laws.Tables
import Derived.Deep.RegionLaw
import Derived.ChangeAlike
import Derived.Test.YtmmpiojekgfdjaaDoorZpK
namespace Go.Proofs.YtmmpiojekgfdjaaDoor.C
open Go.RowKit YtmmpiojekgfdjaaDoorW.PrintWords YtmmpiojekgfdjaaDoorW.PrintLast
set_option linter.unusedVariables false
set_option linter.unusedSimpArgs false
def capBad (i : Int) : Bool := decide (i < 0) || decide (200 ≤ i)
theorem i64_next {j n : Nat} (h : j < n) (hn : n ≤ 9223372036854775807) : Value.int .i64 (wrap64 ((j : Int) + 1)) = .int .i64 ((j + 1 : Nat) : Int) := by
 congr 1; unfold wrap64; omega
theorem ret_i64 {a b : Int} (h : a = b) : Ending.returned (.int .i64 a) = .returned (.int .i64 b) := by rw [h]
theorem ret_bool {a b : Bool} (h : a = b) : Ending.returned (.bool a) = .returned (.bool b) := by rw [h]
abbrev fnv (f : Nat) : Value := .func (.func f) #[] #[]
set_option maxHeartbeats 4000000 in
theorem capBad_calls (u : Bool) (i : Int) (w : World) : Calls Tryd.prog 43 #[.agg #[.bool u, .int .i64 i]] w fun e w' => e = .returned (.bool (capBad i)) ∧ Below w.heap.size w w' := by
 by_cases h : i < 0
 ·
  have hd : decide (i < 0) = true := decide_eq_true h
  have e : capBad i = true := by simp [capBad, h]
  rw [e]
  clear e h
  go_enter Tryd.func43, Tryd.ntmps43
  go_wp2
  go_ret
  exact ⟨rfl, (Below.refl _ _).alloc (Nat.le_refl _) _⟩
 ·
  have hd : decide (i < 0) = false := decide_eq_false h
  have e : capBad i = decide (200 ≤ i) := by simp [capBad, h]
  rw [e]
  clear e h
  go_enter Tryd.func43, Tryd.ntmps43
  go_wp2
  go_ret
  exact ⟨rfl, (Below.refl _ _).alloc (Nat.le_refl _) _⟩
def idxBad : List S48 → Nat → Int
 | [], _ => -1
 | c :: l, i => if capBad c.f1 = true then (i : Int) else idxBad l (i + 1)
theorem idxBad_any : ∀ (l : List S48) (i : Nat), 0 ≤ idxBad l i ↔ (l.any fun c => capBad c.f1) = true
 | [], _ => by simp [idxBad]
 | c :: l, i => by
  have ih := idxBad_any l (i + 1)
  unfold idxBad
  rw [List.any_cons, Bool.or_eq_true]
  by_cases h : capBad c.f1 = true
  ·
   rw [if_pos h]; exact ⟨fun _ => .inl h, fun _ => by omega⟩
  ·
   rw [if_neg h, ih]; exact ⟨.inr, fun e => e.elim (fun e => absurd e h) id⟩
theorem rdT54_nat (xs : List S48) (i : Nat) (h : i < xs.length) : rd_T48 xs (i : Int) = xs[i] := by
 simp [rd_T48, List.getD_eq_getElem?_getD, h]
set_option maxHeartbeats 8000000 in
set_option maxRecDepth 100000 in
theorem indexBad_calls (A0 : Option Addr) (c0 : Nat) (l0 : List S48) (w : World) (hr0 : Kd.C k48 w A0 l0.length l0) (hc0 : l0.length ≤ c0) :
  Calls Tryd.prog 62 #[.slice A0 l0.length c0, fnv 43] w fun e w' => e = .returned (.int .i64 (idxBad l0 0)) ∧ Below w.heap.size w w' := by
 have HM := amZ (hr0.2.1)
 have HR0 := amZ hr0
 have HC0 := amZ hc0
 clear hr0 hc0
 go_enter Tryd.func62, Tryd.ntmps62
 go_wp2
 go_loopg [8, 5] l0.length (fun g v8 v5 wr => ∃ (j : Nat), v8 = .int .i64 (j : Int) ∧ Aside0 (j + g = l0.length) ∧ Aside0 (idxBad (l0.drop j) j = idxBad l0 0) ∧ Aside0 (Below w.heap.size w wr))
 case atStart => exact ⟨0, rfl, ⟨by omega⟩, ⟨by simp⟩, ⟨Below.refl _ _⟩⟩
 case round =>
  obtain ⟨j, rfl, hj, hi, HB⟩ := hrel
  by_cases hlt : j < l0.length
  ·
   have p : 0 ≤ (j : Int) := by omega
   have q : (j : Int) < (l0.length : Int) := by omega
   obtain ⟨ad, e, hx0, hx1⟩ := at_T48 HR0.out (j : Int) p q
   cases e
   rw [rdT54_nat l0 j hlt, Int.toNat_natCast] at hx0 hx1
   obtain ⟨c, hc⟩ : ∃ c, c = l0[j] := ⟨_, rfl⟩
   rw [← hc] at hx0 hx1
   have hd : l0.drop j = c :: l0.drop (j + 1) := by rw [List.drop_eq_getElem_cons hlt, hc]
   have HI : Aside0 ((if capBad c.f1 = true then (j : Int) else idxBad (l0.drop (j + 1)) (j + 1)) = idxBad l0 0) := ⟨by have := hi.out; rw [hd] at this; exact this⟩
   clear hd hc hi
   replace hx0 := (HB.out.cell (World.block_lt_of_cell? w _ hx0)).trans hx0
   replace hx1 := (HB.out.cell (World.block_lt_of_cell? w _ hx1)).trans hx1
   have hdl : decide ((j : Int) < (l0.length : Int)) = true := decide_eq_true q
   have hdn : decide (j < l0.length) = true := decide_eq_true hlt
   replace p := eq_true p
   replace q := eq_true q
   have HL := amZ hlt
   clear hlt
   cases hb : capBad c.f1 with
   | true =>
    have HI2 := HI.out
    rw [hb, if_pos rfl] at HI2
    have HJ := amZ HI2
    clear HI HI2
    have HBB := amZ hb
    clear hb
    go_wp2_with (go_at_call 43; refine (capBad_calls c.f0 c.f1 _).mono ?_; rw [HBB.out]; rintro e w1 ⟨rfl, hb1⟩; have HB1 := amZ (zcY HB.out hb1); clear hb1)
    go_ret
    exact ⟨ret_i64 HJ.out, HB1.out⟩
   | false =>
    have HI2 := HI.out
    rw [hb, if_neg (by simp)] at HI2
    have HJ := amZ HI2
    clear HI HI2
    have HBB := amZ hb
    clear hb
    go_wp2_with (go_at_call 43; refine (capBad_calls c.f0 c.f1 _).mono ?_; rw [HBB.out]; rintro e w1 ⟨rfl, hb1⟩; have HB1 := amZ (zcY HB.out hb1); clear hb1)
    go_roundg (l0.length - (j + 1))
    case measure => have := hj.out; have := HL.out; omega
    case rel => exact ⟨j + 1, i64_next HL.out HM.out, ⟨by have := HL.out; omega⟩, HJ, HB1⟩
  ·
   have e0 : (l0.drop j) = [] := List.drop_eq_nil_of_le (by omega)
   have HJ : Aside0 (idxBad l0 0 = -1) := ⟨by rw [← hi.out, e0]; rfl⟩
   have hdl : decide ((j : Int) < (l0.length : Int)) = false := decide_eq_false (by omega)
   have hdn : decide (j < l0.length) = false := decide_eq_false hlt
   clear e0 hi hlt
   go_wp2
   go_ret
   exact ⟨ret_i64 HJ.out.symm, HB.out⟩
set_option maxHeartbeats 4000000 in
theorem containsBad_calls (A0 : Option Addr) (c0 : Nat) (l0 : List S48) (w : World) (hr0 : Kd.C k48 w A0 l0.length l0) (hc0 : l0.length ≤ c0) :
  Calls Tryd.prog 42 #[.slice A0 l0.length c0, fnv 43] w fun e w' => e = .returned (.bool (l0.any fun c => capBad c.f1)) ∧ Below w.heap.size w w' := by
 have hz := idxBad_any l0 0
 have e : (l0.any fun c => capBad c.f1) = decide (0 ≤ idxBad l0 0) := by rw [Bool.eq_iff_iff, ← hz, decide_eq_true_eq]
 rw [e]
 clear e hz
 have HR0 := amZ hr0
 have HC0 := amZ hc0
 clear hr0 hc0
 go_enter Tryd.func42, Tryd.ntmps42
 go_wp2_with (go_at_call 62; refine (indexBad_calls A0 c0 l0 _ HR0.out HC0.out).mono ?_; rintro e w1 ⟨rfl, hb1⟩; have HB1 := amZ hb1; clear hb1)
 go_ret
 exact ⟨rfl, HB1.out⟩
end Go.Proofs.YtmmpiojekgfdjaaDoor.C
