/- The checker, part 3: contracts of functions of the program that the printer does not take. -/
import Derived.Test.YtmmpiojekgfdjaaDoorZpH2
import Derived.WalkKit
import Derived.Deep.LoopGhost
import Derived.Deep.QuietTactic
import Derived.BigQuiet
import Derived.Deep.DeepCutAuto
import Derived.Deep.RegionHeld3
import Derived.Laws.Rows
import Derived.StillTactics
import Derived.StillTailTactics
import Derived.LoopTactic
import Derived.RegionTactic
import Derived.BigRegion
import Derived.Outline
import Derived.Maps.OwnOps
import Derived.Maps.OwnSet
import Derived.WalkSpells
import Derived.Laws.EntriesVeiled
import Derived.Laws.Tables
import Derived.Deep.RegionLaw
import Derived.ChangeAlike
import Derived.Test.YtmmpiojekgfdjaaDoorZpK
namespace Go.Proofs.YtmmpiojekgfdjaaDoor.C
open Go.RowKit YtmmpiojekgfdjaaDoorW.PrintWords YtmmpiojekgfdjaaDoorW.PrintLast
set_option linter.unusedVariables false
set_option linter.unusedSimpArgs false
structure ProtoAt (w : World) (ad : Addr) (p s : Int) (A2 : Option Addr) (n2 c2 : Nat) (A3 : Option Addr) (n3 c3 : Nat) : Prop where
 c0 : w.cell? ad = some (.int .i64 p)
 c1 : w.cell? ⟨ad.block, ad.off + 1, none⟩ = some (.int .i64 s)
 c2 : w.cell? ⟨ad.block, ad.off + 2, none⟩ = some (.slice A2 n2 c2)
 c3 : w.cell? ⟨ad.block, ad.off + 3, none⟩ = some (.slice A3 n3 c3)
theorem ProtoAt.below {w w1 : World} {ad : Addr} {p s : Int} {A2 A3 : Option Addr} {n2 c2 n3 c3 : Nat} (h : ProtoAt w ad p s A2 n2 c2 A3 n3 c3) (hb : Below w.heap.size w w1) : ProtoAt w1 ad p s A2 n2 c2 A3 n3 c3 :=
 ⟨zdY hb h.c0, zdY hb h.c1, zdY hb h.c2, zdY hb h.c3⟩
def boundV (what : Int) (nc np : Nat) (s : Int) (n2 n3 : Nat) : Int :=
 if what = 99 then nc else if what = 112 then np else if what = 115 then s else if what = 51 then wrap64 (s - 2) else if what = 117 then n2 else if what = 105 then 10 else if what = 111 then 12 else if what = 110 then 51 else if what = 116 then n3 else 1
theorem eqb {a b : Int} (h : a = b) : (a == b) = true := beq_iff_eq.mpr h
theorem neb {a b : Int} (h : ¬ a = b) : (a == b) = false := beq_eq_false_iff_ne.mpr h
set_option maxHeartbeats 8000000 in
set_option maxRecDepth 100000 in
theorem bound_calls (A0 A1 : Option Addr) (n0 c0 n1 c1 : Nat) (ad : Addr) (p s : Int) (A2 : Option Addr) (n2 c2 : Nat) (A3 : Option Addr) (n3 c3 : Nat) (a : Int) (w : World) (hp : ProtoAt w ad p s A2 n2 c2 A3 n3 c3) :
  Calls Tryd.prog 63 #[.agg #[.slice A0 n0 c0, .slice A1 n1 c1], .pointer (some ad), .int .u8 a] w fun e w' => e = .returned (.int .i64 (boundV a n0 n1 s n2 n3)) ∧ w.alloc (.cells #[.slice A0 n0 c0, .slice A1 n1 c1] 32) = w' := by
 have hq := hp.below (below_alloc (Below.refl w.heap.size w) (.cells #[.slice A0 n0 c0, .slice A1 n1 c1] 32))
 have h1 := hq.c1
 have h2 := hq.c2
 have h3 := hq.c3
 clear hq hp
 have hu := Tryd.underlying32
 unfold boundV
 by_cases a1 : a = 99
 ·
  rw [if_pos a1]
  have q1 := eqb a1
  clear a1
  go_enter Tryd.func63, Tryd.ntmps63
  go_wp2
  go_ret
  exact ⟨rfl, rfl⟩
 rw [if_neg a1]
 have q1 := neb a1
 clear a1
 by_cases a2 : a = 112
 ·
  rw [if_pos a2]
  have q2 := eqb a2
  clear a2
  go_enter Tryd.func63, Tryd.ntmps63
  go_wp2
  go_ret
  exact ⟨rfl, rfl⟩
 rw [if_neg a2]
 have q2 := neb a2
 clear a2
 by_cases a3 : a = 115
 ·
  rw [if_pos a3]
  have q3 := eqb a3
  clear a3
  go_enter Tryd.func63, Tryd.ntmps63
  go_wp2
  go_ret
  exact ⟨rfl, rfl⟩
 rw [if_neg a3]
 have q3 := neb a3
 clear a3
 by_cases a4 : a = 51
 ·
  rw [if_pos a4]
  have q4 := eqb a4
  clear a4
  go_enter Tryd.func63, Tryd.ntmps63
  go_wp2
  go_ret
  exact ⟨rfl, rfl⟩
 rw [if_neg a4]
 have q4 := neb a4
 clear a4
 by_cases a5 : a = 117
 ·
  rw [if_pos a5]
  have q5 := eqb a5
  clear a5
  go_enter Tryd.func63, Tryd.ntmps63
  go_wp2
  go_ret
  exact ⟨rfl, rfl⟩
 rw [if_neg a5]
 have q5 := neb a5
 clear a5
 by_cases a6 : a = 105
 ·
  rw [if_pos a6]
  have q6 := eqb a6
  clear a6
  go_enter Tryd.func63, Tryd.ntmps63
  go_wp2
  go_ret
  exact ⟨rfl, rfl⟩
 rw [if_neg a6]
 have q6 := neb a6
 clear a6
 by_cases a7 : a = 111
 ·
  rw [if_pos a7]
  have q7 := eqb a7
  clear a7
  go_enter Tryd.func63, Tryd.ntmps63
  go_wp2
  go_ret
  exact ⟨rfl, rfl⟩
 rw [if_neg a7]
 have q7 := neb a7
 clear a7
 by_cases a8 : a = 110
 ·
  rw [if_pos a8]
  have q8 := eqb a8
  clear a8
  go_enter Tryd.func63, Tryd.ntmps63
  go_wp2
  go_ret
  exact ⟨rfl, rfl⟩
 rw [if_neg a8]
 have q8 := neb a8
 clear a8
 by_cases a9 : a = 116
 ·
  rw [if_pos a9]
  have q9 := eqb a9
  clear a9
  go_enter Tryd.func63, Tryd.ntmps63
  go_wp2
  go_ret
  exact ⟨rfl, rfl⟩
 rw [if_neg a9]
 have q9 := neb a9
 clear a9
 go_enter Tryd.func63, Tryd.ntmps63
 go_wp2
 go_ret
 exact ⟨rfl, rfl⟩
end Go.Proofs.YtmmpiojekgfdjaaDoor.C
