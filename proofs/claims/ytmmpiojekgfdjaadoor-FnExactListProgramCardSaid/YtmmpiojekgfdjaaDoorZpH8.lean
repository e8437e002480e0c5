/- The checker, part 8: contracts of functions of the program that the printer does not take. -/
import Derived.Test.YtmmpiojekgfdjaaDoorZpH7
import Derived.WalkKit
import Derived.Deep.LoopGhost
import Derived.Deep.QuietTactic
import Derived.BigQuiet
import Derived.Deep.DeepCutAuto
import Derived.Deep.RegionHeld3
import Derived.Laws.Rows
import Derived.StillTactics
import Derived.StillTailTactics
import Derived.LoopTactic
import Derived.RegionTactic
import Derived.BigRegion
import Derived.Outline
import Derived.Maps.OwnOps
import Derived.Maps.OwnSet
import Derived.WalkSpells
import Derived.Laws.EntriesVeiled
import Derived.Laws.Tables
import Derived.Deep.RegionLaw
import Derived.ChangeAlike
import Derived.Test.YtmmpiojekgfdjaaDoorZpK
namespace Go.Proofs.YtmmpiojekgfdjaaDoor.C
open Go.RowKit YtmmpiojekgfdjaaDoorW.PrintWords YtmmpiojekgfdjaaDoorW.PrintLast
set_option linter.unusedVariables false
set_option linter.unusedSimpArgs false
theorem goodIns_calls (A0 A1 : Option Addr) (n0 c0 c1 : Nat) (ps : List S45) (ad : Addr) (p s : Int) (A2 : Option Addr) (n2 c2 : Nat) (A3 : Option Addr) (n3 c3 : Nat) (g : Nat) (op a b : Int) (w : World)
  (hr1 : Kd.C k45 w A1 ps.length ps) (hc1 : ps.length ≤ c1) (hp : ProtoAt w ad p s A2 n2 c2 A3 n3 c3) (ht : TabAt w g) :
  Calls Tryd.prog 44 #[.agg #[.slice A0 n0 c0, .slice A1 ps.length c1], .pointer (some ad), .agg #[.int .i64 op, .int .i64 a, .int .i64 b], .pointer (some ⟨g, 0, none⟩)] w fun e w' => e = .returned (.bool (goodInsB op a b n0 ps s n2 n3)) ∧ Below w.heap.size w w' := by
 by_cases h : op < 0 ∨ 28 ≤ op
 ·
  have e : goodInsB op a b n0 ps s n2 n3 = false := by unfold goodInsB; rw [if_pos h]
  rw [e]
  exact goodIns_low A0 A1 n0 c0 ps.length c1 ad g op a b w h
 ·
  obtain ⟨n, rfl⟩ : ∃ n : Nat, op = (n : Int) := ⟨op.toNat, by omega⟩
  exact goodIns_any A0 A1 n0 c0 c1 ps ad p s A2 n2 c2 A3 n3 c3 g n a b w (by omega) hr1 hc1 hp ht
def constBad (c : S69) : Bool := decide (5000 < c.f2.length) || ((c.f0 && !(c.f1 == 0)) || (!c.f0 && decide (0 < c.f2.length)))
def protoBad (f : S45) : Bool := (f.f2.any fun c => capBad c.f1) || (decide (f.f0 < 0) || (decide (f.f1 < f.f0) || (decide (200 < f.f1) || (decide (100 < f.f2.length) || decide (f.f3.length = 0)))))
def headBad (i : Nat) (f : S45) : Bool := decide (i = 0) && (decide (0 < f.f0) || decide (0 < f.f2.length))
def protosBad : Nat → List S45 → Bool
 | _, [] => false
 | i, f :: fs => (protoBad f || headBad i f) || protosBad (i + 1) fs
def sumCode : List S45 → Nat
 | [] => 0
 | f :: fs => f.f3.length + sumCode fs
def codeOK (nc : Nat) (ps : List S45) (f : S45) (l : List S51) : Bool := l.all fun x => goodInsB x.f0 x.f1 x.f2 nc ps f.f1 f.f2.length f.f3.length
def codesOK (nc : Nat) (ps : List S45) : List S45 → Option Bool
 | [] => some true
 | f :: fs => if codeOK nc ps f f.f3 = true then (match ghL f.f3 (3 * f.f3.length + 5) [] [(0, 0)] with | none => none | some false => some false | some true => codesOK nc ps fs) else some false
def bigCode (ps : List S45) : Bool := ps.any fun f => decide (2000000 < f.f3.length)
def impl_Check.f (cs : List S69) (ps : List S45) : Option Bool :=
 if bigCode ps = true then none else if ps.length < 1 ∨ 500 < ps.length ∨ 20000 < cs.length then some false else if cs.any constBad = true then some false else if protosBad 0 ps = true then some false
 else if 20000 < sumCode ps then some false else codesOK cs.length ps ps
theorem codesOK_cons {nc : Nat} {ps fs : List S45} {f : S45} {r : Bool} (h : codesOK nc ps (f :: fs) = some r) : (codeOK nc ps f f.f3 = false ∧ r = false) ∨ (codeOK nc ps f f.f3 = true ∧ ∃ z, ghL f.f3 (3 * f.f3.length + 5) [] [(0, 0)] = some z ∧ (z = false ∧ r = false ∨ z = true ∧ codesOK nc ps fs = some r)) := by
 unfold codesOK at h
 split at h
 ·
  rename_i e
  refine .inr ⟨e, ?_⟩
  split at h
  ·
   cases h
  ·
   rename_i e2; exact ⟨false, e2, .inl ⟨rfl, by injection h with h; exact h.symm⟩⟩
  ·
   rename_i e2; exact ⟨true, e2, .inr ⟨rfl, h⟩⟩
 ·
  rename_i e
  exact .inl ⟨by simpa using e, by injection h with h; exact h.symm⟩
theorem rdT48_nat (l : List S69) (j : Nat) (h : j < l.length) : rd_T69 l (j : Int) = l[j] := by
 unfold rd_T69; simp [List.getD_eq_getElem?_getD, List.getElem?_eq_getElem h]
theorem rdT52_nat (l : List S45) (j : Nat) (h : j < l.length) : rd_T45 l (j : Int) = l[j] := by
 unfold rd_T45; simp [List.getD_eq_getElem?_getD, List.getElem?_eq_getElem h]
theorem rdT57_nat (l : List S51) (j : Nat) (h : j < l.length) : rd_T51 l (j : Int) = l[j] := by
 unfold rd_T51; simp [List.getD_eq_getElem?_getD, List.getElem?_eq_getElem h]
theorem bigCode_get {ps : List S45} (h : bigCode ps = false) (j : Nat) (hj : j < ps.length) : ps[j].f3.length ≤ 2000000 := by
 unfold bigCode at h
 rw [List.any_eq_false] at h
 have := h ps[j] (List.getElem_mem hj)
 simpa using this
structure ChkW (w : World) (bp : Nat) (A0 A1 : Option Addr) (n0 c0 n1 c1 : Nat) (W : World) : Prop where
 b : Below w.heap.size w W
 p : W.heap[bp]? = some (.cells #[.slice A0 n0 c0, .slice A1 n1 c1] 32 (0, 0))
theorem ChkW.step {w W W1 : World} {bp : Nat} {A0 A1 : Option Addr} {n0 c0 n1 c1 : Nat} (h : ChkW w bp A0 A1 n0 c0 n1 c1 W) (hb : Below W.heap.size W W1) : ChkW w bp A0 A1 n0 c0 n1 c1 W1 :=
 ⟨zcY h.b hb, (hb.block _ (zlY h.p)).trans h.p⟩
theorem ChkW.alloc {w W : World} {bp : Nat} {A0 A1 : Option Addr} {n0 c0 n1 c1 : Nat} (h : ChkW w bp A0 A1 n0 c0 n1 c1 W) (o : Obj) : ChkW w bp A0 A1 n0 c0 n1 c1 (W.alloc o) := h.step ((Below.refl _ _).alloc (Nat.le_refl _) _)
theorem ChkW.drew {w W : World} {bp : Nat} {A0 A1 : Option Addr} {n0 c0 n1 c1 : Nat} (h : ChkW w bp A0 A1 n0 c0 n1 c1 W) : ChkW w bp A0 A1 n0 c0 n1 c1 W.drew := h.step (below_drew (Below.refl _ _))
theorem ChkW.c0 {w W : World} {bp : Nat} {A0 A1 : Option Addr} {n0 c0 n1 c1 : Nat} (h : ChkW w bp A0 A1 n0 c0 n1 c1 W) : W.cell? ⟨bp, 0, none⟩ = some (.slice A0 n0 c0) := (zaY h.p 0).trans rfl
theorem ChkW.c1 {w W : World} {bp : Nat} {A0 A1 : Option Addr} {n0 c0 n1 c1 : Nat} (h : ChkW w bp A0 A1 n0 c0 n1 c1 W) : W.cell? ⟨bp, 1, none⟩ = some (.slice A1 n1 c1) := (zaY h.p 1).trans rfl
theorem TabAt.mk {w : World} {g : Nat} {t : TypeId} (h : w.heap[g]? = some (.cells rowsV t (0, 0))) : TabAt w g := ⟨t, h⟩
end Go.Proofs.YtmmpiojekgfdjaaDoor.C
