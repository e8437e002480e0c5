/- The checker, part 10: contracts of functions of the program that the printer does not take. -/
import Derived.Test.YtmmpiojekgfdjaaDoorZpH9
import Derived.WalkKit
import Derived.Deep.LoopGhost
import Derived.Deep.QuietTactic
import Derived.BigQuiet
import Derived.Deep.DeepCutAuto
import Derived.Deep.RegionHeld3
import Derived.Laws.Rows
import Derived.StillTactics
import Derived.StillTailTactics
import Derived.LoopTactic
import Derived.RegionTactic
import Derived.BigRegion
import Derived.Outline
import Derived.Maps.OwnOps
import Derived.Maps.OwnSet
import Derived.WalkSpells
import Derived.Laws.EntriesVeiled
import Derived.Laws.Tables
import Derived.Deep.RegionLaw
import Derived.ChangeAlike
import Derived.Test.YtmmpiojekgfdjaaDoorZpK
namespace Go.Proofs.YtmmpiojekgfdjaaDoor.C
open Go.RowKit YtmmpiojekgfdjaaDoorW.PrintWords YtmmpiojekgfdjaaDoorW.PrintLast
set_option linter.unusedVariables false
set_option linter.unusedSimpArgs false
def icells (xs : List Int) : List Value := xs.map (Value.int .i64)
theorem icells_length (xs : List Int) : (icells xs).length = xs.length := by simp [icells]
theorem icells_append (xs ys : List Int) : icells (xs ++ ys) = icells xs ++ icells ys := by simp [icells]
theorem icells_get (xs : List Int) (j : Nat) (h : j < xs.length) : (icells xs)[j]? = some (.int .i64 (rd xs j)) := by
 simp [icells, rd, List.getElem?_eq_getElem h, List.getD_eq_getElem?_getD]
theorem icells_set (xs : List Int) (j : Nat) (n : Int) : (icells xs).toArray.setIfInBounds j (.int .i64 n) = (icells (xs.set j n)).toArray := by
 simp [icells, List.map_set]
theorem icells_one (xs : List Int) : ∀ u ∈ icells xs, u.oneCell' = true := by
 intro u hu
 obtain ⟨p, _, rfl⟩ := List.mem_map.1 hu
 rfl
theorem info3b : (Tryd.prog.info? 3).map (fun i => (i.zero, i.size, i.bytes)) = some (some (.int .i64 0), 1, 8) := by kernel_rfl
structure HIs (B : Nat) (W : World) (bh : Nat) (hs : List Int) (v : Value) (ts : List Int) : Prop where
 h : W.heap[bh]? = some (.cells (icells hs).toArray 3 (0, 0))
 t : QRow W B 3 1 v ts.length (icells ts)
 hb : B ≤ bh
 ne : some bh ≠ v.ownBlock
theorem HIs.below {B bh : Nat} {W W1 : World} {v : Value} {hs ts : List Int} (h : HIs B W bh hs v ts) (hb : Below W.heap.size W W1) : HIs B W1 bh hs v ts :=
 ⟨(hb.block _ (zlY h.h)).trans h.h, q_move h.t (fun k hk => hb.block k (q_lt h.t k hk)), h.hb, h.ne⟩
theorem HIs.cell {B bh : Nat} {W : World} {v : Value} {hs ts : List Int} (h : HIs B W bh hs v ts) (j : Nat) (hj : j < hs.length) : W.cell? ⟨bh, j, none⟩ = some (.int .i64 (rd hs j)) := by
 refine (zaY h.h j).trans ?_
 rw [← icells_get hs j hj]
 simp
structure HTo (B : Nat) (W : World) (bh : Nat) (v : Value) (W1 : World) (hs : List Int) (v1 : Value) (ts : List Int) : Prop where
 q : HIs B W1 bh hs v1 ts
 at_ : v1.ownBlock = v.ownBlock ∨ v1.ownBlock = none ∨ ∃ b, v1.ownBlock = some b ∧ W.heap.size ≤ b
 rest : ∀ k, k < W.heap.size → k ≠ bh → some k ≠ v.ownBlock → W1.heap[k]? = W.heap[k]?
 b : Below B W W1
theorem HTo.refl {B bh : Nat} {W : World} {v : Value} {hs ts : List Int} (h : HIs B W bh hs v ts) : HTo B W bh v W hs v ts := ⟨h, .inl rfl, fun _ _ _ _ => rfl, Below.refl _ _⟩
theorem HTo.drew {B bh : Nat} {W : World} {v : Value} {hs ts : List Int} (h : HIs B W bh hs v ts) : HTo B W bh v W.drew hs v ts := ⟨h.below (below_drew (Below.refl _ _)), .inl rfl, fun _ _ _ _ => rfl, below_drew (Below.refl _ _)⟩
def ReachPost (B : Nat) (W : World) (bh : Nat) (v : Value) (rs : List Int) (ok : Bool) (hs : List Int) (e : Ending) (W1 : World) : Prop := ∃ v1, e = .returned (.tuple #[v1, .bool ok]) ∧ HTo B W bh v W1 hs v1 rs
def reachL (at_ n : Int) (hs ts : List Int) : Option (List Int × Bool × List Int) :=
 if (hs.length : Int) ≤ at_ ∨ 300 < n then some (ts, false, hs) else if at_ < 0 then none else if 0 ≤ rd hs at_ then some (ts, rd hs at_ == n, hs)
 else if ts.length ≤ 1000000 then some (ts ++ [at_], true, hs.set at_.toNat n) else none
set_option maxHeartbeats 4000000 in
set_option maxRecDepth 100000 in
theorem reach_calls (B : Nat) (W : World) (bh : Nat) (v : Value) (hs ts : List Int) (at_ n : Int) (rs hs1 : List Int) (ok : Bool) (hq : HIs B W bh hs v ts) (h : reachL at_ n hs ts = some (rs, ok, hs1)) :
  Calls Tryd.prog 56 #[.int .i64 at_, .int .i64 n, .slice (some ⟨bh, 0, none⟩) hs.length hs.length, v] W (ReachPost B W bh v rs ok hs1) := by
 unfold reachL at h
 split at h
 ·
  rename_i hc
  injection h with h
  injection h with h1 h
  injection h with h2 h3
  subst h1 h2 h3
  have HQ := amZ hq
  clear hq
  by_cases h1 : (hs.length : Int) ≤ at_
  ·
   have d1 : decide ((hs.length : Int) ≤ at_) = true := decide_eq_true h1
   clear hc h1
   go_enter Tryd.func56, Tryd.ntmps56
   go_wp2
   exact bodyPost_ret (v := .tuple #[v, .bool false]) (by simp [results, Tryd.results56, go_sem]) rfl ⟨v, rfl, HTo.refl HQ.out⟩
  ·
   have d1 : decide ((hs.length : Int) ≤ at_) = false := decide_eq_false h1
   have d2 : decide (300 < n) = true := decide_eq_true (by omega)
   clear hc h1
   go_enter Tryd.func56, Tryd.ntmps56
   go_wp2
   exact bodyPost_ret (v := .tuple #[v, .bool false]) (by simp [results, Tryd.results56, go_sem]) rfl ⟨v, rfl, HTo.refl HQ.out⟩
 rename_i hc
 have d1 : decide ((hs.length : Int) ≤ at_) = false := decide_eq_false (by omega)
 have d2 : decide (300 < n) = false := decide_eq_false (by omega)
 split at h
 ·
  cases h
 rename_i h0
 obtain ⟨j, rfl⟩ : ∃ j : Nat, at_ = (j : Int) := ⟨at_.toNat, by omega⟩
 have hj : j < hs.length := by omega
 have c0 := hq.cell j hj
 have d1n : decide (hs.length ≤ j) = false := decide_eq_false (by omega)
 have p0 : (0 ≤ (j : Int)) = True := eq_true (by omega)
 have p1 : ((j : Int) < (hs.length : Int)) = True := eq_true (by omega)
 have p2 : (j < hs.length) = True := eq_true hj
 split at h
 ·
  rename_i h2
  injection h with h
  injection h with e1 h
  injection h with e2 e3
  subst e1 e2 e3
  have d3 : decide (0 ≤ rd hs (j : Int)) = true := decide_eq_true h2
  have HQ := amZ hq
  clear hq hc h0 hj h2
  go_enter Tryd.func56, Tryd.ntmps56
  go_wp2
  go_region
  all_goals go_wp2
  all_goals exact bodyPost_ret (v := .tuple #[v, .bool (rd hs (j : Int) == n)]) (by simp [results, Tryd.results56, go_sem]) rfl ⟨v, rfl, by first | exact HTo.refl HQ.out | exact HTo.drew HQ.out⟩
 ·
  rename_i h2
  split at h
  ·
   rename_i hl
   injection h with h
   injection h with e1 h
   injection h with e2 e3
   subst e1 e2 e3
   have d3 : decide (0 ≤ rd hs (j : Int)) = false := decide_eq_false h2
   obtain ⟨i0, hi, hz0, hz1, hz2⟩ := info_parts info3b
   obtain ⟨W2, hW2⟩ : ∃ W2, W2 = (W.setCell ⟨bh, j, none⟩ (.int .i64 n)).alloc (.cells #[.int .i64 (j : Int)] 3) := ⟨_, rfl⟩
   have hlt := zlY hq.h
   have hb2 : Below B W W2 := by rw [hW2]; exact (Below.setCell (Below.refl _ _) hq.hb _).alloc (by simp; exact Nat.le_of_lt (Nat.lt_of_le_of_lt hq.hb hlt)) _
   have hh2 : W2.heap[bh]? = some (.cells (icells (hs.set j n)).toArray 3 (0, 0)) := by
    rw [hW2, heap_alloc_old _ _ (by simpa using hlt), heap_setCell_same W bh j _ 3 _ hq.h, icells_set]
   have hx : W2.heap[W.heap.size]? = some (.cells #[.int .i64 (j : Int)] 3 (0, 0)) := by
    rw [hW2, show W.heap.size = (W.setCell ⟨bh, j, none⟩ (.int .i64 n)).heap.size by simp, heap_alloc_new]
   have hrest2 : ∀ k, k < W.heap.size → k ≠ bh → W2.heap[k]? = W.heap[k]? := by
    intro k hk hkb
    rw [hW2, heap_alloc_old _ _ (by simpa using hk)]
    exact Below.heap_setCell W ⟨bh, j, none⟩ _ k hkb
   have ht2 : QRow W2 B 3 1 v ts.length (icells ts) := q_move hq.t (fun k hk => hrest2 k (q_lt hq.t k hk) (fun e => hq.ne (by rw [hk, e])))
   obtain ⟨v1, w1, hrun, hrow, hg, hat⟩ := q_append (P := Tryd.prog) W2 B 105 105 3 i0 _ 1 8 Tryd.underlying105 hi hz0 hz1 hz2 rfl (by decide) v ts.length (icells ts) ht2 ⟨W.heap.size, 0, none⟩ 1 1 [.int .i64 (j : Int)] rfl
    (fun k u hk => by rw [add_plain, cell_of_row W2 W.heap.size k _ 3 (0, 0) hx]; simpa using hk) (icells_one [(j : Int)]) (by decide) (by simp only [maxLen]; omega) (by omega) (Nat.le_trans (Nat.le_of_lt (Nat.lt_of_le_of_lt hq.hb hlt)) hb2.size)
   have HQ := amZ hq
   have HB2 := amZ hb2
   have HH2 := amZ hh2
   have HRS := amZ hrest2
   have HT2 := amZ ht2
   have HROW := amZ hrow
   have HG := amZ hg
   have HAT := amZ hat
   have f0 := zbY hq.h j
   have HLT := amZ hlt
   rw [hW2] at hrun
   have HR := amZ hrun
   have HS2 : Aside0 (W.heap.size ≤ W2.heap.size) := ⟨hb2.size⟩
   clear hq hb2 hh2 hrest2 ht2 hrow hg hat hx hi hz0 hz1 hz2 h2 hlt hrun hc h0 hW2
   go_enter Tryd.func56, Tryd.ntmps56
   go_wp2_with (at_builtin; go_loud (with_reducible refine wpList_append_run rfl (.tmp 35) (.tmp 37) 105 rfl v (.slice (some ⟨W.heap.size, 0, none⟩) 1 1) rfl rfl v1 w1 HR.out ?_))
   refine bodyPost_ret (v := .tuple #[v1, .bool true]) (by simp [results, Tryd.results56, go_sem]) rfl ⟨v1, rfl, ?_, ?_, ?_, ?_⟩
   ·
    refine ⟨(HG.out.block bh (zlY HH2.out) HQ.out.ne).trans HH2.out, ?_, HQ.out.hb, ?_⟩
    ·
     rw [List.length_append, icells_append]; exact HROW.out
    ·
     rcases HAT.out with e | ⟨b, e, hb⟩
     ·
      rw [e]; exact HQ.out.ne
     ·
      rw [e]; intro e2; injection e2 with e2; have := HLT.out; have := HS2.out; omega
   ·
    rcases HAT.out with e | ⟨b, e, hb⟩
    ·
     exact .inl e
    ·
     exact .inr (.inr ⟨b, e, Nat.le_trans HS2.out hb⟩)
   ·
    intro k hk hkb hkv
    rw [HG.out.block k (Nat.lt_of_lt_of_le hk HS2.out) hkv]
    exact HRS.out k hk hkb
   ·
    exact HB2.out.grown HG.out (Nat.le_trans (Nat.le_of_lt (Nat.lt_of_le_of_lt HQ.out.hb HLT.out)) HS2.out) (fun k hk => (q_typed HT2.out k hk).1)
  ·
   cases h
end Go.Proofs.YtmmpiojekgfdjaaDoor.C
