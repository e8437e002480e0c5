/- The checker, part 5: contracts of functions of the program that the printer does not take. -/
import Derived.Test.YtmmpiojekgfdjaaDoorZpH4
import Derived.WalkKit
import Derived.Deep.LoopGhost
import Derived.Deep.QuietTactic
import Derived.BigQuiet
import Derived.Deep.DeepCutAuto
import Derived.Deep.RegionHeld3
import Derived.Laws.Rows
import Derived.StillTactics
import Derived.StillTailTactics
import Derived.LoopTactic
import Derived.RegionTactic
import Derived.BigRegion
import Derived.Outline
import Derived.Maps.OwnOps
import Derived.Maps.OwnSet
import Derived.WalkSpells
import Derived.Laws.EntriesVeiled
import Derived.Laws.Tables
import Derived.Deep.RegionLaw
import Derived.ChangeAlike
import Derived.Test.YtmmpiojekgfdjaaDoorZpK
namespace Go.Proofs.YtmmpiojekgfdjaaDoor.C
open Go.RowKit YtmmpiojekgfdjaaDoorW.PrintWords YtmmpiojekgfdjaaDoorW.PrintLast
set_option linter.unusedVariables false
set_option linter.unusedSimpArgs false
def wayCells (xs : List (Int × Int)) : List Value := xs.flatMap fun p => [.int .i64 p.1, .int .i64 p.2]
theorem wayCells_length (xs : List (Int × Int)) : (wayCells xs).length = xs.length * 2 := by
 induction xs with
 | nil => rfl
 | cons p xs ih => simp [wayCells] at ih ⊢; omega
theorem wayCells_append (xs ys : List (Int × Int)) : wayCells (xs ++ ys) = wayCells xs ++ wayCells ys := by simp [wayCells]
theorem wayCells_one : ∀ (xs : List (Int × Int)), ∀ u ∈ wayCells xs, u.oneCell' = true := by
 intro xs u hu
 obtain ⟨p, _, hp⟩ := List.mem_flatMap.1 hu
 simp at hp
 rcases hp with rfl | rfl <;> rfl
theorem info122 : (Tryd.prog.info? 122).map (fun i => (i.zero, i.size, i.bytes)) = some (some (.agg #[.int .i64 0, .int .i64 0]), 2, 16) := by kernel_rfl
theorem wpList_append_run {P : Program} {ops : Array Oper} {rest : List Oper} {o : Oper} {a : Act} {Q : Exit → Act → World → Prop} {W : World} (hgd : o.guard = none) (s x : Operand) (t : TypeId)
  (ho : o.op = .call { callee := .builtin .append, args := #[s, x], argTypes := #[t, t] }) (v xv : Value) (hs : a.eval s = v) (hx : a.eval x = xv) (v1 : Value) (w1 : World)
  (hr : (Builtin.append_ #[t, t] o.type #[v, xv]).run P W = .ok v1 w1) (h : wpList P ops Q rest (a.put o.dst v1) w1) : wpList P ops Q (o :: rest) a W := by
 refine wpList_plain hgd fun K hK => ?_
 unfold Oper.wp execOp
 simp only [ho, resolve, invoke, builtin, Sem.run_bind, Sem.run_pure, Result.andThen_ok, List.map_toArray, List.map_cons, List.map_nil, hs, hx, hr]
 exact hK _ _ h
structure QIs (B : Nat) (W : World) (bq : Nat) (v : Value) (xs : List (Int × Int)) : Prop where
 var : W.heap[bq]? = some (.cells #[v] 119 (0, 0))
 row : QRow W B 122 2 v xs.length (wayCells xs)
 base : B ≤ bq
theorem QIs.ne {B bq : Nat} {W : World} {v : Value} {xs : List (Int × Int)} (h : QIs B W bq v xs) : some bq ≠ v.ownBlock := fun e => by
 obtain ⟨_, cells, hc⟩ := q_typed h.row bq e.symm
 rw [h.var] at hc
 injection hc with hc
 injection hc with _ hc
 exact absurd hc (by decide)
theorem QIs.step {B bq : Nat} {W W1 : World} {v : Value} {xs : List (Int × Int)} (h : QIs B W bq v xs) (h1 : W1.heap[bq]? = W.heap[bq]?) (h2 : ∀ k, v.ownBlock = some k → W1.heap[k]? = W.heap[k]?) : QIs B W1 bq v xs :=
 ⟨h1.trans h.var, q_move h.row h2, h.base⟩
theorem QIs.below {B bq : Nat} {W W1 : World} {v : Value} {xs : List (Int × Int)} (h : QIs B W bq v xs) (hb : Below W.heap.size W W1) : QIs B W1 bq v xs :=
 h.step (hb.block _ (zlY h.var)) (fun k hk => hb.block _ (q_lt h.row k hk))
structure QTo (B : Nat) (W : World) (bq : Nat) (v : Value) (W1 : World) (v1 : Value) (xs : List (Int × Int)) : Prop where
 q : QIs B W1 bq v1 xs
 at_ : v1.ownBlock = v.ownBlock ∨ v1.ownBlock = none ∨ ∃ b, v1.ownBlock = some b ∧ W.heap.size ≤ b
 rest : ∀ k, k < W.heap.size → k ≠ bq → some k ≠ v.ownBlock → W1.heap[k]? = W.heap[k]?
 b : Below B W W1
def PutPost (B : Nat) (W : World) (bq : Nat) (v : Value) (xs : List (Int × Int)) (e : Ending) (W1 : World) : Prop := e = .returned (.tuple #[]) ∧ ∃ v1, QTo B W bq v W1 v1 xs
def TakePost (B : Nat) (W : World) (bq : Nat) (v : Value) (r : Value) (xs : List (Int × Int)) (e : Ending) (W1 : World) : Prop := e = .returned r ∧ ∃ v1, QTo B W bq v W1 v1 xs
set_option maxHeartbeats 4000000 in
set_option maxRecDepth 100000 in
theorem put_calls (B : Nat) (W : World) (bq bx : Nat) (v : Value) (xs ys : List (Int × Int)) (hq : QIs B W bq v xs) (hx : W.heap[bx]? = some (.cells (wayCells ys).toArray 122 (0, 0))) (hy : 0 < ys.length) (hl : xs.length + ys.length ≤ 1000000) :
  Calls Tryd.prog 64 #[.pointer (some ⟨bq, 0, none⟩), .slice (some ⟨bx, 0, none⟩) ys.length ys.length] W (PutPost B W bq v (xs ++ ys)) := by
 obtain ⟨i0, hi, hz0, hz1, hz2⟩ := info_parts info122
 have hB : B ≤ W.heap.size := Nat.le_of_lt (Nat.lt_of_le_of_lt hq.base (zlY hq.var))
 obtain ⟨v1, w1, hrun, hrow, hg, hat⟩ := q_append (P := Tryd.prog) W B 117 117 122 i0 _ 2 16 Tryd.underlying117 hi hz0 hz1 hz2 rfl (by decide) v xs.length (wayCells xs) hq.row ⟨bx, 0, none⟩ ys.length ys.length (wayCells ys) (wayCells_length ys)
  (fun j u hj => by rw [add_plain, cell_of_row W bx j _ 122 (0, 0) hx]; simpa using hj) (wayCells_one ys) hy (by simp only [maxLen]; omega) (by omega) hB
 obtain ⟨A1, k1, rfl, hk1⟩ := q_slice hrow
 have c0 : W.cell? ⟨bq, 0, none⟩ = some v := (zaY hq.var 0).trans rfl
 have c1 : w1.heap[bq]? = some (.cells #[v] 119 (0, 0)) := (hg.block bq (zlY hq.var) hq.ne).trans hq.var
 have c2 : w1.cell? ⟨bq, 0, none⟩ = some v := (zaY c1 0).trans rfl
 have f1 := zbY c1 0
 have HQ := amZ hq
 have HROW := amZ hrow
 have HG := amZ hg
 have HAT := amZ hat
 have HC1 := amZ c1
 have hB' := amZ hB
 have HR := amZ hrun
 clear hq hrow hg hat c1 hx hy hl hi hz0 hz1 hz2 hB hrun hk1
 go_enter Tryd.func64, Tryd.ntmps64
 go_wp2_with (at_builtin; with_reducible refine wpList_append_run rfl (.tmp 8) (.tmp 9) 117 rfl v (.slice (some ⟨bx, 0, none⟩) ys.length ys.length) rfl rfl (.slice A1 (xs.length + ys.length) k1) w1 HR.out ?_)
 go_end0
 refine ⟨rfl, .slice A1 (xs.length + ys.length) k1, ⟨?_, ?_, HQ.out.base⟩, ?_, ?_, ?_⟩
 ·
  have h := heap_setCell_same w1 bq 0 #[v] 119 (.slice A1 (xs.length + ys.length) k1) HC1.out
  exact h
 ·
  rw [List.length_append, wayCells_append]
  refine q_move HROW.out (fun k hk => ?_)
  refine Below.heap_setCell w1 ⟨bq, 0, none⟩ _ k (fun e => ?_)
  obtain ⟨_, cells, hc⟩ := q_typed HROW.out k hk
  rw [e] at hc
  exact absurd (HC1.out.symm.trans hc) (by simp)
 ·
  rcases HAT.out with h | ⟨b, h1, h2⟩
  ·
   exact .inl h
  ·
   exact .inr (.inr ⟨b, h1, h2⟩)
 ·
  intro k hk hkq hkv
  rw [Below.heap_setCell w1 ⟨bq, 0, none⟩ _ k hkq]
  exact HG.out.block k hk hkv
 ·
  refine Below.setCell ?_ HQ.out.base _
  exact (Below.refl B W).grown HG.out hB'.out (fun k hk => (q_typed HQ.out.row k hk).1)
abbrev Z120 : Obj := .cells #[.int .i64 0, .int .i64 0] 122
set_option maxHeartbeats 4000000 in
set_option maxRecDepth 100000 in
theorem take_none (B : Nat) (W : World) (bq : Nat) (v : Value) (hq : QIs B W bq v []) :
  Calls Tryd.prog 65 #[.pointer (some ⟨bq, 0, none⟩)] W (TakePost B W bq v (.tuple #[.agg #[.int .i64 0, .int .i64 0], .bool false]) []) := by
 have hB : B ≤ W.heap.size := Nat.le_of_lt (Nat.lt_of_le_of_lt hq.base (zlY hq.var))
 have b2 : Below W.heap.size W ((W.alloc Z120).alloc Z120) := below_alloc (below_alloc (Below.refl _ _) _) _
 have hq2 := hq.below b2
 obtain ⟨A, c, rfl, _⟩ := q_slice hq.row
 have c2 : ((W.alloc Z120).alloc Z120).cell? ⟨bq, 0, none⟩ = some (.slice A 0 c) := (zaY hq2.var 0).trans rfl
 have HQ2 := amZ hq2
 have HB := amZ hB
 have HB2 := amZ b2
 clear hq hq2 hB b2
 go_enter Tryd.func65, Tryd.ntmps65
 go_wp2
 exact bodyPost_ret (v := .tuple #[.agg #[.int .i64 0, .int .i64 0], .bool false]) (by simp [results, Tryd.results65, go_sem]) rfl
  ⟨rfl, .slice A 0 c, HQ2.out, .inl rfl, fun k hk _ _ => HB2.out.block k hk, Below.alloc (Below.alloc (Below.refl _ _) HB.out _) (by have := HB.out; simp; omega) _⟩
set_option maxHeartbeats 8000000 in
set_option maxRecDepth 100000 in
theorem take_some (B : Nat) (W : World) (bq : Nat) (v : Value) (a h : Int) (xs : List (Int × Int)) (hl : xs.length ≤ 1000000) (hq : QIs B W bq v ((a, h) :: xs)) :
  Calls Tryd.prog 65 #[.pointer (some ⟨bq, 0, none⟩)] W (TakePost B W bq v (.tuple #[.agg #[.int .i64 a, .int .i64 h], .bool true]) xs) := by
 have hB : B ≤ W.heap.size := Nat.le_of_lt (Nat.lt_of_le_of_lt hq.base (zlY hq.var))
 have b2 : Below W.heap.size W ((W.alloc Z120).alloc Z120) := below_alloc (below_alloc (Below.refl _ _) _) _
 have b3 : Below W.heap.size W (((W.alloc Z120).alloc Z120).alloc (.cells #[.int .i64 a, .int .i64 h] 122)) := below_alloc b2 _
 obtain ⟨A, c, rfl, hlc⟩ := q_slice hq.row
 obtain ⟨i0, hi, hz0, hz1, hz2⟩ := info_parts info122
 have hcut := cut_from (P := Tryd.prog) 117 122 .i64 Tryd.underlying117 hi 2 hz1 A ((a, h) :: xs).length c 1 (by omega) (by simp; omega)
 have hdrop := q_drop (k := 1) hq.row (by simp)
 have hq2 := hq.below b2
 have hq3 := hq.below b3
 rcases hq.row.2 with ⟨hn, _⟩ | ⟨g, off, cap, cur, hv, hbg, hg, _⟩
 ·
  simp at hn
 ·
  injection hv with hA _ hc
  subst hA hc
  have hcells := q_cells hq2.row (by simp)
  obtain ⟨ad, e, hce⟩ := hcells
  injection e with e
  subst e
  have e0 := hce 0 (.int .i64 a) rfl
  have e1 := hce 1 (.int .i64 h) rfl
  rw [show (⟨g, off * 2, none⟩ : Addr).add 0 = ⟨g, off * 2, none⟩ from rfl] at e0
  rw [show (⟨g, off * 2, none⟩ : Addr).add 1 = ⟨g, off * 2 + 1, none⟩ from rfl] at e1
  obtain ⟨n, hn⟩ : ∃ n, n = ((a, h) :: xs).length := ⟨_, rfl⟩
  have hpn : 0 < n := by rw [hn]; simp
  have hpos : (0 : Int) < (n : Int) := by omega
  rw [← hn] at hcut hdrop
  obtain ⟨A1, hA1⟩ : ∃ A1 : Option Addr, A1 = (if c = 1 then some ⟨g, off * 2, none⟩ else (some (⟨g, off * 2, none⟩ : Addr)).map (·.add (1 * 2))) := ⟨_, rfl⟩
  have hcut' : ∀ W : World, (Instr.slice 117 (.slice (some ⟨g, off * 2, none⟩) n c) (some (.int .i64 1)) none none).run Tryd.prog W = .ok (.slice A1 (n - 1) (c - 1)) W := by
   intro W; rw [hA1]; exact hcut W
  have hdrop' : QRow W B 122 2 (.slice A1 (n - 1) (c - 1)) (n - 1) (wayCells xs) := by rw [hA1]; exact hdrop
  have hown : (Value.slice A1 (n - 1) (c - 1)).ownBlock = (Value.slice (some ⟨g, off * 2, none⟩) n c).ownBlock := by
   rw [hA1]
   split <;> simp [Value.ownBlock, Addr.add]
  have hxl : n - 1 = xs.length := by rw [hn]; simp
  have c2 : ((W.alloc Z120).alloc Z120).cell? ⟨bq, 0, none⟩ = some (.slice (some ⟨g, off * 2, none⟩) n c) := (zaY hq2.var 0).trans (by rw [hn]; rfl)
  have c3 : (((W.alloc Z120).alloc Z120).alloc (.cells #[.int .i64 a, .int .i64 h] 122)).cell? ⟨bq, 0, none⟩ = some (.slice (some ⟨g, off * 2, none⟩) n c) := (zaY hq3.var 0).trans (by rw [hn]; rfl)
  have f3 := zbY hq3.var 0
  have z1 : ((n : Int) == 0) = false := by simp; omega
  have z2 : (n == 0) = false := by simp; omega
  have hbq := zlY hq.var
  have n0 : bq ≠ W.heap.size := by omega
  have n0' : W.heap.size ≠ bq := by omega
  have n2 : bq ≠ W.heap.size + 1 + 1 := by omega
  have n2' : W.heap.size + 1 + 1 ≠ bq := by omega
  have HBQ := amZ hbq
  have HQ := amZ hq
  have HQ3 := amZ hq3
  have HDR := amZ hdrop'
  have HOWN := amZ hown
  have HXL := amZ hxl
  have HN := amZ hn
  have HB := amZ hB
  have HB3 := amZ b3
  clear hq hq2 hq3 hdrop hdrop' hown hxl hn hB b2 b3 hcut hA1 hlc hi hz0 hz1 hz2 hg hbg hce hl
  go_enter Tryd.func65, Tryd.ntmps65
  go_wp2
  have hrest : ∀ k, k < W.heap.size → k ≠ bq → ((((((W.alloc Z120).alloc Z120).alloc (.cells #[.int .i64 a, .int .i64 h] 122)).setCell ⟨bq, 0, none⟩ (.slice A1 (n - 1) (c - 1))).setCell ⟨W.heap.size, 0, none⟩ (.int .i64 a)).setCell ⟨W.heap.size, 1, none⟩ (.int .i64 h)).heap[k]? = W.heap[k]? := by
   intro k hk hkq
   rw [Below.heap_setCell _ ⟨W.heap.size, 1, none⟩ _ k (by simp; omega), Below.heap_setCell _ ⟨W.heap.size, 0, none⟩ _ k (by simp; omega), Below.heap_setCell _ ⟨bq, 0, none⟩ _ k hkq]
   exact HB3.out.block k hk
  have hfin : ((((((W.alloc Z120).alloc Z120).alloc (.cells #[.int .i64 a, .int .i64 h] 122)).setCell ⟨bq, 0, none⟩ (.slice A1 (n - 1) (c - 1))).setCell ⟨W.heap.size, 0, none⟩ (.int .i64 a)).setCell ⟨W.heap.size, 1, none⟩ (.int .i64 h)).heap[W.heap.size]? = some (.cells #[.int .i64 a, .int .i64 h] 122 (0, 0)) := by
   have h0 : ((((W.alloc Z120).alloc Z120).alloc (.cells #[.int .i64 a, .int .i64 h] 122)).setCell ⟨bq, 0, none⟩ (.slice A1 (n - 1) (c - 1))).heap[W.heap.size]? = some (.cells #[.int .i64 0, .int .i64 0] 122 (0, 0)) := by
    rw [Below.heap_setCell _ ⟨bq, 0, none⟩ _ W.heap.size n0', Go.heap_alloc_old _ _ (by simp; omega), Go.heap_alloc_old _ _ (by simp), heap_alloc_new]
   have h1 := heap_setCell_same _ W.heap.size 0 #[.int .i64 0, .int .i64 0] 122 (.int .i64 a) h0
   exact heap_setCell_same _ W.heap.size 1 _ 122 (.int .i64 h) h1
  have g0 := zaY hfin 0
  have g1 := zaY hfin 1
  have gf0 := zbY hfin 0
  have gf1 := zbY hfin 1
  clear hfin
  refine bodyPost_ret (v := .tuple #[.agg #[.int .i64 a, .int .i64 h], .bool true]) (by simp [results, Tryd.results65, go_sem, g0, g1, gf0, gf1]) rfl ⟨rfl, .slice A1 (n - 1) (c - 1), ⟨?_, ?_, HQ.out.base⟩, .inl ?_, ?_, ?_⟩
  ·
   rw [Below.heap_setCell _ ⟨W.heap.size, 1, none⟩ _ bq n0, Below.heap_setCell _ ⟨W.heap.size, 0, none⟩ _ bq n0]
   exact heap_setCell_same _ bq 0 #[_] 119 _ HQ3.out.var
  ·
   rw [← HXL.out]
   refine q_move HDR.out (fun k hk => hrest k (q_lt HDR.out k hk) (fun e => ?_))
   obtain ⟨_, cells, hc⟩ := q_typed HDR.out k hk
   rw [e] at hc
   exact absurd (HQ.out.var.symm.trans hc) (by simp)
  ·
   rw [HOWN.out, HN.out]; rfl
  ·
   intro k hk hkq _
   exact hrest k hk hkq
  ·
   refine Below.setCell (Below.setCell (Below.setCell ?_ HQ.out.base _) HB.out _) HB.out _
   exact Below.alloc (Below.alloc (Below.alloc (Below.refl _ _) HB.out _) (by have := HB.out; simp; omega) _) (by have := HB.out; simp; omega) _
end Go.Proofs.YtmmpiojekgfdjaaDoor.C
