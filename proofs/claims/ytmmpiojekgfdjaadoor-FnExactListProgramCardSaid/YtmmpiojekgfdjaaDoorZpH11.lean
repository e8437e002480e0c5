/- The checker, part 11: contracts of functions of the program that the printer does not take. -/
import Derived.Test.YtmmpiojekgfdjaaDoorZpH10
import Derived.WalkKit
import Derived.Deep.LoopGhost
import Derived.Deep.QuietTactic
import Derived.BigQuiet
import Derived.Deep.DeepCutAuto
import Derived.Deep.RegionHeld3
import Derived.Laws.Rows
import Derived.StillTactics
import Derived.StillTailTactics
import Derived.LoopTactic
import Derived.RegionTactic
import Derived.BigRegion
import Derived.Outline
import Derived.Maps.OwnOps
import Derived.Maps.OwnSet
import Derived.WalkSpells
import Derived.Laws.EntriesVeiled
import Derived.Laws.Tables
import Derived.Deep.RegionLaw
import Derived.ChangeAlike
import Derived.Test.YtmmpiojekgfdjaaDoorZpK
namespace Go.Proofs.YtmmpiojekgfdjaaDoor.C
open Go.RowKit YtmmpiojekgfdjaaDoorW.PrintWords YtmmpiojekgfdjaaDoorW.PrintLast
set_option linter.unusedVariables false
set_option linter.unusedSimpArgs false
structure HBlk (W : World) (bh : Nat) (v : Value) (b : Nat) (cells : Array Value) (t : TypeId) : Prop where
  blk : W.heap[b]? = some (.cells cells t (0, 0))
  h : b ≠ bh
  v : some b ≠ v.ownBlock
theorem HBlk.below {W W1 : World} {bh b : Nat} {v : Value} {cells : Array Value} {t : TypeId} (h : HBlk W bh v b cells t) (hb : Below W.heap.size W W1) : HBlk W1 bh v b cells t := ⟨(hb.block _ (zlY h.blk)).trans h.blk, h.h, h.v⟩
theorem HIs.newBlk {B bh : Nat} {W : World} {v : Value} {hs ts : List Int} (h : HIs B W bh hs v ts) (cells : Array Value) (t : TypeId) : HBlk (W.alloc (.cells cells t)) bh v W.heap.size cells t :=
  ⟨heap_alloc_new _ _, fun e => absurd (zlY h.h) (by rw [e]; exact Nat.lt_irrefl _), fun e => absurd (q_lt h.t _ e.symm) (Nat.lt_irrefl _)⟩
theorem HBlk.put {B bh b : Nat} {W W1 : World} {v v1 : Value} {hs ts : List Int} {cells : Array Value} {t : TypeId} (h : HBlk W bh v b cells t) (ht : HTo B W bh v W1 hs v1 ts) : HBlk W1 bh v1 b cells t := by
  have hlt := zlY h.blk
  refine ⟨(ht.rest b hlt h.h h.v).trans h.blk, h.h, ?_⟩
  rcases ht.at_ with e | e | ⟨c, e, hc⟩
  · rw [e]; exact h.v
  · rw [e]; simp
  · rw [e]; intro e2; injection e2 with e2; omega
theorem HIs.base {B bh : Nat} {W : World} {v : Value} {hs ts : List Int} (h : HIs B W bh hs v ts) : B ≤ W.heap.size := Nat.le_of_lt (Nat.lt_of_le_of_lt h.hb (zlY h.h))
def takesOf (op : Nat) (a : Int) : Int := if op = 22 ∨ op = 23 ∨ op = 24 then rowT op + a else rowT op
def leavesOf (op : Nat) (b : Int) : Int := if op = 22 then b else if op = 23 ∨ op = 24 then 0 else rowL op
def TakesC : Prop := ∀ (op : Nat) (a b : Int) (w : World), op < 28 → 0 ≤ a → a ≤ 2000000 →
  Calls Tryd.prog 57 #[.agg #[.int .i64 (op : Int), .int .i64 a, .int .i64 b]] w fun e w' => e = .returned (.tuple #[.int .i64 (takesOf op a), .int .i64 (leavesOf op b)]) ∧ Below w.heap.size w w'
def step1L (op : Nat) (at_ m l : Int) (hs ts : List Int) : Option (List Int × Bool × List Int) := if op = 18 ∨ op = 23 ∨ op = 24 then some (ts, true, hs) else reachL (at_ + 1) (m + l) hs ts
def step2L (op : Nat) (a b m : Int) (hs ts : List Int) : Option (List Int × Bool × List Int) :=
  if op = 18 ∨ op = 19 then reachL a m hs ts else if op = 20 ∨ op = 21 then reachL a (m + 1) hs ts else if op = 26 ∨ op = 27 then reachL b m hs ts else some (ts, true, hs)
def stepL (code : List S51) (op : Nat) (at_ a b m : Int) (hs ts : List Int) : Option (List Int × Bool × List Int) :=
  match step1L op at_ m (leavesOf op b) hs ts with
  | none => none
  | some (ts1, ok, hs1) => if ok = true then step2L op a b m hs1 ts1 else some (ts1, false, hs1)
def shL (code : List S51) : Nat → List Int → List Int → Option Bool
  | 0, _, _ => none
  | _ + 1, _, [] => some true
  | n + 1, hs, t :: ts' =>
    if hs.length = code.length ∧ ts'.length ≤ 900000 ∧ 0 ≤ (t :: ts').getLast (by simp) ∧ (t :: ts').getLast (by simp) < code.length ∧ OkIns (rd_T51 code ((t :: ts').getLast (by simp))) ∧ -1 ≤ rd hs ((t :: ts').getLast (by simp)) ∧ rd hs ((t :: ts').getLast (by simp)) ≤ 4000000 then
      (if rd hs ((t :: ts').getLast (by simp)) - takesOf (rd_T51 code ((t :: ts').getLast (by simp))).f0.toNat (rd_T51 code ((t :: ts').getLast (by simp))).f1 < 0 then some false
       else match stepL code (rd_T51 code ((t :: ts').getLast (by simp))).f0.toNat ((t :: ts').getLast (by simp)) (rd_T51 code ((t :: ts').getLast (by simp))).f1 (rd_T51 code ((t :: ts').getLast (by simp))).f2 (rd hs ((t :: ts').getLast (by simp)) - takesOf (rd_T51 code ((t :: ts').getLast (by simp))).f0.toNat (rd_T51 code ((t :: ts').getLast (by simp))).f1) hs (t :: ts').dropLast with
         | none => none
         | some (ts2, ok, hs2) => if ok = true then shL code n hs2 ts2 else some false)
    else none
def shStart (code : List S51) (fuel : Nat) : Option Bool :=
  match reachL 0 0 (List.replicate code.length (-1)) [] with
  | none => none
  | some (ts, _, hs) => shL code fuel hs ts
theorem shL_cons {code : List S51} {n : Nat} {hs ts : List Int} {t : Int} {r : Bool} (H : shL code n hs (ts ++ [t]) = some r) :
    ∃ m, n = m + 1 ∧ hs.length = code.length ∧ ts.length ≤ 900000 ∧ 0 ≤ t ∧ t < code.length ∧ -1 ≤ rd hs t ∧ rd hs t ≤ 4000000 ∧ ∃ (op : Nat) (a b k : Int), rd_T51 code t = ⟨(op : Int), a, b⟩ ∧ op < 28 ∧ 0 ≤ a ∧ a ≤ 2000000 ∧ 0 ≤ b ∧ b ≤ 2000000 ∧
      k = rd hs t - takesOf op a ∧ (k < 0 ∧ r = false ∨ 0 ≤ k ∧ ∃ ts2 ok hs2, stepL code op t a b k hs ts = some (ts2, ok, hs2) ∧ (ok = true ∧ shL code m hs2 ts2 = some r ∨ ok = false ∧ r = false)) := by
  cases n with
  | zero => simp [shL] at H
  | succ m =>
    refine ⟨m, rfl, ?_⟩
    obtain ⟨u, us, hu⟩ : ∃ u us, ts ++ [t] = u :: us := by cases ts with
      | nil => exact ⟨t, [], rfl⟩
      | cons a b => exact ⟨a, b ++ [t], rfl⟩
    have e1 : ∀ (hne : u :: us ≠ []), (u :: us).getLast hne = t := by intro hne; simp [← hu]
    have e2 : (u :: us).dropLast = ts := by rw [← hu]; simp
    have e3 : us.length = ts.length := by have := congrArg List.length hu; simp at this; omega
    rw [hu] at H
    unfold shL at H
    simp only [e1, e2] at H
    split at H
    · rename_i hc
      obtain ⟨a1, a2, a3, a4, ⟨o1, o2, o3, o4, o5, o6⟩, a6, a7⟩ := hc
      refine ⟨a1, by omega, a3, a4, a6, a7, (rd_T51 code t).f0.toNat, _, _, _, ?_, by omega, o3, o4, o5, o6, rfl, ?_⟩
      · rw [Int.toNat_of_nonneg o1]
      · split at H
        · rename_i h; exact .inl ⟨h, by injection H with H; exact H.symm⟩
        · rename_i h
          refine .inr ⟨by omega, ?_⟩
          split at H
          · cases H
          · rename_i ts2 ok hs2 hst
            refine ⟨ts2, ok, hs2, hst, ?_⟩
            split at H
            · rename_i hk; exact .inl ⟨hk, H⟩
            · rename_i hk; exact .inr ⟨by simpa using hk, by injection H with H; exact H.symm⟩
    · cases H
theorem shL_nil {code : List S51} {n : Nat} {hs : List Int} {r : Bool} (h : shL code n hs [] = some r) : r = true := by
  cases n <;> simp [shL] at h
  exact h
theorem rep_set (n j : Nat) (h : j < n) : (List.replicate j (-1 : Int) ++ List.replicate (n - j) 0).set j (-1) = List.replicate (j + 1) (-1) ++ List.replicate (n - (j + 1)) 0 := by
  have e : n - j = (n - (j + 1)) + 1 := by omega
  rw [e, List.replicate_succ, List.set_append_right _ _ (by simp)]
  simp [List.replicate_succ']
theorem reach_calls' (B : Nat) (W : World) (bh : Nat) (v : Value) (hs ts : List Int) (N : Nat) (at_ n : Int) (rs hs1 : List Int) (ok : Bool) (hN : hs.length = N) (hq : HIs B W bh hs v ts) (h : reachL at_ n hs ts = some (rs, ok, hs1)) :
    Calls Tryd.prog 56 #[.int .i64 at_, .int .i64 n, .slice (some ⟨bh, 0, none⟩) N N, v] W (ReachPost B W bh v rs ok hs1) := by
  subst hN
  exact reach_calls B W bh v hs ts at_ n rs hs1 ok hq h
theorem reachL_len {at_ n : Int} {hs ts rs hs1 : List Int} {ok : Bool} (h : reachL at_ n hs ts = some (rs, ok, hs1)) : hs1.length = hs.length := by
  unfold reachL at h
  split at h
  · injection h with h; injection h with _ h; injection h with _ h; rw [h]
  split at h
  · cases h
  split at h
  · injection h with h; injection h with _ h; injection h with _ h; rw [h]
  split at h
  · injection h with h; injection h with _ h; injection h with _ h; rw [← h]; simp
  · cases h
theorem made_icells (n : Nat) : madeCells #[Value.int .i64 0] n = (icells (List.replicate 0 (-1) ++ List.replicate (n - 0) 0)).toArray := by
  apply Array.ext
  · simp [madeCells, icells]
  · intro i h1 h2
    simp [madeCells, icells, Nat.mod_one]
theorem stepL_open {code : List S51} {op : Nat} {t a b k : Int} {hs ts ts2 hs2 : List Int} {ok : Bool} (h : stepL code op t a b k hs ts = some (ts2, ok, hs2)) :
    ∃ ts1 ok1 hs1, step1L op t k (leavesOf op b) hs ts = some (ts1, ok1, hs1) ∧ (ok1 = false ∧ ok = false ∨ ok1 = true ∧ step2L op a b k hs1 ts1 = some (ts2, ok, hs2)) := by
  unfold stepL at h
  split at h
  · cases h
  · rename_i ts1 ok1 hs1 h1
    refine ⟨ts1, ok1, hs1, h1, ?_⟩
    cases ok1
    · simp at h; exact .inl ⟨rfl, h.2.1⟩
    · simp at h; exact .inr ⟨rfl, h⟩
theorem takes_bound (op : Nat) (h : op < 28) (a : Int) (h0 : 0 ≤ a) (h1 : a ≤ 2000000) : 0 ≤ takesOf op a ∧ takesOf op a ≤ 2000003 := by
  have := row_bound op h
  unfold takesOf
  split <;> omega
theorem leaves_bound (op : Nat) (h : op < 28) (b : Int) (h0 : 0 ≤ b) (h1 : b ≤ 2000000) : 0 ≤ leavesOf op b ∧ leavesOf op b ≤ 2000000 := by
  have := row_bound op h
  unfold leavesOf
  split
  · omega
  split <;> omega
end Go.Proofs.YtmmpiojekgfdjaaDoor.C
