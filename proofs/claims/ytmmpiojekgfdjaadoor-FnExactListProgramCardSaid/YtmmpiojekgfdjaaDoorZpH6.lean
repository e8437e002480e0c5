/- The checker, part 6: contracts of functions of the program that the printer does not take. -/
import Derived.Test.YtmmpiojekgfdjaaDoorZpH5
import Derived.WalkKit
import Derived.Deep.LoopGhost
import Derived.Deep.QuietTactic
import Derived.BigQuiet
import Derived.Deep.DeepCutAuto
import Derived.Deep.RegionHeld3
import Derived.Laws.Rows
import Derived.StillTactics
import Derived.StillTailTactics
import Derived.LoopTactic
import Derived.RegionTactic
import Derived.BigRegion
import Derived.Outline
import Derived.Maps.OwnOps
import Derived.Maps.OwnSet
import Derived.WalkSpells
import Derived.Laws.EntriesVeiled
import Derived.Laws.Tables
import Derived.Deep.RegionLaw
import Derived.ChangeAlike
import Derived.Test.YtmmpiojekgfdjaaDoorZpK
namespace Go.Proofs.YtmmpiojekgfdjaaDoor.C
open Go.RowKit YtmmpiojekgfdjaaDoorW.PrintWords YtmmpiojekgfdjaaDoorW.PrintLast
set_option linter.unusedVariables false
set_option linter.unusedSimpArgs false
open Go.Maps (Keyed IsMap)
theorem keyed3 : Keyed Tryd.prog 3 := Go.Maps.int_keyed Tryd.underlying3
theorem zero3 (w : World) : (zeroValue 3).run Tryd.prog w = .ok (.int .i64 0) w := by kernel_rfl
structure SeenD (seen : List (Int × Int)) (D : DataW Unit) : Prop where
  map : IsMap D
  has : ∀ k, (Lit.int .i64 k).wf = true → Go.Maps.has D (.int .i64 k) = (seen.lookup k).isSome
  atk : ∀ k v z, (Lit.int .i64 k).wf = true → seen.lookup k = some v → D.atKey (.int .i64 k) z = .lit (.int .i64 v)
def SeenIs (W : World) (bm : Nat) (seen : List (Int × Int)) : Prop := ∃ D : DataW Unit, SeenD seen D ∧ W.ownsMap Tryd.prog 3 (plainElem Tryd.prog 3) bm seen.length D
theorem SeenD.nil : SeenD [] (.map []) := ⟨⟨_, rfl⟩, fun _ _ => rfl, fun _ _ _ _ h => by cases h⟩
theorem SeenD.cons {seen : List (Int × Int)} {D : DataW Unit} (h : SeenD seen D) (k v : Int) (hk : (Lit.int .i64 k).wf = true) : SeenD ((k, v) :: seen) (D.put (.int .i64 k) (.lit (.int .i64 v))) := by
  refine ⟨?_, ?_, ?_⟩
  · obtain ⟨es, he⟩ := h.map
    exact ⟨_, by rw [he]; rfl⟩
  · intro j hj
    by_cases e : j = k
    · subst e
      rw [Go.Maps.has_put_same h.map (by trivial)]
      simp
    · rw [Go.Maps.has_put_other (by simpa using e), h.has j hj]
      simp [List.lookup, beq_false_of_ne e]
  · intro j u z hj hl
    by_cases e : j = k
    · subst e
      rw [Go.Maps.atKey_put_same h.map (by trivial)]
      simp at hl
      rw [hl]
    · rw [Go.Maps.atKey_put_other (by simpa using e)]
      refine h.atk j u z hj ?_
      simpa [List.lookup, beq_false_of_ne e] using hl
theorem SeenIs.obj {W : World} {bm : Nat} {seen : List (Int × Int)} (h : SeenIs W bm seen) : ∃ es clock, W.heap[bm]? = some (.map es clock) := by
  obtain ⟨_, _, es, clock, h, _⟩ := h
  exact ⟨es, clock, h⟩
theorem SeenIs.lt {W : World} {bm : Nat} {seen : List (Int × Int)} (h : SeenIs W bm seen) : bm < W.heap.size := by
  obtain ⟨_, _, h⟩ := h
  exact h.lt
theorem SeenIs.step {W W1 : World} {bm : Nat} {seen : List (Int × Int)} (h : SeenIs W bm seen) (h1 : W1.heap[bm]? = W.heap[bm]?) : SeenIs W1 bm seen := by
  obtain ⟨D, hD, es, clock, hb, r⟩ := h
  exact ⟨D, hD, es, clock, h1.trans hb, r⟩
theorem SeenIs.below {W W1 : World} {bm : Nat} {seen : List (Int × Int)} (h : SeenIs W bm seen) (hb : Below W.heap.size W W1) : SeenIs W1 bm seen := h.step (hb.block _ h.lt)
theorem SeenIs.made (W : World) : SeenIs (W.alloc (.map #[] 0)) W.heap.size [] := ⟨.map [], SeenD.nil, World.ownsMap_made _ _ _ _⟩
theorem SeenIs.ne {W : World} {bm b : Nat} {seen : List (Int × Int)} {c t l} (h : SeenIs W bm seen) (hb : W.heap[b]? = some (.cells c t l)) : bm ≠ b := by
  rintro rfl
  obtain ⟨es, clock, h⟩ := h.obj
  rw [hb] at h
  cases h
theorem wpList_seen_hit {W : World} {ops : Array Oper} {rest : List Oper} {o : Oper} {a : Act} {Q : Exit → Act → World → Prop} (hg : o.guard = none) (m x : Operand) (hop : o.op = Op.lookup 116 m x true) (bm : Nat) (hm : a.eval m = .map (some bm))
    (k : Int) (hx : a.eval x = .int .i64 k) (hk : (Lit.int .i64 k).wf = true) (seen : List (Int × Int)) (hs : SeenIs W bm seen) (v : Int) (hl : seen.lookup k = some v)
    (hK : wpList Tryd.prog ops Q rest (a.put o.dst (.tuple #[.int .i64 v, .bool true])) W) : wpList Tryd.prog ops Q (o :: rest) a W := by
  obtain ⟨D, hD, hown⟩ := hs
  refine Go.wpList_lookup_own_ok_int W hg m x 116 hop 3 3 .i64 keyed3 Tryd.underlying116 Tryd.underlying3 (zero3 _) bm _ D hm hown _ _ hx (Go.Maps.keyOf_int_mk Tryd.underlying3 hk) ?_
  intro c hc _
  rw [hD.atk k v _ hk hl] at hc
  injection hc with hc
  injection hc with _ hc
  rw [← hc, hD.has k hk, hl]
  exact hK
theorem wpList_seen_miss {W : World} {ops : Array Oper} {rest : List Oper} {o : Oper} {a : Act} {Q : Exit → Act → World → Prop} (hg : o.guard = none) (m x : Operand) (hop : o.op = Op.lookup 116 m x true) (bm : Nat) (hm : a.eval m = .map (some bm))
    (k : Int) (hx : a.eval x = .int .i64 k) (hk : (Lit.int .i64 k).wf = true) (seen : List (Int × Int)) (hs : SeenIs W bm seen) (hl : seen.lookup k = none)
    (hK : ∀ c, wpList Tryd.prog ops Q rest (a.put o.dst (.tuple #[.int .i64 c, .bool false])) W) : wpList Tryd.prog ops Q (o :: rest) a W := by
  obtain ⟨D, hD, hown⟩ := hs
  refine Go.wpList_lookup_own_ok_int W hg m x 116 hop 3 3 .i64 keyed3 Tryd.underlying116 Tryd.underlying3 (zero3 _) bm _ D hm hown _ _ hx (Go.Maps.keyOf_int_mk Tryd.underlying3 hk) ?_
  intro c hc _
  rw [hD.has k hk, hl]
  exact hK c
theorem wpList_seen_put {W : World} {ops : Array Oper} {rest : List Oper} {o : Oper} {a : Act} {Q : Exit → Act → World → Prop} (hg : o.guard = none) (hd : o.dst = none) (m x v : Operand) (hop : o.op = Op.mapUpdate 116 m x v) (bm : Nat) (hm : a.eval m = .map (some bm))
    (k u : Int) (hx : a.eval x = .int .i64 k) (hv : a.eval v = .int .i64 u) (hk : (Lit.int .i64 k).wf = true) (hu : (Lit.int .i64 u).wf = true) (seen : List (Int × Int)) (hs : SeenIs W bm seen) (hl : seen.length < maxLen)
    (hK : ∀ W1, SeenIs W1 bm ((k, u) :: seen) → W.grownBy W1 (some bm) → wpList Tryd.prog ops Q rest a W1) : wpList Tryd.prog ops Q (o :: rest) a W := by
  obtain ⟨D, hD, hown⟩ := hs
  refine Go.wpList_mapUpdate_own W hg m x v 116 hop 3 3 keyed3 Tryd.underlying116 (plainElem Tryd.prog 3) bm _ D hm hown hl _ _ _ hx hv (Go.Maps.keyOf_int_mk Tryd.underlying3 hk) (.lit (.int .i64 u)) [] (plainElem_int Tryd.underlying3 hu) ?_
  intro W1 h1 h2
  rw [hd]
  exact hK W1 ⟨_, hD.cons k u hk, h1⟩ h2
def h1Of (op : Nat) (a h : Int) : Int := if op = 22 ∨ op = 23 ∨ op = 24 then h - rowT op - a else h - rowT op
def putsOf (op : Nat) (a b at_ h1 : Int) : List (Int × Int) :=
  if op = 22 then [(at_ + 1, h1 + rowL op + b)] else if op = 23 ∨ op = 24 then [] else if op = 18 then [(a, h1)] else if op = 19 then [(at_ + 1, h1 + rowL op), (a, h1)]
  else if op = 20 ∨ op = 21 then [(at_ + 1, h1 + rowL op), (a, h1 + 1)] else if op = 26 ∨ op = 27 then [(at_ + 1, h1 + rowL op), (b, h1)] else [(at_ + 1, h1 + rowL op)]
def OkIns (x : S51) : Prop := 0 ≤ x.f0 ∧ x.f0 < 28 ∧ 0 ≤ x.f1 ∧ x.f1 ≤ 2000000 ∧ 0 ≤ x.f2 ∧ x.f2 ≤ 2000000
instance (x : S51) : Decidable (OkIns x) := by unfold OkIns; exact inferInstance
def ghL (code : List S51) : Nat → List (Int × Int) → List (Int × Int) → Option Bool
  | 0, _, _ => none
  | _ + 1, _, [] => some true
  | n + 1, seen, (at_, h) :: rest =>
    if at_ < 0 ∨ 2000001 < at_ ∨ h < 0 ∨ 4000000 < h ∨ 900000 < rest.length ∨ 900000 < seen.length then none else if (code.length : Int) ≤ at_ ∨ 300 < h then some false
    else match seen.lookup at_ with
      | some h' => if h' = h then ghL code n seen rest else some false
      | none => if OkIns (rd_T51 code at_) then
          (if h1Of (rd_T51 code at_).f0.toNat (rd_T51 code at_).f1 h < 0 then some false
           else ghL code n ((at_, h) :: seen) (rest ++ putsOf (rd_T51 code at_).f0.toNat (rd_T51 code at_).f1 (rd_T51 code at_).f2 at_ (h1Of (rd_T51 code at_).f0.toNat (rd_T51 code at_).f1 h)))
          else none
theorem ghL_nil {code : List S51} {n : Nat} {seen : List (Int × Int)} {r : Bool} (h : ghL code n seen [] = some r) : r = true := by
  cases n <;> simp [ghL] at h
  exact h
theorem ghL_cons {code : List S51} {n : Nat} {seen rest : List (Int × Int)} {at_ h : Int} {r : Bool} (H : ghL code n seen ((at_, h) :: rest) = some r) :
    ∃ m, n = m + 1 ∧ (0 ≤ at_ ∧ at_ ≤ 2000001 ∧ 0 ≤ h ∧ h ≤ 4000000 ∧ rest.length ≤ 900000 ∧ seen.length ≤ 900000) ∧
    (((code.length : Int) ≤ at_ ∧ r = false) ∨ (at_ < code.length ∧ 300 < h ∧ r = false) ∨ (at_ < code.length ∧ h ≤ 300 ∧
      ((∃ h', seen.lookup at_ = some h' ∧ (h' = h ∧ ghL code m seen rest = some r ∨ h' ≠ h ∧ r = false)) ∨
       (seen.lookup at_ = none ∧ ∃ (op : Nat) (a b h1 : Int), rd_T51 code at_ = ⟨(op : Int), a, b⟩ ∧ op < 28 ∧ 0 ≤ a ∧ a ≤ 2000000 ∧ 0 ≤ b ∧ b ≤ 2000000 ∧ h1 = h1Of op a h ∧
         (h1 < 0 ∧ r = false ∨ 0 ≤ h1 ∧ ghL code m ((at_, h) :: seen) (rest ++ putsOf op a b at_ h1) = some r))))) := by
  cases n with
  | zero => simp [ghL] at H
  | succ m =>
    refine ⟨m, rfl, ?_⟩
    unfold ghL at H
    split at H
    · cases H
    · rename_i hg
      refine ⟨by omega, ?_⟩
      split at H
      · rename_i hc
        simp at H
        by_cases hx : (code.length : Int) ≤ at_
        · exact .inl ⟨hx, H⟩
        · exact .inr (.inl ⟨by omega, by omega, H⟩)
      · rename_i hc
        refine .inr (.inr ⟨by omega, by omega, ?_⟩)
        split at H
        · rename_i h' hl
          refine .inl ⟨h', hl, ?_⟩
          split at H
          · rename_i e; exact .inl ⟨e, H⟩
          · rename_i e; simp at H; exact .inr ⟨e, H⟩
        · rename_i hl
          refine .inr ⟨hl, ?_⟩
          split at H
          · rename_i ho
            obtain ⟨o1, o2, o3, o4, o5, o6⟩ := ho
            refine ⟨(rd_T51 code at_).f0.toNat, _, _, _, ?_, by omega, o3, o4, o5, o6, rfl, ?_⟩
            · rw [Int.toNat_of_nonneg o1]
            · split at H
              · rename_i e; simp at H; exact .inl ⟨e, H⟩
              · rename_i e; exact .inr ⟨by omega, H⟩
          · cases H
structure GIs (B : Nat) (W : World) (bm bq : Nat) (v : Value) (seen todo : List (Int × Int)) : Prop where
  q : QIs B W bq v todo
  s : SeenIs W bm seen
  mb : B ≤ bm
theorem GIs.below {B bm bq : Nat} {W W1 : World} {v : Value} {seen todo : List (Int × Int)} (h : GIs B W bm bq v seen todo) (hb : Below W.heap.size W W1) : GIs B W1 bm bq v seen todo := ⟨h.q.below hb, h.s.below hb, h.mb⟩
theorem GIs.alloc {B bm bq : Nat} {W : World} {v : Value} {seen todo : List (Int × Int)} (h : GIs B W bm bq v seen todo) (o : Obj) : GIs B (W.alloc o) bm bq v seen todo := h.below ((Below.refl _ _).alloc (Nat.le_refl _) _)
theorem GIs.drew {B bm bq : Nat} {W : World} {v : Value} {seen todo : List (Int × Int)} (h : GIs B W bm bq v seen todo) : GIs B W.drew bm bq v seen todo := h.below (below_drew (Below.refl _ _))
theorem GIs.base {B bm bq : Nat} {W : World} {v : Value} {seen todo : List (Int × Int)} (h : GIs B W bm bq v seen todo) : B ≤ W.heap.size := Nat.le_of_lt (Nat.lt_of_le_of_lt h.q.base (zlY h.q.var))
theorem GIs.put {B bm bq : Nat} {W W1 : World} {v v1 : Value} {seen todo todo1 : List (Int × Int)} (h : GIs B W bm bq v seen todo) (t : QTo B W bq v W1 v1 todo1) : GIs B W1 bm bq v1 seen todo1 := by
  refine ⟨t.q, h.s.step (t.rest bm h.s.lt (h.s.ne h.q.var) (fun e => ?_)), h.mb⟩
  obtain ⟨_, cells, hc⟩ := q_typed h.q.row bm e.symm
  exact h.s.ne hc rfl
theorem GIs.upd {B bm bq : Nat} {W W1 : World} {v : Value} {seen seen1 todo : List (Int × Int)} (h : GIs B W bm bq v seen todo) (hs : SeenIs W1 bm seen1) (hg : W.grownBy W1 (some bm)) : GIs B W1 bm bq v seen1 todo := by
  refine ⟨h.q.step (hg.block bq (zlY h.q.var) (fun e => h.s.ne h.q.var (Option.some.inj e).symm)) (fun k hk => hg.block k (q_lt h.q.row k hk) (fun e => ?_)), hs, h.mb⟩
  obtain ⟨_, cells, hc⟩ := q_typed h.q.row k hk
  exact h.s.ne hc (Option.some.inj e).symm
structure GBlk (W : World) (bq : Nat) (v : Value) (b : Nat) (cells : Array Value) (t : TypeId) : Prop where
  blk : W.heap[b]? = some (.cells cells t (0, 0))
  q : b ≠ bq
  v : some b ≠ v.ownBlock
theorem GBlk.below {W W1 : World} {bq b : Nat} {v : Value} {cells : Array Value} {t : TypeId} (h : GBlk W bq v b cells t) (hb : Below W.heap.size W W1) : GBlk W1 bq v b cells t := ⟨(hb.block _ (zlY h.blk)).trans h.blk, h.q, h.v⟩
theorem GIs.newBlk {B bm bq : Nat} {W : World} {v : Value} {seen todo : List (Int × Int)} (h : GIs B W bm bq v seen todo) (cells : Array Value) (t : TypeId) : GBlk (W.alloc (.cells cells t)) bq v W.heap.size cells t :=
  ⟨heap_alloc_new _ _, fun e => absurd (zlY h.q.var) (by rw [e]; exact Nat.lt_irrefl _), fun e => absurd (q_lt h.q.row _ e.symm) (Nat.lt_irrefl _)⟩
theorem GBlk.put {B bq b : Nat} {W W1 : World} {v v1 : Value} {xs : List (Int × Int)} {cells : Array Value} {t : TypeId} (h : GBlk W bq v b cells t) (ht : QTo B W bq v W1 v1 xs) : GBlk W1 bq v1 b cells t := by
  have hlt := zlY h.blk
  refine ⟨(ht.rest b hlt h.q h.v).trans h.blk, h.q, ?_⟩
  rcases ht.at_ with e | e | ⟨c, e, hc⟩
  · rw [e]; exact h.v
  · rw [e]; simp
  · rw [e]; intro e2; injection e2 with e2; omega
theorem GBlk.upd {bm bq b : Nat} {W W1 : World} {v : Value} {cells : Array Value} {t : TypeId} {seen : List (Int × Int)} (h : GBlk W bq v b cells t) (hs : SeenIs W bm seen) (hg : W.grownBy W1 (some bm)) : GBlk W1 bq v b cells t :=
  ⟨(hg.block b (zlY h.blk) (fun e => hs.ne h.blk (Option.some.inj e).symm)).trans h.blk, h.q, h.v⟩
theorem GIs.store {B bm bq b : Nat} {W : World} {v : Value} {seen todo : List (Int × Int)} {cells : Array Value} {t : TypeId} (h : GIs B W bm bq v seen todo) (hb : GBlk W bq v b cells t) (j : Nat) (u : Value) : GIs B (W.setCell ⟨b, j, none⟩ u) bm bq v seen todo := by
  refine ⟨h.q.step (Below.heap_setCell W ⟨b, j, none⟩ u bq hb.q.symm) (fun k hk => Below.heap_setCell W ⟨b, j, none⟩ u k (fun e => hb.v (by rw [hk, e]))), h.s.step (Below.heap_setCell W ⟨b, j, none⟩ u bm (h.s.ne hb.blk)), h.mb⟩
theorem GBlk.store {W : World} {bq b : Nat} {v : Value} {cells : Array Value} {t : TypeId} (h : GBlk W bq v b cells t) (j : Nat) (u : Value) : GBlk (W.setCell ⟨b, j, none⟩ u) bq v b (cells.setIfInBounds j u) t :=
  ⟨heap_setCell_same W b j cells t u h.blk, h.q, h.v⟩
def qA : List (Int × Int) → Int
  | [] => 0
  | x :: _ => x.1
def qH : List (Int × Int) → Int
  | [] => 0
  | x :: _ => x.2
theorem take_calls (B : Nat) (W : World) (bq : Nat) (v : Value) (xs : List (Int × Int)) (hl : xs.length ≤ 1000000) (hq : QIs B W bq v xs) :
    Calls Tryd.prog 65 #[.pointer (some ⟨bq, 0, none⟩)] W (TakePost B W bq v (.tuple #[.agg #[.int .i64 (qA xs), .int .i64 (qH xs)], .bool (!xs.isEmpty)]) xs.tail) := by
  cases xs with
  | nil => exact take_none B W bq v hq
  | cons x xs => exact take_some B W bq v x.1 x.2 xs (by simp at hl; omega) hq
end Go.Proofs.YtmmpiojekgfdjaaDoor.C
