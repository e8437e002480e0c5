/- impl.goodKids. -/
import Derived.Test.YtogffkekgfkhkaaZvV2
import Derived.Test.YtogffkekgfkhkaaZvK
namespace Go.Proofs.Ytogffkekgfkhkaa.C
open Go.RowKit Go.Proofs.YtogffkekgfkhkaaW.PrintWords Go.Proofs.YtogffkekgfkhkaaW.PrintLast Go.Proofs.YtogffkekgfkhkaaW.PrintMore
set_option linter.unusedVariables false
set_option linter.unusedSimpArgs false
def isK (ks : List Int) (x : Int) : Bool := ks.any fun y => x == y
def pairsP : List (Int → Bool) → List (NV × Fo) → Bool
  | [], _ => true
  | p :: ps, t :: ts => p t.1.f0 && pairsP ps ts
  | _ :: _, [] => false
def areB (ps : List (Int → Bool)) (ts : List (NV × Fo)) : Bool := decide (ts.length = ps.length) && pairsP ps ts
theorem pairs_eq : ∀ (qs : List Ask) (ts : List (NV × Fo)), pairs qs ts = pairsP (qs.map Ask.p) ts
  | [], _ => rfl
  | _ :: _, [] => rfl
  | q :: qs, t :: ts => by simp only [pairs, List.map_cons, pairsP, pairs_eq qs ts]
theorem are_eq (qs : List Ask) (ts : List (NV × Fo)) : (decide (ts.length = qs.length) && pairs qs ts) = areB (qs.map Ask.p) ts := by
  rw [pairs_eq]; unfold areB; rw [List.length_map]
def blockB : List (NV × Fo) → Bool
  | [] => true
  | t :: l => isStatB t.1.f0 && (l.isEmpty || !isK [9, 8] t.1.f0) && blockB l
def ifB (n : Nat) : Nat → List (NV × Fo) → Bool
  | _, [] => true
  | i, t :: l => ((decide (i % 2 = 1) || (l.isEmpty && decide (n % 2 = 1))) == isK [0] t.1.f0) && (isK [0] t.1.f0 || isExprB t.1.f0) && ifB n (i + 1) l
def asgB (f1 : Int) (ts : List (NV × Fo)) : Bool :=
  if f1 < 1 then false else if 50 < f1 then false else if (ts.length : Int) ≤ f1 then false else if f1 + 50 < (ts.length : Int) then false
  else ((ts.take f1.toNat).all fun t => isK [16, 17] t.1.f0) && ((ts.drop f1.toNat).all fun t => isExprB t.1.f0)
def allE (ts : List (NV × Fo)) : Bool := ts.all fun t => isExprB t.1.f0
def goodKidsB (f0 f1 : Int) (ts : List (NV × Fo)) : Bool :=
  if f0 = 0 then blockB ts
  else if f0 = 1 ∨ f0 = 9 then decide (ts.length ≤ 50) && allE ts
  else if f0 = 2 then asgB f1 ts
  else if f0 = 3 ∨ f0 = 19 then areB [isK [0]] ts
  else if f0 = 4 then areB [isExprB, isK [0]] ts
  else if f0 = 5 then areB [isK [0], isExprB] ts
  else if f0 = 6 then ifB ts.length 0 ts && decide (2 ≤ ts.length)
  else if f0 = 7 then areB [isExprB, isExprB, isK [0]] ts || areB [isExprB, isExprB, isExprB, isK [0]] ts
  else if f0 = 10 then areB [isK [18]] ts
  else if f0 = 26 then areB [isK [19]] ts
  else if f0 = 17 ∨ f0 = 21 ∨ f0 = 22 ∨ f0 = 23 then areB [isExprB, isExprB] ts
  else if f0 = 24 ∨ f0 = 25 then areB [isExprB] ts
  else if f0 = 18 then decide (1 ≤ ts.length) && decide (ts.length ≤ 51) && allE ts
  else if f0 = 20 then decide (ts.length % 2 = 0) && allE ts
  else decide (ts.length = 0)
theorem askRow_new (w : World) (qs : List Ask) (t : TypeId) (n : Nat) (hn : n = w.heap.size) : AskRow (w.alloc (.cells (qs.map Ask.v).toArray t)) ⟨n, 0, none⟩ qs := by
  subst hn
  intro i hi
  have e : (Addr.add ⟨w.heap.size, 0, none⟩ i) = ⟨w.heap.size, i, none⟩ := by
    unfold Addr.add
    by_cases h : i = 0
    · subst h; rfl
    · simp [h]
  rw [e]
  refine (blk_cell (heap_alloc_new w _) i).trans ?_
  simp [hi]
theorem ints_new (w : World) (ks : List Int) (t : TypeId) (hk : ks.length ≤ 9) (n : Nat) (hn : n = w.heap.size) : Kd.C (Kd.int .i64) (w.alloc (.cells (ks.map (Value.int .i64)).toArray t)) (some ⟨n, 0, none⟩) ks.length ks := by
  subst hn
  refine ⟨rfl, by omega, fun _ => ⟨_, rfl, fun j p hp => ⟨[.int .i64 p], rfl, rfl, fun i u hu => ?_⟩⟩⟩
  have hi : i = 0 := by
    cases i with
    | zero => rfl
    | succ i => simp at hu
  subst hi
  have hj : j < ks.length := (List.getElem?_eq_some_iff.1 hp).1
  have e : (Addr.add ⟨w.heap.size, 0, none⟩ (j * (Kd.int IntKind.i64).sz + 0)) = ⟨w.heap.size, j, none⟩ := by
    rw [show (Kd.int IntKind.i64).sz = 1 from rfl, Nat.mul_one, Nat.add_zero]
    unfold Addr.add
    by_cases h : j = 0
    · subst h; rfl
    · simp [h]
  rw [e]
  refine (blk_cell (heap_alloc_new w _) j).trans ?_
  simp only [List.getElem?_cons_zero, Option.some.injEq] at hu
  subst hu
  simp [hp]
/-- Behind the first rows of goodKids: the children's box, the question for a block. -/
structure GK (d : Kd NV) (w w1 : World) (b : Nat) (h : NV) (k : Fo) (A : Option Addr) (c B2 : Nat) : Prop where
  B : Below w.heap.size w w1
  x : w1.cell? ⟨w.heap.size, 0, none⟩ = some (.slice A k.trees.length c)
  C : (kn d).C w1 A k.trees.length k.trees
  q : KindBox w1 B2 [0]
  n : NodeAt d w1 b h k
theorem GK.below {d : Kd NV} {w w1 w2 : World} {b : Nat} {h : NV} {k : Fo} {A : Option Addr} {c B2 : Nat} (g : GK d w w1 b h k A c B2) (hb : Below w1.heap.size w1 w2) : GK d w w2 b h k A c B2 :=
  ⟨below_step g.B hb, (hb.cell (World.block_lt_of_cell? _ _ g.x)).trans g.x, Kd.C_below g.C hb, g.q.below hb, g.n.below hb⟩
theorem GK.mk' {d : Kd NV} {w w1 : World} {b : Nat} {h : NV} {k : Fo} {A : Option Addr} {c B2 : Nat} {o : Obj} (hn : NodeAt d w b h k) (hC : (kn d).C w A k.trees.length k.trees)
    (hb : Below ((w.alloc (.cells #[.slice A k.trees.length c] 68)).alloc o).heap.size ((w.alloc (.cells #[.slice A k.trees.length c] 68)).alloc o) w1) (hq : KindBox w1 B2 [0]) : GK d w w1 b h k A c B2 := by
  have h1 : Below w.heap.size w ((w.alloc (.cells #[.slice A k.trees.length c] 68)).alloc o) := below_alloc (below_alloc (Below.refl _ _) _) _
  have h2 := below_step h1 hb
  have h3 : ((w.alloc (.cells #[.slice A k.trees.length c] 68)).alloc o).cell? ⟨w.heap.size, 0, none⟩ = some (.slice A k.trees.length c) := by
    have := (below_alloc (Below.refl (w.alloc (.cells #[.slice A k.trees.length c] 68)).heap.size _) o).cell (p := ⟨w.heap.size, 0, none⟩) (by simp)
    exact this.trans ((blk_cell (heap_alloc_new w _) 0).trans rfl)
  exact ⟨h2, (hb.cell (World.block_lt_of_cell? _ _ h3)).trans h3, Kd.C_below hC h2, hq, hn.below h2⟩
/-- The question for a kind, the question for an expression. -/
def qK (B : Nat) (ks : List Int) : Ask := ⟨52, #[pv B], isK ks⟩
def qE : Ask := ⟨44, #[], isExprB⟩
theorem qK_ok {d : Kd NV} {w : World} {B : Nat} {ks : List Int} (h : KindBox w B ks) : (qK B ks).ok d w := ⟨askKind h, ents52⟩
theorem qE_ok (d : Kd NV) (w : World) : qE.ok d w := ⟨askExpr d w, ents44⟩
theorem are_calls' {d : Kd NV} (hd : NKd d) (qs : List Ask) (aq : Addr) (c : Nat) (B : Nat) (A : Option Addr) (c0 : Nat) (ts : List (NV × Fo)) (w : World) (r : Bool) (he : areB (qs.map Ask.p) ts = r)
    (hB : w.cell? ⟨B, 0, none⟩ = some (.slice A ts.length c0)) (hr : (kn d).C w A ts.length ts) (hq : AskRow w aq qs) (ha : ∀ a ∈ qs, a.ok d w) (hs : qs.length ≤ 4) :
    Calls Try.prog 38 #[.slice (some aq) qs.length c, pv B] w fun e w' => e = .returned (.bool r) ∧ Below w.heap.size w w' := by
  rw [← he, ← are_eq]
  exact are_calls hd qs aq c B A c0 ts w hB hr hq ha hs
theorem every_calls' {d : Kd NV} (hd : NKd d) (q : Ask) (A0 : Option Addr) (c0 : Nat) (ts : List (NV × Fo)) (w : World) (r : Bool) (he : (ts.all fun t => q.p t.1.f0) = r) (hr0 : (kn d).C w A0 ts.length ts) (ha : q.ok d w) :
    Calls Try.prog 39 #[.slice A0 ts.length c0, q.v] w fun e w' => e = .returned (.bool r) ∧ Below w.heap.size w w' := by
  rw [← he]
  exact every_calls hd q.g q.lb q.p ha.2 A0 c0 ts w hr0 ha.1
theorem everyK {d : Kd NV} (hd : NKd d) (B : Nat) (ks : List Int) (A0 : Option Addr) (c0 : Nat) (ts : List (NV × Fo)) (w : World) (r : Bool) (he : (ts.all fun t => isK ks t.1.f0) = r) (hr0 : (kn d).C w A0 ts.length ts) (hq : KindBox w B ks) :
    Calls Try.prog 39 #[.slice A0 ts.length c0, fnv 52 #[pv B]] w fun e w' => e = .returned (.bool r) ∧ Below w.heap.size w w' := every_calls' hd (qK B ks) A0 c0 ts w r he hr0 (qK_ok hq)
theorem everyE {d : Kd NV} (hd : NKd d) (A0 : Option Addr) (c0 : Nat) (ts : List (NV × Fo)) (w : World) (r : Bool) (he : allE ts = r) (hr0 : (kn d).C w A0 ts.length ts) :
    Calls Try.prog 39 #[.slice A0 ts.length c0, .func (.func 44) #[] #[]] w fun e w' => e = .returned (.bool r) ∧ Below w.heap.size w w' := every_calls' hd qE A0 c0 ts w r he hr0 (qE_ok _ _)
end Go.Proofs.Ytogffkekgfkhkaa.C
