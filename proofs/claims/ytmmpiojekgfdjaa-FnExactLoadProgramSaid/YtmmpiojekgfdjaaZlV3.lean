/- The program as bytes. -/
import Derived.Test.YtmmpiojekgfdjaaZlV2
import Derived.Test.YtmmpiojekgfdjaaZlK
namespace Go.Proofs.Ytmmpiojekgfdjaa.C
open Go.RowKit YtmmpiojekgfdjaaW.PrintWords YtmmpiojekgfdjaaW.PrintLast
set_option linter.unusedVariables false
set_option linter.unusedSimpArgs false
def eightB (n : Int) : List Int := (List.range 8).map fun i => IntKind.u64.wrap n / 2 ^ (8 * i) % 256
def constB (c : S48) : List Int := if c.f0 = true then 1 :: (varF 10 c.f2.length ++ c.f2) else 0 :: eightB c.f1
def tI (b : Bool) : Int := if b = true then 1 else 0
def capB (c : S54) : List Int := tI c.f0 :: varF 10 c.f1
def insB (x : S57) : List Int := (x.f0 % 256) :: (varF 10 x.f1 ++ varF 10 x.f2)
def protoB (f : S52) : List Int := varF 10 f.f0 ++ (varF 10 f.f1 ++ (varF 10 f.f2.length ++ (f.f2.flatMap capB ++ (varF 10 f.f3.length ++ f.f3.flatMap insB))))
def restB (ps : List S52) : List Int := varF 10 ps.length ++ ps.flatMap protoB
def saveL (cs : List S48) (ps : List S52) : List Int := [77, 78, 76, 84] ++ (varF 10 cs.length ++ (cs.flatMap constB ++ restB ps))
def Num (x : Int) : Prop := 0 ≤ x ∧ x ≤ 4611686018427387904
structure SaveOK (cs : List S48) (ps : List S52) : Prop where
  cl : cs.length ≤ 1000000
  pl : ps.length ≤ 1000000
  ct : ∀ c ∈ cs, c.f2.length ≤ 1000000
  pr : ∀ f ∈ ps, Num f.f0 ∧ Num f.f1 ∧ f.f2.length ≤ 1000000 ∧ f.f3.length ≤ 1000000 ∧ (∀ c ∈ f.f2, Num c.f1) ∧ ∀ x ∈ f.f3, Num x.f1 ∧ Num x.f2
  tot : (saveL cs ps).length ≤ 100000000000
theorem pre_len {a b t : List Int} (h : a ++ b = t) (ht : t.length ≤ 100000000000) : a.length ≤ 100000000000 := by
  have := congrArg List.length h
  simp at this; omega
structure SvW (w : World) (bp bq : Nat) (pv : Array Value) (W : World) (v : Value) (xs : List Int) : Prop where
  q : WIs w.heap.size W bq v xs
  b : Below w.heap.size w W
  p : W.heap[bp]? = some (.cells pv 31 (0, 0))
theorem SvW.below {w W W1 : World} {bp bq : Nat} {pv : Array Value} {v : Value} {xs : List Int} (h : SvW w bp bq pv W v xs) (hb : Below W.heap.size W W1) : SvW w bp bq pv W1 v xs :=
  ⟨h.q.below hb, zdY h.b hb, (hb.block _ (ziY h.p)).trans h.p⟩
theorem SvW.alloc {w W : World} {bp bq : Nat} {pv : Array Value} {v : Value} {xs : List Int} (h : SvW w bp bq pv W v xs) (o : Obj) : SvW w bp bq pv (W.alloc o) v xs := h.below ((Below.refl _ _).alloc (Nat.le_refl _) o)
theorem SvW.to {w W W1 : World} {bp bq : Nat} {pv : Array Value} {v v1 : Value} {xs ys : List Int} (h : SvW w bp bq pv W v xs) (t : WTo w.heap.size W bq v W1 v1 ys) : SvW w bp bq pv W1 v1 ys :=
  ⟨t.q, h.b.trans t.b, t.blk h.q h.p (by decide) (by decide)⟩
theorem SvW.c0 {w W : World} {bp bq : Nat} {x0 x1 v : Value} {xs : List Int} (h : SvW w bp bq #[x0, x1] W v xs) : W.cell? ⟨bp, 0, none⟩ = some x0 := (zaY h.p 0).trans rfl
theorem SvW.c1 {w W : World} {bp bq : Nat} {x0 x1 v : Value} {xs : List Int} (h : SvW w bp bq #[x0, x1] W v xs) : W.cell? ⟨bp, 1, none⟩ = some x1 := (zaY h.p 1).trans rfl
theorem num_len {n : Nat} (h : n ≤ 1000000) : Num (n : Int) := ⟨by omega, by omega⟩
theorem heap_alloc_keep {w : World} {b : Nat} {x : Obj} (h : w.heap[b]? = some x) (o : Obj) : (w.alloc o).heap[b]? = some x := by
  rw [heap_alloc_old _ _ (Array.getElem?_eq_some_iff.1 h).1]; exact h
end Go.Proofs.Ytmmpiojekgfdjaa.C
