/- Words with a default proof. -/
import Derived.Test.YtogffkekgfkhkaaZvWMore
namespace Go.Proofs.YtogffkekgfkhkaaW.PrintWords
open Go.RowKit
theorem bwZ {n : Nat} {w w1 : World} (h : Below n w w1 := by repeat (first | (with_reducible first | exact Aside0.out (by assumption) | apply below_alloc | apply pw_below_drewN | apply below_drew1 | refine below_set ?_ (Aside0.out (by assumption))) | exact Aside0.out (by assumption))) : Below n w w1 := h
theorem bkZ {w : World} {b : Nat} {o : Option Obj} (h : w.heap[b]? = o := by (with_reducible repeat (first | refine blk_drewN ?_ _ | refine blk_drew ?_ | refine blk_alloc ?_ _)); exact Aside0.out (by assumption)) : w.heap[b]? = o := h
theorem odZ {p : Prop} [Decidable p] (h : decide p = true := by first | (with_reducible assumption) | assumption) : p := of_decide_eq_true h
end Go.Proofs.YtogffkekgfkhkaaW.PrintWords
