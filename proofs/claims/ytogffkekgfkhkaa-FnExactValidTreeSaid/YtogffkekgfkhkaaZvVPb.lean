/- The specification reads a tree. -/
import Derived.Test.YtogffkekgfkhkaaZvV4
import Derived.Test.YtogffkekgfkhkaaZvV5
import Derived.Test.YtogffkekgfkhkaaZvV3
import Derived.Test.YtogffkekgfkhkaaZvCx6
import Derived.Test.YtogffkekgfkhkaaZvCx7
import Derived.Test.YtogffkekgfkhkaaZvK
namespace Go.Proofs.Ytogffkekgfkhkaa.C
open Go.RowKit Go.Proofs.YtogffkekgfkhkaaW.PrintWords Go.Proofs.YtogffkekgfkhkaaW.PrintLast Go.Proofs.YtogffkekgfkhkaaW.PrintMore
set_option linter.unusedVariables false
set_option linter.unusedSimpArgs false
theorem rdT_nat (t : List S34) (i : Nat) (h : i < t.length) : rd_T34 t (i : Int) = t[i] := by
  simp [rd_T34, List.getD_eq_getElem?_getD, h]
def endI (o : Option Nat) : Int := match o with
  | none => -1
  | some j => (j : Int)
/-- a tree takes no more than the list -/
theorem kidsEnd_le (t : List NV) (f : Nat → Option Nat) (hf : ∀ i j, i ≤ t.length → f i = some j → i ≤ j ∧ j ≤ t.length) : ∀ n i j, i ≤ t.length → kidsEnd f n i = some j → i ≤ j ∧ j ≤ t.length
  | 0, i, j, hi, h => by simp only [kidsEnd, Option.some.injEq] at h; omega
  | n + 1, i, j, hi, h => by
    simp only [kidsEnd] at h
    split at h
    · cases h
    · rename_i j1 h1
      have a := hf i j1 hi h1
      have b := kidsEnd_le t f hf n j1 j a.2 h
      omega
theorem endF_le (t : List NV) : ∀ d i j, i ≤ t.length → endF t d i = some j → i ≤ j ∧ j ≤ t.length
  | 0, i, j, _, h => by simp [endF] at h
  | d + 1, i, j, hi, h => by
    simp only [endF] at h
    split at h
    · cases h
    · rename_i x hx
      have hlt := (List.getElem?_eq_some_iff.1 hx).1
      split at h
      · have := kidsEnd_le t _ (endF_le t d) _ _ _ (by omega) h
        omega
      · cases h
theorem wrapN1 (i : Nat) (h : i ≤ 6000) : wrap64 ((i : Int) + 1) = ((i + 1 : Nat) : Int) := by unfold wrap64; omega
theorem w64 {a : Int} (h : -9223372036854775808 ≤ a) (h2 : a ≤ 9223372036854775807) : wrap64 a = a := by unfold wrap64; omega
theorem kids_end_ev (t : List S34) (ht : t.length ≤ 6000) (d : Nat) (hd : d + 1 ≤ 200) (i : Nat) (hi : i < t.length) (ih : ∀ j, j ≤ t.length → Ev (fun k => spec_l3end.f k t (j : Int) (d : Int)) (endI (endF t d j))) (h0 : 0 ≤ t[i].f4) (h1 : t[i].f4 ≤ 6000) :
    ∀ m (j : Nat) (x8 : Int), m = (t[i].f4 - x8).toNat → 0 ≤ x8 → x8 ≤ t[i].f4 → j ≤ t.length → Ev (fun k => spec_l3end.l0 k t (i : Int) ((d : Int) + 1) (j : Int) x8) (endI (kidsEnd (endF t d) m j)) := by
  intro m
  induction m with
  | zero =>
    intro j x8 hm hx hx2 hj
    refine Ev.step (f := fun _ => some (j : Int)) (fun k => ?_) (Ev.now _)
    rw [spec_l3end.l0, if_pos (by omega), if_pos (by omega), rdT_nat t i hi, if_neg (by omega)]
  | succ m ihm =>
    intro j x8 hm hx hx2 hj
    refine Ev.step (f := fun k => (spec_l3end.f k t (j : Int) (d : Int)).bind fun t111 => (if t111 < 0 then (some (-1)) else (spec_l3end.l0 k t (i : Int) ((d : Int) + 1) t111 (x8 + 1)))) (fun k => ?_) ?_
    · rw [spec_l3end.l0, if_pos (by omega), if_pos (by omega), rdT_nat t i hi, if_pos (by omega), w64 (a := (d : Int) + 1 - 1) (by omega) (by omega), w64 (a := x8 + 1) (by omega) (by omega), Int.add_sub_cancel]
    · refine Ev.bind (f := fun k t111 => (if t111 < 0 then (some (-1)) else (spec_l3end.l0 k t (i : Int) ((d : Int) + 1) t111 (x8 + 1)))) (ih j hj) ?_
      simp only [kidsEnd]
      cases e : endF t d j with
      | none => exact Ev.congr (fun k => if_pos (by simp [endI])) (Ev.now _)
      | some j1 =>
        have hle := endF_le t d j j1 hj e
        refine Ev.congr (fun k => if_neg (by simp [endI])) ?_
        exact ihm j1 (x8 + 1) (by omega) (by omega) (by omega) hle.2
theorem end_ev (t : List S34) (ht : t.length ≤ 6000) : ∀ d : Nat, d ≤ 200 → ∀ i, i ≤ t.length → Ev (fun k => spec_l3end.f k t (i : Int) (d : Int)) (endI (endF t d i)) := by
  have bad : ∀ (i : Nat) (d : Int), Ev (fun k => spec_l3end.j0 k t (i : Int) d true) (-1) := fun i d => by
    refine Ev.step (f := fun _ => some (-1)) (fun k => ?_) (Ev.now _)
    rw [spec_l3end.j0, if_pos rfl]
  intro d
  induction d with
  | zero =>
    intro hd i hi
    rw [show endF t 0 i = none from rfl]
    refine Ev.step (f := fun k => spec_l3end.j0 k t (i : Int) 0 true) (fun k => ?_) (bad i 0)
    rw [spec_l3end.f]
    by_cases h : (i : Int) ≥ (t.length : Int)
    · rw [if_pos h]; rfl
    · rw [if_neg h, if_pos (by omega)]; rfl
  | succ d ih =>
    intro hd i hi
    have ih := ih (by omega)
    by_cases h : i < t.length
    · have e : t[i]? = some t[i] := List.getElem?_eq_getElem h
      simp only [endF, e]
      by_cases h0 : 0 ≤ t[i].f4
      · by_cases h1 : t[i].f4 ≤ (t.length : Int)
        · rw [if_pos ⟨h0, h1⟩]
          refine Ev.step (f := fun k => spec_l3end.j0 k t (i : Int) ((d : Int) + 1) false) (fun k => ?_) ?_
          · rw [spec_l3end.f, if_neg (by omega), if_neg (by omega), if_pos (by omega), if_pos (by omega), rdT_nat t i h, if_neg (by omega), decide_eq_false (by omega)]
            rfl
          · refine Ev.step (f := fun k => spec_l3end.l0 k t (i : Int) ((d : Int) + 1) ((i + 1 : Nat) : Int) 0) (fun k => ?_) ?_
            · rw [spec_l3end.j0, if_neg (by simp), wrapN1 i (by omega)]
            · exact kids_end_ev t ht d hd i h ih h0 (by omega) _ (i + 1) 0 (by simp) (by omega) h0 (by omega)
        · rw [if_neg (fun hh => h1 hh.2)]
          refine Ev.step (f := fun k => spec_l3end.j0 k t (i : Int) ((d : Int) + 1) true) (fun k => ?_) (bad i _)
          rw [spec_l3end.f, if_neg (by omega), if_neg (by omega), if_pos (by omega), if_pos (by omega), rdT_nat t i h, if_neg (by omega), decide_eq_true (by omega)]
          rfl
      · rw [if_neg (fun hh => h0 hh.1)]
        refine Ev.step (f := fun k => spec_l3end.j0 k t (i : Int) ((d : Int) + 1) true) (fun k => ?_) (bad i _)
        rw [spec_l3end.f, if_neg (by omega), if_neg (by omega), if_pos (by omega), if_pos (by omega), rdT_nat t i h, if_pos (by omega)]
        rfl
    · have e : t[i]? = none := List.getElem?_eq_none (by omega)
      simp only [endF, e]
      refine Ev.step (f := fun k => spec_l3end.j0 k t (i : Int) ((d : Int) + 1) true) (fun k => ?_) (bad i _)
      rw [spec_l3end.f, if_pos (by omega)]
      rfl
end Go.Proofs.Ytogffkekgfkhkaa.C
