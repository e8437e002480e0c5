/- FnExactLex: for every list of bytes Lex of the program answers what the reference's answers, in memory of its own; no condition. -/
import Derived.Test.YtchfdpmkgjblgaaPE
namespace Go.Proofs.Ytchfdpmkgjblgaa.Pure
set_option linter.unusedVariables false
set_option linter.unusedSimpArgs false
open Go.RowKit Go.Proofs.Ytchfdpmkgjblgaa.M Go.Proofs.YtchfdpmkgjblgaaW.PrintWords Go.Proofs.YtchfdpmkgjblgaaW.PrintLast
/-! ### the law's helpers over tokens -/
theorem rdT_nat (xs : List S38) (i : Nat) (h : i < xs.length) : rd_T38 xs (i : Int) = xs[i] := by
  simp [rd_T38, List.getD_eq_getElem?_getD, h]
theorem eqTokenS_loop (xs : List S38) (hn : xs.length ≤ 6000) (d : Nat) : ∀ (i : Nat), xs.length - i = d → i ≤ xs.length → Ev (fun k => laws_eqTokenS.l0 k xs xs (i : Int)) true := by
  induction d with
  | zero =>
    intro i hd hi
    have f1 : ¬ (i : Int) < (xs.length : Int) := by omega
    refine Ev.step (f := fun _ => some true) (fun k => ?_) (Ev.now _)
    simp only [laws_eqTokenS.l0, if_neg f1]
  | succ d ih =>
    intro i hd hi
    have f1 : (i : Int) < (xs.length : Int) := by omega
    have f2 : 0 ≤ (i : Int) := by omega
    refine Ev.step (fun k => ?_) (ih (i + 1) (by omega) (by omega))
    simp only [laws_eqTokenS.l0, if_pos f1, if_pos f2, laws_eqToken.f, if_true, Option.bind_some, wrap1 i (by omega)]
theorem eqTokenS_ev (xs : List S38) (hn : xs.length ≤ 6000) : Ev (fun k => laws_eqTokenS.f k xs xs) true := by
  refine Ev.congr (fun k => ?_) (eqTokenS_loop xs hn xs.length 0 (by omega) (by omega))
  unfold laws_eqTokenS.f
  rw [if_pos rfl]
  rfl
def tmarks (n : Nat) : List S38 := (List.range n).map fun (j : Nat) => (⟨((3 * j + 1 : Nat) : Int), ((3 * j + 2 : Nat) : Int), ((3 * j + 3 : Nat) : Int)⟩ : S38)
theorem tmarks_length (n : Nat) : (tmarks n).length = n := by simp [tmarks]
theorem tmarks_get (n i : Nat) (h : i < n) : (tmarks n)[i]? = some (⟨((3 * i + 1 : Nat) : Int), ((3 * i + 2 : Nat) : Int), ((3 * i + 3 : Nat) : Int)⟩ : S38) := by simp [tmarks, h]
theorem markTokenS_loop (n : Nat) (hn : n ≤ 6000) (d : Nat) : ∀ (i : Nat) (xs : List S38), n - i = d → i ≤ n → xs.length = n → xs.take i = (tmarks n).take i →
    Ev (fun k => laws_markTokenS.l0 k xs ((3 * i + 1 : Nat) : Int) (i : Int)) (((3 * n + 1 : Nat) : Int), tmarks n) := by
  induction d with
  | zero =>
    intro i xs hd hi hl ht
    have hi2 : i = n := by omega
    have hx : xs = tmarks n := by
      rw [List.take_of_length_le (by omega), List.take_of_length_le (by rw [tmarks_length]; omega)] at ht
      exact ht
    subst hi2
    subst hx
    have f1 : ¬ (i : Int) < ((tmarks i).length : Int) := by omega
    refine Ev.step (f := fun _ => some (((3 * i + 1 : Nat) : Int), tmarks i)) (fun k => ?_) (Ev.now _)
    simp only [laws_markTokenS.l0, if_neg f1]
  | succ d ih =>
    intro i xs hd hi hl ht
    have hlt : i < n := by omega
    have f1 : (i : Int) < (xs.length : Int) := by omega
    have f2 : 0 ≤ (i : Int) := by omega
    have w1 : wrap64 (((3 * i + 1 : Nat) : Int) + 1) = ((3 * i + 2 : Nat) : Int) := by unfold wrap64; omega
    have w2 : wrap64 (((3 * i + 2 : Nat) : Int) + 1) = ((3 * i + 3 : Nat) : Int) := by unfold wrap64; omega
    have w3 : wrap64 (((3 * i + 3 : Nat) : Int) + 1) = ((3 * (i + 1) + 1 : Nat) : Int) := by unfold wrap64; omega
    have r1 : ∀ (ys : List S38) (v : S38), i < ys.length → rd_T38 (ys.set i v) (i : Int) = v := by
      intro ys v h
      simp [rd_T38, List.getD_eq_getElem?_getD, h]
    refine Ev.step (f := fun k => laws_markTokenS.l0 k (xs.set i (⟨((3 * i + 1 : Nat) : Int), ((3 * i + 2 : Nat) : Int), ((3 * i + 3 : Nat) : Int)⟩ : S38)) ((3 * (i + 1) + 1 : Nat) : Int) ((i + 1 : Nat) : Int)) (fun k => ?_) (ih (i + 1) _ (by omega) (by omega) (by simpa using hl) ?_)
    · simp only [laws_markTokenS.l0, if_pos f1, if_pos f2, Int.toNat_natCast, Option.bind_some, w1, w2, w3, wrap1 i (by omega)]
      rw [r1 _ _ (by omega), r1 _ _ (by simpa using (by omega : i < xs.length))]
      simp only [List.set_set]
    · apply List.ext_getElem?
      intro j
      simp only [List.getElem?_take, List.getElem?_set]
      have htj := congrArg (fun l => l[j]?) ht
      simp only [List.getElem?_take] at htj
      by_cases h1 : j < i + 1
      · rw [if_pos h1, if_pos h1]
        by_cases h2 : i = j
        · subst h2
          rw [if_pos rfl, if_pos (by omega), tmarks_get n i hlt]
        · rw [if_neg h2]
          rw [if_pos (by omega), if_pos (by omega)] at htj
          exact htj
      · rw [if_neg h1, if_neg h1]
theorem markTokenS_ev (xs : List S38) (hn : xs.length ≤ 6000) : Ev (fun k => laws_markTokenS.f k xs 1) (((3 * xs.length + 1 : Nat) : Int), tmarks xs.length) := by
  refine Ev.congr (fun k => ?_) (markTokenS_loop xs.length hn xs.length 0 xs (by omega) (by omega) rfl (by simp))
  unfold laws_markTokenS.f
  rfl
theorem heldTokenS_loop (n : Nat) (hn : n ≤ 6000) (d : Nat) : ∀ (i : Nat), n - i = d → i ≤ n → Ev (fun k => laws_heldTokenS.l0 k (tmarks n) ((3 * i + 1 : Nat) : Int) (i : Int)) ((3 * n + 1 : Nat) : Int) := by
  induction d with
  | zero =>
    intro i hd hi
    have hi2 : i = n := by omega
    subst hi2
    have f1 : ¬ (i : Int) < ((tmarks i).length : Int) := by rw [tmarks_length]; omega
    refine Ev.step (f := fun _ => some ((3 * i + 1 : Nat) : Int)) (fun k => ?_) (Ev.now _)
    simp only [laws_heldTokenS.l0, if_neg f1]
  | succ d ih =>
    intro i hd hi
    have hlt : i < n := by omega
    have f1 : (i : Int) < ((tmarks n).length : Int) := by rw [tmarks_length]; omega
    have f2 : 0 ≤ (i : Int) := by omega
    have w1 : wrap64 (((3 * i + 1 : Nat) : Int) + 1) = ((3 * i + 2 : Nat) : Int) := by unfold wrap64; omega
    have w2 : wrap64 (((3 * i + 2 : Nat) : Int) + 1) = ((3 * i + 3 : Nat) : Int) := by unfold wrap64; omega
    have w3 : wrap64 (((3 * i + 3 : Nat) : Int) + 1) = ((3 * (i + 1) + 1 : Nat) : Int) := by unfold wrap64; omega
    have hr : rd_T38 (tmarks n) (i : Int) = (⟨((3 * i + 1 : Nat) : Int), ((3 * i + 2 : Nat) : Int), ((3 * i + 3 : Nat) : Int)⟩ : S38) := by
      simp [rd_T38, List.getD_eq_getElem?_getD, tmarks_get n i hlt]
    refine Ev.step (f := fun k => laws_heldTokenS.l0 k (tmarks n) ((3 * (i + 1) + 1 : Nat) : Int) ((i + 1 : Nat) : Int)) (fun k => ?_) (ih (i + 1) (by omega) (by omega))
    simp only [laws_heldTokenS.l0, if_pos f1, if_pos f2, hr, w1, w2, w3, if_true, wrap1 i (by omega)]
theorem heldTokenS_ev (n : Nat) (hn : n ≤ 6000) : Ev (fun k => laws_heldTokenS.f k (tmarks n) 1) ((3 * n + 1 : Nat) : Int) := by
  refine Ev.congr (fun k => ?_) (heldTokenS_loop n hn n 0 (by omega) (by omega))
  unfold laws_heldTokenS.f
  rfl
/-- What Lex answers is as the reference's, and is memory of its own. -/
theorem FnExactLex : laws_FnExactLex.Pure := by
  intro xs _ _ hw
  refine Ev.rounds (g := fun k => laws_FnExactLex.f k xs) ?_
  have hb : ∀ x ∈ xs, 0 ≤ x ∧ x ≤ 255 := fun x hx => lit_u8 (hw x hx)
  by_cases hbig : (xs.length : Int) > 1048576
  · refine Ev.congr (fun k => ?_) (Ev.now true)
    unfold laws_FnExactLex.f
    rw [if_pos hbig]
  have hn : xs.length ≤ 1048576 := by omega
  obtain ⟨q, hql, hI, hS⟩ := lex_ev xs hb
  have hT := toByteS_ev xs (by omega)
  have hE := eqTokenS_ev q.1 hql
  have hE2 := eqByteS_ev xs (by omega)
  have hM := markByteS_ev xs (by omega)
  have hM2 := markTokenS_ev q.1 hql
  have hH := heldTokenS_ev q.1.length hql
  refine Ev.congr (f := fun k => _) (fun k => by unfold laws_FnExactLex.f; rw [if_neg hbig]) ?_
  refine Ev.bind hT (Ev.bind hS (Ev.bind hT (Ev.bind hI (Ev.bind hE ?_))))
  simp only [if_true, bne_self_eq_false]
  refine Ev.step (fun k => by simp only [laws_FnExactLex.j0, Bool.false_eq_true, if_false]; rfl) ?_
  refine Ev.bind hT (Ev.bind hE2 ?_)
  simp only [if_true]
  refine Ev.bind hM ?_
  simp only [if_neg (show ¬ ((xs.length : Int) + 1 < 0) by omega)]
  refine Ev.bind hE ?_
  simp only [if_true, bne_self_eq_false]
  refine Ev.step (fun k => by simp only [laws_FnExactLex.j1, Bool.false_eq_true, if_false]; rfl) ?_
  refine Ev.bind hM2 (Ev.bind hH ?_)
  simp only [if_neg (show ¬ (((3 * q.1.length + 1 : Nat) : Int) < 0) by omega), if_true]
  refine Ev.bind hT (Ev.bind hI (Ev.bind hE ?_))
  simp only [if_true, bne_self_eq_false]
  refine Ev.step (fun k => by simp only [laws_FnExactLex.j2, Bool.false_eq_true, if_false]; rfl) ?_
  refine Ev.bind hH ?_
  simp only [if_neg (show ¬ (((3 * q.1.length + 1 : Nat) : Int) < 0) by omega), if_true]
  exact Ev.now true

end Go.Proofs.Ytchfdpmkgjblgaa.Pure
