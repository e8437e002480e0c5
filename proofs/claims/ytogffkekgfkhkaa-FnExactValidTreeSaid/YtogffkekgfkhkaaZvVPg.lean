/- The specification and validB. -/
import Derived.Test.YtogffkekgfkhkaaZvVPf
import Derived.Test.YtogffkekgfkhkaaZvV9
import Derived.Test.YtogffkekgfkhkaaZvK
namespace Go.Proofs.Ytogffkekgfkhkaa.C
open Go.RowKit Go.Proofs.YtogffkekgfkhkaaW.PrintWords Go.Proofs.YtogffkekgfkhkaaW.PrintLast Go.Proofs.YtogffkekgfkhkaaW.PrintMore
set_option linter.unusedVariables false
set_option linter.unusedSimpArgs false
def fitsL : List UInt8 → List (NV × Fo) → Bool
  | _, [] => true
  | [], _ :: _ => false
  | s :: sh, t :: ts => fitsB (s.toNat : Int) t.1.f0 && fitsL sh ts
def blkL (p0 : Int) : List (NV × Fo) → Bool
  | [] => true
  | t :: ts => !(decide (p0 = 0) && (decide (t.1.f0 = 9) || decide (t.1.f0 = 8)) && !ts.isEmpty) && blkL p0 ts
theorem gF_eq : ∀ (F : Fo) (lp : Bool) (p0 : Int) (sh : List UInt8), gF F lp p0 sh = (fitsL sh F.trees && blkL p0 F.trees && F.trees.all (gT lp))
  | .nil, lp, p0, sh => by cases sh <;> rfl
  | .cons h k r, lp, p0, [] => rfl
  | .cons h k r, lp, p0, s :: sh => by
    rw [gF, gF_eq r lp p0 sh]
    simp only [Fo.trees, fitsL, blkL, List.all_cons]
    rw [show (gOK h k.trees.length lp && gF k (innerB h.f0 lp) h.f0 (shL h.f0 h.f1 k.trees.length)) = gT lp (h, k) from rfl]
    generalize fitsB _ _ = a
    generalize gT lp (h, k) = b
    generalize (!(decide (p0 = 0) && (decide (h.f0 = 9) || decide (h.f0 = 8)) && !r.trees.isEmpty)) = c
    cases a <;> cases b <;> cases c <;> simp
theorem blkL_ne (p0 : Int) (h : p0 ≠ 0) : ∀ ts, blkL p0 ts = true
  | [] => rfl
  | t :: ts => by rw [blkL, blkL_ne p0 h ts, decide_eq_false h]; rfl
theorem fits101 : fitsB 101 = isExprB := by funext x; rfl
theorem fits115 : fitsB 115 = isStatB := by funext x; rfl
theorem isK1 (a x : Int) : isK [a] x = decide (x = a) := by
  simp only [isK, List.any_cons, List.any_nil, Bool.or_false]
  rw [Bool.eq_iff_iff, beq_iff_eq, decide_eq_true_eq]
theorem fits98 : fitsB 98 = isK [0] := by funext x; rw [isK1]; rfl
theorem fits102 : fitsB 102 = isK [19] := by funext x; rw [isK1]; rfl
theorem fits99 : fitsB 99 = isK [18] := by funext x; rw [isK1]; rfl
theorem isK2 (a b x : Int) : isK [a, b] x = decide (x = a ∨ x = b) := by
  simp only [isK, List.any_cons, List.any_nil, Bool.or_false]
  rw [Bool.eq_iff_iff, Bool.or_eq_true, beq_iff_eq, beq_iff_eq, decide_eq_true_eq]
theorem fits116 : fitsB 116 = isK [16, 17] := by funext x; rw [isK2]; rfl
theorem fitsL_rep (c : UInt8) : ∀ (ts : List (NV × Fo)), fitsL (rep [c] ts.length) ts = ts.all fun t => fitsB (c.toNat : Int) t.1.f0
  | [] => rfl
  | t :: ts => by
    rw [List.length_cons, rep, List.singleton_append, fitsL, fitsL_rep c ts, List.all_cons]
theorem fitsL_are : ∀ (sh : List UInt8) (ts : List (NV × Fo)), (decide (sh.length = ts.length) && fitsL sh ts) = areB (sh.map fun s => fitsB (s.toNat : Int)) ts
  | [], [] => rfl
  | [], t :: ts => rfl
  | s :: sh, [] => by simp [areB]
  | s :: sh, t :: ts => by
    have ih := fitsL_are sh ts
    unfold areB at ih ⊢
    simp only [List.map_cons, List.length_cons, List.length_map, pairsP, fitsL, Nat.add_right_cancel_iff] at ih ⊢
    by_cases c : sh.length = ts.length
    · rw [decide_eq_true c, decide_eq_true c.symm] at ih ⊢
      simp only [Bool.true_and] at ih ⊢
      rw [ih]
    · rw [decide_eq_false c, decide_eq_false (fun e => c e.symm)]
      rfl
theorem block_eq : ∀ ts : List (NV × Fo), ((ts.all fun t => isStatB t.1.f0) && blkL 0 ts) = blockB ts
  | [] => rfl
  | t :: ts => by
    rw [List.all_cons, blkL, blockB, ← block_eq ts, isK2, decide_eq_true (show (0 : Int) = 0 from rfl), Bool.decide_or]
    generalize isStatB t.1.f0 = a
    generalize (ts.all fun t => isStatB t.1.f0) = b
    generalize blkL 0 ts = c
    generalize (decide (t.1.f0 = 9) || decide (t.1.f0 = 8)) = d
    generalize ts.isEmpty = e
    cases a <;> cases b <;> cases c <;> cases d <;> cases e <;> rfl
theorem if_eq : ∀ (m : Nat) (l : List (NV × Fo)) (n i : Nat), l.length ≤ m → i % 2 = 0 → l.length + i = n → ifB n i l = fitsL (rep [101, 98] (l.length / 2) ++ rep [98] (l.length % 2)) l
  | _, [], n, i, hm, hi, hl => by rw [ifB]; rfl
  | _, [t], n, i, hm, hi, hl => by
    have hn : n % 2 = 1 := by simp at hl; omega
    simp only [ifB, hi, hn, List.isEmpty_nil, List.length_singleton]
    show _ = (fitsB 98 t.1.f0 && true)
    rw [fits98]
    cases isK [0] t.1.f0 <;> rfl
  | 0, _ :: _ :: _, n, i, hm, hi, hl => by simp at hm
  | m + 1, t :: u :: l, n, i, hm, hi, hl => by
    simp only [List.length_cons] at hm hl
    have ih := if_eq m l n (i + 2) (by omega) (by omega) (by omega)
    have h1 : (i + 1) % 2 = 1 := by omega
    rw [ifB, ifB, ih]
    simp only [List.length_cons]
    rw [show (l.length + 1 + 1) / 2 = l.length / 2 + 1 by omega, show (l.length + 1 + 1) % 2 = l.length % 2 by omega, rep]
    show _ = (fitsB 101 t.1.f0 && (fitsB 98 u.1.f0 && fitsL (rep [101, 98] (l.length / 2) ++ rep [98] (l.length % 2)) l))
    rw [fits101, fits98, hi, h1]
    have hx : isK [0] t.1.f0 = true → isExprB t.1.f0 = false := fun e => by
      rw [isK1, decide_eq_true_eq] at e
      rw [e]; rfl
    generalize fitsL _ l = a
    cases e : isK [0] t.1.f0 with
    | true => rw [hx e]; simp
    | false => cases isExprB t.1.f0 <;> cases isK [0] u.1.f0 <;> simp
theorem fitsL_app : ∀ (a b : List UInt8) (ts : List (NV × Fo)), a.length ≤ ts.length → fitsL (a ++ b) ts = (fitsL a (ts.take a.length) && fitsL b (ts.drop a.length))
  | [], b, ts, _ => by cases ts <;> rfl
  | x :: a, b, [], h => by simp at h
  | x :: a, b, t :: ts, h => by
    rw [List.cons_append, fitsL, fitsL_app a b ts (by simpa using h), List.length_cons, List.take_succ_cons, List.drop_succ_cons, fitsL, Bool.and_assoc]
theorem kind_eq (f0 f1 : Int) (h0 : 0 ≤ f0) (h26 : f0 ≤ 26) (ts : List (NV × Fo)) :
    (decide ((shL f0 f1 ts.length).length = ts.length) && !(decide (shL f0 f1 ts.length = [63])) && (fitsL (shL f0 f1 ts.length) ts && blkL f0 ts)) = goodKidsB f0 f1 ts := by
  have all1 : ∀ (c : UInt8) (g : Int → Bool), fitsB (c.toNat : Int) = g → c ≠ 63 → (decide ((rep [c] ts.length).length = ts.length) && !(decide (rep [c] ts.length = [63])) && fitsL (rep [c] ts.length) ts) = ts.all fun t => g t.1.f0 := fun c g hg hc => by
    rw [decide_eq_true (by rw [rep_len]; simp), decide_eq_false (fun e => ?_), fitsL_rep, hg]
    · rfl
    · match ts.length, e with
      | 0, e => cases e
      | n + 1, e => injection e with e1 e2; exact hc e1
  have fix : ∀ (sh : List UInt8) (ps : List (Int → Bool)), sh ≠ [63] → (sh.map fun s => fitsB (s.toNat : Int)) = ps → f0 ≠ 0 → (decide (sh.length = ts.length) && !(decide (sh = [63])) && (fitsL sh ts && blkL f0 ts)) = areB ps ts := fun sh ps h63 hp hf => by
    rw [decide_eq_false h63, blkL_ne f0 hf, Bool.not_false, Bool.and_true, Bool.and_true, fitsL_are, hp]
  have bad : ∀ r : Bool, r = false → (decide (([63] : List UInt8).length = ts.length) && !(decide (([63] : List UInt8) = [63])) && (fitsL [63] ts && blkL f0 ts)) = r := fun r hr => by
    rw [decide_eq_true (rfl : ([63] : List UInt8) = [63]), hr]; simp
  have exprs : f0 ≠ 0 → (decide ((rep [101] ts.length).length = ts.length) && !(decide (rep [101] ts.length = [63])) && (fitsL (rep [101] ts.length) ts && blkL f0 ts)) = allE ts := fun hf => by
    rw [blkL_ne f0 hf, Bool.and_true]
    exact all1 101 isExprB fits101 (by decide)
  have none8 : f0 ≠ 0 → shL f0 f1 ts.length = [] → goodKidsB f0 f1 ts = decide (ts.length = 0) → (decide ((shL f0 f1 ts.length).length = ts.length) && !(decide (shL f0 f1 ts.length = [63])) && (fitsL (shL f0 f1 ts.length) ts && blkL f0 ts)) = goodKidsB f0 f1 ts := fun hf hs hg => by
    rw [hs, hg, fix [] [] (by simp) rfl hf]
    unfold areB
    cases ts <;> rfl
  rcases (show f0 = 0 ∨ (f0 = 1 ∨ f0 = 9) ∨ f0 = 2 ∨ (f0 = 3 ∨ f0 = 19) ∨ f0 = 4 ∨ f0 = 5 ∨ f0 = 6 ∨ f0 = 7 ∨ f0 = 10 ∨ f0 = 26 ∨ (f0 = 17 ∨ f0 = 21 ∨ f0 = 22 ∨ f0 = 23) ∨ (f0 = 24 ∨ f0 = 25) ∨ f0 = 18 ∨ f0 = 20 ∨ (f0 = 8 ∨ f0 = 11 ∨ f0 = 12 ∨ f0 = 13 ∨ f0 = 14 ∨ f0 = 15 ∨ f0 = 16) by omega) with rfl | c | rfl | c | rfl | rfl | rfl | rfl | rfl | rfl | c | c | rfl | rfl | c
  · -- a block
    rw [show shL 0 f1 ts.length = rep [115] ts.length from rfl, show goodKidsB 0 f1 ts = blockB ts from rfl, ← Bool.and_assoc, all1 115 isStatB fits115 (by decide), block_eq]
  · have e1 : shL f0 f1 ts.length = if 50 < ts.length then [63] else rep [101] ts.length := by rcases c with rfl | rfl <;> rfl
    have e2 : goodKidsB f0 f1 ts = (decide (ts.length ≤ 50) && allE ts) := by rcases c with rfl | rfl <;> rfl
    rw [e1, e2]
    by_cases hn : 50 < ts.length
    · rw [if_pos hn]
      exact bad _ (by rw [decide_eq_false (by omega)]; rfl)
    · rw [if_neg hn, exprs (by omega), decide_eq_true (by omega)]; rfl
  · -- an assignment
    rw [show goodKidsB 2 f1 ts = asgB f1 ts from rfl]
    have e1 : shL 2 f1 ts.length = if f1 < 1 ∨ 50 < f1 ∨ (ts.length : Int) ≤ f1 ∨ f1 + 50 < (ts.length : Int) then [63] else rep [116] f1.toNat ++ rep [101] (ts.length - f1.toNat) := rfl
    rw [e1]
    by_cases c : f1 < 1 ∨ 50 < f1 ∨ (ts.length : Int) ≤ f1 ∨ f1 + 50 < (ts.length : Int)
    · rw [if_pos c]
      refine bad _ ?_
      unfold asgB
      rcases c with c | c | c | c
      · rw [if_pos c]
      · rw [if_neg (by omega), if_pos c]
      · by_cases c2 : 50 < f1
        · rw [if_neg (by omega), if_pos c2]
        · by_cases c1 : f1 < 1
          · rw [if_pos c1]
          · rw [if_neg c1, if_neg c2, if_pos c]
      · by_cases c2 : 50 < f1
        · rw [if_neg (by omega), if_pos c2]
        · by_cases c1 : f1 < 1
          · rw [if_pos c1]
          · by_cases c3 : (ts.length : Int) ≤ f1
            · rw [if_neg c1, if_neg c2, if_pos c3]
            · rw [if_neg c1, if_neg c2, if_neg c3, if_pos c]
    · rw [if_neg c]
      unfold asgB
      rw [if_neg (by omega), if_neg (by omega), if_neg (by omega), if_neg (by omega)]
      have hl : (rep [116] f1.toNat).length = f1.toNat := by rw [rep_len]; simp
      have hl2 : (rep [101] (ts.length - f1.toNat)).length = ts.length - f1.toNat := by rw [rep_len]; simp
      have ht : (ts.take f1.toNat).length = f1.toNat := by rw [List.length_take]; omega
      have hd : (ts.drop f1.toNat).length = ts.length - f1.toNat := List.length_drop
      have f1' := fitsL_rep 116 (ts.take f1.toNat)
      have f2' := fitsL_rep 101 (ts.drop f1.toNat)
      rw [ht] at f1'
      rw [hd] at f2'
      rw [fitsL_app _ _ ts (by rw [hl]; omega), hl, f1', f2', blkL_ne 2 (by omega), show fitsB (((116 : UInt8).toNat : Nat) : Int) = isK [16, 17] from fits116, show fitsB (((101 : UInt8).toNat : Nat) : Int) = isExprB from fits101, decide_eq_true (by rw [List.length_append, hl, hl2]; omega), decide_eq_false (fun e => ?_), Bool.and_true]
      · rfl
      · obtain ⟨n, hn⟩ : ∃ n, f1.toNat = n + 1 := ⟨f1.toNat - 1, by omega⟩
        rw [hn, rep] at e
        injection e with e1 e2
        exact absurd e1 (by decide)
  · have e1 : shL f0 f1 ts.length = [98] := by rcases c with rfl | rfl <;> rfl
    have e2 : goodKidsB f0 f1 ts = areB [isK [0]] ts := by rcases c with rfl | rfl <;> rfl
    rw [e1, e2]
    exact fix _ _ (by decide) (by rw [← fits98]; rfl) (by omega)
  · exact fix [101, 98] [isExprB, isK [0]] (by decide) (by rw [← fits98, ← fits101]; rfl) (by omega)
  · exact fix [98, 101] [isK [0], isExprB] (by decide) (by rw [← fits98, ← fits101]; rfl) (by omega)
  · -- an if
    rw [show goodKidsB 6 f1 ts = (ifB ts.length 0 ts && decide (2 ≤ ts.length)) from rfl]
    have e1 : shL 6 f1 ts.length = if ts.length < 2 then [63] else rep [101, 98] (ts.length / 2) ++ rep [98] (ts.length % 2) := rfl
    rw [e1]
    by_cases c : ts.length < 2
    · rw [if_pos c]
      exact bad _ (by rw [decide_eq_false (show ¬ 2 ≤ ts.length by omega), Bool.and_false])
    · rw [if_neg c, decide_eq_true (show 2 ≤ ts.length by omega), Bool.and_true, if_eq ts.length ts ts.length 0 (Nat.le_refl _) rfl (by omega), blkL_ne 6 (by omega), Bool.and_true,
        decide_eq_true (by rw [List.length_append, rep_len, rep_len]; simp only [List.length_cons, List.length_nil]; omega), decide_eq_false (fun e => ?_)]
      · rfl
      · obtain ⟨n, hn⟩ : ∃ n, ts.length / 2 = n + 1 := ⟨ts.length / 2 - 1, by omega⟩
        rw [hn, rep] at e
        injection e with e1 e2
        exact absurd e1 (by decide)
  · rw [show goodKidsB 7 f1 ts = (areB [isExprB, isExprB, isK [0]] ts || areB [isExprB, isExprB, isExprB, isK [0]] ts) from rfl]
    have e1 : shL 7 f1 ts.length = if ts.length = 4 then [101, 101, 101, 98] else [101, 101, 98] := rfl
    rw [e1]
    by_cases c : ts.length = 4
    · rw [if_pos c, fix [101, 101, 101, 98] [isExprB, isExprB, isExprB, isK [0]] (by decide) (by rw [← fits98, ← fits101]; rfl) (by omega)]
      rw [show areB [isExprB, isExprB, isK [0]] ts = false by unfold areB; rw [decide_eq_false (by simp only [List.length_cons, List.length_nil]; omega)]; rfl, Bool.false_or]
    · rw [if_neg c, fix [101, 101, 98] [isExprB, isExprB, isK [0]] (by decide) (by rw [← fits98, ← fits101]; rfl) (by omega)]
      rw [show areB [isExprB, isExprB, isExprB, isK [0]] ts = false by unfold areB; rw [decide_eq_false (by simp only [List.length_cons, List.length_nil]; omega)]; rfl, Bool.or_false]
  · exact fix [99] [isK [18]] (by decide) (by rw [← fits99]; rfl) (by omega)
  · exact fix [102] [isK [19]] (by decide) (by rw [← fits102]; rfl) (by omega)
  · have e1 : shL f0 f1 ts.length = [101, 101] := by rcases c with rfl | rfl | rfl | rfl <;> rfl
    have e2 : goodKidsB f0 f1 ts = areB [isExprB, isExprB] ts := by rcases c with rfl | rfl | rfl | rfl <;> rfl
    rw [e1, e2]
    exact fix _ _ (by decide) (by rw [← fits101]; rfl) (by omega)
  · have e1 : shL f0 f1 ts.length = [101] := by rcases c with rfl | rfl <;> rfl
    have e2 : goodKidsB f0 f1 ts = areB [isExprB] ts := by rcases c with rfl | rfl <;> rfl
    rw [e1, e2]
    exact fix _ _ (by decide) (by rw [← fits101]; rfl) (by omega)
  · rw [show goodKidsB 18 f1 ts = (decide (1 ≤ ts.length) && decide (ts.length ≤ 51) && allE ts) from rfl]
    have e1 : shL 18 f1 ts.length = if ts.length < 1 ∨ 51 < ts.length then [63] else rep [101] ts.length := rfl
    rw [e1]
    by_cases c : ts.length < 1 ∨ 51 < ts.length
    · rw [if_pos c]
      refine bad _ ?_
      rcases c with c | c
      · rw [decide_eq_false (show ¬ 1 ≤ ts.length by omega)]; rfl
      · rw [decide_eq_false (show ¬ ts.length ≤ 51 by omega), Bool.and_false]; rfl
    · rw [if_neg c, exprs (by omega), decide_eq_true (show 1 ≤ ts.length by omega), decide_eq_true (show ts.length ≤ 51 by omega)]; rfl
  · rw [show goodKidsB 20 f1 ts = (decide (ts.length % 2 = 0) && allE ts) from rfl]
    have e1 : shL 20 f1 ts.length = if ts.length % 2 = 0 then rep [101] ts.length else [63] := rfl
    rw [e1]
    by_cases c : ts.length % 2 = 0
    · rw [if_pos c, exprs (by omega), decide_eq_true c]; rfl
    · rw [if_neg c]
      exact bad _ (by rw [decide_eq_false c]; rfl)
  · exact none8 (by omega) (by rcases c with rfl | rfl | rfl | rfl | rfl | rfl | rfl <;> rfl) (by rcases c with rfl | rfl | rfl | rfl | rfl | rfl | rfl <;> rfl)
theorem gT_eq (lp : Bool) (h : NV) (k : Fo) : gT lp (h, k) = (okN (h, k) && !(decide (h.f0 = 8) && !lp) && k.trees.all (gT (innerB h.f0 lp))) := by
  unfold gT gOK okN
  dsimp only
  rw [gF_eq]
  by_cases h0 : 0 ≤ h.f0
  · by_cases h26 : h.f0 ≤ 26
    · rw [← kind_eq h.f0 h.f1 h0 h26 k.trees]
      generalize decide (0 ≤ h.f0) = a
      generalize decide (h.f0 ≤ 26) = b
      generalize fieldsB h = c
      generalize decide ((shL h.f0 h.f1 k.trees.length).length = k.trees.length) = d
      generalize decide (shL h.f0 h.f1 k.trees.length = [63]) = e
      generalize (!(decide (h.f0 = 8) && !lp)) = g
      generalize fitsL (shL h.f0 h.f1 k.trees.length) k.trees = x
      generalize blkL h.f0 k.trees = y
      cases a <;> cases b <;> cases c <;> cases d <;> cases e <;> cases g <;> cases x <;> cases y <;> rfl
    · rw [decide_eq_false h26]; simp
  · rw [decide_eq_false h0]; simp
theorem gT_all : ∀ (F : Fo) (lp : Bool), F.trees.all (gT lp) = (F.nodes.all okN && brkF F lp)
  | .nil, lp => rfl
  | .cons h k r, lp => by
    simp only [Fo.trees, Fo.nodes, brkF, List.all_cons, List.all_append]
    rw [gT_eq, gT_all k, gT_all r]
    by_cases c8 : h.f0 = 8
    · rw [if_pos c8, decide_eq_true c8]
      cases e : okN (h, k) with
      | false => rfl
      | true =>
        have hk : k.trees.length = 0 := by
          unfold okN at e
          dsimp only at e
          rw [c8, show goodKidsB 8 h.f1 k.trees = decide (k.trees.length = 0) from rfl] at e
          simp at e
          simp [e.2]
        obtain rfl : k = .nil := by cases k with
          | nil => rfl
          | cons a b c => simp [Fo.trees] at hk
        simp only [Fo.nodes, brkF, List.all_nil]
        cases lp <;> cases r.nodes.all okN <;> cases brkF r _ <;> rfl
    · rw [if_neg c8, decide_eq_false c8]
      generalize okN (h, k) = a
      generalize k.nodes.all okN = b
      generalize brkF k _ = c
      generalize r.nodes.all okN = d
      generalize brkF r _ = e
      cases a <;> cases b <;> cases c <;> cases d <;> cases e <;> rfl
theorem gT_tree (lp : Bool) (t : NV × Fo) : gT lp t = ((nodesT t).all okN && brkT lp t) := by
  have e := gT_all (.cons t.1 t.2 .nil) lp
  simp only [Fo.trees, Fo.nodes, brkF, List.all_cons, List.all_nil, Bool.and_true, List.append_nil] at e
  unfold nodesT brkT
  rw [List.all_cons]
  exact e
theorem validTree_ev (l : List S34) (h3 : ∀ x ∈ l, x.f3.length ≤ 1048576) : Ev (fun k => spec_ValidTree.f k l) (validB l) := by
  have bad : Ev (fun k => spec_ValidTree.j0 k l true) false := by
    refine Ev.step (f := fun _ => some false) (fun k => ?_) (Ev.now _)
    rw [spec_ValidTree.j0, if_pos rfl]
  by_cases c1 : l.length < 1
  · rw [show validB l = false by unfold validB treeOK; rw [if_pos (.inl c1)]]
    exact Ev.congr (fun k => by unfold spec_ValidTree.f; rw [if_pos (by omega)]) bad
  by_cases c6 : 6000 < l.length
  · rw [show validB l = false by unfold validB treeOK; rw [if_pos (.inr c6)]]
    exact Ev.congr (fun k => by unfold spec_ValidTree.f; rw [if_neg (by omega), if_pos (by omega)]) bad
  obtain ⟨h, l', rfl⟩ : ∃ h l', l = h :: l' := by cases l with
    | nil => simp at c1
    | cons h l' => exact ⟨h, l', rfl⟩
  have hrd : (rd_T34 (h :: l') 0).f0 = h.f0 := rfl
  by_cases c0 : h.f0 = 0
  · have hv : validB (h :: l') = match treeF 200 (h :: l') with
      | some (t, []) => gT false t
      | _ => false := by
      unfold validB treeOK
      rw [if_neg (by omega)]
      dsimp only
      rw [if_pos c0]
      cases treeF 200 (h :: l') with
      | none => rfl
      | some x =>
        obtain ⟨t, l2⟩ := x
        cases l2 with
        | nil =>
          dsimp only
          rw [gT_tree]
          cases (nodesT t).all okN <;> rfl
        | cons y l2 => rfl
    rw [hv]
    have he := endF_eq (h :: l') 200 0 (Nat.zero_le _)
    rw [List.drop_zero] at he
    have hev := end_ev (h :: l') (by omega) 200 (Nat.le_refl _) 0 (Nat.zero_le _)
    rw [he] at hev
    refine Ev.congr (f := fun k => spec_ValidTree.j0 k (h :: l') false) (fun k => ?_) ?_
    · unfold spec_ValidTree.f
      rw [if_neg (by omega), if_neg (by omega), if_pos (by omega), hrd, c0]; rfl
    refine Ev.step (f := fun k => (spec_l3end.f k (h :: l') 0 200).bind fun t161 => (if t161 = (((h :: l').length : Nat) : Int) then (spec_l3good.f k (h :: l') 0 false) else (some false))) (fun k => ?_) ?_
    · rw [spec_ValidTree.j0, if_neg (by simp)]
      simp only [bindSome]
    refine Ev.bind (f := fun k t161 => (if t161 = (((h :: l').length : Nat) : Int) then (spec_l3good.f k (h :: l') 0 false) else (some false))) hev ?_
    cases ht : treeF 200 (h :: l') with
    | none =>
      refine Ev.congr (fun k => if_neg ?_) (Ev.now _)
      show ¬ (-1 : Int) = _
      omega
    | some x =>
      obtain ⟨⟨t, k⟩, l2⟩ := x
      obtain ⟨hs, h4, ho⟩ := treeF_splits 200 _ _ _ ht
      dsimp only at hs h4 ho
      have hlen : l2.length < (h :: l').length := by rw [hs]; simp; omega
      cases l2 with
      | nil =>
        refine Ev.congr (fun k => if_pos ?_) ?_
        · show (((h :: l').length - 0 : Nat) : Int) = _
          omega
        · exact good_ev (h :: l') (by omega) t k 0 [] false (by rw [List.drop_zero]; exact hs) h4 ho h3
      | cons y l2 =>
        refine Ev.congr (fun k => if_neg ?_) (Ev.now _)
        show ¬ (((h :: l').length - (y :: l2).length : Nat) : Int) = _
        rw [List.length_cons (a := y)] at hlen ⊢
        omega
  · rw [show validB (h :: l') = false by unfold validB treeOK; rw [if_neg (by omega)]; dsimp only; rw [if_neg c0]]
    refine Ev.congr (fun k => ?_) bad
    unfold spec_ValidTree.f
    rw [if_neg (by omega), if_neg (by omega), if_pos (by omega), hrd, (bne_iff_ne (a := h.f0) (b := 0)).2 c0]
end Go.Proofs.Ytogffkekgfkhkaa.C
