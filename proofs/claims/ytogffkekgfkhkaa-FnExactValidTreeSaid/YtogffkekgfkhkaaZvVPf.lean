/- The specification judges a tree. -/
import Derived.Test.YtogffkekgfkhkaaZvVPe
import Derived.Test.YtogffkekgfkhkaaZvVPc
import Derived.Test.YtogffkekgfkhkaaZvCx6
import Derived.Test.YtogffkekgfkhkaaZvV5
import Derived.Test.YtogffkekgfkhkaaZvK
namespace Go.Proofs.Ytogffkekgfkhkaa.C
open Go.RowKit Go.Proofs.YtogffkekgfkhkaaW.PrintWords Go.Proofs.YtogffkekgfkhkaaW.PrintLast Go.Proofs.YtogffkekgfkhkaaW.PrintMore
set_option linter.unusedVariables false
set_option linter.unusedSimpArgs false
def fitsB (a0 a1 : Int) : Bool := if a0 = 101 then isExprB a1 else if a0 = 98 then decide (a1 = 0) else if a0 = 115 then isStatB a1 else if a0 = 102 then decide (a1 = 19) else if a0 = 99 then decide (a1 = 18) else decide (a1 = 16 ∨ a1 = 17)
theorem fits_eq (a0 a1 : Int) : spec_l3fits.f a0 a1 = some (fitsB a0 a1) := by
  unfold spec_l3fits.f fitsB
  by_cases c1 : a0 = 101
  · rw [if_pos c1, if_pos c1]
    unfold spec_l3expr.f isExprB
    by_cases c : a1 ≥ 11
    · rw [if_pos c, decide_eq_true (show 11 ≤ a1 from c)]; rfl
    · rw [if_neg c, decide_eq_false (show ¬ 11 ≤ a1 from c)]; rfl
  rw [if_neg c1, if_neg c1]
  by_cases c2 : a0 = 98
  · rw [if_pos c2, if_pos c2]; rfl
  rw [if_neg c2, if_neg c2]
  by_cases c3 : a0 = 115
  · rw [if_pos c3, if_pos c3]
    unfold spec_l3stat.f isStatB
    by_cases c : a1 ≥ 1
    · rw [if_pos c, decide_eq_true (show 1 ≤ a1 from c)]
      by_cases d : a1 ≤ 10
      · rw [if_pos d, decide_eq_true d]; rfl
      · rw [if_neg d, decide_eq_false d]; rfl
    · rw [if_neg c, decide_eq_false (show ¬ 1 ≤ a1 from c)]; rfl
  rw [if_neg c3, if_neg c3]
  by_cases c4 : a0 = 102
  · rw [if_pos c4, if_pos c4]; rfl
  rw [if_neg c4, if_neg c4]
  by_cases c5 : a0 = 99
  · rw [if_pos c5, if_pos c5]; rfl
  rw [if_neg c5, if_neg c5]
  by_cases c6 : a1 = 16
  · rw [if_pos c6, decide_eq_true (.inl c6)]
  · rw [if_neg c6]
    congr 1
    rw [Bool.eq_iff_iff, beq_iff_eq, decide_eq_true_eq]
    omega
def gOK (h : NV) (n : Nat) (lp : Bool) : Bool := decide (0 ≤ h.f0) && decide (h.f0 ≤ 26) && fieldsB h && decide ((shL h.f0 h.f1 n).length = n) && !(decide (shL h.f0 h.f1 n = [63])) && !(decide (h.f0 = 8) && !lp)
def gF : Fo → Bool → Int → List UInt8 → Bool
  | .nil, _, _, _ => true
  | .cons _ _ _, _, _, [] => false
  | .cons h k r, lp, p0, s :: sh => fitsB (s.toNat : Int) h.f0 && (gOK h k.trees.length lp && gF k (innerB h.f0 lp) h.f0 (shL h.f0 h.f1 k.trees.length)) && !(decide (p0 = 0) && (decide (h.f0 = 9) || decide (h.f0 = 8)) && !r.trees.isEmpty) && gF r lp p0 sh
def gT (lp : Bool) (t : NV × Fo) : Bool := gOK t.1 t.2.trees.length lp && gF t.2 (innerB t.1.f0 lp) t.1.f0 (shL t.1.f0 t.1.f1 t.2.trees.length)
theorem bt_bA (l : List UInt8) (j : Nat) (h : j < l.length) : bt (bA l) (j : Int) = ((l[j]).toNat : Int) := by
  have hs : ((j : Int)).toNat < (bA l).size := by rw [bA_size]; simpa using h
  rw [← bt_at (bA l) (j : Int) hs]
  congr 2
def LoopC (t : List S34) (F : Fo) : Prop := ∀ (s : Nat) (rest : List S34) (lp : Bool) (P : List Int) (j : Nat) (sh : List UInt8) (p0 p1 : Int) (p2 : List Int) (p3 : List (List Int)) (p4 : Int),
  F.ok → (∀ x ∈ F.pre, x.f3.length ≤ 1048576) → s ≤ t.length → t.drop s = F.pre ++ rest → j ≤ P.length → P.drop j = posF s F → sh.length = P.length → P.length ≤ 6000 →
  Ev (fun k => spec_l3good.l0 k t (bA sh) lp P (j : Int) p0 p1 p2 p3 p4) (gF F lp p0 (sh.drop j))
theorem tree_ev (t : List S34) (ht : t.length ≤ 6000) (h : NV) (k : Fo) (hk : LoopC t k) (s : Nat) (rest : List S34) (lp : Bool) (hd : t.drop s = h :: (k.pre ++ rest)) (h4 : h.f4 = ((k.trees.length : Nat) : Int)) (ho : k.ok) (h3 : h.f3.length ≤ 1048576) (h3k : ∀ x ∈ k.pre, x.f3.length ≤ 1048576) :
    Ev (fun k' => spec_l3good.f k' t (s : Int) lp) (gT lp (h, k)) := by
  obtain ⟨hlt, he, hd2⟩ := drop_head hd
  have hle : k.trees.length ≤ 6000 := by
    have := congrArg List.length hd2
    rw [List.length_drop, List.length_append] at this
    have := Fo.trees_le k
    omega
  obtain ⟨f0, f1, tx, ns, f4⟩ := h
  dsimp only at h4 h3
  subst h4
  obtain ⟨n, hn⟩ : ∃ n, n = k.trees.length := ⟨_, rfl⟩
  -- the children's loop
  have j4 : ∀ (b : Bool), (shL f0 f1 n).length = n → Ev (fun k' => spec_l3good.j4 k' t (s : Int) (bA (shL f0 f1 n)) b f0 f1 tx ns ((k.trees.length : Nat) : Int)) (gF k b f0 (shL f0 f1 n)) := by
    intro b hs
    have hl := posF_len k (s + 1)
    have key := hk (s + 1) rest b (posF (s + 1) k) 0 (shL f0 f1 n) f0 f1 tx ns ((k.trees.length : Nat) : Int) ho h3k (by omega) hd2 (Nat.zero_le _) rfl (by rw [hl, hs, hn]) (by rw [hl]; exact hle)
    rw [List.drop_zero] at key
    refine Ev.step (f := fun k' => (spec_l3kids.f k' t (s : Int)).bind fun t152 => (spec_l3good.l0 k' t (bA (shL f0 f1 n)) b t152 0 f0 f1 tx ns ((k.trees.length : Nat) : Int))) (fun k' => ?_) ?_
    · rw [spec_l3good.j4]
    · exact Ev.bind (f := fun k' t152 => (spec_l3good.l0 k' t (bA (shL f0 f1 n)) b t152 0 f0 f1 tx ns ((k.trees.length : Nat) : Int))) (kids_ev t ht _ k s rest hd rfl ho) key
  have j3 : ∀ (b : Bool), (shL f0 f1 n).length = n → Ev (fun k' => spec_l3good.j3 k' t (s : Int) (bA (shL f0 f1 n)) b f0 f1 tx ns ((k.trees.length : Nat) : Int)) (gF k (if f0 = 19 then false else b) f0 (shL f0 f1 n)) := by
    intro b hs
    by_cases c : f0 = 19
    · rw [if_pos c]
      refine Ev.step (fun k' => ?_) (j4 false hs)
      rw [spec_l3good.j3, if_pos c]
    · rw [if_neg c]
      refine Ev.step (fun k' => ?_) (j4 b hs)
      rw [spec_l3good.j3, if_neg c]
  have j2 : ∀ (b c : Bool), (shL f0 f1 n).length = n → Ev (fun k' => spec_l3good.j2 k' t (s : Int) (bA (shL f0 f1 n)) b c f0 f1 tx ns ((k.trees.length : Nat) : Int)) (gF k (if f0 = 19 then false else (if c = true then true else b)) f0 (shL f0 f1 n)) := by
    intro b c hs
    cases c with
    | true =>
      refine Ev.step (fun k' => ?_) (j3 true hs)
      rw [spec_l3good.j2, if_pos rfl]
    | false =>
      refine Ev.step (fun k' => ?_) (j3 b hs)
      rw [spec_l3good.j2, if_neg (by simp)]
  have j1 : ∀ (b : Bool), (shL f0 f1 n).length = n → Ev (fun k' => spec_l3good.j1 k' t (s : Int) lp (bA (shL f0 f1 n)) b f0 f1 tx ns ((k.trees.length : Nat) : Int)) (!b && gF k (innerB f0 lp) f0 (shL f0 f1 n)) := by
    intro b hs
    cases b with
    | true =>
      refine Ev.step (f := fun _ => some false) (fun k' => ?_) (Ev.now _)
      rw [spec_l3good.j1, if_pos rfl]
    | false =>
      have e := j2 lp (decide (f0 = 4 ∨ f0 = 5 ∨ f0 = 7)) hs
      have ei : innerB f0 lp = (if f0 = 19 then false else (if decide (f0 = 4 ∨ f0 = 5 ∨ f0 = 7) = true then true else lp)) := by
        unfold innerB
        by_cases c : f0 = 4 ∨ f0 = 5 ∨ f0 = 7
        · rw [if_pos c, if_neg (by omega), if_pos (decide_eq_true c)]
        · rw [if_neg c, decide_eq_false c, if_neg (c := (false = true)) (by simp)]
      rw [ei, Bool.not_false, Bool.true_and]
      refine Ev.step (fun k' => ?_) e
      rw [spec_l3good.j1, if_neg (by simp)]
      by_cases c4 : f0 = 4
      · rw [if_pos c4, decide_eq_true (.inl c4)]
      rw [if_neg c4]
      by_cases c5 : f0 = 5
      · rw [if_pos c5, decide_eq_true (.inr (.inl c5))]
      rw [if_neg c5]
      congr 1
      rw [Bool.eq_iff_iff, beq_iff_eq, decide_eq_true_eq]
      omega
  have j0b : Ev (fun k' => spec_l3good.j0 k' t (s : Int) lp (bA (shL f0 f1 n)) true f0 f1 tx ns ((k.trees.length : Nat) : Int)) false := by
    refine Ev.step (f := fun _ => some false) (fun k' => ?_) (Ev.now _)
    rw [spec_l3good.j0, if_pos rfl]
  have j0g : (shL f0 f1 n).length = n → Ev (fun k' => spec_l3good.j0 k' t (s : Int) lp (bA (shL f0 f1 n)) false f0 f1 tx ns ((k.trees.length : Nat) : Int)) (!(decide (f0 = 8) && !lp) && gF k (innerB f0 lp) f0 (shL f0 f1 n)) := by
    intro hs
    by_cases c : f0 = 8
    · rw [decide_eq_true c, Bool.true_and]
      refine Ev.step (fun k' => ?_) (j1 (!lp) hs)
      rw [spec_l3good.j0, if_neg (by simp), if_pos c]
    · rw [decide_eq_false c, Bool.false_and]
      refine Ev.step (fun k' => ?_) (j1 false hs)
      rw [spec_l3good.j0, if_neg (by simp), if_neg c]
  have hsh := shape_ev f0 f1 tx ns n (by omega)
  rw [hn] at hsh
  unfold gT gOK
  dsimp only
  rw [← hn]
  have hgo : ∀ (g : Nat → ByteArray → Option Bool) (r : Bool), (∀ k', spec_l3good.f (k' + 1) t (s : Int) lp = (spec_l3shape.f k' f0 f1 tx ns ((k.trees.length : Nat) : Int)).bind fun t150 => g k' t150) → Ev (fun k' => g k' (bA (shL f0 f1 n))) r → Ev (fun k' => spec_l3good.f k' t (s : Int) lp) r := by
    intro g r hg hr
    refine Ev.step hg ?_
    refine Ev.bind (f := g) hsh ?_
    rw [← hn]
    exact hr
  refine hgo (fun k' t150 => (if f0 < 0 then (spec_l3good.j0 k' t (s : Int) lp t150 true f0 f1 tx ns ((k.trees.length : Nat) : Int)) else (if f0 > 26 then (spec_l3good.j0 k' t (s : Int) lp t150 true f0 f1 tx ns ((k.trees.length : Nat) : Int)) else ((spec_l3fields.f k' f0 f1 tx ns ((k.trees.length : Nat) : Int)).bind fun t151 => (if t151 = true then (if (t150.size : Int) = ((k.trees.length : Nat) : Int) then (spec_l3good.j0 k' t (s : Int) lp t150 (t150.toList == ([63] : List UInt8)) f0 f1 tx ns ((k.trees.length : Nat) : Int)) else (spec_l3good.j0 k' t (s : Int) lp t150 true f0 f1 tx ns ((k.trees.length : Nat) : Int))) else (spec_l3good.j0 k' t (s : Int) lp t150 true f0 f1 tx ns ((k.trees.length : Nat) : Int))))))) _ (fun k' => ?_) ?_
  · rw [spec_l3good.f, if_pos (by omega), if_pos (by omega), rdT_nat t s hlt, he]
  · by_cases c0 : f0 < 0
    · rw [decide_eq_false (show ¬ 0 ≤ f0 by omega)]
      simp only [Bool.false_and]
      exact Ev.congr (fun k' => if_pos c0) j0b
    rw [decide_eq_true (show 0 ≤ f0 by omega), Bool.true_and]
    by_cases c26 : f0 > 26
    · rw [decide_eq_false (show ¬ f0 ≤ 26 by omega)]
      simp only [Bool.false_and]
      exact Ev.congr (fun k' => (if_neg c0).trans (if_pos c26)) j0b
    rw [decide_eq_true (show f0 ≤ 26 by omega), Bool.true_and]
    refine Ev.congr (fun k' => (if_neg c0).trans (if_neg c26)) ?_
    refine Ev.bind (f := fun k' t151 => (if t151 = true then (if ((bA (shL f0 f1 n)).size : Int) = ((k.trees.length : Nat) : Int) then (spec_l3good.j0 k' t (s : Int) lp (bA (shL f0 f1 n)) ((bA (shL f0 f1 n)).toList == ([63] : List UInt8)) f0 f1 tx ns ((k.trees.length : Nat) : Int)) else (spec_l3good.j0 k' t (s : Int) lp (bA (shL f0 f1 n)) true f0 f1 tx ns ((k.trees.length : Nat) : Int))) else (spec_l3good.j0 k' t (s : Int) lp (bA (shL f0 f1 n)) true f0 f1 tx ns ((k.trees.length : Nat) : Int)))) (fields_ev ⟨f0, f1, tx, ns, ((k.trees.length : Nat) : Int)⟩ h3) ?_
    have hfe : fieldsB ⟨f0, f1, tx, ns, ((n : Nat) : Int)⟩ = fieldsB ⟨f0, f1, tx, ns, ((k.trees.length : Nat) : Int)⟩ := by rw [hn]
    rw [hfe]
    cases fieldsB ⟨f0, f1, tx, ns, ((k.trees.length : Nat) : Int)⟩ with
    | false =>
      simp only [Bool.false_and]
      exact Ev.congr (fun k' => if_neg (by simp)) j0b
    | true =>
      rw [Bool.true_and]
      refine Ev.congr (fun k' => if_pos rfl) ?_
      by_cases hs : (shL f0 f1 n).length = n
      · rw [decide_eq_true hs, Bool.true_and]
        refine Ev.congr (fun k' => if_pos (by rw [bA_size, hs, hn])) ?_
        have e63 : ((bA (shL f0 f1 n)).toList == ([63] : List UInt8)) = decide (shL f0 f1 n = [63]) := by
          rw [show (bA (shL f0 f1 n)).toList = shL f0 f1 n by rw [ByteArray.toList_eq]]
          rw [Bool.eq_iff_iff, beq_iff_eq, decide_eq_true_eq]
        rw [e63]
        by_cases c63 : shL f0 f1 n = [63]
        · rw [decide_eq_true c63]
          simp only [Bool.not_true, Bool.false_and]
          exact j0b
        · rw [decide_eq_false c63, Bool.not_false, Bool.true_and]
          exact j0g hs
      · rw [decide_eq_false hs]
        simp only [Bool.false_and]
        exact Ev.congr (fun k' => if_neg (by rw [bA_size]; omega)) j0b
theorem loop_ev (t : List S34) (ht : t.length ≤ 6000) : ∀ F : Fo, LoopC t F
  | .nil => by
    intro s rest lp P j sh p0 p1 p2 p3 p4 ho h3 hs hd hj hP hsh hP6
    have hjl : j = P.length := by
      have := congrArg List.length hP
      rw [List.length_drop] at this
      simp only [posF, List.length_nil] at this
      omega
    rw [gF]
    refine Ev.step (f := fun _ => some true) (fun k' => ?_) (Ev.now _)
    rw [spec_l3good.l0, if_neg (by omega)]
  | .cons h k r => by
    intro s rest lp P j sh p0 p1 p2 p3 p4 ho h3 hs hd hj hP hsh hP6
    have hd' : t.drop s = h :: (k.pre ++ (r.pre ++ rest)) := by rw [hd]; simp [Fo.pre]
    obtain ⟨hlt, he, hd2⟩ := drop_head hd'
    have hd3 : t.drop (s + 1 + k.pre.length) = r.pre ++ rest := by rw [← List.drop_drop, hd2]; simp
    have hle : s + 1 + k.pre.length ≤ t.length := by
      have := congrArg List.length hd2
      rw [List.length_drop, List.length_append] at this
      omega
    have hjl : j < P.length := by
      have := congrArg List.length hP
      rw [List.length_drop] at this
      simp only [posF, List.length_cons] at this
      omega
    rw [List.drop_eq_getElem_cons hjl, posF] at hP
    injection hP with hPj hP1
    have hrd : rd P (j : Int) = (s : Int) := by rw [rd_nat P j hjl, hPj]
    have hshl : j < sh.length := by omega
    rw [List.drop_eq_getElem_cons hshl, gF]
    have htree := tree_ev t ht h k (loop_ev t ht k) s (r.pre ++ rest) lp hd' ho.1 ho.2.1 (h3 h (by simp [Fo.pre])) (fun x hx => h3 x (by simp [Fo.pre, hx]))
    have key := loop_ev t ht r (s + 1 + k.pre.length) rest lp P (j + 1) sh p0 p1 p2 p3 p4 ho.2.2 (fun x hx => h3 x (by simp [Fo.pre, hx])) hle hd3 (by omega) hP1 hsh hP6
    have hemp : r.trees.isEmpty = decide (P.length ≤ j + 1) := by
      have := congrArg List.length hP1
      rw [List.length_drop, posF_len] at this
      rw [Bool.eq_iff_iff, List.isEmpty_iff, decide_eq_true_eq, ← List.length_eq_zero_iff]
      omega
    have j6 : ∀ x99 : Bool, Ev (fun k' => spec_l3good.j6 k' t (bA sh) lp P (j : Int) h.f0 x99 p0 p1 p2 p3 p4) (!x99 && !(decide (p0 = 0) && (decide (h.f0 = 9) || decide (h.f0 = 8)) && !r.trees.isEmpty) && gF r lp p0 (sh.drop (j + 1))) := by
      intro x99
      cases x99 with
      | true =>
        refine Ev.step (f := fun _ => some false) (fun k' => ?_) (Ev.now _)
        rw [spec_l3good.j6, if_pos rfl]
      | false =>
        rw [Bool.not_false, Bool.true_and, hemp]
        have hw : wrap64 ((P.length : Int) - 1) = (P.length : Int) - 1 := w64 (by omega) (by omega)
        by_cases c0 : p0 = 0
        · by_cases c98 : h.f0 = 9 ∨ h.f0 = 8
          · have e98 : (decide (h.f0 = 9) || decide (h.f0 = 8)) = true := by rcases c98 with c | c <;> simp [c]
            rw [decide_eq_true c0, e98]
            by_cases cl : P.length ≤ j + 1
            · rw [decide_eq_true cl]
              refine Ev.step (fun k' => ?_) key
              rw [spec_l3good.j6, if_neg (by simp), if_pos c0, hw, wrap1 j (by omega)]
              by_cases c9 : h.f0 = 9
              · rw [if_pos c9, if_neg (by omega)]
              · rw [if_neg c9, if_pos (by omega), if_neg (by omega)]
            · rw [decide_eq_false cl]
              refine Ev.step (f := fun _ => some false) (fun k' => ?_) (Ev.now _)
              rw [spec_l3good.j6, if_neg (by simp), if_pos c0, hw]
              by_cases c9 : h.f0 = 9
              · rw [if_pos c9, if_pos (by omega)]
              · rw [if_neg c9, if_pos (by omega), if_pos (by omega)]
          · have e98 : (decide (h.f0 = 9) || decide (h.f0 = 8)) = false := by simp; omega
            rw [e98, Bool.and_false, Bool.false_and, Bool.not_false, Bool.true_and]
            refine Ev.step (fun k' => ?_) key
            rw [spec_l3good.j6, if_neg (by simp), if_pos c0, if_neg (by omega), if_neg (by omega), wrap1 j (by omega)]
        · rw [decide_eq_false c0, Bool.false_and, Bool.false_and, Bool.not_false, Bool.true_and]
          refine Ev.step (fun k' => ?_) key
          rw [spec_l3good.j6, if_neg (by simp), if_neg c0, wrap1 j (by omega)]
    have hkind : (rd_T34 t (s : Int)).f0 = h.f0 := by rw [rdT_nat t s hlt, he]
    refine Ev.step (f := fun k' => if fitsB (sh[j].toNat : Int) h.f0 = true then ((spec_l3good.f k' t (s : Int) lp).bind fun t159 => (spec_l3good.j6 k' t (bA sh) lp P (j : Int) h.f0 (!t159) p0 p1 p2 p3 p4)) else (spec_l3good.j6 k' t (bA sh) lp P (j : Int) h.f0 true p0 p1 p2 p3 p4)) (fun k' => ?_) ?_
    · rw [spec_l3good.l0, if_pos (by omega), if_pos (by omega), hrd, if_pos (by omega), if_pos (by omega), if_pos (by rw [bA_size]; omega), bt_bA sh j hshl, fits_eq, hkind]
      rfl
    · cases hf : fitsB (sh[j].toNat : Int) h.f0 with
      | false =>
        simp only [Bool.false_and]
        exact Ev.congr (fun k' => if_neg (by simp)) (j6 true)
      | true =>
        refine Ev.congr (fun k' => if_pos rfl) ?_
        refine Ev.bind (f := fun k' t159 => (spec_l3good.j6 k' t (bA sh) lp P (j : Int) h.f0 (!t159) p0 p1 p2 p3 p4)) htree ?_
        have e := j6 (!gT lp (h, k))
        rw [Bool.not_not] at e
        rw [Bool.true_and]
        exact e
theorem good_ev (t : List S34) (ht : t.length ≤ 6000) (h : NV) (k : Fo) (s : Nat) (rest : List S34) (lp : Bool) (hd : t.drop s = h :: (k.pre ++ rest)) (h4 : h.f4 = ((k.trees.length : Nat) : Int)) (ho : k.ok) (h3 : ∀ x ∈ t, x.f3.length ≤ 1048576) :
    Ev (fun k' => spec_l3good.f k' t (s : Int) lp) (gT lp (h, k)) :=
  tree_ev t ht h k (loop_ev t ht k) s rest lp hd h4 ho (h3 h (List.mem_of_mem_drop (by rw [hd]; simp))) (fun x hx => h3 x (List.mem_of_mem_drop (i := s) (by rw [hd]; simp [hx])))
end Go.Proofs.Ytogffkekgfkhkaa.C
