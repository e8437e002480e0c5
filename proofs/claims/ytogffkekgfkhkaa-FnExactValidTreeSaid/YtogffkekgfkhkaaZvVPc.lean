/- Names and fields. -/
import Derived.Test.YtogffkekgfkhkaaZvVPn
import Derived.Test.YtogffkekgfkhkaaZvCx4
import Derived.Test.YtogffkekgfkhkaaZvK
namespace Go.Proofs.Ytogffkekgfkhkaa.C
open Go.RowKit Go.Proofs.YtogffkekgfkhkaaW.PrintWords Go.Proofs.YtogffkekgfkhkaaW.PrintLast Go.Proofs.YtogffkekgfkhkaaW.PrintMore
set_option linter.unusedVariables false
set_option linter.unusedSimpArgs false
theorem letterB_let (c : Int) : letterB c = letB c := by unfold letterB; rw [implLetter]; rfl
theorem digitB_dig (c : Int) : digitB c = digB c := by unfold digitB; rw [implDigit]; rfl
theorem alB_all (l : List Int) : (l.all fun c => letterB c || digitB c) = l.all alB := by
  congr 1
  funext c
  rw [letterB_let, digitB_dig]; rfl
theorem runN_all : ∀ l : List Int, runN l = l.length ↔ l.all alB = true
  | [] => by simp [runN]
  | c :: r => by
    have ih := runN_all r
    have hle := runN_le r
    simp only [runN, List.length_cons, List.all_cons, Bool.and_eq_true]
    by_cases h : alB c = true
    · rw [if_pos h]; exact ⟨fun e => ⟨h, ih.1 (by omega)⟩, fun e => by have := ih.2 e.2; omega⟩
    · rw [if_neg h]; exact ⟨fun e => by omega, fun e => absurd e.1 h⟩
theorem isName_ev : ∀ (s : List Int), Ev (fun k => spec_l3isName.f k s) (nameB s)
  | [] => by
    refine Ev.congr (f := fun _ => some false) (fun k => ?_) (Ev.now _)
    unfold spec_l3isName.f
    rw [if_neg (by simp)]
  | c :: l => by
    obtain ⟨s, hs⟩ : ∃ s, s = c :: l := ⟨_, rfl⟩
    have hp : 0 < s.length := by rw [hs]; simp
    have h0 : rd s 0 = c := by rw [hs]; rfl
    have hn : nameB (c :: l) = (decide (s.length ≤ 5000) && letB c && !isKw (strOfNums s) && s.all alB) := by
      rw [← alB_all, ← letterB_let, hs]; rfl
    rw [hn, ← hs]
    by_cases h5 : s.length ≤ 5000
    · rw [decide_eq_true h5, Bool.true_and]
      refine Ev.congr (f := fun k => if letB c = true then ((spec_l2run.f k s 0).bind fun t134 => (if t134 = (s.length : Int) then ((spec_l2isWord.f k (strOfNums s)).bind fun t135 => (some (!t135))) else (some false))) else some false) (fun k => ?_) ?_
      · unfold spec_l3isName.f
        rw [if_pos (by omega), if_pos (by omega), if_pos (by omega), h0, specLetter]
        rfl
      · cases hl : letB c with
        | false => exact Ev.congr (fun k => if_neg (by simp)) (Ev.now _)
        | true =>
          refine Ev.congr (fun k => if_pos rfl) ?_
          have hr := specRun_ev s (by omega) 0 (by omega)
          rw [List.drop_zero] at hr
          refine Ev.bind (f := fun k t134 => (if t134 = (s.length : Int) then ((spec_l2isWord.f k (strOfNums s)).bind fun t135 => (some (!t135))) else (some false))) hr ?_
          by_cases ha : s.all alB = true
          · refine Ev.congr (fun k => if_pos (by have := (runN_all s).2 ha; omega)) ?_
            rw [ha, Bool.and_true, Bool.true_and, isKw_word s (fun x hx => List.all_eq_true.1 ha x hx)]
            exact Ev.bind (f := fun _ t => some (!t)) (specWord_ev s) (Ev.now _)
          · refine Ev.congr (fun k => if_neg (fun e => ha ((runN_all s).1 (by omega)))) ?_
            rw [Bool.eq_false_iff.mpr ha, Bool.and_false]
            exact Ev.now _
    · rw [decide_eq_false h5]
      simp only [Bool.false_and]
      refine Ev.congr (f := fun _ => some false) (fun k => ?_) (Ev.now _)
      unfold spec_l3isName.f
      rw [if_pos (by omega), if_neg (by omega)]
theorem fields_loop (f0 f1 : Int) (t : List Int) (ns : List (List Int)) (f4 : Int) (hn : ns.length ≤ 1048576) (r : Bool)
    (he : Ev (fun k => spec_l3fields.l0 k ((ns.length : Nat) : Int) f0 f1 t ns f4) r) :
    ∀ d i, ns.length - i = d → i ≤ ns.length → Ev (fun k => spec_l3fields.l0 k (i : Int) f0 f1 t ns f4) ((ns.drop i).all nameB && r) := by
  intro d
  induction d with
  | zero =>
    intro i hd hi
    obtain rfl : i = ns.length := by omega
    rw [List.drop_length, List.all_nil, Bool.true_and]
    exact he
  | succ d ih =>
    intro i hd hi
    have hlt : i < ns.length := by omega
    refine Ev.step (f := fun k => (spec_l3isName.f k ns[i]).bind fun t138 => (if t138 = true then (spec_l3fields.l0 k ((i + 1 : Nat) : Int) f0 f1 t ns f4) else (some false))) (fun k => ?_) ?_
    · rw [spec_l3fields.l0, if_pos (by omega), if_pos (by omega), wrap1 i (by omega), show rd_L1 ns (i : Int) = ns[i] by simp [rd_L1, List.getD_eq_getElem?_getD, hlt]]
    · rw [List.drop_eq_getElem_cons hlt, List.all_cons, Bool.and_assoc]
      refine Ev.bind (f := fun k t138 => (if t138 = true then (spec_l3fields.l0 k ((i + 1 : Nat) : Int) f0 f1 t ns f4) else (some false))) (isName_ev ns[i]) ?_
      cases nameB ns[i] with
      | false => exact Ev.congr (fun k => if_neg (by simp)) (Ev.now _)
      | true => exact Ev.congr (fun k => if_pos rfl) (ih (i + 1) (by omega) (by omega))
theorem fields_ev (h : NV) (hn : h.f3.length ≤ 1048576) : Ev (fun k => spec_l3fields.f k h.f0 h.f1 h.f2 h.f3 h.f4) (fieldsB h) := by
  obtain ⟨f0, f1, t, ns, f4⟩ := h
  dsimp only at hn ⊢
  -- the number
  have j6 : ∀ b : Bool, Ev (fun k => spec_l3fields.j6 k b f0 f1 t ns f4) (!b && numB f0 f1) := by
    intro b
    cases b with
    | true =>
      refine Ev.step (f := fun _ => some false) (fun k => ?_) (Ev.now _)
      rw [spec_l3fields.j6, if_pos rfl]
    | false =>
      refine Ev.step (f := fun _ => some (numB f0 f1)) (fun k => ?_) (Ev.now _)
      rw [spec_l3fields.j6, if_neg (by simp)]
      unfold numB
      by_cases c21 : f0 = 21
      · have e14 : ¬ (f0 = 14 ∨ f0 = 2) := by omega
        rw [if_pos c21, if_neg e14, if_pos c21]
        by_cases c0 : f1 ≥ 0
        · rw [if_pos c0, decide_eq_true (show 0 ≤ f1 from c0), Bool.true_and]
        · rw [if_neg c0, decide_eq_false (show ¬ 0 ≤ f1 from c0), Bool.false_and]
      · rw [if_neg c21]
        by_cases c2 : f0 = 2
        · rw [if_pos c2, if_pos (.inr c2)]
        · rw [if_neg c2]
          by_cases c14 : f0 = 14
          · rw [if_pos c14, if_pos (.inl c14)]
          · have e14 : ¬ (f0 = 14 ∨ f0 = 2) := by omega
            rw [if_neg c14, if_neg e14, if_neg c21]
            rfl
  have hend : Ev (fun k => spec_l3fields.l0 k ((ns.length : Nat) : Int) f0 f1 t ns f4) ((!(decide (f0 ≠ 15) && decide (0 < t.length)) && !(decide (5000 < t.length))) && numB f0 f1) := by
    have e5 : decide ((t.length : Int) > 5000) = decide (5000 < t.length) := decide_eq_decide.2 (by omega)
    by_cases c15 : f0 = 15
    · refine Ev.step (f := fun k => spec_l3fields.j6 k (decide (5000 < t.length)) f0 f1 t ns f4) (fun k => ?_) ?_
      · rw [spec_l3fields.l0, if_neg (by omega), if_pos c15, e5]
      · rw [decide_eq_false (show ¬ f0 ≠ 15 from fun h => h c15), Bool.false_and, Bool.not_false, Bool.true_and]
        exact j6 _
    · rw [decide_eq_true (show f0 ≠ 15 from c15), Bool.true_and]
      by_cases c0 : t.length = 0
      · refine Ev.step (f := fun k => spec_l3fields.j6 k (decide (5000 < t.length)) f0 f1 t ns f4) (fun k => ?_) ?_
        · rw [spec_l3fields.l0, if_neg (by omega), if_neg c15, if_pos (by omega), e5]
        · rw [decide_eq_false (show ¬ 0 < t.length by omega), Bool.not_false, Bool.true_and]
          exact j6 _
      · refine Ev.step (f := fun k => spec_l3fields.j6 k true f0 f1 t ns f4) (fun k => ?_) ?_
        · rw [spec_l3fields.l0, if_neg (by omega), if_neg c15, if_neg (by omega)]
        · rw [decide_eq_true (show 0 < t.length by omega), Bool.not_true, Bool.false_and]
          exact j6 true
  have hl0 := fields_loop f0 f1 t ns f4 hn _ hend ns.length 0 (by omega) (by omega)
  rw [List.drop_zero] at hl0
  have j4 : ∀ b : Bool, Ev (fun k => spec_l3fields.j4 k b f0 f1 t ns f4) (!b && (ns.all nameB && ((!(decide (f0 ≠ 15) && decide (0 < t.length)) && !(decide (5000 < t.length))) && numB f0 f1))) := by
    intro b
    cases b with
    | true =>
      refine Ev.step (f := fun _ => some false) (fun k => ?_) (Ev.now _)
      rw [spec_l3fields.j4, if_pos rfl]
    | false =>
      refine Ev.step (f := fun k => spec_l3fields.l0 k 0 f0 f1 t ns f4) (fun k => ?_) hl0
      rw [spec_l3fields.j4, if_neg (by simp)]
  have j3 : ∀ a b : Nat, Ev (fun k => spec_l3fields.j3 k (a : Int) (b : Int) f0 f1 t ns f4) (decide (a ≤ ns.length) && decide (ns.length ≤ b) && (ns.all nameB && ((!(decide (f0 ≠ 15) && decide (0 < t.length)) && !(decide (5000 < t.length))) && numB f0 f1))) := by
    intro a b
    by_cases ca : a ≤ ns.length
    · refine Ev.step (f := fun k => spec_l3fields.j4 k (decide ((ns.length : Int) > (b : Int))) f0 f1 t ns f4) (fun k => ?_) ?_
      · rw [spec_l3fields.j3, if_neg (by omega)]
      · rw [decide_eq_true ca, Bool.true_and]
        have e := j4 (decide ((ns.length : Int) > (b : Int)))
        have : (!decide ((ns.length : Int) > (b : Int))) = decide (ns.length ≤ b) := by rw [Bool.eq_iff_iff]; simp
        rw [this] at e
        exact e
    · refine Ev.step (f := fun k => spec_l3fields.j4 k true f0 f1 t ns f4) (fun k => ?_) ?_
      · rw [spec_l3fields.j3, if_pos (by omega)]
      · rw [decide_eq_false ca, Bool.false_and, Bool.false_and]
        exact j4 true
  have j2 : ∀ a b : Nat, Ev (fun k => spec_l3fields.j2 k (a : Int) (b : Int) f0 f1 t ns f4) (decide (a ≤ ns.length) && decide (ns.length ≤ (if f0 = 19 then 50 else b)) && (ns.all nameB && ((!(decide (f0 ≠ 15) && decide (0 < t.length)) && !(decide (5000 < t.length))) && numB f0 f1))) := by
    intro a b
    by_cases c : f0 = 19
    · rw [if_pos c]
      refine Ev.step (f := fun k => spec_l3fields.j3 k (a : Int) 50 f0 f1 t ns f4) (fun k => ?_) (j3 a 50)
      rw [spec_l3fields.j2, if_pos c]
    · rw [if_neg c]
      refine Ev.step (f := fun k => spec_l3fields.j3 k (a : Int) (b : Int) f0 f1 t ns f4) (fun k => ?_) (j3 a b)
      rw [spec_l3fields.j2, if_neg c]
  have j1 : ∀ (a b : Nat) (x : Bool), Ev (fun k => spec_l3fields.j1 k (a : Int) (b : Int) x f0 f1 t ns f4) (decide ((if x = true then 1 else a) ≤ ns.length) && decide (ns.length ≤ (if f0 = 19 then 50 else (if x = true then 1 else b))) && (ns.all nameB && ((!(decide (f0 ≠ 15) && decide (0 < t.length)) && !(decide (5000 < t.length))) && numB f0 f1))) := by
    intro a b x
    cases x with
    | true =>
      refine Ev.step (f := fun k => spec_l3fields.j2 k 1 1 f0 f1 t ns f4) (fun k => ?_) (j2 1 1)
      rw [spec_l3fields.j1, if_pos rfl]
    | false =>
      refine Ev.step (f := fun k => spec_l3fields.j2 k (a : Int) (b : Int) f0 f1 t ns f4) (fun k => ?_) (j2 a b)
      rw [spec_l3fields.j1, if_neg (by simp)]
  have j0 : ∀ (a b : Nat), Ev (fun k => spec_l3fields.j0 k (a : Int) (b : Int) f0 f1 t ns f4) (decide ((if decide (f0 = 26 ∨ f0 = 7 ∨ f0 = 16) = true then 1 else a) ≤ ns.length) && decide (ns.length ≤ (if f0 = 19 then 50 else (if decide (f0 = 26 ∨ f0 = 7 ∨ f0 = 16) = true then 1 else b))) && (ns.all nameB && ((!(decide (f0 ≠ 15) && decide (0 < t.length)) && !(decide (5000 < t.length))) && numB f0 f1))) := by
    intro a b
    refine Ev.step (f := fun k => spec_l3fields.j1 k (a : Int) (b : Int) (decide (f0 = 26 ∨ f0 = 7 ∨ f0 = 16)) f0 f1 t ns f4) (fun k => ?_) (j1 a b _)
    rw [spec_l3fields.j0]
    by_cases c26 : f0 = 26
    · rw [if_pos c26, decide_eq_true (.inl c26)]
    · rw [if_neg c26]
      by_cases c7 : f0 = 7
      · rw [if_pos c7, decide_eq_true (.inr (.inl c7))]
      · rw [if_neg c7]
        congr 1
        rw [Bool.eq_iff_iff, decide_eq_true_eq, beq_iff_eq]
        omega
  have hfin : fieldsB ⟨f0, f1, t, ns, f4⟩ = (decide (leastB f0 ≤ ns.length) && decide (ns.length ≤ mostB f0) && (ns.all nameB && ((!(decide (f0 ≠ 15) && decide (0 < t.length)) && !(decide (5000 < t.length))) && numB f0 f1))) := by
    unfold fieldsB; simp only [Bool.and_assoc]
  rw [hfin]
  by_cases c1 : f0 = 1
  · have e := j0 1 50
    rw [decide_eq_false (show ¬ (f0 = 26 ∨ f0 = 7 ∨ f0 = 16) by omega), if_neg (by simp), if_neg (by omega), if_neg (by simp)] at e
    rw [show leastB f0 = 1 by unfold leastB; rw [if_pos (by omega)], show mostB f0 = 50 by unfold mostB; rw [if_pos (by omega)]]
    refine Ev.congr (fun k => ?_) e
    unfold spec_l3fields.f; rw [if_pos c1]; rfl
  · have e := j0 0 0
    refine Ev.congr (f := fun k => spec_l3fields.j0 k 0 0 f0 f1 t ns f4) (fun k => ?_) ?_
    · unfold spec_l3fields.f; rw [if_neg c1]
    · have el : leastB f0 = (if decide (f0 = 26 ∨ f0 = 7 ∨ f0 = 16) = true then 1 else 0) := by
        unfold leastB
        by_cases c : f0 = 26 ∨ f0 = 7 ∨ f0 = 16
        · rw [if_pos (by omega), decide_eq_true c, if_pos rfl]
        · rw [if_neg (by omega), decide_eq_false c, if_neg (by simp)]
      have em : mostB f0 = (if f0 = 19 then 50 else (if decide (f0 = 26 ∨ f0 = 7 ∨ f0 = 16) = true then 1 else 0)) := by
        unfold mostB
        by_cases c : f0 = 19
        · rw [if_pos (by omega), if_pos c]
        · rw [if_neg (by omega), if_neg c]
          by_cases c : f0 = 26 ∨ f0 = 7 ∨ f0 = 16
          · rw [if_pos c, decide_eq_true c, if_pos rfl]
          · rw [if_neg c, decide_eq_false c, if_neg (by simp)]
      rw [el, em]
      exact e
end Go.Proofs.Ytogffkekgfkhkaa.C
