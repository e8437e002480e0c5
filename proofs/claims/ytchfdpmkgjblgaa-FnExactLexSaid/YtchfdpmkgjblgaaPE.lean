/- What the printed Lex answers is what the printed reference answers, at every list of bytes. -/
import Derived.Test.YtchfdpmkgjblgaaPD
namespace Go.Proofs.Ytchfdpmkgjblgaa.Pure
set_option linter.unusedVariables false
set_option linter.unusedSimpArgs false
open Go.RowKit Go.Proofs.Ytchfdpmkgjblgaa.M Go.Proofs.YtchfdpmkgjblgaaW.PrintWords Go.Proofs.YtchfdpmkgjblgaaW.PrintLast
/-! ### the program's rounds -/
set_option maxRecDepth 100000 in
theorem sgb_sg1 : ∀ n : Fin 256, sgb ((n.val : Nat) : Int) = decide ((n.val : Int) = 43 ∨ (n.val : Int) = 42 ∨ (n.val : Int) = 37 ∨ (n.val : Int) = 40 ∨ (n.val : Int) = 41 ∨ (n.val : Int) = 123 ∨ (n.val : Int) = 125 ∨ (n.val : Int) = 91 ∨ (n.val : Int) = 93 ∨ (n.val : Int) = 59 ∨ (n.val : Int) = 44) := by decide
theorem sgb_eq (c : Int) (h0 : 0 ≤ c) (h1 : c ≤ 255) : sgb c = decide (c = 43 ∨ c = 42 ∨ c = 37 ∨ c = 40 ∨ c = 41 ∨ c = 123 ∨ c = 125 ∨ c = 91 ∨ c = 93 ∨ c = 59 ∨ c = 44) := by
  have := sgb_sg1 ⟨c.toNat, by omega⟩
  simp only [show ((c.toNat : Nat) : Int) = c by omega] at this
  exact this
theorem impl_tk (xs : List Int) (o : List S38) (ho : o.length ≤ 6000) (i n : Nat) (hn : i + n ≤ 6000) (kd cd : Int) (R : List S38 × Int × Int)
    (h : Ev (fun k => impl_Lex.nx k xs (o ++ [(⟨kd, (i : Int), (n : Int)⟩ : S38)]) ((i + n : Nat) : Int) cd) R) : Ev (fun k => impl_Lex.tk k xs o ((i + n : Nat) : Int) (i : Int) kd cd) R := by
  have f1 : o.length < 5864062014805 := by omega
  have f2 : wrap64 (((i + n : Nat) : Int) - (i : Int)) = (n : Int) := by unfold wrap64; omega
  refine Ev.step (fun k => ?_) h
  simp only [impl_Lex.tk, if_pos f1, f2]
theorem impl_sg (xs : List Int) (o : List S38) (ho : o.length ≤ 6000) (i : Nat) (hn : i + 1 ≤ 6000) (cd : Int) (R : List S38 × Int × Int)
    (h : Ev (fun k => impl_Lex.nx k xs (o ++ [(⟨5, (i : Int), 1⟩ : S38)]) ((i : Int) + 1) cd) R) : Ev (fun k => impl_Lex.sg k xs o (i : Int) (i : Int) cd) R := by
  refine Ev.step (fun k => ?_) (impl_tk xs o ho i 1 hn 5 cd R h)
  simp only [impl_Lex.sg, wrap1 i (by omega)]
theorem impl_db (xs : List Int) (o : List S38) (ho : o.length ≤ 6000) (i : Nat) (hn : i + 2 ≤ 6000) (cd : Int) (R : List S38 × Int × Int)
    (h : Ev (fun k => impl_Lex.nx k xs (o ++ [(⟨5, (i : Int), 2⟩ : S38)]) ((i : Int) + 2) cd) R) : Ev (fun k => impl_Lex.db k xs o (i : Int) (i : Int) cd) R := by
  refine Ev.step (f := fun k => impl_Lex.sg k xs o ((i + 1 : Nat) : Int) (i : Int) cd) (fun k => by simp only [impl_Lex.db, wrap1 i (by omega)]) ?_
  refine Ev.step (fun k => ?_) (impl_tk xs o ho i 2 hn 5 cd R h)
  simp only [impl_Lex.sg, wrap1 (i + 1) (by omega)]
def rnEnd (k : Nat) (x : List Int) (o : List S38) (p st kd cd : Int) : Option (List S38 × Int × Int) := if kd = 2 then (if 0 ≤ st then (if st ≤ p then (if p ≤ (x.length : Int) then ((impl_ScanInt.f k ((x.take p.toNat).drop st.toNat)).bind fun v => if v.2 = 0 then (impl_Lex.tk k x o p st kd 2) else (some ([], v.2, st))) else none) else none) else none) else (if 0 ≤ st then (if st ≤ p then (if p ≤ (x.length : Int) then (if isKw (strOfNums ((x.take p.toNat).drop st.toNat)) = true then (impl_Lex.tk k x o p st 4 cd) else (impl_Lex.tk k x o p st kd cd)) else none) else none) else none)
theorem impl_rn (xs : List Int) (hn : xs.length ≤ 6000) (o : List S38) (st kd cd : Int) (R : List S38 × Int × Int) (d : Nat) : ∀ (i : Nat), xs.length - i = d → i ≤ xs.length →
    Ev (fun k => rnEnd k xs o ((i + runN (xs.drop i) : Nat) : Int) st kd cd) R → Ev (fun k => impl_Lex.rn k xs o (i : Int) st kd cd) R := by
  induction d with
  | zero =>
    intro i hd hi h
    have f1 : ¬ (i : Int) < (xs.length : Int) := by omega
    rw [List.drop_eq_nil_of_le (by omega)] at h
    refine Ev.step (fun k => ?_) (by simpa [runN] using h)
    simp only [impl_Lex.rn, if_neg f1, rnEnd]
  | succ d ih =>
    intro i hd hi h
    have hlt : i < xs.length := by omega
    have f1 : (i : Int) < (xs.length : Int) := by omega
    have f2 : 0 ≤ (i : Int) := by omega
    have bn : i ≤ 1073741824 := by omega
    have hrd := rd_nat xs i hlt
    rw [List.drop_eq_getElem_cons hlt, runN] at h
    have key : alB xs[i] = true → Ev (fun k => impl_Lex.rn k xs o ((i + 1 : Nat) : Int) st kd cd) R := by
      intro ha
      rw [if_pos ha] at h
      exact ih (i + 1) (by omega) (by omega) (by rw [show i + 1 + runN (xs.drop (i + 1)) = i + (runN (xs.drop (i + 1)) + 1) by omega]; exact h)
    by_cases hl : letB xs[i] = true
    · refine Ev.step (fun k => ?_) (key (by simp [alB, hl]))
      simp only [impl_Lex.rn, if_pos f1, if_pos f2, hrd, implLetter, Option.bind_some, if_pos hl, wrap1 i bn]
    · by_cases hdg : digB xs[i] = true
      · refine Ev.step (fun k => ?_) (key (by simp [alB, hdg]))
        simp only [impl_Lex.rn, if_pos f1, if_pos f2, hrd, implLetter, implDigit, Option.bind_some, if_neg hl, if_pos hdg, wrap1 i bn]
      · rw [if_neg (show ¬ alB xs[i] = true by simp [alB, hl, hdg])] at h
        refine Ev.step (fun k => ?_) (by simpa using h)
        simp only [impl_Lex.rn, if_pos f1, if_pos f2, hrd, implLetter, implDigit, Option.bind_some, if_neg hl, if_neg hdg, rnEnd]
/-- What the program does at a byte. -/
theorem impl_round (xs : List Int) (hb : ∀ x ∈ xs, 0 ≤ x ∧ x ≤ 255) (hn : xs.length ≤ 6000) (o : List S38) (ho : o.length ≤ 6000) (i : Nat) (c : Int) (r : List Int) (hcr : xs.drop i = c :: r) (R : List S38 × Int × Int)
    (h1 : spB c = true → Ev (fun k => impl_Lex.nx k xs o ((i + 1 : Nat) : Int) 2) R)
    (h2 : c = 45 → r.head? = some 45 → Ev (fun k => impl_Lex.nx k xs o ((i + cmN (c :: r) : Nat) : Int) 2) R)
    (h3 : spB c = false → ¬ (c = 45 ∧ r.head? = some 45) → (tok (c :: r)).2.2 = 0 → Ev (fun k => impl_Lex.nx k xs (o ++ [(⟨(tok (c :: r)).1, (i : Int), (tok (c :: r)).2.1⟩ : S38)]) ((i : Int) + (tok (c :: r)).2.1) 2) R)
    (h4 : spB c = false → ¬ (c = 45 ∧ r.head? = some 45) → (tok (c :: r)).2.2 ≠ 0 → R = ([], (tok (c :: r)).2.2, (i : Int))) :
    Ev (fun k => impl_Lex.nx k xs o (i : Int) 2) R := by
  obtain ⟨hlt, hrd, hr⟩ := rd_drop xs i c r hcr
  have f0 : ¬ (i : Int) = (xs.length : Int) := by omega
  have f1 : (i : Int) < (xs.length : Int) := by omega
  have f2 : 0 ≤ (i : Int) := by omega
  have bn : i ≤ 1073741824 := by omega
  have f3 : 0 ≤ ((i + 1 : Nat) : Int) := by omega
  have hcb : 0 ≤ c ∧ c ≤ 255 := by
    have := rd_bounds xs hb i hlt
    rw [hrd] at this; exact this
  have hcl : (c :: r).length = xs.length - i := by rw [← hcr, List.length_drop]
  have w1 := wrap1 i bn
  by_cases hs : spB c = true
  · refine Ev.step (fun k => ?_) (h1 hs)
    simp only [impl_Lex.nx, if_neg f0, if_pos f1, if_pos f2, hrd, w1]
    rcases of_decide_eq_true hs with a | a | a | a <;> subst a <;> simp only [Int.reduceEq, if_true, if_false]
  have hs : spB c = false := by simpa using hs
  have hs0 : ¬ (c = 32 ∨ c = 9 ∨ c = 13 ∨ c = 10) := by simpa [spB] using hs
  have n1 : ¬ c = 32 := by omega
  have n2 : ¬ c = 9 := by omega
  have n3 : ¬ c = 13 := by omega
  have n4 : ¬ c = 10 := by omega
  by_cases hcm : c = 45 ∧ r.head? = some 45
  · obtain ⟨rfl, hh⟩ := hcm
    have hr2 : ((i + 1 : Nat) : Int) < (xs.length : Int) ∧ rd xs ((i + 1 : Nat) : Int) = 45 := by
      cases r with
      | nil => cases hh
      | cons e r =>
        have := rd_drop xs (i + 1) e r hr
        simp at hh
        exact ⟨by omega, by rw [this.2.1, hh]⟩
    refine Ev.step (fun k => ?_) (impl_cm xs hn o 2 R (xs.length - i) i rfl (by omega) (by rw [hcr]; exact h2 rfl hh))
    simp only [impl_Lex.nx, if_neg f0, if_pos f1, if_pos f2, hrd, w1, Int.reduceEq, if_true, if_false, if_pos hr2.1, if_pos f3, hr2.2]
  replace h3 := h3 hs hcm
  replace h4 := h4 hs hcm
  clear h1 h2
  -- a sign
  have one : letB c = false → digB c = false → ¬ (c = 34 ∨ c = 39) → sg2 c r = false → sg1 c = true → Ev (fun k => impl_Lex.sg k xs o (i : Int) (i : Int) 2) R := by
    intro a b d e f
    have et : tok (c :: r) = (5, 1, 0) := by
      rw [tok_cons]; unfold sgOf; simp only [a, b, if_neg d, e, f, Bool.false_eq_true, if_false, if_true]
    rw [et] at h3
    exact impl_sg xs o ho i (by omega) 2 R (h3 rfl)
  have two : letB c = false → digB c = false → ¬ (c = 34 ∨ c = 39) → sg2 c r = true → Ev (fun k => impl_Lex.db k xs o (i : Int) (i : Int) 2) R := by
    intro a b d e
    have et : tok (c :: r) = (5, 2, 0) := by
      rw [tok_cons]; unfold sgOf; simp only [a, b, if_neg d, e, Bool.false_eq_true, if_false, if_true]
    have hl := tok_len (c :: r) (by simp) (by rw [et])
    rw [et] at h3 hl
    obtain ⟨n, e1, _, e2⟩ := hl
    exact impl_db xs o ho i (by simp at e1; omega) 2 R (h3 rfl)
  have none_ : letB c = false → digB c = false → ¬ (c = 34 ∨ c = 39) → sg2 c r = false → sg1 c = false → Ev (fun _ => some (([] : List S38), (2 : Int), (i : Int))) R := by
    intro a b d e f
    have et : tok (c :: r) = (0, 0, 2) := by
      rw [tok_cons]; unfold sgOf; simp only [a, b, if_neg d, e, f, Bool.false_eq_true, if_false]
    rw [et] at h4
    rw [h4 (by simp)]
    exact Ev.now _
  -- what stands behind
  have head : (r = [] ∧ ¬ ((i + 1 : Nat) : Int) < (xs.length : Int)) ∨ (∃ e r2, r = e :: r2 ∧ ((i + 1 : Nat) : Int) < (xs.length : Int) ∧ rd xs ((i + 1 : Nat) : Int) = e) := by
    cases hr0 : r with
    | nil =>
      left
      rw [hr0] at hcl
      simp at hcl
      exact ⟨rfl, by omega⟩
    | cons e r2 =>
      right
      rw [hr0] at hr
      have := rd_drop xs (i + 1) e r2 hr
      exact ⟨e, r2, rfl, by omega, this.2.1⟩
  by_cases k45 : c = 45
  · subst k45
    have g := one (by decide) (by decide) (by decide) (by simp [sg2]) (by decide)
    rcases head with ⟨h, hlen⟩ | ⟨e, r2, h, hlen, hre⟩
    · refine Ev.step (fun k => ?_) g
      simp only [impl_Lex.nx, if_neg f0, if_pos f1, if_pos f2, hrd, w1, Int.reduceEq, if_true, if_false, if_neg hlen]
    · have he : ¬ e = 45 := fun a => hcm ⟨rfl, by rw [h, a]; rfl⟩
      refine Ev.step (fun k => ?_) g
      simp only [impl_Lex.nx, if_neg f0, if_pos f1, if_pos f2, hrd, w1, Int.reduceEq, if_true, if_false, if_pos hlen, if_pos f3, hre, if_neg he]
  by_cases keq : c = 61 ∨ c = 60 ∨ c = 62
  · have g1 : sg2 c r = false → Ev (fun k => impl_Lex.sg k xs o (i : Int) (i : Int) 2) R := by
      intro hsg
      rcases keq with a | a | a <;> subst a <;> exact one (by decide) (by decide) (by decide) hsg (by decide)
    have g2 : sg2 c r = true → Ev (fun k => impl_Lex.db k xs o (i : Int) (i : Int) 2) R := by
      intro hsg
      rcases keq with a | a | a <;> subst a <;> exact two (by decide) (by decide) (by decide) hsg
    rcases head with ⟨h, hlen⟩ | ⟨e, r2, h, hlen, hre⟩
    · refine Ev.step (fun k => ?_) (g1 (by rw [h]; simp [sg2]))
      rcases keq with a | a | a <;> subst a <;> simp only [impl_Lex.nx, if_neg f0, if_pos f1, if_pos f2, hrd, w1, Int.reduceEq, if_true, if_false, if_neg hlen]
    · by_cases he : e = 61
      · refine Ev.step (fun k => ?_) (g2 (by rw [h, he]; rcases keq with a | a | a <;> subst a <;> simp [sg2]))
        rcases keq with a | a | a <;> subst a <;> simp only [impl_Lex.nx, if_neg f0, if_pos f1, if_pos f2, hrd, w1, Int.reduceEq, if_true, if_false, if_pos hlen, if_pos f3, hre, if_pos he]
      · refine Ev.step (fun k => ?_) (g1 (by rw [h]; rcases keq with a | a | a <;> subst a <;> simp [sg2, he]))
        rcases keq with a | a | a <;> subst a <;> simp only [impl_Lex.nx, if_neg f0, if_pos f1, if_pos f2, hrd, w1, Int.reduceEq, if_true, if_false, if_pos hlen, if_pos f3, hre, if_neg he]
  by_cases k126 : c = 126
  · subst k126
    rcases head with ⟨h, hlen⟩ | ⟨e, r2, h, hlen, hre⟩
    · refine Ev.step (fun k => ?_) (none_ (by decide) (by decide) (by decide) (by rw [h]; simp [sg2]) (by decide))
      simp only [impl_Lex.nx, if_neg f0, if_pos f1, if_pos f2, hrd, w1, Int.reduceEq, if_true, if_false, if_neg hlen]
    · by_cases he : e = 61
      · refine Ev.step (fun k => ?_) (two (by decide) (by decide) (by decide) (by rw [h, he]; simp [sg2]))
        simp only [impl_Lex.nx, if_neg f0, if_pos f1, if_pos f2, hrd, w1, Int.reduceEq, if_true, if_false, if_pos hlen, if_pos f3, hre, if_pos he]
      · refine Ev.step (fun k => ?_) (none_ (by decide) (by decide) (by decide) (by rw [h]; simp [sg2, he]) (by decide))
        simp only [impl_Lex.nx, if_neg f0, if_pos f1, if_pos f2, hrd, w1, Int.reduceEq, if_true, if_false, if_pos hlen, if_pos f3, hre, if_neg he]
  by_cases k47 : c = 47
  · subst k47
    rcases head with ⟨h, hlen⟩ | ⟨e, r2, h, hlen, hre⟩
    · refine Ev.step (fun k => ?_) (none_ (by decide) (by decide) (by decide) (by rw [h]; simp [sg2]) (by decide))
      simp only [impl_Lex.nx, if_neg f0, if_pos f1, if_pos f2, hrd, w1, Int.reduceEq, if_true, if_false, if_neg hlen]
    · by_cases he : e = 47
      · refine Ev.step (fun k => ?_) (two (by decide) (by decide) (by decide) (by rw [h, he]; simp [sg2]))
        simp only [impl_Lex.nx, if_neg f0, if_pos f1, if_pos f2, hrd, w1, Int.reduceEq, if_true, if_false, if_pos hlen, if_pos f3, hre, if_pos he]
      · refine Ev.step (fun k => ?_) (none_ (by decide) (by decide) (by decide) (by rw [h]; simp [sg2, he]) (by decide))
        simp only [impl_Lex.nx, if_neg f0, if_pos f1, if_pos f2, hrd, w1, Int.reduceEq, if_true, if_false, if_pos hlen, if_pos f3, hre, if_neg he]
  by_cases k46 : c = 46
  · subst k46
    rcases head with ⟨h, hlen⟩ | ⟨e, r2, h, hlen, hre⟩
    · refine Ev.step (fun k => ?_) (one (by decide) (by decide) (by decide) (by rw [h]; simp [sg2]) (by decide))
      simp only [impl_Lex.nx, if_neg f0, if_pos f1, if_pos f2, hrd, w1, Int.reduceEq, if_true, if_false, if_neg hlen]
    · by_cases he : e = 46
      · refine Ev.step (fun k => ?_) (two (by decide) (by decide) (by decide) (by rw [h, he]; simp [sg2]))
        simp only [impl_Lex.nx, if_neg f0, if_pos f1, if_pos f2, hrd, w1, Int.reduceEq, if_true, if_false, if_pos hlen, if_pos f3, hre, if_pos he]
      · refine Ev.step (fun k => ?_) (one (by decide) (by decide) (by decide) (by rw [h]; simp [sg2, he]) (by decide))
        simp only [impl_Lex.nx, if_neg f0, if_pos f1, if_pos f2, hrd, w1, Int.reduceEq, if_true, if_false, if_pos hlen, if_pos f3, hre, if_neg he]
  have k61 : ¬ c = 61 := fun a => keq (.inl a)
  have k60 : ¬ c = 60 := fun a => keq (.inr (.inl a))
  have k62 : ¬ c = 62 := fun a => keq (.inr (.inr a))
  -- runs, texts and the rest
  clear head
  have hrl := runN_le (c :: r)
  obtain ⟨n, hnn⟩ : ∃ n, n = runN (c :: r) := ⟨_, rfl⟩
  rw [← hnn] at hrl
  have g3 : (i : Int) ≤ ((i + n : Nat) : Int) := Int.ofNat_le.2 (Nat.le_add_right i n)
  have g4n : i + n ≤ xs.length := by clear h3 h4 one two none_; omega
  have g4 : ((i + n : Nat) : Int) ≤ (xs.length : Int) := Int.ofNat_le.2 g4n
  have g4m : i + n ≤ 6000 := Nat.le_trans g4n hn
  have hsl : ((xs.take ((i + n : Nat) : Int).toNat).drop ((i : Int)).toNat) = (c :: r).take n := by
    rw [Int.toNat_natCast, Int.toNat_natCast, slice_eq, hcr]
  have halw : ∀ x ∈ (c :: r).take n, alB x = true := by rw [hnn]; exact runN_take (c :: r)
  by_cases hl : letB c = true
  · have et : tok (c :: r) = (if isKw (strOfNums ((c :: r).take n)) = true then 4 else 1, (n : Int), 0) := by
      rw [tok_cons, if_pos hl, ← hnn, isKw_word _ halw]
      split <;> simp_all
    rw [et] at h3
    have key := impl_tk xs o ho i n g4m (if isKw (strOfNums ((c :: r).take n)) = true then 4 else 1) 2 R (h3 rfl)
    have ke : Ev (fun k => rnEnd k xs o ((i + runN (xs.drop i) : Nat) : Int) (i : Int) 1 2) R := by
      refine Ev.congr (fun k => ?_) key
      rw [hcr, ← hnn]
      simp only [rnEnd, Int.reduceEq, if_false, if_pos f2, if_pos g3, if_pos g4, hsl]
      split <;> rfl
    refine Ev.step (fun k => ?_) (impl_rn xs hn o (i : Int) 1 2 R (xs.length - i) i rfl (by omega) ke)
    simp only [impl_Lex.nx, if_neg f0, if_pos f1, if_pos f2, hrd, if_neg n1, if_neg n2, if_neg n3, if_neg n4, if_neg k45, if_neg k61, if_neg k60, if_neg k62, if_neg k126, if_neg k47, if_neg k46, implLetter, Option.bind_some, if_pos hl]
  by_cases hd : digB c = true
  · have et : tok (c :: r) = (2, (n : Int), (scanOf ((c :: r).take n)).2) := by
      rw [tok_cons, if_neg hl, if_pos hd, ← hnn]
    rw [et] at h3 h4
    have hsc := impl_scan_ev ((c :: r).take n) (fun x hx => by
        have := List.mem_of_mem_take hx
        rw [← hcr] at this
        exact hb x (List.mem_of_mem_drop this)) (by have := List.length_take_le n (c :: r); omega)
    have ke : Ev (fun k => rnEnd k xs o ((i + runN (xs.drop i) : Nat) : Int) (i : Int) 2 2) R := by
      refine Ev.congr (f := fun k => (impl_ScanInt.f k ((c :: r).take n)).bind fun v => if v.2 = 0 then (impl_Lex.tk k xs o ((i + n : Nat) : Int) (i : Int) 2 2) else (some (([] : List S38), v.2, (i : Int)))) (fun k => ?_) (Ev.bind hsc ?_)
      · rw [hcr, ← hnn]
        simp only [rnEnd, if_true, if_pos f2, if_pos g3, if_pos g4, hsl]
      · by_cases h0 : (scanOf ((c :: r).take n)).2 = 0
        · simp only [if_pos h0]
          rw [h0] at h3
          exact impl_tk xs o ho i n g4m 2 2 R (h3 rfl)
        · simp only [if_neg h0]
          rw [h4 h0]
          exact Ev.now _
    refine Ev.step (fun k => ?_) (impl_rn xs hn o (i : Int) 2 2 R (xs.length - i) i rfl (by omega) ke)
    simp only [impl_Lex.nx, if_neg f0, if_pos f1, if_pos f2, hrd, if_neg n1, if_neg n2, if_neg n3, if_neg n4, if_neg k45, if_neg k61, if_neg k60, if_neg k62, if_neg k126, if_neg k47, if_neg k46, implLetter, implDigit, Option.bind_some, if_neg hl, if_pos hd]
  have f5 : (i : Int) ≤ (xs.length : Int) := by omega
  by_cases hq : c = 34 ∨ c = 39
  · have et : tok (c :: r) = if (litOf (c :: r)).2 = 0 then (0, 0, 2) else (3, (litOf (c :: r)).2, 0) := by
      rw [tok_cons, if_neg hl, if_neg hd, if_pos hq]
    have hlit := impl_lit_ev (c :: r) (fun x hx => hb x (by rw [← hcr] at hx; exact List.mem_of_mem_drop hx)) (by omega)
    have hll := litOf_length (c :: r)
    have hdr : xs.drop ((i : Int)).toNat = c :: r := by rw [Int.toNat_natCast]; exact hcr
    have ke : Ev (fun k => (impl_literal.f k (c :: r)).bind fun v => if v.2 = 0 then (some (([] : List S38), (2 : Int), (i : Int))) else (impl_Lex.tk k xs o (wrap64 ((i : Int) + v.2)) (i : Int) 3 2)) R := by
      refine Ev.bind hlit ?_
      by_cases h0 : (litOf (c :: r)).2 = 0
      · simp only [if_pos h0]
        rw [et, if_pos h0] at h4
        rw [h4 (by simp)]
        exact Ev.now _
      · simp only [if_neg h0]
        rw [et, if_neg h0] at h3
        obtain ⟨m, hm⟩ : ∃ m : Nat, (litOf (c :: r)).2 = (m : Int) := ⟨(litOf (c :: r)).2.toNat, by omega⟩
        rw [hm] at h3 ⊢
        rw [wrapn i m (by omega)]
        exact impl_tk xs o ho i m (by omega) 3 2 R (h3 rfl)
    refine Ev.step (fun k => ?_) ke
    rcases hq with a | a <;> subst a <;> simp only [impl_Lex.nx, if_neg f0, if_pos f1, if_pos f2, if_pos f5, hrd, hdr, Int.reduceEq, if_false, if_true, implLetter, implDigit, Option.bind_some, if_neg hl, if_neg hd]
  have q1 : ¬ c = 34 := fun a => hq (.inl a)
  have q2 : ¬ c = 39 := fun a => hq (.inr a)
  have hl0 : letB c = false := by simpa using hl
  have hd0 : digB c = false := by simpa using hd
  have e2 : sg2 c r = false := by simp [sg2, k61, k126, k60, k62, k47, k46]
  have e1 : sg1 c = sgb c := by
    rw [sgb_eq c hcb.1 hcb.2]
    unfold sg1
    rw [decide_eq_decide]
    omega
  by_cases hg : sgb c = true
  · refine Ev.step (fun k => ?_) (one hl0 hd0 hq e2 (by rw [e1, hg]))
    simp only [impl_Lex.nx, if_neg f0, if_pos f1, if_pos f2, hrd, if_neg n1, if_neg n2, if_neg n3, if_neg n4, if_neg k45, if_neg k61, if_neg k60, if_neg k62, if_neg k126, if_neg k47, if_neg k46, implLetter, implDigit, Option.bind_some, if_neg hl, if_neg hd, if_neg q1, if_neg q2, if_pos hg]
  · refine Ev.step (fun k => ?_) (none_ hl0 hd0 hq e2 (by rw [e1]; simpa using hg))
    simp only [impl_Lex.nx, if_neg f0, if_pos f1, if_pos f2, hrd, if_neg n1, if_neg n2, if_neg n3, if_neg n4, if_neg k45, if_neg k61, if_neg k60, if_neg k62, if_neg k126, if_neg k47, if_neg k46, implLetter, implDigit, Option.bind_some, if_neg hl, if_neg hd, if_neg q1, if_neg q2, if_neg hg]
/-- From any place on both answer the same. -/
theorem lex_both (xs : List Int) (hb : ∀ x ∈ xs, 0 ≤ x ∧ x ≤ 255) (hn : xs.length ≤ 6000) (d : Nat) : ∀ (i : Nat) (o : List S38), xs.length - i ≤ d → i ≤ xs.length → o.length ≤ i →
    ∃ R : List S38 × Int × Int, R.1.length ≤ xs.length ∧ Ev (fun k => impl_Lex.nx k xs o (i : Int) 2) R ∧ Ev (fun k => spec_Lex.l0 k xs o (i : Int)) R := by
  have fin : ∀ o : List S38, o.length ≤ xs.length → ∃ R : List S38 × Int × Int, R.1.length ≤ xs.length ∧ Ev (fun k => impl_Lex.nx k xs o (xs.length : Int) 2) R ∧ Ev (fun k => spec_Lex.l0 k xs o (xs.length : Int)) R := by
    intro o ho
    refine ⟨(o, 0, 0), ho, ?_, ?_⟩
    · refine Ev.step (f := fun _ => some (o, 0, 0)) (fun k => ?_) (Ev.now _)
      simp only [impl_Lex.nx, if_true]
    · refine Ev.step (f := fun _ => some (o, 0, 0)) (fun k => ?_) (Ev.now _)
      simp only [spec_Lex.l0, if_neg (Int.lt_irrefl _)]
  induction d with
  | zero =>
    intro i o hd hi ho
    have : i = xs.length := by omega
    subst this
    exact fin o ho
  | succ d ih =>
    intro i o hd hi ho
    by_cases hlt : i < xs.length
    · obtain ⟨c, r, hcr⟩ : ∃ c r, xs.drop i = c :: r := ⟨_, _, List.drop_eq_getElem_cons hlt⟩
      have hcl : (c :: r).length = xs.length - i := by rw [← hcr, List.length_drop]
      by_cases hs : spB c = true
      · obtain ⟨R, hR, a, b⟩ := ih (i + 1) o (by omega) (by omega) (by omega)
        have e45 : ¬ c = 45 := by
          intro e; subst e; simp [spB] at hs
        exact ⟨R, hR, impl_round xs hb hn o (by omega) i c r hcr R (fun _ => a) (fun e => absurd e e45) (fun e => by rw [hs] at e; cases e) (fun e => by rw [hs] at e; cases e), spec_round xs hb hn o (by omega) i c r hcr R (fun _ => b) (fun e => absurd e e45) (fun e => by rw [hs] at e; cases e) (fun e => by rw [hs] at e; cases e)⟩
      · by_cases hcm : c = 45 ∧ r.head? = some 45
        · have hcn := cmN_le (c :: r)
          have hc1 : 1 ≤ cmN (c :: r) := by rw [hcm.1]; simp [cmN]
          obtain ⟨R, hR, a, b⟩ := ih (i + cmN (c :: r)) o (by omega) (by omega) (by omega)
          exact ⟨R, hR, impl_round xs hb hn o (by omega) i c r hcr R (fun e => absurd e hs) (fun _ _ => a) (fun _ e => absurd hcm e) (fun _ e => absurd hcm e), spec_round xs hb hn o (by omega) i c r hcr R (fun e => absurd e hs) (fun _ _ => b) (fun _ e => absurd hcm e) (fun _ e => absurd hcm e)⟩
        · by_cases h0 : (tok (c :: r)).2.2 = 0
          · obtain ⟨n, hn1, hn2, hn3⟩ := tok_len (c :: r) (by simp) h0
            obtain ⟨R, hR, a, b⟩ := ih (i + n) (o ++ [(⟨(tok (c :: r)).1, (i : Int), (tok (c :: r)).2.1⟩ : S38)]) (by omega) (by omega) (by simp; omega)
            have e : ((i + n : Nat) : Int) = (i : Int) + (tok (c :: r)).2.1 := by rw [hn1]; omega
            rw [e] at a b
            exact ⟨R, hR, impl_round xs hb hn o (by omega) i c r hcr R (fun e => absurd e hs) (fun e1 e2 => absurd ⟨e1, e2⟩ hcm) (fun _ _ _ => a) (fun _ _ e => absurd h0 e), spec_round xs hb hn o (by omega) i c r hcr R (fun e => absurd e hs) (fun e1 e2 => absurd ⟨e1, e2⟩ hcm) (fun _ _ _ => b) (fun _ _ e => absurd h0 e)⟩
          · refine ⟨([], (tok (c :: r)).2.2, (i : Int)), by simp, ?_, ?_⟩
            · exact impl_round xs hb hn o (by omega) i c r hcr _ (fun e => absurd e hs) (fun e1 e2 => absurd ⟨e1, e2⟩ hcm) (fun _ _ e => absurd e h0) (fun _ _ _ => rfl)
            · exact spec_round xs hb hn o (by omega) i c r hcr _ (fun e => absurd e hs) (fun e1 e2 => absurd ⟨e1, e2⟩ hcm) (fun _ _ e => absurd e h0) (fun _ _ _ => rfl)
    · have : i = xs.length := by omega
      subst this
      exact fin o ho
theorem lex_ev (xs : List Int) (hb : ∀ x ∈ xs, 0 ≤ x ∧ x ≤ 255) : ∃ R : List S38 × Int × Int, R.1.length ≤ 6000 ∧ Ev (fun k => impl_Lex.f k xs) R ∧ Ev (fun k => spec_Lex.f k xs) R := by
  by_cases hn : (xs.length : Int) > 6000
  · refine ⟨([], 4, 6000), by simp, Ev.congr (fun k => ?_) (Ev.now _), Ev.congr (fun k => ?_) (Ev.now _)⟩
    · unfold impl_Lex.f; rw [if_pos hn]
    · unfold spec_Lex.f; rw [if_pos hn]
  · obtain ⟨R, hR, a, b⟩ := lex_both xs hb (by omega) xs.length 0 [] (by omega) (by omega) (by simp)
    refine ⟨R, by omega, Ev.congr (fun k => ?_) a, Ev.congr (fun k => ?_) b⟩
    · unfold impl_Lex.f; rw [if_neg hn]; rfl
    · unfold spec_Lex.f; rw [if_neg hn]; rfl

end Go.Proofs.Ytchfdpmkgjblgaa.Pure
