/- FnExactQuoteText: for every list of bytes QuoteText of the program answers what the reference's answers, in memory of its own; no condition. -/
import Derived.Test.YtchfdpmkgjblgaaQ3
namespace Go.Proofs.Ytchfdpmkgjblgaa.Pure
open Go.RowKit Go.Proofs.Ytchfdpmkgjblgaa.PFnExactQuoteText Go.Proofs.YtchfdpmkgjblgaaW.PrintWords Go.Proofs.YtchfdpmkgjblgaaW.PrintLast
/-! ### the law's own helpers over bytes: copies, comparison, marks -/
theorem lit_u8 {x : Int} (h : (Lit.int .u8 x).wf = true) : 0 ≤ x ∧ x ≤ 255 := by
  have h2 := h
  simp [Lit.wf] at h2
  have e1 : IntKind.u8.min = 0 := rfl
  have e2 : IntKind.u8.max = 255 := rfl
  omega
theorem rd_nat (xs : List Int) (i : Nat) (h : i < xs.length) : rd xs (i : Int) = xs[i] := by
  simp [rd, List.getD_eq_getElem?_getD, h]
theorem wrap_succ {i n : Nat} (h : i < n) (hn : n ≤ 1073741824) : wrap64 ((i : Int) + 1) = ((i + 1 : Nat) : Int) := by
  unfold wrap64; omega

theorem toByteS_loop (xs : List Int) (hn : xs.length ≤ 1073741824) (d : Nat) : ∀ (i : Nat) (ys : List Int), xs.length - i = d → i ≤ xs.length → ys.length = xs.length → ys.take i = xs.take i →
    Ev (fun k => laws_toByteS.l0 k xs ys (i : Int)) xs := by
  induction d with
  | zero =>
    intro i ys hd hi hl ht
    have hi2 : i = xs.length := by omega
    have : ys = xs := by
      rw [List.take_of_length_le (by omega), List.take_of_length_le (by omega)] at ht
      exact ht
    subst this
    refine Ev.step (f := fun _ => some ys) (fun k => ?_) (Ev.now _)
    simp only [laws_toByteS.l0]
    rw [if_neg (by omega)]
  | succ d ih =>
    intro i ys hd hi hl ht
    have hlt : i < xs.length := by omega
    refine Ev.step (f := fun k => laws_toByteS.l0 k xs (ys.set i xs[i]) ((i + 1 : Nat) : Int)) (fun k => ?_) (ih (i + 1) (ys.set i xs[i]) (by omega) (by omega) (by simpa using hl) ?_)
    · simp only [laws_toByteS.l0]
      rw [if_pos (by omega), if_pos (by omega), if_pos (by omega), rd_nat xs i hlt, wrap_succ hlt hn]
      simp
    · apply List.ext_getElem?
      intro j
      simp only [List.getElem?_take, List.getElem?_set]
      have htj := congrArg (fun l => l[j]?) ht
      simp only [List.getElem?_take] at htj
      by_cases h1 : j < i + 1
      · rw [if_pos h1, if_pos h1]
        by_cases h2 : i = j
        · subst h2
          rw [if_pos rfl, if_pos (by omega)]
          simp [hlt]
        · rw [if_neg h2]
          rw [if_pos (by omega), if_pos (by omega)] at htj
          exact htj
      · rw [if_neg h1, if_neg h1]
theorem toByteS_ev (xs : List Int) (hn : xs.length ≤ 1073741824) : Ev (fun k => laws_toByteS.f k xs) xs := by
  refine Ev.congr (fun k => ?_) (toByteS_loop xs hn xs.length 0 (List.replicate xs.length 0) (by omega) (by omega) (by simp) (by simp))
  unfold laws_toByteS.f
  rw [if_pos (by omega), if_pos (by omega)]
  simp

theorem eqByteS_loop (xs : List Int) (hn : xs.length ≤ 1073741824) (d : Nat) : ∀ (i : Nat), xs.length - i = d → i ≤ xs.length → Ev (fun k => laws_eqByteS.l0 k xs xs (i : Int)) true := by
  induction d with
  | zero =>
    intro i hd hi
    refine Ev.step (f := fun _ => some true) (fun k => ?_) (Ev.now _)
    simp only [laws_eqByteS.l0]
    rw [if_neg (by omega)]
  | succ d ih =>
    intro i hd hi
    have hlt : i < xs.length := by omega
    refine Ev.step (f := fun k => laws_eqByteS.l0 k xs xs ((i + 1 : Nat) : Int)) (fun k => ?_) (ih (i + 1) (by omega) (by omega))
    simp only [laws_eqByteS.l0]
    rw [if_pos (by omega), if_pos (by omega), if_pos (by omega), if_pos trivial, wrap_succ hlt hn]
theorem eqByteS_ev (xs : List Int) (hn : xs.length ≤ 1073741824) : Ev (fun k => laws_eqByteS.f k xs xs) true := by
  refine Ev.congr (fun k => ?_) (eqByteS_loop xs hn xs.length 0 (by omega) (by omega))
  unfold laws_eqByteS.f
  rw [if_pos rfl]
  rfl
/-- The marks that the law lays: 1, 2, .. modulo 256. -/
def marks (n : Nat) : List Int := (List.range n).map fun (j : Nat) => ((j : Int) + 1) % 256
theorem marks_length (n : Nat) : (marks n).length = n := by simp [marks]
theorem marks_get (n i : Nat) (h : i < n) : (marks n)[i]? = some (((i : Int) + 1) % 256) := by simp [marks, h]
theorem markByteS_loop (n : Nat) (hn : n ≤ 1073741824) (d : Nat) : ∀ (i : Nat) (xs : List Int), n - i = d → i ≤ n → xs.length = n → xs.take i = (marks n).take i →
    Ev (fun k => laws_markByteS.l0 k xs ((i : Int) + 1) (i : Int)) ((n : Int) + 1, marks n) := by
  induction d with
  | zero =>
    intro i xs hd hi hl ht
    have hi2 : i = n := by omega
    have : xs = marks n := by
      rw [List.take_of_length_le (by omega), List.take_of_length_le (by rw [marks_length]; omega)] at ht
      exact ht
    subst hi2
    subst this
    refine Ev.step (f := fun _ => some ((i : Int) + 1, marks i)) (fun k => ?_) (Ev.now _)
    simp only [laws_markByteS.l0]
    rw [if_neg (by omega)]
  | succ d ih =>
    intro i xs hd hi hl ht
    have hlt : i < n := by omega
    refine Ev.step (f := fun k => laws_markByteS.l0 k (xs.set i (((i : Int) + 1) % 256)) (((i + 1 : Nat) : Int) + 1) ((i + 1 : Nat) : Int)) (fun k => ?_) (ih (i + 1) _ (by omega) (by omega) (by simpa using hl) ?_)
    · simp only [laws_markByteS.l0]
      rw [if_pos (by omega), if_pos (by omega), wrap_succ hlt hn, show wrap64 ((i : Int) + 1 + 1) = ((i + 1 : Nat) : Int) + 1 by unfold wrap64; omega]
      simp
    · apply List.ext_getElem?
      intro j
      simp only [List.getElem?_take, List.getElem?_set]
      have htj := congrArg (fun l => l[j]?) ht
      simp only [List.getElem?_take] at htj
      by_cases h1 : j < i + 1
      · rw [if_pos h1, if_pos h1]
        by_cases h2 : i = j
        · subst h2
          rw [if_pos rfl, if_pos (by omega), marks_get n i hlt]
        · rw [if_neg h2]
          rw [if_pos (by omega), if_pos (by omega)] at htj
          exact htj
      · rw [if_neg h1, if_neg h1]
theorem markByteS_ev (xs : List Int) (hn : xs.length ≤ 1073741824) : Ev (fun k => laws_markByteS.f k xs 1) ((xs.length : Int) + 1, marks xs.length) := by
  refine Ev.congr (fun k => ?_) (markByteS_loop xs.length hn xs.length 0 xs (by omega) (by omega) rfl (by simp))
  unfold laws_markByteS.f
  rfl
theorem heldByteS_loop (n : Nat) (hn : n ≤ 1073741824) (d : Nat) : ∀ (i : Nat), n - i = d → i ≤ n → Ev (fun k => laws_heldByteS.l0 k (marks n) ((i : Int) + 1) (i : Int)) ((n : Int) + 1) := by
  induction d with
  | zero =>
    intro i hd hi
    have hi2 : i = n := by omega
    subst hi2
    refine Ev.step (f := fun _ => some ((i : Int) + 1)) (fun k => ?_) (Ev.now _)
    simp only [laws_heldByteS.l0, marks_length]
    rw [if_neg (by omega)]
  | succ d ih =>
    intro i hd hi
    have hlt : i < n := by omega
    refine Ev.step (f := fun k => laws_heldByteS.l0 k (marks n) (((i + 1 : Nat) : Int) + 1) ((i + 1 : Nat) : Int)) (fun k => ?_) (ih (i + 1) (by omega) (by omega))
    simp only [laws_heldByteS.l0, marks_length]
    have hr : rd (marks n) (i : Int) = ((i : Int) + 1) % 256 := by
      simp [rd, List.getD_eq_getElem?_getD, marks_get n i hlt]
    rw [if_pos (by omega), if_pos (by omega), if_pos hr, wrap_succ hlt hn, show wrap64 ((i : Int) + 1 + 1) = ((i + 1 : Nat) : Int) + 1 by unfold wrap64; omega]
theorem heldByteS_ev (n : Nat) (hn : n ≤ 1073741824) : Ev (fun k => laws_heldByteS.f k (marks n) 1) ((n : Int) + 1) := by
  refine Ev.congr (fun k => ?_) (heldByteS_loop n hn n 0 (by omega) (by omega))
  unfold laws_heldByteS.f
  rfl

abbrev HEX : ByteArray := ⟨#[48, 49, 50, 51, 52, 53, 54, 55, 56, 57, 97, 98, 99, 100, 101, 102]⟩
def qch (c : Int) : List Int :=
  if c = 10 then [92, 110] else if c = 9 then [92, 116] else if c = 34 ∨ c = 92 then [92, c]
  else if c < 32 ∨ c > 126 then [92, 120, bt HEX (c / 16), bt HEX (c % 16)] else [c]
theorem qch_length (c : Int) : (qch c).length ≤ 4 := by unfold qch; repeat' (first | split | simp)
theorem drop_cons (xs : List Int) (i : Nat) (h : i < xs.length) : xs.drop i = xs[i] :: xs.drop (i + 1) := by
  rw [List.drop_eq_getElem_cons h]
theorem hexsize : ((HEX.size : Nat) : Int) = 16 := rfl

theorem spec_loop (xs : List Int) (hb : ∀ x ∈ xs, 0 ≤ x ∧ x ≤ 255) (hn : xs.length ≤ 1073741824) (d : Nat) : ∀ (i : Nat) (acc : List Int), xs.length - i = d → i ≤ xs.length → acc.length ≤ 1 + 4 * i →
    Ev (fun k => spec_QuoteText.l0 k xs HEX acc (i : Int)) (acc ++ (xs.drop i).flatMap qch ++ [34]) := by
  induction d with
  | zero =>
    intro i acc hd hi hl
    refine Ev.step (f := fun _ => some (acc ++ (xs.drop i).flatMap qch ++ [34])) (fun k => ?_) (Ev.now _)
    simp only [spec_QuoteText.l0]
    rw [if_neg (by omega), if_pos (by omega), List.drop_eq_nil_of_le (by omega)]
    simp
  | succ d ih =>
    intro i acc hd hi hl
    have hlt : i < xs.length := by omega
    obtain ⟨c, hc⟩ : ∃ c, c = xs[i] := ⟨_, rfl⟩
    have hcb := hb c (by rw [hc]; exact List.getElem_mem _)
    have hq := qch_length c
    have key := ih (i + 1) (acc ++ qch c) (by omega) (by omega) (by rw [List.length_append]; omega)
    rw [drop_cons xs i hlt, ← hc]
    have he : acc ++ (c :: xs.drop (i + 1)).flatMap qch ++ [34] = acc ++ qch c ++ (xs.drop (i + 1)).flatMap qch ++ [34] := by simp
    rw [he]
    have hrd : rd xs (i : Int) = c := by rw [rd_nat xs i hlt, hc]
    have hw := wrap_succ hlt hn
    have e1 : (Int.tdiv c 16) % 256 = c / 16 := by rw [Int.tdiv_eq_ediv_of_nonneg (by omega)]; omega
    have e2 : Int.tmod c 16 = c % 16 := Int.tmod_eq_emod_of_nonneg (by omega)
    by_cases h10 : c = 10
    · refine Ev.step (fun k => ?_) key
      simp only [spec_QuoteText.l0]
      rw [if_pos (by omega), if_pos (by omega), hrd, if_pos h10, Option.bind_some, if_pos (by simp; omega), hw]
      simp [qch, h10]
    by_cases h9 : c = 9
    · refine Ev.step (fun k => ?_) key
      simp only [spec_QuoteText.l0]
      rw [if_pos (by omega), if_pos (by omega), hrd, if_neg h10, if_pos h9, Option.bind_some, if_pos (by simp; omega), hw]
      simp [qch, h9]
    have hj : ∀ k, spec_QuoteText.l0 (k + 1) xs HEX acc (i : Int) = spec_QuoteText.j1 k xs HEX acc (i : Int) c (decide (c = 34 ∨ c = 92)) := by
      intro k
      simp only [spec_QuoteText.l0]
      rw [if_pos (by omega), if_pos (by omega), hrd, if_neg h10, if_neg h9]
      by_cases h34 : c = 34
      · rw [if_pos h34]; simp [h34]
      · rw [if_neg h34]; simp [h34, ← beq_iff_eq]
    refine Ev.step hj (Ev.step (fun k => ?_) key)
    simp only [spec_QuoteText.j1, e1, e2, hexsize]
    by_cases hqq : c = 34 ∨ c = 92
    · rw [if_pos (by simpa using hqq), Option.bind_some, if_pos (by simp; omega), hw]
      simp [qch, h10, h9, hqq]
    · rw [if_neg (by simpa using hqq)]
      by_cases h32 : c < 32
      · rw [if_pos h32, if_pos (by omega), if_pos (by omega), if_pos (by omega), if_pos (by omega), Option.bind_some, if_pos (by simp; omega), hw]
        simp [qch, h10, h9, hqq, h32]
      · rw [if_neg h32]
        by_cases h126 : c > 126
        · rw [if_pos h126, if_pos (by omega), if_pos (by omega), if_pos (by omega), if_pos (by omega), Option.bind_some, if_pos (by simp; omega), hw]
          simp [qch, h10, h9, hqq, h126]
        · rw [if_neg h126, if_pos (by omega), hw]
          simp [qch, h10, h9, hqq, h32, h126]
theorem spec_ev (xs : List Int) (hb : ∀ x ∈ xs, 0 ≤ x ∧ x ≤ 255) (hn : xs.length ≤ 1073741824) : Ev (fun k => spec_QuoteText.f k xs) ([34] ++ xs.flatMap qch ++ [34]) := by
  have := spec_loop xs hb hn xs.length 0 [34] (by omega) (by omega) (by simp)
  exact Ev.congr (fun k => rfl) this

theorem and15 (c : Int) (h0 : 0 ≤ c) (h1 : c ≤ 255) : Go.bits .and .u8 c 15 = c % 16 := by
  obtain ⟨n, rfl⟩ := Int.eq_ofNat_of_zero_le h0
  have : n < 256 := by omega
  have h2 : ∀ m : Fin 256, Go.bits .and .u8 ((m : Nat) : Int) 15 = ((m : Nat) : Int) % 16 := by decide +kernel
  exact h2 ⟨n, this⟩
theorem impl_loop (xs : List Int) (hb : ∀ x ∈ xs, 0 ≤ x ∧ x ≤ 255) (hn : xs.length ≤ 1073741824) (d : Nat) : ∀ (i : Nat) (acc : List Int), xs.length - i = d → i ≤ xs.length → acc.length ≤ 1 + 4 * i →
    Ev (fun k => impl_QuoteText.l0 k acc xs (xs.length : Int) (i : Int)) (acc ++ (xs.drop i).flatMap qch ++ [34]) := by
  induction d with
  | zero =>
    intro i acc hd hi hl
    refine Ev.step (f := fun _ => some (acc ++ (xs.drop i).flatMap qch ++ [34])) (fun k => ?_) (Ev.now _)
    simp only [impl_QuoteText.l0]
    rw [if_neg (by omega), if_pos (by omega), List.drop_eq_nil_of_le (by omega)]
    simp
  | succ d ih =>
    intro i acc hd hi hl
    have hlt : i < xs.length := by omega
    obtain ⟨c, hc⟩ : ∃ c, c = xs[i] := ⟨_, rfl⟩
    have hcb := hb c (by rw [hc]; exact List.getElem_mem _)
    have hq := qch_length c
    have key := ih (i + 1) (acc ++ qch c) (by omega) (by omega) (by rw [List.length_append]; omega)
    rw [drop_cons xs i hlt, ← hc]
    have he : acc ++ (c :: xs.drop (i + 1)).flatMap qch ++ [34] = acc ++ qch c ++ (xs.drop (i + 1)).flatMap qch ++ [34] := by simp
    rw [he]
    have hrd : rd xs (i : Int) = c := by rw [rd_nat xs i hlt, hc]
    have hw := wrap_succ hlt hn
    have e2 := and15 c hcb.1 hcb.2
    by_cases h10 : c = 10
    · refine Ev.step (fun k => ?_) key
      simp only [impl_QuoteText.l0]
      rw [if_pos (by omega), if_pos (by omega), if_pos (by omega), hrd, if_pos h10, if_pos (by omega), hw]
      simp [qch, h10, bytesOf]
    by_cases h9 : c = 9
    · refine Ev.step (fun k => ?_) key
      simp only [impl_QuoteText.l0]
      rw [if_pos (by omega), if_pos (by omega), if_pos (by omega), hrd, if_neg h10, if_pos h9, if_pos (by omega), hw]
      simp [qch, h9, bytesOf]
    have hj : ∀ k, impl_QuoteText.l0 (k + 1) acc xs (xs.length : Int) (i : Int) = impl_QuoteText.j1 k acc c xs (xs.length : Int) (i : Int) (decide (c = 34 ∨ c = 92)) := by
      intro k
      simp only [impl_QuoteText.l0]
      rw [if_pos (by omega), if_pos (by omega), if_pos (by omega), hrd, if_neg h10, if_neg h9]
      by_cases h34 : c = 34
      · rw [if_pos h34]; simp [h34]
      · rw [if_neg h34]; simp [h34, ← beq_iff_eq]
    refine Ev.step hj (Ev.step (fun k => ?_) key)
    simp only [impl_QuoteText.j1, e2]
    by_cases hqq : c = 34 ∨ c = 92
    · rw [if_pos (by simpa using hqq), Option.bind_some, if_pos (by simp; omega), hw]
      simp [qch, h10, h9, hqq]
    · rw [if_neg (by simpa using hqq)]
      by_cases h32 : c < 32
      · rw [if_pos h32, if_pos (by omega), if_pos (by omega), if_pos (by omega), if_pos (by omega), Option.bind_some, if_pos (by simp; omega), hw]
        simp [qch, h10, h9, hqq, h32]
      · rw [if_neg h32]
        by_cases h126 : c > 126
        · rw [if_pos h126, if_pos (by omega), if_pos (by omega), if_pos (by omega), if_pos (by omega), Option.bind_some, if_pos (by simp; omega), hw]
          simp [qch, h10, h9, hqq, h126]
        · rw [if_neg h126, if_pos (by omega), hw]
          simp [qch, h10, h9, hqq, h32, h126]
theorem impl_ev (xs : List Int) (hb : ∀ x ∈ xs, 0 ≤ x ∧ x ≤ 255) (hn : xs.length ≤ 1073741824) : Ev (fun k => impl_QuoteText.f k xs) ([34] ++ xs.flatMap qch ++ [34]) := by
  have := impl_loop xs hb hn xs.length 0 [34] (by omega) (by omega) (by simp)
  exact Ev.congr (fun k => rfl) this
theorem quoted_length (xs : List Int) : ([34] ++ xs.flatMap qch ++ [34]).length ≤ 4 * xs.length + 2 := by
  induction xs with
  | nil => simp
  | cons c r ih => have := qch_length c; simp [List.flatMap_cons] at ih ⊢; omega

/-- What QuoteText answers is as the reference's, and is memory of its own. -/
theorem FnExactQuoteText : laws_FnExactQuoteText.Pure := by
  intro xs _ _ hw
  refine Ev.rounds (g := fun k => laws_FnExactQuoteText.f k xs) ?_
  have hb : ∀ x ∈ xs, 0 ≤ x ∧ x ≤ 255 := fun x hx => lit_u8 (hw x hx)
  by_cases hbig : (xs.length : Int) > 1048576
  · refine Ev.congr (fun k => ?_) (Ev.now true)
    unfold laws_FnExactQuoteText.f
    rw [if_pos hbig]
  have hn : xs.length ≤ 1048576 := by omega
  have hql := quoted_length xs
  obtain ⟨q, hq⟩ : ∃ q, q = [34] ++ xs.flatMap qch ++ [34] := ⟨_, rfl⟩
  have hS := spec_ev xs hb (by omega)
  have hI := impl_ev xs hb (by omega)
  rw [← hq] at hS hI hql
  have hT := toByteS_ev xs (by omega)
  have hE := eqByteS_ev q (by omega)
  have hE2 := eqByteS_ev xs (by omega)
  have hM := markByteS_ev xs (by omega)
  have hM2 := markByteS_ev q (by omega)
  have hH := heldByteS_ev q.length (by omega)
  refine Ev.congr (f := fun k => _) (fun k => by unfold laws_FnExactQuoteText.f; rw [if_neg hbig]) ?_
  refine Ev.bind hT (Ev.bind hS (Ev.bind hT (Ev.bind hI (Ev.bind hE ?_))))
  simp only [if_true]
  refine Ev.bind hT (Ev.bind hE2 ?_)
  simp only [if_true]
  refine Ev.bind hM ?_
  simp only [if_neg (show ¬ ((xs.length : Int) + 1 < 0) by omega)]
  refine Ev.bind hE ?_
  refine Ev.step (fun k => by simp only [laws_FnExactQuoteText.j0, Bool.not_true, Bool.false_eq_true, if_false]; rfl) ?_
  refine Ev.bind hM2 (Ev.bind hH ?_)
  simp only [if_neg (show ¬ ((q.length : Int) + 1 < 0) by omega), if_true]
  refine Ev.bind hT (Ev.bind hI (Ev.bind hE ?_))
  simp only [if_true]
  refine Ev.bind hH ?_
  simp only [if_neg (show ¬ ((q.length : Int) + 1 < 0) by omega), if_true]
  exact Ev.now true

end Go.Proofs.Ytchfdpmkgjblgaa.Pure
