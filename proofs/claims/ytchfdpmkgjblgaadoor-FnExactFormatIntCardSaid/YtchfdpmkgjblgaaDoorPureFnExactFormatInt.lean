/- FnExactFormatInt: for every a FormatInt of the program answers what the reference's answers, in memory of its own. -/
import Derived.Test.YtchfdpmkgjblgaaDoorFx1
import Derived.Lib.ItoaLen
import Derived.Lib.ItoaMem
import Derived.Laws.Bits64
import Derived.IntWalk
namespace Go.Proofs.YtchfdpmkgjblgaaDoor.Pure
set_option linter.unusedVariables false
set_option linter.unusedSimpArgs false
open Go.RowKit Go.Proofs.YtchfdpmkgjblgaaDoor.F Go.Proofs.YtchfdpmkgjblgaaDoorW.PrintWords Go.Proofs.YtchfdpmkgjblgaaDoorW.PrintLast
/-! ### the law's own helpers over bytes: copies, comparison, marks -/
theorem lit_u8 {x : Int} (h : (Lit.int .u8 x).wf = true) : 0 ≤ x ∧ x ≤ 255 := by
  have h2 := h
  simp [Lit.wf] at h2
  have e1 : IntKind.u8.min = 0 := rfl
  have e2 : IntKind.u8.max = 255 := rfl
  omega
theorem rd_nat (xs : List Int) (i : Nat) (h : i < xs.length) : rd xs (i : Int) = xs[i] := by
  simp [rd, List.getD_eq_getElem?_getD, h]
theorem wrap_succ {i n : Nat} (h : i < n) (hn : n ≤ 1073741824) : wrap64 ((i : Int) + 1) = ((i + 1 : Nat) : Int) := by
  unfold wrap64; omega

theorem eqByteS_loop (xs : List Int) (hn : xs.length ≤ 1073741824) (d : Nat) : ∀ (i : Nat), xs.length - i = d → i ≤ xs.length → Ev (fun k => laws_eqByteS.l0 k xs xs (i : Int)) true := by
  induction d with
  | zero =>
    intro i hd hi
    refine Ev.step (f := fun _ => some true) (fun k => ?_) (Ev.now _)
    simp only [laws_eqByteS.l0]
    rw [if_neg (by omega)]
  | succ d ih =>
    intro i hd hi
    have hlt : i < xs.length := by omega
    refine Ev.step (f := fun k => laws_eqByteS.l0 k xs xs ((i + 1 : Nat) : Int)) (fun k => ?_) (ih (i + 1) (by omega) (by omega))
    simp only [laws_eqByteS.l0]
    rw [if_pos (by omega), if_pos (by omega), if_pos (by omega), if_pos trivial, wrap_succ hlt hn]
theorem eqByteS_ev (xs : List Int) (hn : xs.length ≤ 1073741824) : Ev (fun k => laws_eqByteS.f k xs xs) true := by
  refine Ev.congr (fun k => ?_) (eqByteS_loop xs hn xs.length 0 (by omega) (by omega))
  unfold laws_eqByteS.f
  rw [if_pos rfl]
  rfl
/-- The marks that the law lays: 1, 2, .. modulo 256. -/
def marks (n : Nat) : List Int := (List.range n).map fun (j : Nat) => ((j : Int) + 1) % 256
theorem marks_length (n : Nat) : (marks n).length = n := by simp [marks]
theorem marks_get (n i : Nat) (h : i < n) : (marks n)[i]? = some (((i : Int) + 1) % 256) := by simp [marks, h]
theorem markByteS_loop (n : Nat) (hn : n ≤ 1073741824) (d : Nat) : ∀ (i : Nat) (xs : List Int), n - i = d → i ≤ n → xs.length = n → xs.take i = (marks n).take i →
    Ev (fun k => laws_markByteS.l0 k xs ((i : Int) + 1) (i : Int)) ((n : Int) + 1, marks n) := by
  induction d with
  | zero =>
    intro i xs hd hi hl ht
    have hi2 : i = n := by omega
    have : xs = marks n := by
      rw [List.take_of_length_le (by omega), List.take_of_length_le (by rw [marks_length]; omega)] at ht
      exact ht
    subst hi2
    subst this
    refine Ev.step (f := fun _ => some ((i : Int) + 1, marks i)) (fun k => ?_) (Ev.now _)
    simp only [laws_markByteS.l0]
    rw [if_neg (by omega)]
  | succ d ih =>
    intro i xs hd hi hl ht
    have hlt : i < n := by omega
    refine Ev.step (f := fun k => laws_markByteS.l0 k (xs.set i (((i : Int) + 1) % 256)) (((i + 1 : Nat) : Int) + 1) ((i + 1 : Nat) : Int)) (fun k => ?_) (ih (i + 1) _ (by omega) (by omega) (by simpa using hl) ?_)
    · simp only [laws_markByteS.l0]
      rw [if_pos (by omega), if_pos (by omega), wrap_succ hlt hn, show wrap64 ((i : Int) + 1 + 1) = ((i + 1 : Nat) : Int) + 1 by unfold wrap64; omega]
      simp
    · apply List.ext_getElem?
      intro j
      simp only [List.getElem?_take, List.getElem?_set]
      have htj := congrArg (fun l => l[j]?) ht
      simp only [List.getElem?_take] at htj
      by_cases h1 : j < i + 1
      · rw [if_pos h1, if_pos h1]
        by_cases h2 : i = j
        · subst h2
          rw [if_pos rfl, if_pos (by omega), marks_get n i hlt]
        · rw [if_neg h2]
          rw [if_pos (by omega), if_pos (by omega)] at htj
          exact htj
      · rw [if_neg h1, if_neg h1]
theorem markByteS_ev (xs : List Int) (hn : xs.length ≤ 1073741824) : Ev (fun k => laws_markByteS.f k xs 1) ((xs.length : Int) + 1, marks xs.length) := by
  refine Ev.congr (fun k => ?_) (markByteS_loop xs.length hn xs.length 0 xs (by omega) (by omega) rfl (by simp))
  unfold laws_markByteS.f
  rfl
theorem heldByteS_loop (n : Nat) (hn : n ≤ 1073741824) (d : Nat) : ∀ (i : Nat), n - i = d → i ≤ n → Ev (fun k => laws_heldByteS.l0 k (marks n) ((i : Int) + 1) (i : Int)) ((n : Int) + 1) := by
  induction d with
  | zero =>
    intro i hd hi
    have hi2 : i = n := by omega
    subst hi2
    refine Ev.step (f := fun _ => some ((i : Int) + 1)) (fun k => ?_) (Ev.now _)
    simp only [laws_heldByteS.l0, marks_length]
    rw [if_neg (by omega)]
  | succ d ih =>
    intro i hd hi
    have hlt : i < n := by omega
    refine Ev.step (f := fun k => laws_heldByteS.l0 k (marks n) (((i + 1 : Nat) : Int) + 1) ((i + 1 : Nat) : Int)) (fun k => ?_) (ih (i + 1) (by omega) (by omega))
    simp only [laws_heldByteS.l0, marks_length]
    have hr : rd (marks n) (i : Int) = ((i : Int) + 1) % 256 := by
      simp [rd, List.getD_eq_getElem?_getD, marks_get n i hlt]
    rw [if_pos (by omega), if_pos (by omega), if_pos hr, wrap_succ hlt hn, show wrap64 ((i : Int) + 1 + 1) = ((i + 1 : Nat) : Int) + 1 by unfold wrap64; omega]
theorem heldByteS_ev (n : Nat) (hn : n ≤ 1073741824) : Ev (fun k => laws_heldByteS.f k (marks n) 1) ((n : Int) + 1) := by
  refine Ev.congr (fun k => ?_) (heldByteS_loop n hn n 0 (by omega) (by omega))
  unfold laws_heldByteS.f
  rfl
theorem u64w (x : Int) (h0 : 0 ≤ x) (h1 : x ≤ 18446744073709551615) : IntKind.u64.wrap x = x := IntWalk.u64_in x ⟨h0, h1⟩
theorem ofNat_toNat (n : Nat) (h : n ≤ 255) : ((UInt8.ofNat n).toNat : Int) = (n : Int) := by
  simp; omega
def digs (u : Nat) : List Int := (Lib.decDigits u).map fun c => (c.toNat : Int)
theorem digs_small (u : Nat) (h : u < 10) : digs u = [((48 + u : Nat) : Int)] := by
  unfold digs; rw [Lib.decDigits, dif_pos h, List.map_singleton, ofNat_toNat _ (by omega)]
theorem digs_big (u : Nat) (h : ¬ u < 10) : digs u = digs (u / 10) ++ [((48 + u % 10 : Nat) : Int)] := by
  unfold digs; rw [Lib.decDigits, dif_neg h, List.map_append, List.map_singleton, ofNat_toNat _ (by omega)]
theorem digs_length (n : Nat) : ∀ u : Nat, u ≤ n → (digs u).length ≤ u + 1 := by
  induction n with
  | zero => intro u h; rw [digs_small u (by omega)]; simp
  | succ n ih =>
    intro u h
    by_cases h1 : u < 10
    · rw [digs_small u h1]; simp
    · rw [digs_big u h1, List.length_append, List.length_singleton]
      have := ih (u / 10) (by omega)
      omega
theorem digs_length20 (m : Nat) : ∀ u : Nat, u < 10 ^ (m + 1) → (digs u).length ≤ m + 1 := by
  induction m with
  | zero => intro u h; rw [digs_small u (by omega)]; simp
  | succ m ih =>
    intro u h
    by_cases h1 : u < 10
    · rw [digs_small u h1]; simp
    · rw [digs_big u h1, List.length_append, List.length_singleton]
      have h2 : u / 10 < 10 ^ (m + 1) := by rw [Nat.pow_succ] at h; omega
      have := ih (u / 10) h2
      omega
theorem l1digits_ev (n : Nat) : ∀ u : Nat, u ≤ n → u ≤ 18446744073709551615 → Ev (fun k => spec_l1digits.f k (u : Int)) (digs u) := by
  induction n using Nat.strongRecOn with
  | _ n ih =>
  intro u hu hm
  by_cases h : u < 10
  · have f1 : (u : Int) < 10 := by omega
    have e : (IntKind.u64.wrap (48 + (u : Int))) % 256 = ((48 + u : Nat) : Int) := by rw [u64w _ (by omega) (by omega)]; omega
    rw [digs_small u h]
    refine Ev.step (f := fun _ => some [((48 + u : Nat) : Int)]) (fun k => ?_) (Ev.now _)
    simp only [spec_l1digits.f, if_pos f1, e]
  · have f1 : ¬ (u : Int) < 10 := by omega
    have e1 : IntKind.u64.wrap (Int.tdiv (u : Int) 10) = ((u / 10 : Nat) : Int) := by
      rw [show Int.tdiv (u : Int) 10 = ((u / 10 : Nat) : Int) by rw [Int.tdiv_eq_ediv_of_nonneg (by omega)]; omega, u64w _ (by omega) (by omega)]
    have e2 : (IntKind.u64.wrap (48 + (Int.tmod (u : Int) 10))) % 256 = ((48 + u % 10 : Nat) : Int) := by
      rw [show Int.tmod (u : Int) 10 = ((u % 10 : Nat) : Int) by rw [Int.tmod_eq_emod_of_nonneg (by omega)]; omega, u64w _ (by omega) (by omega)]; omega
    have hl : (digs (u / 10)).length < 140737488355328 := by
      have := digs_length20 19 (u / 10) (by omega)
      omega
    rw [digs_big u h]
    refine Ev.step (fun k => by simp only [spec_l1digits.f, if_neg f1, e1, e2]; rfl) (Ev.bind (ih (u / 10) (by omega) (u / 10) (Nat.le_refl _) (by omega)) ?_)
    simp only [if_pos hl]
    exact Ev.now _
def fmtOf (a : Int) : List Int := (Lib.itoa a).map fun c => (c.toNat : Int)
theorem fmtOf_length (a : Int) (h0 : -9223372036854775808 ≤ a) (h1 : a ≤ 9223372036854775807) : (fmtOf a).length ≤ 21 := by
  unfold fmtOf; rw [List.length_map]; exact Lib.itoa_length_le a h0 h1
theorem impl_fmt (a : Int) (h0 : -9223372036854775808 ≤ a) (h1 : a ≤ 9223372036854775807) : impl_FormatInt.f a = some (fmtOf a) := by
  unfold impl_FormatInt.f fmtOf; rw [if_pos ⟨h0, h1⟩]
theorem spec_fmt_ev (a : Int) (h0 : -9223372036854775808 ≤ a) (h1 : a ≤ 9223372036854775807) : Ev (fun k => spec_FormatInt.f k a) (fmtOf a) := by
  by_cases h : a ≥ 0
  · obtain ⟨u, rfl⟩ : ∃ u : Nat, a = (u : Int) := ⟨a.toNat, by omega⟩
    have e : fmtOf (u : Int) = digs u := by unfold fmtOf digs; rw [Lib.itoa_nonneg]
    rw [e]
    refine Ev.congr (f := fun k => (spec_l1digits.f k (u : Int)).bind fun t110 => some t110) (fun k => ?_) (Ev.bind (l1digits_ev u u (Nat.le_refl _) (by omega)) (Ev.now _))
    unfold spec_FormatInt.f
    rw [if_pos h, u64w _ (by omega) (by omega)]
  · obtain ⟨u, rfl⟩ : ∃ u : Nat, a = -(u : Int) := ⟨a.natAbs, by omega⟩
    have e : fmtOf (-(u : Int)) = [45] ++ digs u := by unfold fmtOf digs; rw [Lib.itoa_neg u (by omega)]; rfl
    have ew : IntKind.u64.wrap (-(IntKind.u64.wrap (-(u : Int)))) = (u : Int) := by
      rw [IntKind.wrap_u64, IntKind.wrap_u64]; omega
    have hl : ([45] : List Int).length + (digs u).length < 140737488355328 := by
      have := digs_length20 19 u (by omega)
      simp; omega
    rw [e]
    refine Ev.congr (fun k => ?_) (Ev.bind (l1digits_ev u u (Nat.le_refl _) (by omega)) (f := fun _ t116 => if ([45] : List Int).length + t116.length < 140737488355328 then some ([45] ++ t116) else none) ?_)
    · unfold spec_FormatInt.f
      rw [if_neg h, ew]
      rfl
    · simp only [if_pos hl]; exact Ev.now _
/-- What FormatInt answers is as the reference's, and is memory of its own. -/
theorem FnExactFormatInt : laws_FnExactFormatInt.Pure := by
  intro a hw
  refine Ev.rounds (g := fun k => laws_FnExactFormatInt.f k a) ?_
  obtain ⟨h0, h1⟩ : -9223372036854775808 ≤ a ∧ a ≤ 9223372036854775807 := by
    have h2 := hw
    simp [Lit.wf] at h2
    have e1 : IntKind.i64.min = -9223372036854775808 := rfl
    have e2 : IntKind.i64.max = 9223372036854775807 := rfl
    omega
  have hl := fmtOf_length a h0 h1
  have hS := spec_fmt_ev a h0 h1
  have hI := impl_fmt a h0 h1
  have hE := eqByteS_ev (fmtOf a) (by omega)
  have hM := markByteS_ev (fmtOf a) (by omega)
  have hH := heldByteS_ev (fmtOf a).length (by omega)
  refine Ev.congr (f := fun k => _) (fun k => by unfold laws_FnExactFormatInt.f; rw [hI]) ?_
  refine Ev.bind hS ?_
  refine Ev.congr (f := fun k => _) (fun k => by rw [Option.bind_some]) ?_
  refine Ev.bind hE ?_
  simp only [if_true]
  refine Ev.bind hM (Ev.bind hH ?_)
  simp only [if_neg (show ¬ (((fmtOf a).length : Int) + 1 < 0) by omega), if_true, Option.bind_some]
  refine Ev.bind hE ?_
  simp only [if_true]
  refine Ev.bind hH ?_
  simp only [if_neg (show ¬ (((fmtOf a).length : Int) + 1 < 0) by omega), if_true]
  exact Ev.now true
end Go.Proofs.YtchfdpmkgjblgaaDoor.Pure
