/- Quoted texts and numbers: plain laws. -/
import Derived.Test.YtmmpiojekgfdjaaDoorZpB2
import Derived.Test.YtmmpiojekgfdjaaDoorZpCx5
import Derived.Test.YtmmpiojekgfdjaaDoorZpCx6
import Derived.Test.YtmmpiojekgfdjaaDoorZpCx9
import Derived.Test.YtmmpiojekgfdjaaDoorZpBf
import Derived.Test.YtmmpiojekgfdjaaDoorZpK
namespace Go.Proofs.YtmmpiojekgfdjaaDoor.C
open Go.RowKit YtmmpiojekgfdjaaDoorW.PrintWords YtmmpiojekgfdjaaDoorW.PrintLast
set_option linter.unusedVariables false
set_option linter.unusedSimpArgs false
namespace QP
theorem rd_nat (xs : List Int) (i : Nat) (h : i < xs.length) : rd xs (i : Int) = xs[i] := by
 simp [rd, List.getD_eq_getElem?_getD, h]
theorem wrap_succ {i n : Nat} (h : i < n) (hn : n ≤ 1073741824) : wrap64 ((i : Int) + 1) = ((i + 1 : Nat) : Int) := by
 unfold wrap64; omega
abbrev HEX : ByteArray := ⟨#[48, 49, 50, 51, 52, 53, 54, 55, 56, 57, 97, 98, 99, 100, 101, 102]⟩
def qch (c : Int) : List Int :=
 if c = 10 then [92, 110] else if c = 9 then [92, 116] else if c = 34 ∨ c = 92 then [92, c]
 else if c < 32 ∨ c > 126 then [92, 120, bt HEX (c / 16), bt HEX (c % 16)] else [c]
theorem qch_length (c : Int) : (qch c).length ≤ 4 := by unfold qch; repeat' (first | split | simp)
theorem drop_cons (xs : List Int) (i : Nat) (h : i < xs.length) : xs.drop i = xs[i] :: xs.drop (i + 1) := by
 rw [List.drop_eq_getElem_cons h]
theorem hexsize : ((HEX.size : Nat) : Int) = 16 := rfl
theorem spec_loop (xs : List Int) (hb : ∀ x ∈ xs, 0 ≤ x ∧ x ≤ 255) (hn : xs.length ≤ 1073741824) (d : Nat) : ∀ (i : Nat) (acc : List Int), xs.length - i = d → i ≤ xs.length → acc.length ≤ 1 + 4 * i →
  Ev (fun k => spec_QuoteText.l0 k xs HEX acc (i : Int)) (acc ++ (xs.drop i).flatMap qch ++ [34]) := by
 induction d with
 | zero =>
  intro i acc hd hi hl
  refine Ev.step (f := fun _ => some (acc ++ (xs.drop i).flatMap qch ++ [34])) (fun k => ?_) (Ev.now _)
  simp only [spec_QuoteText.l0]
  rw [if_neg (by omega), if_pos (by omega), List.drop_eq_nil_of_le (by omega)]
  simp
 | succ d ih =>
  intro i acc hd hi hl
  have hlt : i < xs.length := by omega
  obtain ⟨c, hc⟩ : ∃ c, c = xs[i] := ⟨_, rfl⟩
  have hcb := hb c (by rw [hc]; exact List.getElem_mem _)
  have hq := qch_length c
  have key := ih (i + 1) (acc ++ qch c) (by omega) (by omega) (by rw [List.length_append]; omega)
  rw [drop_cons xs i hlt, ← hc]
  have he : acc ++ (c :: xs.drop (i + 1)).flatMap qch ++ [34] = acc ++ qch c ++ (xs.drop (i + 1)).flatMap qch ++ [34] := by simp
  rw [he]
  have hrd : rd xs (i : Int) = c := by rw [rd_nat xs i hlt, hc]
  have hw := wrap_succ hlt hn
  have e1 : (Int.tdiv c 16) % 256 = c / 16 := by rw [Int.tdiv_eq_ediv_of_nonneg (by omega)]; omega
  have e2 : Int.tmod c 16 = c % 16 := Int.tmod_eq_emod_of_nonneg (by omega)
  by_cases h10 : c = 10
  ·
   refine Ev.step (fun k => ?_) key
   simp only [spec_QuoteText.l0]
   rw [if_pos (by omega), if_pos (by omega), hrd, if_pos h10, Option.bind_some, if_pos (by simp; omega), hw]
   simp [qch, h10]
  by_cases h9 : c = 9
  ·
   refine Ev.step (fun k => ?_) key
   simp only [spec_QuoteText.l0]
   rw [if_pos (by omega), if_pos (by omega), hrd, if_neg h10, if_pos h9, Option.bind_some, if_pos (by simp; omega), hw]
   simp [qch, h9]
  have hj : ∀ k, spec_QuoteText.l0 (k + 1) xs HEX acc (i : Int) = spec_QuoteText.j1 k xs HEX acc (i : Int) c (decide (c = 34 ∨ c = 92)) := by
   intro k
   simp only [spec_QuoteText.l0]
   rw [if_pos (by omega), if_pos (by omega), hrd, if_neg h10, if_neg h9]
   by_cases h34 : c = 34
   ·
    rw [if_pos h34]; simp [h34]
   ·
    rw [if_neg h34]; simp [h34, ← beq_iff_eq]
  refine Ev.step hj (Ev.step (fun k => ?_) key)
  simp only [spec_QuoteText.j1, e1, e2, hexsize]
  by_cases hqq : c = 34 ∨ c = 92
  ·
   rw [if_pos (by simpa using hqq), Option.bind_some, if_pos (by simp; omega), hw]
   simp [qch, h10, h9, hqq]
  ·
   rw [if_neg (by simpa using hqq)]
   by_cases h32 : c < 32
   ·
    rw [if_pos h32, if_pos (by omega), if_pos (by omega), if_pos (by omega), if_pos (by omega), Option.bind_some, if_pos (by simp; omega), hw]
    simp [qch, h10, h9, hqq, h32]
   ·
    rw [if_neg h32]
    by_cases h126 : c > 126
    ·
     rw [if_pos h126, if_pos (by omega), if_pos (by omega), if_pos (by omega), if_pos (by omega), Option.bind_some, if_pos (by simp; omega), hw]
     simp [qch, h10, h9, hqq, h126]
    ·
     rw [if_neg h126, if_pos (by omega), hw]
     simp [qch, h10, h9, hqq, h32, h126]
theorem spec_ev (xs : List Int) (hb : ∀ x ∈ xs, 0 ≤ x ∧ x ≤ 255) (hn : xs.length ≤ 1073741824) : Ev (fun k => spec_QuoteText.f k xs) ([34] ++ xs.flatMap qch ++ [34]) := by
 have := spec_loop xs hb hn xs.length 0 [34] (by omega) (by omega) (by simp)
 exact Ev.congr (fun k => rfl) this
theorem and15 (c : Int) (h0 : 0 ≤ c) (h1 : c ≤ 255) : Go.bits .and .u8 c 15 = c % 16 := by
 obtain ⟨n, rfl⟩ := Int.eq_ofNat_of_zero_le h0
 have : n < 256 := by omega
 have h2 : ∀ m : Fin 256, Go.bits .and .u8 ((m : Nat) : Int) 15 = ((m : Nat) : Int) % 16 := by decide +kernel
 exact h2 ⟨n, this⟩
theorem impl_loop (xs : List Int) (hb : ∀ x ∈ xs, 0 ≤ x ∧ x ≤ 255) (hn : xs.length ≤ 1073741824) (d : Nat) : ∀ (i : Nat) (acc : List Int), xs.length - i = d → i ≤ xs.length → acc.length ≤ 1 + 4 * i →
  Ev (fun k => impl_QuoteText.l0 k acc xs (xs.length : Int) (i : Int)) (acc ++ (xs.drop i).flatMap qch ++ [34]) := by
 induction d with
 | zero =>
  intro i acc hd hi hl
  refine Ev.step (f := fun _ => some (acc ++ (xs.drop i).flatMap qch ++ [34])) (fun k => ?_) (Ev.now _)
  simp only [impl_QuoteText.l0]
  rw [if_neg (by omega), if_pos (by omega), List.drop_eq_nil_of_le (by omega)]
  simp
 | succ d ih =>
  intro i acc hd hi hl
  have hlt : i < xs.length := by omega
  obtain ⟨c, hc⟩ : ∃ c, c = xs[i] := ⟨_, rfl⟩
  have hcb := hb c (by rw [hc]; exact List.getElem_mem _)
  have hq := qch_length c
  have key := ih (i + 1) (acc ++ qch c) (by omega) (by omega) (by rw [List.length_append]; omega)
  rw [drop_cons xs i hlt, ← hc]
  have he : acc ++ (c :: xs.drop (i + 1)).flatMap qch ++ [34] = acc ++ qch c ++ (xs.drop (i + 1)).flatMap qch ++ [34] := by simp
  rw [he]
  have hrd : rd xs (i : Int) = c := by rw [rd_nat xs i hlt, hc]
  have hw := wrap_succ hlt hn
  have e2 := and15 c hcb.1 hcb.2
  by_cases h10 : c = 10
  ·
   refine Ev.step (fun k => ?_) key
   simp only [impl_QuoteText.l0]
   rw [if_pos (by omega), if_pos (by omega), if_pos (by omega), hrd, if_pos h10, if_pos (by omega), hw]
   simp [qch, h10, bytesOf]
  by_cases h9 : c = 9
  ·
   refine Ev.step (fun k => ?_) key
   simp only [impl_QuoteText.l0]
   rw [if_pos (by omega), if_pos (by omega), if_pos (by omega), hrd, if_neg h10, if_pos h9, if_pos (by omega), hw]
   simp [qch, h9, bytesOf]
  have hj : ∀ k, impl_QuoteText.l0 (k + 1) acc xs (xs.length : Int) (i : Int) = impl_QuoteText.j1 k acc c xs (xs.length : Int) (i : Int) (decide (c = 34 ∨ c = 92)) := by
   intro k
   simp only [impl_QuoteText.l0]
   rw [if_pos (by omega), if_pos (by omega), if_pos (by omega), hrd, if_neg h10, if_neg h9]
   by_cases h34 : c = 34
   ·
    rw [if_pos h34]; simp [h34]
   ·
    rw [if_neg h34]; simp [h34, ← beq_iff_eq]
  refine Ev.step hj (Ev.step (fun k => ?_) key)
  simp only [impl_QuoteText.j1, e2]
  by_cases hqq : c = 34 ∨ c = 92
  ·
   rw [if_pos (by simpa using hqq), Option.bind_some, if_pos (by simp; omega), hw]
   simp [qch, h10, h9, hqq]
  ·
   rw [if_neg (by simpa using hqq)]
   by_cases h32 : c < 32
   ·
    rw [if_pos h32, if_pos (by omega), if_pos (by omega), if_pos (by omega), if_pos (by omega), Option.bind_some, if_pos (by simp; omega), hw]
    simp [qch, h10, h9, hqq, h32]
   ·
    rw [if_neg h32]
    by_cases h126 : c > 126
    ·
     rw [if_pos h126, if_pos (by omega), if_pos (by omega), if_pos (by omega), if_pos (by omega), Option.bind_some, if_pos (by simp; omega), hw]
     simp [qch, h10, h9, hqq, h126]
    ·
     rw [if_neg h126, if_pos (by omega), hw]
     simp [qch, h10, h9, hqq, h32, h126]
theorem impl_ev (xs : List Int) (hb : ∀ x ∈ xs, 0 ≤ x ∧ x ≤ 255) (hn : xs.length ≤ 1073741824) : Ev (fun k => impl_QuoteText.f k xs) ([34] ++ xs.flatMap qch ++ [34]) := by
 have := impl_loop xs hb hn xs.length 0 [34] (by omega) (by omega) (by simp)
 exact Ev.congr (fun k => rfl) this
theorem quoted_length (xs : List Int) : ([34] ++ xs.flatMap qch ++ [34]).length ≤ 4 * xs.length + 2 := by
 induction xs with
 | nil => simp
 | cons c r ih => have := qch_length c; simp [List.flatMap_cons] at ih ⊢; omega
theorem u64w (x : Int) (h0 : 0 ≤ x) (h1 : x ≤ 18446744073709551615) : IntKind.u64.wrap x = x := IntWalk.u64_in x ⟨h0, h1⟩
theorem ofNat_toNat (n : Nat) (h : n ≤ 255) : ((UInt8.ofNat n).toNat : Int) = (n : Int) := by
 simp; omega
def digs (u : Nat) : List Int := (Lib.decDigits u).map fun c => (c.toNat : Int)
theorem digs_small (u : Nat) (h : u < 10) : digs u = [((48 + u : Nat) : Int)] := by
 unfold digs; rw [Lib.decDigits, dif_pos h, List.map_singleton, ofNat_toNat _ (by omega)]
theorem digs_big (u : Nat) (h : ¬ u < 10) : digs u = digs (u / 10) ++ [((48 + u % 10 : Nat) : Int)] := by
 unfold digs; rw [Lib.decDigits, dif_neg h, List.map_append, List.map_singleton, ofNat_toNat _ (by omega)]
theorem digs_length20 (m : Nat) : ∀ u : Nat, u < 10 ^ (m + 1) → (digs u).length ≤ m + 1 := by
 induction m with
 | zero => intro u h; rw [digs_small u (by omega)]; simp
 | succ m ih =>
  intro u h
  by_cases h1 : u < 10
  ·
   rw [digs_small u h1]; simp
  ·
   rw [digs_big u h1, List.length_append, List.length_singleton]
   have h2 : u / 10 < 10 ^ (m + 1) := by rw [Nat.pow_succ] at h; omega
   have := ih (u / 10) h2
   omega
theorem l1digits_ev (n : Nat) : ∀ u : Nat, u ≤ n → u ≤ 18446744073709551615 → Ev (fun k => spec_l1digits.f k (u : Int)) (digs u) := by
 induction n using Nat.strongRecOn with
 | _ n ih =>
 intro u hu hm
 by_cases h : u < 10
 ·
  have f1 : (u : Int) < 10 := by omega
  have e : (IntKind.u64.wrap (48 + (u : Int))) % 256 = ((48 + u : Nat) : Int) := by rw [u64w _ (by omega) (by omega)]; omega
  rw [digs_small u h]
  refine Ev.step (f := fun _ => some [((48 + u : Nat) : Int)]) (fun k => ?_) (Ev.now _)
  simp only [spec_l1digits.f, if_pos f1, e]
 ·
  have f1 : ¬ (u : Int) < 10 := by omega
  have e1 : IntKind.u64.wrap (Int.tdiv (u : Int) 10) = ((u / 10 : Nat) : Int) := by
   rw [show Int.tdiv (u : Int) 10 = ((u / 10 : Nat) : Int) by rw [Int.tdiv_eq_ediv_of_nonneg (by omega)]; omega, u64w _ (by omega) (by omega)]
  have e2 : (IntKind.u64.wrap (48 + (Int.tmod (u : Int) 10))) % 256 = ((48 + u % 10 : Nat) : Int) := by
   rw [show Int.tmod (u : Int) 10 = ((u % 10 : Nat) : Int) by rw [Int.tmod_eq_emod_of_nonneg (by omega)]; omega, u64w _ (by omega) (by omega)]; omega
  have hl : (digs (u / 10)).length < 140737488355328 := by
   have := digs_length20 19 (u / 10) (by omega)
   omega
  rw [digs_big u h]
  refine Ev.step (fun k => by simp only [spec_l1digits.f, if_neg f1, e1, e2]; rfl) (Ev.bind (ih (u / 10) (by omega) (u / 10) (Nat.le_refl _) (by omega)) ?_)
  simp only [if_pos hl]
  exact Ev.now _
def fmtOf (a : Int) : List Int := (Lib.itoa a).map fun c => (c.toNat : Int)
theorem spec_fmt_ev (a : Int) (h0 : -9223372036854775808 ≤ a) (h1 : a ≤ 9223372036854775807) : Ev (fun k => spec_FormatInt.f k a) (fmtOf a) := by
 by_cases h : a ≥ 0
 ·
  obtain ⟨u, rfl⟩ : ∃ u : Nat, a = (u : Int) := ⟨a.toNat, by omega⟩
  have e : fmtOf (u : Int) = digs u := by unfold fmtOf digs; rw [Lib.itoa_nonneg]
  rw [e]
  refine Ev.congr (f := fun k => (spec_l1digits.f k (u : Int)).bind fun t110 => some t110) (fun k => ?_) (Ev.bind (l1digits_ev u u (Nat.le_refl _) (by omega)) (Ev.now _))
  unfold spec_FormatInt.f
  rw [if_pos h, u64w _ (by omega) (by omega)]
 ·
  obtain ⟨u, rfl⟩ : ∃ u : Nat, a = -(u : Int) := ⟨a.natAbs, by omega⟩
  have e : fmtOf (-(u : Int)) = [45] ++ digs u := by unfold fmtOf digs; rw [Lib.itoa_neg u (by omega)]; rfl
  have ew : IntKind.u64.wrap (-(IntKind.u64.wrap (-(u : Int)))) = (u : Int) := by
   rw [IntKind.wrap_u64, IntKind.wrap_u64]; omega
  have hl : ([45] : List Int).length + (digs u).length < 140737488355328 := by
   have := digs_length20 19 u (by omega)
   simp; omega
  rw [e]
  refine Ev.congr (fun k => ?_) (Ev.bind (l1digits_ev u u (Nat.le_refl _) (by omega)) (f := fun _ t116 => if ([45] : List Int).length + t116.length < 140737488355328 then some ([45] ++ t116) else none) ?_)
  ·
   unfold spec_FormatInt.f
   rw [if_neg h, ew]
   rfl
  ·
   simp only [if_pos hl]; exact Ev.now _
end QP
end Go.Proofs.YtmmpiojekgfdjaaDoor.C
