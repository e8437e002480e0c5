/- Words and runs. -/
import Derived.Test.YtogffkekgfkhkaaZvV4
import Derived.Test.YtogffkekgfkhkaaZvCx3
import Derived.Lib.IndexMore
import Derived.Lib.Index
import Derived.Test.YtogffkekgfkhkaaZvK
namespace Go.Proofs.Ytogffkekgfkhkaa.C
open Go.RowKit Go.Proofs.YtogffkekgfkhkaaW.PrintWords Go.Proofs.YtogffkekgfkhkaaW.PrintLast Go.Proofs.YtogffkekgfkhkaaW.PrintMore
set_option linter.unusedVariables false
set_option linter.unusedSimpArgs false
theorem wrapn (i c : Nat) (h : i + c ≤ 2147483648) : wrap64 ((i : Int) + (c : Int)) = ((i + c : Nat) : Int) := by unfold wrap64; omega
theorem wrap1 (i : Nat) (h : i ≤ 1073741824) : wrap64 ((i : Int) + 1) = ((i + 1 : Nat) : Int) := wrapn i 1 (by omega)
theorem contains_cons (b : UInt8) (l sub : List UInt8) : Lib.contains (b :: l) sub = (sub.isPrefixOf (b :: l) || Lib.contains l sub) := by
  unfold Lib.contains
  have hge := Lib.index_ge l sub
  conv => lhs; unfold Lib.index
  cases h : sub.isPrefixOf (b :: l) with
  | true => simp
  | false =>
    by_cases h1 : Lib.index l sub = -1
    · simp [h1]
    · have h2 : ¬ ((Lib.index l sub == -1) = true) := by simpa using h1
      simp only [Bool.false_eq_true, if_false, if_neg h2, Bool.false_or]
      exact decide_eq_decide.2 ⟨fun _ => by omega, fun _ => by omega⟩
def blanked (ws : List (List UInt8)) : List UInt8 := 32 :: ws.flatMap (· ++ [32])
theorem blanked_cons (w : List UInt8) (ws : List (List UInt8)) : blanked (w :: ws) = 32 :: (w ++ blanked ws) := by simp [blanked]
theorem contains_skip (w rest sub : List UInt8) (hw : ∀ c ∈ w, c ≠ 32) : Lib.contains (w ++ rest) (32 :: sub) = Lib.contains rest (32 :: sub) := by
  induction w with
  | nil => rfl
  | cons c w ih =>
    have hc : ¬ (32 : UInt8) = c := fun h => hw c (by simp) h.symm
    rw [List.cons_append, contains_cons, ih (fun x hx => hw x (by simp [hx]))]
    simp [List.isPrefixOf, hc]
theorem prefix_word (r : List UInt8) : ∀ (s w : List UInt8), (∀ c ∈ s, c ≠ 32) → (∀ c ∈ w, c ≠ 32) → (s ++ [32]).isPrefixOf (w ++ 32 :: r) = decide (s = w)
  | [], [], _, _ => by simp [List.isPrefixOf]
  | [], c :: w, _, hw => by
    have hc : ¬ (32 : UInt8) = c := fun h => hw c (by simp) h.symm
    simp [List.isPrefixOf, hc]
  | c :: s, [], hs, _ => by
    have hc : ¬ c = (32 : UInt8) := hs c (by simp)
    simp [List.isPrefixOf, hc]
  | c :: s, d :: w, hs, hw => by
    have ih := prefix_word r s w (fun x hx => hs x (by simp [hx])) (fun x hx => hw x (by simp [hx]))
    simp only [List.cons_append, List.isPrefixOf, ih, List.cons.injEq]
    by_cases h : c = d <;> simp [h]
theorem contains_blanked (s : List UInt8) (hs : ∀ c ∈ s, c ≠ 32) : ∀ (ws : List (List UInt8)), (∀ w ∈ ws, ∀ c ∈ w, c ≠ 32) → Lib.contains (blanked ws) (32 :: (s ++ [32])) = decide (s ∈ ws)
  | [], _ => by
    unfold blanked
    rw [List.flatMap_nil, contains_cons]
    cases s <;> simp [List.isPrefixOf, Lib.contains, Lib.index]
  | w :: ws, h => by
    rw [blanked_cons, contains_cons, contains_skip w _ _ (h w (by simp)), contains_blanked s hs ws (fun x hx => h x (by simp [hx]))]
    have e : blanked ws = 32 :: (blanked ws).tail := by simp [blanked]
    rw [e]
    simp only [List.isPrefixOf, beq_self_eq_true, Bool.true_and, prefix_word _ s w hs (h w (by simp)), List.mem_cons]
    by_cases h1 : s = w <;> by_cases h2 : s ∈ ws <;> simp [h1, h2]
def letB (c : Int) : Bool := decide ((97 ≤ c ∧ c ≤ 122) ∨ (65 ≤ c ∧ c ≤ 90) ∨ c = 95)
def digB (c : Int) : Bool := decide (48 ≤ c ∧ c ≤ 57)
theorem implLetter (c : Int) : impl_isLetter.f c = some (letB c) := by
  unfold impl_isLetter.f letB
  repeat' split
  all_goals first | (congr 1; symm; rw [decide_eq_true_eq]; omega) | (congr 1; rw [Bool.eq_iff_iff]; simp; omega)
theorem specLetter (c : Int) : spec_l2letter.f c = some (letB c) := by
  unfold spec_l2letter.f letB
  repeat' split
  all_goals first | (congr 1; symm; rw [decide_eq_true_eq]; omega) | (congr 1; rw [Bool.eq_iff_iff]; simp; omega)
theorem implDigit (c : Int) : impl_isDigit.f c = some (digB c) := by
  unfold impl_isDigit.f digB
  repeat' split
  all_goals (congr 1; rw [Bool.eq_iff_iff]; simp; omega)
theorem specDigit (c : Int) : spec_l2digit.f c = some (digB c) := by
  unfold spec_l2digit.f digB
  repeat' split
  all_goals (congr 1; rw [Bool.eq_iff_iff]; simp; omega)
def alB (c : Int) : Bool := letB c || digB c
def runN : List Int → Nat
  | [] => 0
  | c :: r => if alB c then runN r + 1 else 0
theorem runN_le : ∀ r : List Int, runN r ≤ r.length
  | [] => by simp [runN]
  | c :: r => by
    have := runN_le r
    simp only [runN, List.length_cons]
    split <;> omega
theorem specRun (xs : List Int) (hn : xs.length ≤ 6000) (i : Nat) (hi : i ≤ xs.length) (d : Nat) : ∀ (n : Nat), xs.length - (i + n) = d → i + n ≤ xs.length →
    Ev (fun k => spec_l2run.l0 k xs (i : Int) (n : Int)) ((n + runN (xs.drop (i + n)) : Nat) : Int) := by
  induction d with
  | zero =>
    intro n hd hl
    have hge : xs.length ≤ i + n := by omega
    have f1 : ¬ ((i + n : Nat) : Int) < (xs.length : Int) := by omega
    rw [List.drop_eq_nil_of_le hge]
    refine Ev.step (f := fun _ => some (n : Int)) (fun k => ?_) (by simpa [runN] using Ev.now _)
    simp only [spec_l2run.l0, wrapn i n (by omega), if_neg f1]
  | succ d ih =>
    intro n hd hl
    have hlt : i + n < xs.length := by omega
    have f1 : ((i + n : Nat) : Int) < (xs.length : Int) := by omega
    have f2 : 0 ≤ ((i + n : Nat) : Int) := by omega
    have key := ih (n + 1) (by omega) (by omega)
    rw [show i + (n + 1) = i + n + 1 by omega, show n + 1 + runN (xs.drop (i + n + 1)) = n + (runN (xs.drop (i + n + 1)) + 1) by omega] at key
    rw [List.drop_eq_getElem_cons hlt, runN]
    have hrd : rd xs ((i + n : Nat) : Int) = xs[i + n] := rd_nat xs (i + n) hlt
    have bn : n ≤ 1073741824 := by omega
    have bw : i + n ≤ 2147483648 := by omega
    by_cases hl : letB xs[i + n] = true
    · rw [if_pos (show alB xs[i + n] = true by simp [alB, hl])]
      refine Ev.step (fun k => ?_) key
      simp only [spec_l2run.l0, wrapn i n bw, if_pos f1, if_pos f2, hrd, specLetter, Option.bind_some, hl, if_true, wrap1 n bn]
    · by_cases hdg : digB xs[i + n] = true
      · rw [if_pos (show alB xs[i + n] = true by simp [alB, hdg])]
        refine Ev.step (fun k => ?_) key
        simp only [spec_l2run.l0, wrapn i n bw, if_pos f1, if_pos f2, hrd, specLetter, specDigit, Option.bind_some, if_neg hl, hdg, if_true, wrap1 n bn]
      · rw [if_neg (show ¬ alB xs[i + n] = true by simp [alB, hl, hdg])]
        refine Ev.step (f := fun _ => some (n : Int)) (fun k => ?_) (by simpa using Ev.now _)
        simp only [spec_l2run.l0, wrapn i n bw, if_pos f1, if_pos f2, hrd, specLetter, specDigit, Option.bind_some, if_neg hl, if_neg hdg]
theorem specRun_ev (xs : List Int) (hn : xs.length ≤ 6000) (i : Nat) (hi : i ≤ xs.length) : Ev (fun k => spec_l2run.f k xs (i : Int)) ((runN (xs.drop i) : Nat) : Int) := by
  have := specRun xs hn i hi (xs.length - i) 0 (by omega) (by omega)
  simpa [spec_l2run.f] using this
def bt8 (xs : List Int) : List UInt8 := xs.map fun n => UInt8.ofNat n.toNat
theorem strOf_toList (xs : List Int) : (strOfNums xs).toList = bt8 xs := by
  unfold bt8; rw [← strOfNums_data]; exact ByteArray.toList_eq _
theorem strOf_data (xs : List Int) : (strOfNums xs).data.toList = bt8 xs := by
  unfold bt8; exact strOfNums_data _
theorem letB_range {c : Int} (h : letB c = true) : 65 ≤ c ∧ c ≤ 122 ∧ c ≠ 91 ∧ c ≠ 93 := by
  have := of_decide_eq_true h; omega
theorem digB_range {c : Int} (h : digB c = true) : 48 ≤ c ∧ c ≤ 57 := of_decide_eq_true h
theorem alB_range {c : Int} (h : alB c = true) : 48 ≤ c ∧ c ≤ 122 := by
  unfold alB at h
  rcases Bool.or_eq_true_iff.1 h with h | h
  · have := letB_range h; omega
  · have := digB_range h; omega
theorem bt8_ne32 (w : List Int) (hw : ∀ c ∈ w, alB c = true) : ∀ c ∈ bt8 w, c ≠ 32 := by
  intro c hc h
  obtain ⟨n, hn, rfl⟩ := List.mem_map.1 hc
  have hr := alB_range (hw n hn)
  have := congrArg UInt8.toNat h
  simp at this
  omega
def kws : List (List UInt8) := [[97, 110, 100], [98, 114, 101, 97, 107], [100, 111], [101, 108, 115, 101], [101, 108, 115, 101, 105, 102], [101, 110, 100], [102, 97, 108, 115, 101], [102, 111, 114], [102, 117, 110, 99, 116, 105, 111, 110], [105, 102], [108, 111, 99, 97, 108], [110, 105, 108], [110, 111, 116], [111, 114], [114, 101, 112, 101, 97, 116], [114, 101, 116, 117, 114, 110], [116, 104, 101, 110], [116, 114, 117, 101], [117, 110, 116, 105, 108], [119, 104, 105, 108, 101]]
theorem kwText_blanked : kwText = blanked kws := by decide
theorem kws_ne32 : ∀ w ∈ kws, ∀ c ∈ w, c ≠ 32 := by decide
theorem isKw_word (w : List Int) (hw : ∀ c ∈ w, alB c = true) : isKw (strOfNums w) = decide (bt8 w ∈ kws) := by
  unfold isKw
  rw [kwText_blanked, strOf_data]
  exact contains_blanked (bt8 w) (bt8_ne32 w hw) kws kws_ne32
theorem rdOf_nat (ws : List ByteArray) (i : Nat) (h : i < ws.length) : rdOf ByteArray.empty ws (i : Int) = ws[i] := by
  simp [rdOf, List.getD_eq_getElem?_getD, h]
theorem specWord_loop (s : ByteArray) (ws : List ByteArray) (hn : ws.length ≤ 1000) (d : Nat) : ∀ (i : Nat), ws.length - i = d → i ≤ ws.length →
    Ev (fun k => spec_l2isWord.l0 k s ws (i : Int)) (decide (s.toList ∈ (ws.drop i).map ByteArray.toList)) := by
  induction d with
  | zero =>
    intro i hd hi
    have f1 : ¬ (i : Int) < (ws.length : Int) := by omega
    rw [List.drop_eq_nil_of_le (by omega)]
    refine Ev.step (f := fun _ => some false) (fun k => ?_) (by simpa using Ev.now false)
    simp only [spec_l2isWord.l0, if_neg f1]
  | succ d ih =>
    intro i hd hi
    have hlt : i < ws.length := by omega
    have f1 : (i : Int) < (ws.length : Int) := by omega
    have f2 : 0 ≤ (i : Int) := by omega
    have bn : i ≤ 1073741824 := by omega
    rw [List.drop_eq_getElem_cons hlt]
    have hrd := rdOf_nat ws i hlt
    rw [List.map_cons]
    by_cases h : ws[i].toList = s.toList
    · refine Ev.step (f := fun _ => some true) (fun k => ?_) (by rw [h, show decide (s.toList ∈ s.toList :: (ws.drop (i + 1)).map ByteArray.toList) = true by simp]; exact Ev.now true)
      simp only [spec_l2isWord.l0, if_pos f1, if_pos f2, hrd, if_pos h]
    · have key := ih (i + 1) (by omega) (by omega)
      rw [show decide (s.toList ∈ ws[i].toList :: (ws.drop (i + 1)).map ByteArray.toList) = decide (s.toList ∈ (ws.drop (i + 1)).map ByteArray.toList) by rw [decide_eq_decide, List.mem_cons]; exact ⟨fun e => e.elim (fun e => absurd e.symm h) id, .inr⟩]
      refine Ev.step (fun k => ?_) key
      simp only [spec_l2isWord.l0, if_pos f1, if_pos f2, hrd, if_neg h, wrap1 i bn]
theorem specWord_ev (w : List Int) : Ev (fun k => spec_l2isWord.f k (strOfNums w)) (decide (bt8 w ∈ kws)) := by
  unfold spec_l2isWord.f spec_l2words.f
  simp only [Option.bind_some]
  refine Eq.subst (motive := fun b => Ev _ b) ?_ (specWord_loop (strOfNums w) _ (by simp) _ 0 rfl (by simp))
  rw [strOf_toList]
  rw [decide_eq_decide, List.drop_zero]
  have e : ∀ ws : List ByteArray, ws.map ByteArray.toList = ws.map (fun s => s.data.toList) := fun ws => List.map_congr_left (fun s _ => ByteArray.toList_eq s)
  rw [e]
  exact Iff.rfl
end Go.Proofs.Ytogffkekgfkhkaa.C
