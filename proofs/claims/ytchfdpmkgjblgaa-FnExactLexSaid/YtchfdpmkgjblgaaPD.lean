/- Laws on letters, runs, words, signs and tokens, in the program and in the reference; sources of at most 6000 bytes. -/
import Derived.Test.YtchfdpmkgjblgaaPC
import Derived.Lib.IndexMore
import Derived.Lib.Index
namespace Go.Proofs.Ytchfdpmkgjblgaa.Pure
set_option linter.unusedVariables false
set_option linter.unusedSimpArgs false
open Go.RowKit Go.Proofs.Ytchfdpmkgjblgaa.M Go.Proofs.YtchfdpmkgjblgaaW.PrintWords Go.Proofs.YtchfdpmkgjblgaaW.PrintLast
/-! ### words: a run is one of the words iff the list of them, parted by blanks, holds it between two blanks -/
theorem contains_cons (b : UInt8) (l sub : List UInt8) : Lib.contains (b :: l) sub = (sub.isPrefixOf (b :: l) || Lib.contains l sub) := by
  unfold Lib.contains
  have hge := Lib.index_ge l sub
  conv => lhs; unfold Lib.index
  cases h : sub.isPrefixOf (b :: l) with
  | true => simp
  | false =>
    by_cases h1 : Lib.index l sub = -1
    · simp [h1]
    · have h2 : ¬ ((Lib.index l sub == -1) = true) := by simpa using h1
      simp only [Bool.false_eq_true, if_false, if_neg h2, Bool.false_or]
      exact decide_eq_decide.2 ⟨fun _ => by omega, fun _ => by omega⟩
def blanked (ws : List (List UInt8)) : List UInt8 := 32 :: ws.flatMap (· ++ [32])
theorem blanked_cons (w : List UInt8) (ws : List (List UInt8)) : blanked (w :: ws) = 32 :: (w ++ blanked ws) := by simp [blanked]
theorem contains_skip (w rest sub : List UInt8) (hw : ∀ c ∈ w, c ≠ 32) : Lib.contains (w ++ rest) (32 :: sub) = Lib.contains rest (32 :: sub) := by
  induction w with
  | nil => rfl
  | cons c w ih =>
    have hc : ¬ (32 : UInt8) = c := fun h => hw c (by simp) h.symm
    rw [List.cons_append, contains_cons, ih (fun x hx => hw x (by simp [hx]))]
    simp [List.isPrefixOf, hc]
theorem prefix_word (r : List UInt8) : ∀ (s w : List UInt8), (∀ c ∈ s, c ≠ 32) → (∀ c ∈ w, c ≠ 32) → (s ++ [32]).isPrefixOf (w ++ 32 :: r) = decide (s = w)
  | [], [], _, _ => by simp [List.isPrefixOf]
  | [], c :: w, _, hw => by
    have hc : ¬ (32 : UInt8) = c := fun h => hw c (by simp) h.symm
    simp [List.isPrefixOf, hc]
  | c :: s, [], hs, _ => by
    have hc : ¬ c = (32 : UInt8) := hs c (by simp)
    simp [List.isPrefixOf, hc]
  | c :: s, d :: w, hs, hw => by
    have ih := prefix_word r s w (fun x hx => hs x (by simp [hx])) (fun x hx => hw x (by simp [hx]))
    simp only [List.cons_append, List.isPrefixOf, ih, List.cons.injEq]
    by_cases h : c = d <;> simp [h]
theorem contains_blanked (s : List UInt8) (hs : ∀ c ∈ s, c ≠ 32) : ∀ (ws : List (List UInt8)), (∀ w ∈ ws, ∀ c ∈ w, c ≠ 32) → Lib.contains (blanked ws) (32 :: (s ++ [32])) = decide (s ∈ ws)
  | [], _ => by
    unfold blanked
    rw [List.flatMap_nil, contains_cons]
    cases s <;> simp [List.isPrefixOf, Lib.contains, Lib.index]
  | w :: ws, h => by
    rw [blanked_cons, contains_cons, contains_skip w _ _ (h w (by simp)), contains_blanked s hs ws (fun x hx => h x (by simp [hx]))]
    have e : blanked ws = 32 :: (blanked ws).tail := by simp [blanked]
    rw [e]
    simp only [List.isPrefixOf, beq_self_eq_true, Bool.true_and, prefix_word _ s w hs (h w (by simp)), List.mem_cons]
    by_cases h1 : s = w <;> by_cases h2 : s ∈ ws <;> simp [h1, h2]

/-! ### letters, digits, runs -/
def letB (c : Int) : Bool := decide ((97 ≤ c ∧ c ≤ 122) ∨ (65 ≤ c ∧ c ≤ 90) ∨ c = 95)
def digB (c : Int) : Bool := decide (48 ≤ c ∧ c ≤ 57)
theorem implLetter (c : Int) : impl_isLetter.f c = some (letB c) := by
  unfold impl_isLetter.f letB
  repeat' split
  all_goals first | (congr 1; symm; rw [decide_eq_true_eq]; omega) | (congr 1; rw [Bool.eq_iff_iff]; simp; omega)
theorem specLetter (c : Int) : spec_l2letter.f c = some (letB c) := by
  unfold spec_l2letter.f letB
  repeat' split
  all_goals first | (congr 1; symm; rw [decide_eq_true_eq]; omega) | (congr 1; rw [Bool.eq_iff_iff]; simp; omega)
theorem implDigit (c : Int) : impl_isDigit.f c = some (digB c) := by
  unfold impl_isDigit.f digB
  repeat' split
  all_goals (congr 1; rw [Bool.eq_iff_iff]; simp; omega)
theorem specDigit (c : Int) : spec_l2digit.f c = some (digB c) := by
  unfold spec_l2digit.f digB
  repeat' split
  all_goals (congr 1; rw [Bool.eq_iff_iff]; simp; omega)
def alB (c : Int) : Bool := letB c || digB c
def runN : List Int → Nat
  | [] => 0
  | c :: r => if alB c then runN r + 1 else 0
theorem runN_le : ∀ r : List Int, runN r ≤ r.length
  | [] => by simp [runN]
  | c :: r => by
    have := runN_le r
    simp only [runN, List.length_cons]
    split <;> omega
theorem runN_take : ∀ r : List Int, ∀ c ∈ r.take (runN r), alB c = true
  | [], c, h => by simp at h
  | d :: r, c, h => by
    unfold runN at h
    by_cases hd : alB d = true
    · rw [if_pos hd] at h
      simp only [List.take_succ_cons, List.mem_cons] at h
      rcases h with rfl | h
      · exact hd
      · exact runN_take r c h
    · rw [if_neg hd] at h
      simp at h
theorem specRun (xs : List Int) (hn : xs.length ≤ 6000) (i : Nat) (hi : i ≤ xs.length) (d : Nat) : ∀ (n : Nat), xs.length - (i + n) = d → i + n ≤ xs.length →
    Ev (fun k => spec_l2run.l0 k xs (i : Int) (n : Int)) ((n + runN (xs.drop (i + n)) : Nat) : Int) := by
  induction d with
  | zero =>
    intro n hd hl
    have hge : xs.length ≤ i + n := by omega
    have f1 : ¬ ((i + n : Nat) : Int) < (xs.length : Int) := by omega
    rw [List.drop_eq_nil_of_le hge]
    refine Ev.step (f := fun _ => some (n : Int)) (fun k => ?_) (by simpa [runN] using Ev.now _)
    simp only [spec_l2run.l0, wrapn i n (by omega), if_neg f1]
  | succ d ih =>
    intro n hd hl
    have hlt : i + n < xs.length := by omega
    have f1 : ((i + n : Nat) : Int) < (xs.length : Int) := by omega
    have f2 : 0 ≤ ((i + n : Nat) : Int) := by omega
    have key := ih (n + 1) (by omega) (by omega)
    rw [show i + (n + 1) = i + n + 1 by omega, show n + 1 + runN (xs.drop (i + n + 1)) = n + (runN (xs.drop (i + n + 1)) + 1) by omega] at key
    rw [List.drop_eq_getElem_cons hlt, runN]
    have hrd : rd xs ((i + n : Nat) : Int) = xs[i + n] := rd_nat xs (i + n) hlt
    have bn : n ≤ 1073741824 := by omega
    have bw : i + n ≤ 2147483648 := by omega
    by_cases hl : letB xs[i + n] = true
    · rw [if_pos (show alB xs[i + n] = true by simp [alB, hl])]
      refine Ev.step (fun k => ?_) key
      simp only [spec_l2run.l0, wrapn i n bw, if_pos f1, if_pos f2, hrd, specLetter, Option.bind_some, hl, if_true, wrap1 n bn]
    · by_cases hdg : digB xs[i + n] = true
      · rw [if_pos (show alB xs[i + n] = true by simp [alB, hdg])]
        refine Ev.step (fun k => ?_) key
        simp only [spec_l2run.l0, wrapn i n bw, if_pos f1, if_pos f2, hrd, specLetter, specDigit, Option.bind_some, if_neg hl, hdg, if_true, wrap1 n bn]
      · rw [if_neg (show ¬ alB xs[i + n] = true by simp [alB, hl, hdg])]
        refine Ev.step (f := fun _ => some (n : Int)) (fun k => ?_) (by simpa using Ev.now _)
        simp only [spec_l2run.l0, wrapn i n bw, if_pos f1, if_pos f2, hrd, specLetter, specDigit, Option.bind_some, if_neg hl, if_neg hdg]
theorem specRun_ev (xs : List Int) (hn : xs.length ≤ 6000) (i : Nat) (hi : i ≤ xs.length) : Ev (fun k => spec_l2run.f k xs (i : Int)) ((runN (xs.drop i) : Nat) : Int) := by
  have := specRun xs hn i hi (xs.length - i) 0 (by omega) (by omega)
  simpa [spec_l2run.f] using this

/-! ### texts of bytes -/
def bt8 (xs : List Int) : List UInt8 := xs.map fun n => UInt8.ofNat n.toNat
theorem strOf_toList (xs : List Int) : (strOfNums xs).toList = bt8 xs := by
  unfold bt8; rw [← strOfNums_data]; exact ByteArray.toList_eq _
theorem strOf_data (xs : List Int) : (strOfNums xs).data.toList = bt8 xs := by
  unfold bt8; exact strOfNums_data _
theorem letB_range {c : Int} (h : letB c = true) : 65 ≤ c ∧ c ≤ 122 ∧ c ≠ 91 ∧ c ≠ 93 := by
  have := of_decide_eq_true h; omega
theorem digB_range {c : Int} (h : digB c = true) : 48 ≤ c ∧ c ≤ 57 := of_decide_eq_true h
theorem alB_range {c : Int} (h : alB c = true) : 48 ≤ c ∧ c ≤ 122 := by
  unfold alB at h
  rcases Bool.or_eq_true_iff.1 h with h | h
  · have := letB_range h; omega
  · have := digB_range h; omega
theorem bt8_ne32 (w : List Int) (hw : ∀ c ∈ w, alB c = true) : ∀ c ∈ bt8 w, c ≠ 32 := by
  intro c hc h
  obtain ⟨n, hn, rfl⟩ := List.mem_map.1 hc
  have hr := alB_range (hw n hn)
  have := congrArg UInt8.toNat h
  simp at this
  omega
def kws : List (List UInt8) := [[97, 110, 100], [98, 114, 101, 97, 107], [100, 111], [101, 108, 115, 101], [101, 108, 115, 101, 105, 102], [101, 110, 100], [102, 97, 108, 115, 101], [102, 111, 114], [102, 117, 110, 99, 116, 105, 111, 110], [105, 102], [108, 111, 99, 97, 108], [110, 105, 108], [110, 111, 116], [111, 114], [114, 101, 112, 101, 97, 116], [114, 101, 116, 117, 114, 110], [116, 104, 101, 110], [116, 114, 117, 101], [117, 110, 116, 105, 108], [119, 104, 105, 108, 101]]
theorem kwText_blanked : kwText = blanked kws := by decide
theorem kws_ne32 : ∀ w ∈ kws, ∀ c ∈ w, c ≠ 32 := by decide
theorem isKw_word (w : List Int) (hw : ∀ c ∈ w, alB c = true) : isKw (strOfNums w) = decide (bt8 w ∈ kws) := by
  unfold isKw
  rw [kwText_blanked, strOf_data]
  exact contains_blanked (bt8 w) (bt8_ne32 w hw) kws kws_ne32
theorem rdOf_nat (ws : List ByteArray) (i : Nat) (h : i < ws.length) : rdOf ByteArray.empty ws (i : Int) = ws[i] := by
  simp [rdOf, List.getD_eq_getElem?_getD, h]
theorem specWord_loop (s : ByteArray) (ws : List ByteArray) (hn : ws.length ≤ 1000) (d : Nat) : ∀ (i : Nat), ws.length - i = d → i ≤ ws.length →
    Ev (fun k => spec_l2isWord.l0 k s ws (i : Int)) (decide (s.toList ∈ (ws.drop i).map ByteArray.toList)) := by
  induction d with
  | zero =>
    intro i hd hi
    have f1 : ¬ (i : Int) < (ws.length : Int) := by omega
    rw [List.drop_eq_nil_of_le (by omega)]
    refine Ev.step (f := fun _ => some false) (fun k => ?_) (by simpa using Ev.now false)
    simp only [spec_l2isWord.l0, if_neg f1]
  | succ d ih =>
    intro i hd hi
    have hlt : i < ws.length := by omega
    have f1 : (i : Int) < (ws.length : Int) := by omega
    have f2 : 0 ≤ (i : Int) := by omega
    have bn : i ≤ 1073741824 := by omega
    rw [List.drop_eq_getElem_cons hlt]
    have hrd := rdOf_nat ws i hlt
    rw [List.map_cons]
    by_cases h : ws[i].toList = s.toList
    · refine Ev.step (f := fun _ => some true) (fun k => ?_) (by rw [h, show decide (s.toList ∈ s.toList :: (ws.drop (i + 1)).map ByteArray.toList) = true by simp]; exact Ev.now true)
      simp only [spec_l2isWord.l0, if_pos f1, if_pos f2, hrd, if_pos h]
    · have key := ih (i + 1) (by omega) (by omega)
      rw [show decide (s.toList ∈ ws[i].toList :: (ws.drop (i + 1)).map ByteArray.toList) = decide (s.toList ∈ (ws.drop (i + 1)).map ByteArray.toList) by rw [decide_eq_decide, List.mem_cons]; exact ⟨fun e => e.elim (fun e => absurd e.symm h) id, .inr⟩]
      refine Ev.step (fun k => ?_) key
      simp only [spec_l2isWord.l0, if_pos f1, if_pos f2, hrd, if_neg h, wrap1 i bn]
theorem specWord_ev (w : List Int) : Ev (fun k => spec_l2isWord.f k (strOfNums w)) (decide (bt8 w ∈ kws)) := by
  unfold spec_l2isWord.f spec_l2words.f
  simp only [Option.bind_some]
  refine Eq.subst (motive := fun b => Ev _ b) ?_ (specWord_loop (strOfNums w) _ (by simp) _ 0 rfl (by simp))
  rw [strOf_toList]
  rw [decide_eq_decide, List.drop_zero]
  have e : ∀ ws : List ByteArray, ws.map ByteArray.toList = ws.map (fun s => s.data.toList) := fun ws => List.map_congr_left (fun s _ => ByteArray.toList_eq s)
  rw [e]
  exact Iff.rfl
/-! ### signs -/
def sgn : List (List Nat) → List Int → Int × Int × Int
  | [], _ => (0, 0, 2)
  | s :: r, l => if s.length ≤ l.length ∧ l.take s.length = s.map (fun (n : Nat) => (n : Int)) then (5, (s.length : Int), 0) else sgn r l
def sgText (s : List Nat) : ByteArray := ⟨(s.map UInt8.ofNat).toArray⟩
theorem bt8_eq (l : List Int) (hb : ∀ x ∈ l, 0 ≤ x ∧ x ≤ 255) : ∀ (s : List Nat), (∀ n ∈ s, n ≤ 255) → (bt8 l = s.map UInt8.ofNat ↔ l = s.map (fun (n : Nat) => (n : Int))) := by
  induction l with
  | nil => intro s _; cases s <;> simp [bt8]
  | cons c l ih =>
    intro s hs
    cases s with
    | nil => simp [bt8]
    | cons n s =>
      have h1 := u8_ofNat_eq n (hb c (by simp)).1 (hb c (by simp)).2 (hs n (by simp))
      have h2 := ih (fun x hx => hb x (by simp [hx])) s (fun x hx => hs x (by simp [hx]))
      unfold bt8 at h2 ⊢
      simp only [List.map_cons, List.cons.injEq, h1, h2]
theorem sgText_toList (s : List Nat) : (sgText s).toList = s.map UInt8.ofNat := by
  rw [ByteArray.toList_eq]; simp [sgText]
theorem sgText_size (s : List Nat) : (sgText s).size = s.length := by simp [sgText, ByteArray.size]
theorem slice_eq (xs : List Int) (i m : Nat) : (xs.take (i + m)).drop i = (xs.drop i).take m := by
  rw [List.drop_take]; congr 1; omega
theorem specSigns_loop (xs : List Int) (hb : ∀ x ∈ xs, 0 ≤ x ∧ x ≤ 255) (hn : xs.length ≤ 6000) (i : Nat) (hi : i ≤ xs.length) (ss : List (List Nat)) (hs : ∀ s ∈ ss, s.length ≤ 2 ∧ ∀ n ∈ s, n ≤ 255) (hl : ss.length ≤ 100) (d : Nat) : ∀ (j : Nat), ss.length - j = d → j ≤ ss.length →
    Ev (fun k => spec_l2token.l0 k xs (i : Int) (ss.map sgText) (j : Int)) (sgn (ss.drop j) (xs.drop i)) := by
  induction d with
  | zero =>
    intro j hd hj
    have f1 : ¬ (j : Int) < ((ss.map sgText).length : Int) := by rw [List.length_map]; omega
    rw [List.drop_eq_nil_of_le (show ss.length ≤ j by omega)]
    refine Ev.step (f := fun _ => some (0, 0, 2)) (fun k => ?_) (by simpa [sgn] using Ev.now _)
    simp only [spec_l2token.l0, if_neg f1]
  | succ d ih =>
    intro j hd hj
    have hlt : j < ss.length := by omega
    have f1 : (j : Int) < ((ss.map sgText).length : Int) := by rw [List.length_map]; omega
    have f2 : 0 ≤ (j : Int) := by omega
    have bn : j ≤ 1073741824 := by omega
    have f3 : 0 ≤ (i : Int) := by omega
    have hrd : rdOf ByteArray.empty (ss.map sgText) (j : Int) = sgText ss[j] := by
      rw [rdOf_nat _ j (by simpa using hlt)]; simp
    obtain ⟨s, hsj⟩ : ∃ s, s = ss[j] := ⟨_, rfl⟩
    rw [← hsj] at hrd
    have hsb := hs s (by rw [hsj]; exact List.getElem_mem _)
    rw [List.drop_eq_getElem_cons hlt, ← hsj]
    have hw : wrap64 ((i : Int) + (s.length : Int)) = ((i + s.length : Nat) : Int) := wrapn i s.length (by omega)
    have key := ih (j + 1) (by omega) (by omega)
    have f4 : (i : Int) ≤ ((i + s.length : Nat) : Int) := by omega
    have hsl : ((((xs.take ((i + s.length : Nat) : Int).toNat).drop ((i : Int)).toNat))) = (xs.drop i).take s.length := by
      rw [Int.toNat_natCast, Int.toNat_natCast]; exact slice_eq xs i s.length
    have hbl : ∀ x ∈ (xs.drop i).take s.length, 0 ≤ x ∧ x ≤ 255 := fun x hx => hb x (List.mem_of_mem_drop (List.mem_of_mem_take hx))
    have heq := bt8_eq _ hbl s hsb.2
    unfold sgn
    by_cases hle : i + s.length ≤ xs.length
    · have f5 : ((i + s.length : Nat) : Int) ≤ (xs.length : Int) := by omega
      by_cases h : (xs.drop i).take s.length = s.map (fun (n : Nat) => (n : Int))
      · have hc : bt8 ((xs.drop i).take s.length) = s.map UInt8.ofNat := heq.2 h
        rw [if_pos ⟨by rw [List.length_drop]; omega, h⟩]
        refine Ev.step (f := fun _ => some (5, (s.length : Int), 0)) (fun k => ?_) (Ev.now _)
        simp only [spec_l2token.l0, if_pos f1, if_pos f2, hrd, sgText_size, hw, if_pos f5, if_pos f3, if_pos f4, hsl, strOf_toList, sgText_toList, if_pos hc]
      · have hc : ¬ bt8 ((xs.drop i).take s.length) = s.map UInt8.ofNat := fun e => h (heq.1 e)
        rw [if_neg (fun e => h e.2)]
        refine Ev.step (fun k => ?_) key
        simp only [spec_l2token.l0, if_pos f1, if_pos f2, hrd, sgText_size, hw, if_pos f5, if_pos f3, if_pos f4, hsl, strOf_toList, sgText_toList, if_neg hc, wrap1 j bn]
    · have f5 : ¬ ((i + s.length : Nat) : Int) ≤ (xs.length : Int) := by omega
      rw [if_neg (fun e => by have := e.1; rw [List.length_drop] at this; omega)]
      refine Ev.step (fun k => ?_) key
      simp only [spec_l2token.l0, if_pos f1, if_pos f2, hrd, sgText_size, hw, if_neg f5, wrap1 j bn]
def signs : List (List Nat) := [[61, 61], [126, 61], [60, 61], [62, 61], [47, 47], [46, 46], [43], [45], [42], [37], [60], [62], [61], [40], [41], [123], [125], [91], [93], [59], [44], [46]]
def sg2 (c : Int) (r : List Int) : Bool := decide (((c = 61 ∨ c = 126 ∨ c = 60 ∨ c = 62) ∧ r.head? = some 61) ∨ (c = 47 ∧ r.head? = some 47) ∨ (c = 46 ∧ r.head? = some 46))
def sg1 (c : Int) : Bool := decide (c = 43 ∨ c = 45 ∨ c = 42 ∨ c = 37 ∨ c = 60 ∨ c = 62 ∨ c = 61 ∨ c = 40 ∨ c = 41 ∨ c = 123 ∨ c = 125 ∨ c = 91 ∨ c = 93 ∨ c = 59 ∨ c = 44 ∨ c = 46)
def sgOf (c : Int) (r : List Int) : Int × Int × Int := if sg2 c r = true then (5, 2, 0) else if sg1 c = true then (5, 1, 0) else (0, 0, 2)
theorem sgn_cons (s : List Nat) (rest : List (List Nat)) (l : List Int) : sgn (s :: rest) l = if s.length ≤ l.length ∧ l.take s.length = s.map (fun (n : Nat) => (n : Int)) then (5, (s.length : Int), 0) else sgn rest l := rfl
theorem sgn_nil (l : List Int) : sgn [] l = (0, 0, 2) := rfl
theorem sgn_two (a b : Nat) (rest : List (List Nat)) (c : Int) (r : List Int) : sgn ([a, b] :: rest) (c :: r) = if c = a ∧ r.head? = some (b : Int) then (5, 2, 0) else sgn rest (c :: r) := by
  rw [sgn_cons]
  cases r with
  | nil => simp
  | cons e r => simp
theorem sgn_one (a : Nat) (rest : List (List Nat)) (c : Int) (r : List Int) : sgn ([a] :: rest) (c :: r) = if c = a then (5, 1, 0) else sgn rest (c :: r) := by
  rw [sgn_cons]
  simp
set_option maxHeartbeats 2000000 in
theorem sgn_signs (c : Int) (r : List Int) : sgn signs (c :: r) = sgOf c r := by
  unfold signs
  simp only [sgn_two, sgn_one, sgn_nil]
  unfold sgOf sg2 sg1
  simp only [decide_eq_true_eq]
  by_cases a : c = 61
  · subst a; by_cases b : r.head? = some 61 <;> simp [b]
  by_cases a : c = 126
  · subst a; by_cases b : r.head? = some 61 <;> simp [b]
  by_cases a : c = 60
  · subst a; by_cases b : r.head? = some 61 <;> simp [b]
  by_cases a : c = 62
  · subst a; by_cases b : r.head? = some 61 <;> simp [b]
  by_cases a : c = 47
  · subst a; by_cases b : r.head? = some 47 <;> simp [b]
  by_cases a : c = 46
  · subst a; by_cases b : r.head? = some 46 <;> simp [b]
  simp only [Int.cast_ofNat_Int, *, false_and, if_false, false_or, or_false]
  repeat' split
  all_goals first | rfl | omega
/-! ### a token -/
def tok : List Int → Int × Int × Int
  | [] => (0, 0, 2)
  | c :: r => if letB c = true then (if decide (bt8 ((c :: r).take (runN (c :: r))) ∈ kws) = true then (4, (runN (c :: r) : Int), 0) else (1, (runN (c :: r) : Int), 0))
    else if digB c = true then (2, (runN (c :: r) : Int), (scanOf ((c :: r).take (runN (c :: r)))).2)
    else if c = 34 ∨ c = 39 then (if (litOf (c :: r)).2 = 0 then (0, 0, 2) else (3, (litOf (c :: r)).2, 0))
    else sgOf c r
theorem tok_cons (c : Int) (r : List Int) : tok (c :: r) = if letB c = true then (if decide (bt8 ((c :: r).take (runN (c :: r))) ∈ kws) = true then (4, (runN (c :: r) : Int), 0) else (1, (runN (c :: r) : Int), 0))
    else if digB c = true then (2, (runN (c :: r) : Int), (scanOf ((c :: r).take (runN (c :: r)))).2)
    else if c = 34 ∨ c = 39 then (if (litOf (c :: r)).2 = 0 then (0, 0, 2) else (3, (litOf (c :: r)).2, 0))
    else sgOf c r := rfl
theorem spec_token_ev (xs : List Int) (hb : ∀ x ∈ xs, 0 ≤ x ∧ x ≤ 255) (hn : xs.length ≤ 6000) (i : Nat) (hi : i < xs.length) : Ev (fun k => spec_l2token.f k xs (i : Int)) (tok (xs.drop i)) := by
  have f1 : 0 ≤ (i : Int) := by omega
  have f2 : (i : Int) < (xs.length : Int) := by omega
  obtain ⟨c, r, hcr⟩ : ∃ c r, xs.drop i = c :: r := ⟨_, _, List.drop_eq_getElem_cons hi⟩
  have hrd := (rd_drop xs i c r hcr).2.1
  have hrun := specRun_ev xs hn i (by omega)
  rw [hcr] at hrun
  rw [hcr]
  have hrl := runN_le (c :: r)
  have hcl : (c :: r).length = xs.length - i := by rw [← hcr, List.length_drop]
  obtain ⟨n, hnn⟩ : ∃ n, n = runN (c :: r) := ⟨_, rfl⟩
  have hw : wrap64 ((i : Int) + (n : Int)) = ((i + n : Nat) : Int) := wrapn i n (by omega)
  have f3 : (i : Int) ≤ ((i + n : Nat) : Int) := by omega
  have f4 : ((i + n : Nat) : Int) ≤ (xs.length : Int) := by omega
  have hsl : ((xs.take ((i + n : Nat) : Int).toNat).drop ((i : Int)).toNat) = (c :: r).take n := by
    rw [Int.toNat_natCast, Int.toNat_natCast, slice_eq, hcr]
  refine Ev.congr (f := fun k => (spec_l2run.f k xs (i : Int)).bind fun t161 => _) (fun k => by unfold spec_l2token.f; rw [if_pos f1, if_pos f2]) (Ev.bind hrun ?_)
  simp only [hrd, specLetter, specDigit, Option.bind_some]
  rw [tok_cons, ← hnn]
  by_cases hl : letB c = true
  · simp only [if_pos hl, hw, if_pos f3, if_pos f4, hsl]
    refine Ev.bind (specWord_ev _) ?_
    by_cases hk : decide (bt8 ((c :: r).take n) ∈ kws) = true
    · simp only [if_pos hk]; exact Ev.now _
    · simp only [if_neg hk]; exact Ev.now _
  · by_cases hd : digB c = true
    · simp only [if_neg hl, if_pos hd, hw, if_pos f3, if_pos f4, hsl]
      refine Ev.bind (spec_scan_ev _ (fun x hx => hb x ?_) ?_) (Ev.now _)
      · have := List.mem_of_mem_take hx
        rw [← hcr] at this
        exact List.mem_of_mem_drop this
      · have := List.length_take_le n (c :: r); omega
    · simp only [if_neg hl, if_neg hd]
      have hlit := spec_lit_ev xs hb (by omega) i (by omega)
      rw [hcr] at hlit
      have yes : (c = 34 ∨ c = 39) → Ev (fun k => spec_l2token.j0 k xs (i : Int) true) (if (litOf (c :: r)).2 = 0 then (0, 0, 2) else (3, (litOf (c :: r)).2, 0)) := by
        intro _
        refine Ev.step (fun k => by simp only [spec_l2token.j0, if_true]; rfl) (Ev.bind hlit ?_)
        by_cases h0 : (litOf (c :: r)).2 = 0
        · simp only [if_pos h0]; exact Ev.now _
        · simp only [if_neg h0]; exact Ev.now _
      by_cases h34 : c = 34
      · simp only [if_pos h34]
        rw [if_pos (Or.inl h34)]
        exact yes (.inl h34)
      · by_cases h39 : c = 39
        · simp only [if_neg h34]
          rw [if_pos (Or.inr h39), show (c == 39) = true by simp [h39]]
          exact yes (.inr h39)
        · simp only [if_neg h34]
          rw [if_neg (show ¬ (c = 34 ∨ c = 39) by omega), show (c == 39) = false by simp [h39]]
          have := specSigns_loop xs hb hn i (by omega) signs (by decide) (by decide) signs.length 0 rfl (by omega)
          rw [List.drop_zero, hcr, sgn_signs] at this
          refine Ev.step (fun k => ?_) this
          simp only [spec_l2token.j0, Bool.false_eq_true, if_false, spec_l2signs.f, Option.bind_some]
          rfl
/-- A token takes at least a byte, and ends in the source. -/
theorem tok_len (l : List Int) (hl : l ≠ []) (h : (tok l).2.2 = 0) : ∃ n : Nat, (tok l).2.1 = (n : Int) ∧ 1 ≤ n ∧ n ≤ l.length := by
  cases l with
  | nil => exact absurd rfl hl
  | cons c r =>
    have hrl := runN_le (c :: r)
    have hlit := litOf_length (c :: r)
    have hpos : alB c = true → 1 ≤ runN (c :: r) := by
      intro h; unfold runN; rw [if_pos h]; omega
    unfold tok at h ⊢
    by_cases h1 : letB c = true
    · have hp := hpos (by simp [alB, h1])
      simp only [if_pos h1]
      refine ⟨runN (c :: r), ?_, hp, hrl⟩
      split <;> rfl
    · by_cases h2 : digB c = true
      · have hp := hpos (by simp [alB, h2])
        simp only [if_neg h1, if_pos h2]
        exact ⟨runN (c :: r), rfl, hp, hrl⟩
      · by_cases h3 : c = 34 ∨ c = 39
        · simp only [if_neg h1, if_neg h2, if_pos h3] at h ⊢
          by_cases h4 : (litOf (c :: r)).2 = 0
          · rw [if_pos h4] at h; cases h
          · rw [if_neg h4]
            exact ⟨(litOf (c :: r)).2.toNat, by simp only; omega, by omega, by omega⟩
        · simp only [if_neg h1, if_neg h2, if_neg h3] at h ⊢
          unfold sgOf at h ⊢
          by_cases h4 : sg2 c r = true
          · rw [if_pos h4]
            refine ⟨2, rfl, by omega, ?_⟩
            have := of_decide_eq_true h4
            cases r with
            | nil => simp at this
            | cons _ _ => simp
          · by_cases h5 : sg1 c = true
            · rw [if_neg h4, if_pos h5]; exact ⟨1, rfl, by omega, by simp⟩
            · rw [if_neg h4, if_neg h5] at h; cases h
/-! ### the reference's rounds -/
def cmN : List Int → Nat
  | [] => 0
  | c :: r => if c = 10 then 0 else cmN r + 1
theorem cmN_le : ∀ r : List Int, cmN r ≤ r.length
  | [] => by simp [cmN]
  | c :: r => by
    have := cmN_le r
    simp only [cmN, List.length_cons]
    split <;> omega
theorem spec_cm (xs : List Int) (hn : xs.length ≤ 6000) (o : List S38) (R : List S38 × Int × Int) (d : Nat) : ∀ (i : Nat), xs.length - i = d → i ≤ xs.length →
    Ev (fun k => spec_Lex.l0 k xs o ((i + cmN (xs.drop i) : Nat) : Int)) R → Ev (fun k => spec_Lex.l1 k xs o (i : Int)) R := by
  induction d with
  | zero =>
    intro i hd hi h
    have f1 : ¬ (i : Int) < (xs.length : Int) := by omega
    rw [List.drop_eq_nil_of_le (by omega)] at h
    refine Ev.step (fun k => ?_) (by simpa [cmN] using h)
    simp only [spec_Lex.l1, if_neg f1]
  | succ d ih =>
    intro i hd hi h
    have hlt : i < xs.length := by omega
    have f1 : (i : Int) < (xs.length : Int) := by omega
    have f2 : 0 ≤ (i : Int) := by omega
    have bn : i ≤ 1073741824 := by omega
    have hrd := rd_nat xs i hlt
    rw [List.drop_eq_getElem_cons hlt, cmN] at h
    by_cases hc : xs[i] = 10
    · rw [if_pos hc] at h
      refine Ev.step (fun k => ?_) (by simpa using h)
      simp only [spec_Lex.l1, if_pos f1, if_pos f2, hrd, if_pos hc]
    · rw [if_neg hc] at h
      have key := ih (i + 1) (by omega) (by omega) (by rw [show i + 1 + cmN (xs.drop (i + 1)) = i + (cmN (xs.drop (i + 1)) + 1) by omega]; exact h)
      refine Ev.step (fun k => ?_) key
      simp only [spec_Lex.l1, if_pos f1, if_pos f2, hrd, if_neg hc, wrap1 i bn]
theorem impl_cm (xs : List Int) (hn : xs.length ≤ 6000) (o : List S38) (cd : Int) (R : List S38 × Int × Int) (d : Nat) : ∀ (i : Nat), xs.length - i = d → i ≤ xs.length →
    Ev (fun k => impl_Lex.nx k xs o ((i + cmN (xs.drop i) : Nat) : Int) cd) R → Ev (fun k => impl_Lex.cm k xs o (i : Int) cd) R := by
  induction d with
  | zero =>
    intro i hd hi h
    have f1 : ¬ (i : Int) < (xs.length : Int) := by omega
    rw [List.drop_eq_nil_of_le (by omega)] at h
    refine Ev.step (fun k => ?_) (by simpa [cmN] using h)
    simp only [impl_Lex.cm, if_neg f1]
  | succ d ih =>
    intro i hd hi h
    have hlt : i < xs.length := by omega
    have f1 : (i : Int) < (xs.length : Int) := by omega
    have f2 : 0 ≤ (i : Int) := by omega
    have bn : i ≤ 1073741824 := by omega
    have hrd := rd_nat xs i hlt
    rw [List.drop_eq_getElem_cons hlt, cmN] at h
    by_cases hc : xs[i] = 10
    · rw [if_pos hc] at h
      refine Ev.step (fun k => ?_) (by simpa using h)
      simp only [impl_Lex.cm, if_pos f1, if_pos f2, hrd, if_pos hc]
    · rw [if_neg hc] at h
      have key := ih (i + 1) (by omega) (by omega) (by rw [show i + 1 + cmN (xs.drop (i + 1)) = i + (cmN (xs.drop (i + 1)) + 1) by omega]; exact h)
      refine Ev.step (fun k => ?_) key
      simp only [impl_Lex.cm, if_pos f1, if_pos f2, hrd, if_neg hc, wrap1 i bn]
def spB (c : Int) : Bool := decide (c = 32 ∨ c = 9 ∨ c = 13 ∨ c = 10)
/-- What the reference's loop does at a byte: blanks, a comment, a token. -/
theorem spec_round (xs : List Int) (hb : ∀ x ∈ xs, 0 ≤ x ∧ x ≤ 255) (hn : xs.length ≤ 6000) (o : List S38) (ho : o.length ≤ 6000) (i : Nat) (c : Int) (r : List Int) (hcr : xs.drop i = c :: r) (R : List S38 × Int × Int)
    (h1 : spB c = true → Ev (fun k => spec_Lex.l0 k xs o ((i + 1 : Nat) : Int)) R)
    (h2 : c = 45 → r.head? = some 45 → Ev (fun k => spec_Lex.l0 k xs o ((i + cmN (c :: r) : Nat) : Int)) R)
    (h3 : spB c = false → ¬ (c = 45 ∧ r.head? = some 45) → (tok (c :: r)).2.2 = 0 → Ev (fun k => spec_Lex.l0 k xs (o ++ [(⟨(tok (c :: r)).1, (i : Int), (tok (c :: r)).2.1⟩ : S38)]) ((i : Int) + (tok (c :: r)).2.1)) R)
    (h4 : spB c = false → ¬ (c = 45 ∧ r.head? = some 45) → (tok (c :: r)).2.2 ≠ 0 → R = ([], (tok (c :: r)).2.2, (i : Int))) :
    Ev (fun k => spec_Lex.l0 k xs o (i : Int)) R := by
  obtain ⟨hlt, hrd, hr⟩ := rd_drop xs i c r hcr
  have f1 : (i : Int) < (xs.length : Int) := by omega
  have f2 : 0 ≤ (i : Int) := by omega
  have bn : i ≤ 1073741824 := by omega
  have e : Ev (fun k => spec_Lex.j1 k xs o (i : Int) c (spB c)) R → Ev (fun k => spec_Lex.l0 k xs o (i : Int)) R := by
    intro h
    refine Ev.step (fun k => ?_) h
    simp only [spec_Lex.l0, if_pos f1, if_pos f2, hrd]
    by_cases a : c = 32
    · rw [if_pos a, show spB c = true by simp [spB, a]]
    rw [if_neg a]
    by_cases b : c = 9
    · rw [if_pos b, show spB c = true by simp [spB, b]]
    rw [if_neg b]
    by_cases d : c = 13
    · rw [if_pos d, show spB c = true by simp [spB, d]]
    rw [if_neg d]
    congr 1
    simp only [spB, a, b, d, false_or]
    exact (Bool.beq_eq_decide_eq c 10)
  refine e ?_
  by_cases hs : spB c = true
  · rw [hs]
    refine Ev.step (fun k => ?_) (h1 hs)
    simp only [spec_Lex.j1, if_true, wrap1 i bn]
  have hs : spB c = false := by simpa using hs
  rw [hs]
  have e2 : ∀ b : Bool, (b = true ↔ (c = 45 ∧ r.head? = some 45)) → Ev (fun k => spec_Lex.j2 k xs o (i : Int) b) R → Ev (fun k => spec_Lex.j1 k xs o (i : Int) c false) R := by
    intro b hbb h
    refine Ev.step (fun k => ?_) h
    simp only [spec_Lex.j1, Bool.false_eq_true, if_false, wrap1 i bn]
    by_cases a : c = 45
    · rw [if_pos a]
      by_cases l : ((i + 1 : Nat) : Int) < (xs.length : Int)
      · rw [if_pos l, if_pos (show 0 ≤ ((i + 1 : Nat) : Int) by omega)]
        congr 1
        have hl2 : i + 1 < xs.length := by omega
        rw [List.drop_eq_getElem_cons hl2] at hr
        rw [rd_nat xs (i + 1) hl2]
        have : r.head? = some xs[i + 1] := by rw [← hr]; rfl
        rw [Bool.eq_iff_iff, hbb]
        simp [a, this]
      · rw [if_neg l]
        congr 1
        have : r = [] := by rw [← hr]; exact List.drop_eq_nil_of_le (by omega)
        rw [Bool.eq_iff_iff, hbb]
        simp [this]
    · rw [if_neg a]
      congr 1
      rw [Bool.eq_iff_iff, hbb]
      simp [a]
  by_cases hcm : c = 45 ∧ r.head? = some 45
  · refine e2 true (by simp [hcm]) ?_
    refine Ev.step (fun k => ?_) (spec_cm xs hn o R (xs.length - i) i rfl (by omega) (by rw [hcr]; exact h2 hcm.1 hcm.2))
    simp only [spec_Lex.j2, if_true]
  · refine e2 false (by simpa using hcm) ?_
    have ht := spec_token_ev xs hb hn i hlt
    rw [hcr] at ht
    refine Ev.step (fun k => by simp only [spec_Lex.j2, Bool.false_eq_true, if_false]; rfl) (Ev.bind ht ?_)
    have fo : o.length < 5864062014805 := by omega
    by_cases h0 : (tok (c :: r)).2.2 = 0
    · simp only [if_pos h0, if_pos fo]
      obtain ⟨n, hn1, hn2, hn3⟩ := tok_len (c :: r) (by simp) h0
      have hcl : (c :: r).length = xs.length - i := by rw [← hcr, List.length_drop]
      have := h3 hs hcm h0
      rw [hn1] at this ⊢
      rw [show wrap64 ((i : Int) + (n : Int)) = (i : Int) + (n : Int) by rw [wrapn i n (by omega)]; omega]
      exact this
    · simp only [if_neg h0]
      rw [h4 hs hcm h0]
      exact Ev.now _

end Go.Proofs.Ytchfdpmkgjblgaa.Pure
