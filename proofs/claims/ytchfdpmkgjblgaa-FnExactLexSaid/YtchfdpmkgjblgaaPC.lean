/- Laws on what the printed functions over bytes, marks, whole numbers and text literals compute; no condition beyond the bytes being bytes. -/
import Derived.Test.YtchfdpmkgjblgaaMx12
namespace Go.Proofs.Ytchfdpmkgjblgaa.Pure
set_option linter.unusedVariables false
set_option linter.unusedSimpArgs false
open Go.RowKit Go.Proofs.Ytchfdpmkgjblgaa.M Go.Proofs.YtchfdpmkgjblgaaW.PrintWords Go.Proofs.YtchfdpmkgjblgaaW.PrintLast
/-! ### the law's own helpers over bytes: copies, comparison, marks -/
theorem lit_u8 {x : Int} (h : (Lit.int .u8 x).wf = true) : 0 ≤ x ∧ x ≤ 255 := by
  have h2 := h
  simp [Lit.wf] at h2
  have e1 : IntKind.u8.min = 0 := rfl
  have e2 : IntKind.u8.max = 255 := rfl
  omega
theorem rd_nat (xs : List Int) (i : Nat) (h : i < xs.length) : rd xs (i : Int) = xs[i] := by
  simp [rd, List.getD_eq_getElem?_getD, h]
theorem wrap_succ {i n : Nat} (h : i < n) (hn : n ≤ 1073741824) : wrap64 ((i : Int) + 1) = ((i + 1 : Nat) : Int) := by
  unfold wrap64; omega

theorem toByteS_loop (xs : List Int) (hn : xs.length ≤ 1073741824) (d : Nat) : ∀ (i : Nat) (ys : List Int), xs.length - i = d → i ≤ xs.length → ys.length = xs.length → ys.take i = xs.take i →
    Ev (fun k => laws_toByteS.l0 k xs ys (i : Int)) xs := by
  induction d with
  | zero =>
    intro i ys hd hi hl ht
    have hi2 : i = xs.length := by omega
    have : ys = xs := by
      rw [List.take_of_length_le (by omega), List.take_of_length_le (by omega)] at ht
      exact ht
    subst this
    refine Ev.step (f := fun _ => some ys) (fun k => ?_) (Ev.now _)
    simp only [laws_toByteS.l0]
    rw [if_neg (by omega)]
  | succ d ih =>
    intro i ys hd hi hl ht
    have hlt : i < xs.length := by omega
    refine Ev.step (f := fun k => laws_toByteS.l0 k xs (ys.set i xs[i]) ((i + 1 : Nat) : Int)) (fun k => ?_) (ih (i + 1) (ys.set i xs[i]) (by omega) (by omega) (by simpa using hl) ?_)
    · simp only [laws_toByteS.l0]
      rw [if_pos (by omega), if_pos (by omega), if_pos (by omega), rd_nat xs i hlt, wrap_succ hlt hn]
      simp
    · apply List.ext_getElem?
      intro j
      simp only [List.getElem?_take, List.getElem?_set]
      have htj := congrArg (fun l => l[j]?) ht
      simp only [List.getElem?_take] at htj
      by_cases h1 : j < i + 1
      · rw [if_pos h1, if_pos h1]
        by_cases h2 : i = j
        · subst h2
          rw [if_pos rfl, if_pos (by omega)]
          simp [hlt]
        · rw [if_neg h2]
          rw [if_pos (by omega), if_pos (by omega)] at htj
          exact htj
      · rw [if_neg h1, if_neg h1]
theorem toByteS_ev (xs : List Int) (hn : xs.length ≤ 1073741824) : Ev (fun k => laws_toByteS.f k xs) xs := by
  refine Ev.congr (fun k => ?_) (toByteS_loop xs hn xs.length 0 (List.replicate xs.length 0) (by omega) (by omega) (by simp) (by simp))
  unfold laws_toByteS.f
  rw [if_pos (by omega), if_pos (by omega)]
  simp

theorem eqByteS_loop (xs : List Int) (hn : xs.length ≤ 1073741824) (d : Nat) : ∀ (i : Nat), xs.length - i = d → i ≤ xs.length → Ev (fun k => laws_eqByteS.l0 k xs xs (i : Int)) true := by
  induction d with
  | zero =>
    intro i hd hi
    refine Ev.step (f := fun _ => some true) (fun k => ?_) (Ev.now _)
    simp only [laws_eqByteS.l0]
    rw [if_neg (by omega)]
  | succ d ih =>
    intro i hd hi
    have hlt : i < xs.length := by omega
    refine Ev.step (f := fun k => laws_eqByteS.l0 k xs xs ((i + 1 : Nat) : Int)) (fun k => ?_) (ih (i + 1) (by omega) (by omega))
    simp only [laws_eqByteS.l0]
    rw [if_pos (by omega), if_pos (by omega), if_pos (by omega), if_pos trivial, wrap_succ hlt hn]
theorem eqByteS_ev (xs : List Int) (hn : xs.length ≤ 1073741824) : Ev (fun k => laws_eqByteS.f k xs xs) true := by
  refine Ev.congr (fun k => ?_) (eqByteS_loop xs hn xs.length 0 (by omega) (by omega))
  unfold laws_eqByteS.f
  rw [if_pos rfl]
  rfl

/-- The marks that the law lays: 1, 2, .. modulo 256. -/
def marks (n : Nat) : List Int := (List.range n).map fun (j : Nat) => ((j : Int) + 1) % 256
theorem marks_length (n : Nat) : (marks n).length = n := by simp [marks]
theorem marks_get (n i : Nat) (h : i < n) : (marks n)[i]? = some (((i : Int) + 1) % 256) := by simp [marks, h]
theorem markByteS_loop (n : Nat) (hn : n ≤ 1073741824) (d : Nat) : ∀ (i : Nat) (xs : List Int), n - i = d → i ≤ n → xs.length = n → xs.take i = (marks n).take i →
    Ev (fun k => laws_markByteS.l0 k xs ((i : Int) + 1) (i : Int)) ((n : Int) + 1, marks n) := by
  induction d with
  | zero =>
    intro i xs hd hi hl ht
    have hi2 : i = n := by omega
    have : xs = marks n := by
      rw [List.take_of_length_le (by omega), List.take_of_length_le (by rw [marks_length]; omega)] at ht
      exact ht
    subst hi2
    subst this
    refine Ev.step (f := fun _ => some ((i : Int) + 1, marks i)) (fun k => ?_) (Ev.now _)
    simp only [laws_markByteS.l0]
    rw [if_neg (by omega)]
  | succ d ih =>
    intro i xs hd hi hl ht
    have hlt : i < n := by omega
    refine Ev.step (f := fun k => laws_markByteS.l0 k (xs.set i (((i : Int) + 1) % 256)) (((i + 1 : Nat) : Int) + 1) ((i + 1 : Nat) : Int)) (fun k => ?_) (ih (i + 1) _ (by omega) (by omega) (by simpa using hl) ?_)
    · simp only [laws_markByteS.l0]
      rw [if_pos (by omega), if_pos (by omega), wrap_succ hlt hn, show wrap64 ((i : Int) + 1 + 1) = ((i + 1 : Nat) : Int) + 1 by unfold wrap64; omega]
      simp
    · apply List.ext_getElem?
      intro j
      simp only [List.getElem?_take, List.getElem?_set]
      have htj := congrArg (fun l => l[j]?) ht
      simp only [List.getElem?_take] at htj
      by_cases h1 : j < i + 1
      · rw [if_pos h1, if_pos h1]
        by_cases h2 : i = j
        · subst h2
          rw [if_pos rfl, if_pos (by omega), marks_get n i hlt]
        · rw [if_neg h2]
          rw [if_pos (by omega), if_pos (by omega)] at htj
          exact htj
      · rw [if_neg h1, if_neg h1]
theorem markByteS_ev (xs : List Int) (hn : xs.length ≤ 1073741824) : Ev (fun k => laws_markByteS.f k xs 1) ((xs.length : Int) + 1, marks xs.length) := by
  refine Ev.congr (fun k => ?_) (markByteS_loop xs.length hn xs.length 0 xs (by omega) (by omega) rfl (by simp))
  unfold laws_markByteS.f
  rfl

/-! ### whole numbers in a source -/
/-- What a byte is as a digit: 99 if it is none. -/
def dv (c : Int) : Int := if 48 ≤ c ∧ c ≤ 57 then c - 48 else if 97 ≤ c ∧ c ≤ 102 then c - 87 else if 65 ≤ c ∧ c ≤ 70 then c - 55 else 99
theorem l1hex_ev (c : Int) (h0 : 0 ≤ c) (h1 : c ≤ 255) : Ev (fun k => spec_l1hex.f k c) (if dv c = 99 then -1 else dv c) := by
  refine ⟨2, fun k hk => ?_⟩
  obtain ⟨k, rfl⟩ : ∃ m, k = m + 2 := ⟨k - 2, by omega⟩
  show spec_l1hex.f (k + 2) c = _
  unfold spec_l1hex.f dv
  simp only [spec_l1hex.j0, spec_l1hex.j1]
  by_cases a : 48 ≤ c ∧ c ≤ 57
  · rw [if_pos (by omega), if_pos (by simpa using a.2), if_pos a, if_neg (by omega)]; congr 1; omega
  · rw [if_neg a]
    by_cases b : 97 ≤ c ∧ c ≤ 102
    · rw [if_pos b, if_neg (show ¬ (c - 87 = 99) by omega)]
      rw [if_pos (by omega), if_neg (by simp; omega), if_pos (by omega), if_pos (by simpa using b.2)]; congr 1; omega
    · rw [if_neg b]
      by_cases d : 65 ≤ c ∧ c ≤ 70
      · rw [if_pos d, if_neg (show ¬ (c - 55 = 99) by omega)]
        rw [if_pos (by omega), if_neg (by simp; omega), if_neg (by omega), if_neg (by simp), if_pos (by omega), if_pos (by omega)]; congr 1; omega
      · rw [if_neg d, if_pos rfl]
        repeat' split
        all_goals first | rfl | omega | (simp at * <;> omega)
theorem digitOf_ev (c : Int) (h0 : 0 ≤ c) (h1 : c ≤ 255) : Ev (fun k => impl_digitOf.f k c) (dv c) := by
  refine ⟨2, fun k hk => ?_⟩
  obtain ⟨k, rfl⟩ : ∃ m, k = m + 2 := ⟨k - 2, by omega⟩
  show impl_digitOf.f (k + 2) c = _
  unfold impl_digitOf.f dv
  simp only [impl_digitOf.j0, impl_digitOf.j1]
  by_cases a : 48 ≤ c ∧ c ≤ 57
  · rw [if_pos (by omega), if_pos (by simpa using a.2), if_pos a]; congr 1; omega
  · rw [if_neg a]
    by_cases b : 97 ≤ c ∧ c ≤ 102
    · rw [if_pos b]
      rw [if_pos (by omega), if_neg (by simp; omega), if_pos (by omega), if_pos (by simpa using b.2)]; congr 1; omega
    · rw [if_neg b]
      by_cases d : 65 ≤ c ∧ c ≤ 70
      · rw [if_pos d]
        rw [if_pos (by omega), if_neg (by simp; omega), if_neg (by omega), if_neg (by simp), if_pos (by omega), if_pos (by omega)]; congr 1; omega
      · rw [if_neg d]
        repeat' split
        all_goals first | rfl | omega | (simp at * <;> omega)
theorem dv_range (c : Int) : 0 ≤ dv c ∧ (dv c ≤ 15 ∨ dv c = 99) := by
  unfold dv
  repeat' split
  all_goals omega
def goDig (base : Int) : List Int → Int → Option Int
  | [], v => some v
  | c :: r, v => if dv c ≥ base then none else goDig base r (wrap64 (wrap64 (v * base) + dv c))
/-- What ScanInt answers. -/
def scanEnd (big : Bool) : Option Int → Int × Int
  | none => (0, 2)
  | some v => if big then (0, 4) else (v, 0)
theorem spec_scan_loop (x0 ds : List Int) (base : Int) (hb : ∀ x ∈ ds, 0 ≤ x ∧ x ≤ 255) (hba : 1 ≤ base ∧ base ≤ 16) (hn : ds.length ≤ 1073741824) (d : Nat) : ∀ (i : Nat) (v : Int), ds.length - i = d → i ≤ ds.length →
    Ev (fun k => spec_ScanInt.l0 k x0 ds base v (i : Int)) (scanEnd (decide ((x0.length : Int) > 40)) (goDig base (ds.drop i) v)) := by
  induction d with
  | zero =>
    intro i v hd hi
    rw [List.drop_eq_nil_of_le (by omega)]
    refine Ev.step (f := fun _ => some _) (fun k => ?_) (Ev.now _)
    simp only [spec_ScanInt.l0]
    rw [if_neg (by omega)]
    by_cases hx : (x0.length : Int) > 40 <;> simp [goDig, scanEnd, hx]
  | succ d ih =>
    intro i v hd hi
    have hlt : i < ds.length := by omega
    obtain ⟨c, hc⟩ : ∃ c, c = ds[i] := ⟨_, rfl⟩
    have hcb := hb c (by rw [hc]; exact List.getElem_mem _)
    have hr := dv_range c
    rw [List.drop_eq_getElem_cons hlt, ← hc]
    have hrd : rd ds (i : Int) = c := by simp [rd, List.getD_eq_getElem?_getD, hlt, hc]
    have hw : wrap64 ((i : Int) + 1) = ((i + 1 : Nat) : Int) := by unfold wrap64; omega
    refine Ev.step (fun k => by simp only [spec_ScanInt.l0]; rw [if_pos (by omega), if_pos (by omega), hrd]) (Ev.bind (l1hex_ev c hcb.1 hcb.2) ?_)
    by_cases h99 : dv c = 99
    · simp only [if_pos h99, if_pos (show (-1 : Int) < 0 by omega)]
      simp only [goDig, if_pos (show dv c ≥ base by omega), scanEnd]
      exact Ev.now _
    · simp only [if_neg h99, if_neg (show ¬ dv c < 0 by omega), goDig]
      by_cases hge : dv c ≥ base
      · simp only [if_pos hge, scanEnd]
        exact Ev.now _
      · simp only [if_neg hge, hw]
        exact ih (i + 1) _ (by omega) (by omega)
theorem impl_scan_loop (x0 ds : List Int) (base : Int) (hb : ∀ x ∈ ds, 0 ≤ x ∧ x ≤ 255) (hn : ds.length ≤ 1073741824) (d : Nat) : ∀ (i : Nat) (v : Int), ds.length - i = d → i ≤ ds.length →
    Ev (fun k => impl_ScanInt.l0 k x0 ds base v ds (ds.length : Int) (i : Int)) (if ds.length = 0 then (0, 2) else scanEnd (decide ((x0.length : Int) > 40)) (goDig base (ds.drop i) v)) := by
  induction d with
  | zero =>
    intro i v hd hi
    rw [List.drop_eq_nil_of_le (by omega)]
    refine Ev.step (f := fun _ => some _) (fun k => ?_) (Ev.now _)
    simp only [impl_ScanInt.l0]
    rw [if_neg (by omega)]
    by_cases h0 : ds.length = 0
    · rw [if_pos (by omega), if_pos h0]
    · rw [if_neg (by omega), if_neg h0]
      by_cases hx : (x0.length : Int) > 40 <;> simp [goDig, scanEnd, hx]
  | succ d ih =>
    intro i v hd hi
    have hlt : i < ds.length := by omega
    obtain ⟨c, hc⟩ : ∃ c, c = ds[i] := ⟨_, rfl⟩
    have hcb := hb c (by rw [hc]; exact List.getElem_mem _)
    rw [List.drop_eq_getElem_cons hlt, ← hc]
    have hrd : rd ds (i : Int) = c := by simp [rd, List.getD_eq_getElem?_getD, hlt, hc]
    have hw : wrap64 ((i : Int) + 1) = ((i + 1 : Nat) : Int) := by unfold wrap64; omega
    refine Ev.step (fun k => by simp only [impl_ScanInt.l0]; rw [if_pos (by omega), if_pos (by omega), if_pos (by omega), hrd]) (Ev.bind (digitOf_ev c hcb.1 hcb.2) ?_)
    simp only [goDig]
    by_cases hge : dv c ≥ base
    · simp only [if_pos hge, scanEnd, if_neg (show ¬ ds.length = 0 by omega)]
      exact Ev.now _
    · simp only [if_neg hge, hw]
      have := ih (i + 1) (wrap64 (wrap64 (v * base) + dv c)) (by omega) (by omega)
      exact this
/-- The form '0x..' or '0X..'. -/
def isHex (xs : List Int) : Bool := decide ((xs.length : Int) > 2 ∧ rd xs 0 = 48 ∧ (rd xs 1 = 120 ∨ rd xs 1 = 88))
/-- ScanInt, plainly. -/
def scanOf (xs : List Int) : Int × Int :=
  let ds := if isHex xs then xs.drop 2 else xs
  let base : Int := if isHex xs then 16 else 10
  if ds.length = 0 then (0, 2) else scanEnd (decide ((xs.length : Int) > 40)) (goDig base ds 0)
theorem spec_scan_ev (xs : List Int) (hb : ∀ x ∈ xs, 0 ≤ x ∧ x ≤ 255) (hn : xs.length ≤ 1073741824) : Ev (fun k => spec_ScanInt.f k xs) (scanOf xs) := by
  have hbd : ∀ x ∈ xs.drop 2, 0 ≤ x ∧ x ≤ 255 := fun x hx => hb x (List.mem_of_mem_drop hx)
  have hj1 : ∀ (ds : List Int) (base : Int), (∀ x ∈ ds, 0 ≤ x ∧ x ≤ 255) → 1 ≤ base ∧ base ≤ 16 → ds.length ≤ 1073741824 →
      Ev (fun k => spec_ScanInt.j1 k xs ds base) (if ds.length = 0 then (0, 2) else scanEnd (decide ((xs.length : Int) > 40)) (goDig base ds 0)) := by
    intro ds base h1 h2 h3
    by_cases h0 : ds.length = 0
    · refine Ev.step (f := fun _ => some _) (fun k => ?_) (Ev.now _)
      simp only [spec_ScanInt.j1]
      rw [if_pos (by omega), if_pos h0]
    · rw [if_neg h0]
      refine Ev.step (fun k => ?_) (spec_scan_loop xs ds base h1 h2 h3 ds.length 0 0 (by omega) (by omega))
      simp only [spec_ScanInt.j1]
      rw [if_neg (by omega)]
      rfl
  have hyes : isHex xs = true → Ev (fun k => spec_ScanInt.j0 k xs xs 10 true) (scanOf xs) := by
    intro h
    have hl : (xs.length : Int) > 2 := (of_decide_eq_true h).1
    unfold scanOf
    simp only [h, if_true]
    refine Ev.step (fun k => ?_) (hj1 (xs.drop 2) 16 hbd (by omega) (by simp; omega))
    simp only [spec_ScanInt.j0, if_true]
    rw [if_pos (by omega)]
  have hno : isHex xs = false → Ev (fun k => spec_ScanInt.j0 k xs xs 10 false) (scanOf xs) := by
    intro h
    unfold scanOf
    simp only [h, Bool.false_eq_true, if_false]
    refine Ev.step (fun k => ?_) (hj1 xs 10 hb (by omega) hn)
    simp only [spec_ScanInt.j0, Bool.false_eq_true, if_false]
  by_cases hl : (xs.length : Int) > 2
  · by_cases h0 : rd xs 0 = 48
    · by_cases h1 : rd xs 1 = 120
      · refine Ev.congr (fun k => ?_) (hyes (by simp [isHex, hl, h0, h1]))
        unfold spec_ScanInt.f
        rw [if_pos hl, if_pos (by omega), if_pos h0, if_pos (by omega), if_pos h1]
      · by_cases h2 : rd xs 1 = 88
        · refine Ev.congr (fun k => ?_) (hyes (by simp [isHex, hl, h0, h2]))
          unfold spec_ScanInt.f
          rw [if_pos hl, if_pos (by omega), if_pos h0, if_pos (by omega), if_neg h1, h2]
          rfl
        · refine Ev.congr (fun k => ?_) (hno (by simp [isHex, h1, h2]))
          unfold spec_ScanInt.f
          rw [if_pos hl, if_pos (by omega), if_pos h0, if_pos (by omega), if_neg h1, beq_eq_false_iff_ne.2 h2]
    · refine Ev.congr (fun k => ?_) (hno (by simp [isHex, h0]))
      unfold spec_ScanInt.f
      rw [if_pos hl, if_pos (by omega), if_neg h0]
  · refine Ev.congr (fun k => ?_) (hno (by simp [isHex]; intro h; omega))
    unfold spec_ScanInt.f
    rw [if_neg hl]
theorem u8_ofNat_eq {a : Int} (n : Nat) (h0 : 0 ≤ a) (h1 : a ≤ 255) (hn : n ≤ 255) : UInt8.ofNat a.toNat = UInt8.ofNat n ↔ a = n := by
  constructor
  · intro h
    have := congrArg UInt8.toNat h
    simp at this
    omega
  · rintro rfl; simp
theorem hasPrefix2 (xs : List Int) (hb : ∀ x ∈ xs, 0 ≤ x ∧ x ≤ 255) (y : Nat) (hy : y ≤ 255) :
    bytes_HasPrefix.f xs [48, (y : Int)] = some (decide (2 ≤ xs.length ∧ rd xs 0 = 48 ∧ rd xs 1 = y)) := by
  unfold bytes_HasPrefix.f
  match xs, hb with
  | [], _ => simp
  | [a], _ => simp
  | a :: b :: r, hb =>
    have ha := hb a (by simp)
    have hbb := hb b (by simp)
    rw [if_pos (by simp; omega), if_pos (by simp), if_pos (by simp; omega)]
    unfold bytes_Equal.f
    have e : ((strOfNums ((a :: b :: r).take (([48, (y : Int)].length : Int) : Int).toNat)).toList == (strOfNums [48, (y : Int)]).toList) = decide (2 ≤ (a :: b :: r).length ∧ rd (a :: b :: r) 0 = 48 ∧ rd (a :: b :: r) 1 = y) := by
      rw [Bool.eq_iff_iff]
      simp only [beq_iff_eq, decide_eq_true_eq]
      have e1 : ∀ l : List Int, (strOfNums l).toList = l.map fun n => UInt8.ofNat n.toNat := by
        intro l; rw [← strOfNums_data]; exact ByteArray.toList_eq _
      rw [e1, e1]
      have q1 := u8_ofNat_eq 48 ha.1 ha.2 (by omega)
      have q2 := u8_ofNat_eq y hbb.1 hbb.2 hy
      have q3 : UInt8.ofNat (48 : Int).toNat = UInt8.ofNat 48 := rfl
      simp only [List.length_cons, List.length_nil, Int.toNat_natCast, List.take_succ_cons, List.take_zero, List.map_cons, List.map_nil, List.cons.injEq, and_true, q3, q1, q2]
      simp [rd]
    rw [e]
    rfl
theorem impl_scan_ev (xs : List Int) (hb : ∀ x ∈ xs, 0 ≤ x ∧ x ≤ 255) (hn : xs.length ≤ 1073741824) : Ev (fun k => impl_ScanInt.f k xs) (scanOf xs) := by
  have hbd : ∀ x ∈ xs.drop 2, 0 ≤ x ∧ x ≤ 255 := fun x hx => hb x (List.mem_of_mem_drop hx)
  have hj1 : ∀ (ds : List Int) (base : Int), (∀ x ∈ ds, 0 ≤ x ∧ x ≤ 255) → ds.length ≤ 1073741824 →
      Ev (fun k => impl_ScanInt.j1 k xs ds base) (if ds.length = 0 then (0, 2) else scanEnd (decide ((xs.length : Int) > 40)) (goDig base ds 0)) := by
    intro ds base h1 h3
    refine Ev.step (fun k => ?_) (impl_scan_loop xs ds base h1 h3 ds.length 0 0 (by omega) (by omega))
    simp only [impl_ScanInt.j1]
    rfl
  have hhex : 2 ≤ xs.length → rd xs 0 = 48 → (rd xs 1 = 120 ∨ rd xs 1 = 88) → Ev (fun k => impl_ScanInt.j0 k xs xs 10 true) (scanOf xs) := by
    intro h2 h48 h1
    refine Ev.step (f := fun k => impl_ScanInt.j1 k xs (xs.drop 2) 16) (fun k => by simp only [impl_ScanInt.j0, if_true]; rw [if_pos (by omega)]) ?_
    have := hj1 (xs.drop 2) 16 hbd (by simp; omega)
    by_cases hl : (xs.length : Int) > 2
    · have hx : isHex xs = true := by simp only [isHex, decide_eq_true_eq]; exact ⟨hl, h48, h1⟩
      unfold scanOf
      simp only [hx, if_true]
      exact this
    · have hl2 : xs.length = 2 := by omega
      have hx : isHex xs = false := by simp [isHex]; intro h; omega
      have e : scanOf xs = (0, 2) := by
        unfold scanOf
        simp only [hx, Bool.false_eq_true, if_false]
        rw [if_neg (by omega)]
        match xs, hl2 with
        | [a, b], _ =>
          simp [rd] at h48 h1
          rcases h1 with rfl | rfl <;> subst h48 <;> simp [goDig, dv, scanEnd]
      rw [e]
      rw [if_pos (by simp; omega)] at this
      exact this
  have hno : isHex xs = false → Ev (fun k => impl_ScanInt.j0 k xs xs 10 false) (scanOf xs) := by
    intro h
    unfold scanOf
    simp only [h, Bool.false_eq_true, if_false]
    refine Ev.step (fun k => ?_) (hj1 xs 10 hb hn)
    simp only [impl_ScanInt.j0, Bool.false_eq_true, if_false]
  have p1 := hasPrefix2 xs hb 120 (by omega)
  have p2 := hasPrefix2 xs hb 88 (by omega)
  by_cases a : 2 ≤ xs.length ∧ rd xs 0 = 48 ∧ rd xs 1 = ((120 : Nat) : Int)
  · refine Ev.congr (fun k => ?_) (hhex a.1 a.2.1 (.inl a.2.2))
    unfold impl_ScanInt.f
    rw [show ([48, 120] : List Int) = [48, ((120 : Nat) : Int)] from rfl, p1, decide_eq_true a]
    rfl
  · by_cases b : 2 ≤ xs.length ∧ rd xs 0 = 48 ∧ rd xs 1 = ((88 : Nat) : Int)
    · refine Ev.congr (fun k => ?_) (hhex b.1 b.2.1 (.inr b.2.2))
      unfold impl_ScanInt.f
      rw [show ([48, 120] : List Int) = [48, ((120 : Nat) : Int)] from rfl, show ([48, 88] : List Int) = [48, ((88 : Nat) : Int)] from rfl, p1, p2, decide_eq_false a, decide_eq_true b]
      rfl
    · refine Ev.congr (fun k => ?_) (hno ?_)
      · unfold impl_ScanInt.f
        rw [show ([48, 120] : List Int) = [48, ((120 : Nat) : Int)] from rfl, show ([48, 88] : List Int) = [48, ((88 : Nat) : Int)] from rfl, p1, p2, decide_eq_false a, decide_eq_false b]
        rfl
      · simp only [isHex, decide_eq_false_iff_not]
        rintro ⟨h1, h2, h3 | h3⟩
        · exact a ⟨by omega, h2, h3⟩
        · exact b ⟨by omega, h2, h3⟩

/-! ### text literals -/
def escv (e : Int) : Option Int := if e = 110 then some 10 else if e = 116 then some 9 else if e = 92 then some 92 else if e = 34 then some 34 else if e = 39 then some 39 else none
/-- What stands behind the quote q: the bytes, and how many bytes up to and with the next such quote. -/
def lit (q : Int) : List Int → Option (List Int × Nat)
  | [] => none
  | c :: r =>
    if c = q then some ([], 1)
    else if c = 10 then none
    else if c = 92 then
      match r with
      | [] => none
      | e :: r2 =>
        if e = 120 then
          match r2 with
          | h1 :: h2 :: r3 => if dv h1 > 15 ∨ dv h2 > 15 then none else (lit q r3).map fun x => (((dv h1 * 16 + dv h2) % 256) :: x.1, x.2 + 4)
          | _ => none
        else
          match escv e with
          | none => none
          | some v => (lit q r2).map fun x => (v :: x.1, x.2 + 2)
    else (lit q r).map fun x => (c :: x.1, x.2 + 1)
def litEnd (acc : List Int) (i : Int) : Option (List Int × Nat) → List Int × Int
  | none => ([], 0)
  | some (s, n) => (acc ++ s, i + n)
theorem litEnd_map (acc pre : List Int) (i : Int) (m : Nat) (o : Option (List Int × Nat)) : litEnd acc i (o.map fun x => (pre ++ x.1, x.2 + m)) = litEnd (acc ++ pre) (i + m) o := by
  cases o with
  | none => rfl
  | some x => simp [litEnd]; omega
theorem rd_drop (xs : List Int) (i : Nat) (c : Int) (r : List Int) (h : xs.drop i = c :: r) : i < xs.length ∧ rd xs (i : Int) = c ∧ xs.drop (i + 1) = r := by
  have hlt : i < xs.length := by
    rcases Nat.lt_or_ge i xs.length with h1 | h1
    · exact h1
    · rw [List.drop_eq_nil_of_le h1] at h; cases h
  rw [List.drop_eq_getElem_cons hlt] at h
  injection h with h1 h2
  exact ⟨hlt, by simp [rd, List.getD_eq_getElem?_getD, hlt, h1], h2⟩
theorem rd_bounds (xs : List Int) (hb : ∀ x ∈ xs, 0 ≤ x ∧ x ≤ 255) (i : Nat) (h : i < xs.length) : 0 ≤ rd xs (i : Int) ∧ rd xs (i : Int) ≤ 255 := by
  have : rd xs (i : Int) = xs[i] := by simp [rd, List.getD_eq_getElem?_getD, h]
  rw [this]
  exact hb _ (List.getElem_mem _)
theorem wrapn (i c : Nat) (h : i + c ≤ 2147483648) : wrap64 ((i : Int) + (c : Int)) = ((i + c : Nat) : Int) := by unfold wrap64; omega
theorem wrap1 (i : Nat) (h : i ≤ 1073741824) : wrap64 ((i : Int) + 1) = ((i + 1 : Nat) : Int) := wrapn i 1 (by omega)
theorem wrap2 (i : Nat) (h : i ≤ 1073741824) : wrap64 ((i : Int) + 2) = ((i + 2 : Nat) : Int) := wrapn i 2 (by omega)
theorem wrap3 (i : Nat) (h : i ≤ 1073741824) : wrap64 ((i : Int) + 3) = ((i + 3 : Nat) : Int) := wrapn i 3 (by omega)
theorem wrap4 (i : Nat) (h : i ≤ 1073741824) : wrap64 ((i : Int) + 4) = ((i + 4 : Nat) : Int) := wrapn i 4 (by omega)
theorem hexval (a b : Int) (_ha : 0 ≤ a ∧ a ≤ 15) (_hb : 0 ≤ b ∧ b ≤ 15) : wrap64 (wrap64 (a * 16) + b) % 256 = (a * 16 + b) % 256 := by unfold wrap64; omega

set_option maxHeartbeats 1000000 in
theorem impl_lit_loop (xs : List Int) (hb : ∀ x ∈ xs, 0 ≤ x ∧ x ≤ 255) (hn : xs.length ≤ 1073741824) (q : Int) (hq : rd xs 0 = q) (h0 : 0 < xs.length) (d : Nat) : ∀ (i : Nat) (acc : List Int), xs.length - i ≤ d → i ≤ xs.length → acc.length ≤ i →
    Ev (fun k => impl_literal.l0 k xs acc (i : Int)) (litEnd acc i (lit q (xs.drop i))) := by
  induction d using Nat.strongRecOn with
  | _ d ih =>
  intro i acc hd hi hl
  have b0_1 : i ≤ 1073741824 := by omega
  have f2 : 0 ≤ (i : Int) := by omega
  have f3 : 0 < (xs.length : Int) := by omega
  have fa : acc.length < 140737488355328 := by omega
  cases hds : xs.drop i with
  | nil =>
    have hge : xs.length ≤ i := by simpa using hds
    have f1 : ¬ (i : Int) < (xs.length : Int) := by omega
    refine Ev.step (f := fun _ => some ([], 0)) (fun k => ?_) (Ev.now _)
    simp only [impl_literal.l0, ↓reduceIte, f1]
  | cons c r =>
    obtain ⟨hlt, hrd, hr⟩ := rd_drop xs i c r hds
    have hcb := rd_bounds xs hb i hlt
    rw [hrd] at hcb
    have f1 : (i : Int) < (xs.length : Int) := by omega
    unfold lit
    by_cases hcq : c = q
    · refine Ev.step (f := fun _ => some (acc, (i : Int) + 1)) (fun k => ?_) ?_
      · simp only [impl_literal.l0, ↓reduceIte, f1, f2, f3, hrd, hq, hcq, wrap1 i b0_1]
        rfl
      · simp only [if_pos hcq, litEnd, List.append_nil]
        exact Ev.now _
    by_cases h10 : c = 10
    · refine Ev.step (f := fun _ => some ([], 0)) (fun k => ?_) ?_
      · simp only [impl_literal.l0, ↓reduceIte, f1, f2, f3, hrd, hq, hcq]
        simp only [↓reduceIte, h10]
      · simp only [if_neg hcq, if_pos h10, litEnd]
        exact Ev.now _
    by_cases h92 : c = 92
    · simp only [if_neg hcq, if_neg h10, if_pos h92]
      have hq92 : ¬ (92 : Int) = q := by rw [← h92]; exact hcq
      have h1092 : ¬ (92 : Int) = 10 := by omega
      have hrd9 : rd xs (i : Int) = 92 := by rw [hrd, h92]
      cases r with
      | nil =>
        have hge : xs.length ≤ i + 1 := by simpa using hr
        have f4 : ((i + 1 : Nat) : Int) ≥ (xs.length : Int) := by omega
        refine Ev.step (f := fun _ => some ([], 0)) (fun k => ?_) (Ev.now _)
        simp only [impl_literal.l0, ↓reduceIte, f1, f2, f3, hrd9, hq, hq92, h1092, wrap1 i b0_1, f4]
      | cons e r2 =>
        obtain ⟨hlt1, hrd1, hr1⟩ := rd_drop xs (i + 1) e r2 hr
        have heb := rd_bounds xs hb (i + 1) hlt1
        rw [hrd1] at heb
        have b1 : i + 1 ≤ 1073741824 := by omega
        have f4 : ¬ ((i + 1 : Nat) : Int) ≥ (xs.length : Int) := by omega
        have f5 : 0 ≤ ((i + 1 : Nat) : Int) := by omega
        have f6 : ((i + 1 : Nat) : Int) < (xs.length : Int) := by omega
        by_cases h120 : e = 120
        · simp only [if_pos h120]
          have hrd12 : rd xs ((i + 1 : Nat) : Int) = 120 := by rw [hrd1, h120]
          have bad : Ev (fun k => impl_literal.j2 k xs acc (((i + 1 : Nat) : Int)) true) (([] : List Int), (0 : Int)) := by
            refine Ev.step (f := fun _ => some ([], 0)) (fun k => ?_) (Ev.now _)
            simp only [impl_literal.j2, ↓reduceIte]
          have short : xs.length ≤ i + 3 → Ev (fun k => impl_literal.l0 k xs acc (i : Int)) (([] : List Int), (0 : Int)) := by
            intro hge
            have f7 : ((i + 1 + 2 : Nat) : Int) ≥ (xs.length : Int) := by omega
            refine Ev.step (fun k => ?_) bad
            simp only [impl_literal.l0, ↓reduceIte, f1, f2, f3, hrd9, hq, hq92, h1092, wrap1 i b0_1, f4, f5, f6, hrd12, wrap2 (i + 1) b1, f7]
          match r2, hr1 with
          | [], hr1 =>
            have hge : xs.length ≤ i + 2 := by simpa using hr1
            exact short (by omega)
          | [_], hr1 =>
            have hge : xs.length = i + 3 := by
              have := congrArg List.length hr1
              simp at this; omega
            exact short (by omega)
          | a :: b :: r3, hr1 =>
            obtain ⟨hlt2, hrd2, hr2⟩ := rd_drop xs (i + 2) a (b :: r3) hr1
            obtain ⟨hlt3, hrd3, hr3⟩ := rd_drop xs (i + 3) b r3 hr2
            have hab := rd_bounds xs hb (i + 2) hlt2
            have hbb := rd_bounds xs hb (i + 3) hlt3
            rw [hrd2] at hab
            rw [hrd3] at hbb
            have g2 : rd xs ((i + 1 + 1 : Nat) : Int) = a := hrd2
            have g3 : rd xs ((i + 1 + 2 : Nat) : Int) = b := hrd3
            have f7 : ¬ ((i + 1 + 2 : Nat) : Int) ≥ (xs.length : Int) := by omega
            have f8 : 0 ≤ ((i + 1 + 1 : Nat) : Int) := by omega
            have f9 : ((i + 1 + 1 : Nat) : Int) < (xs.length : Int) := by omega
            have f10 : 0 ≤ ((i + 1 + 2 : Nat) : Int) := by omega
            have f11 : ((i + 1 + 2 : Nat) : Int) < (xs.length : Int) := by omega
            have ra := dv_range a
            have rb := dv_range b
            have b3 : i + 1 + 2 ≤ 1073741824 := by omega
            refine Ev.step (f := fun k => (impl_digitOf.f k a).bind fun t155 => (if t155 > 15 then (impl_literal.j2 k xs acc (((i + 1 : Nat) : Int)) true) else ((impl_digitOf.f k b).bind fun t157 => (impl_literal.j2 k xs acc (((i + 1 : Nat) : Int)) (decide (t157 > 15)))))) (fun k => ?_) ?_
            · simp only [impl_literal.l0, ↓reduceIte, f1, f2, f3, hrd9, hq, hq92, h1092, wrap1 i b0_1, f4, f5, f6, hrd12, wrap1 (i + 1) b1, wrap2 (i + 1) b1, f7, f8, f9, f10, f11, g2, g3]
            refine Ev.bind (digitOf_ev a hab.1 hab.2) ?_
            by_cases ha : dv a > 15
            · simp only [if_pos ha, if_pos (show dv a > 15 ∨ dv b > 15 from .inl ha), litEnd]
              exact bad
            · simp only [if_neg ha]
              refine Ev.bind (digitOf_ev b hbb.1 hbb.2) ?_
              by_cases hbx : dv b > 15
              · simp only [decide_eq_true hbx, if_pos (show dv a > 15 ∨ dv b > 15 from .inr hbx), litEnd]
                exact bad
              · simp only [decide_eq_false hbx, if_neg (show ¬ (dv a > 15 ∨ dv b > 15) by omega)]
                have key := ih (xs.length - (i + 4)) (by omega) (i + 4) (acc ++ [(dv a * 16 + dv b) % 256]) (by omega) (by omega) (by simp; omega)
                rw [show xs.drop (i + 4) = r3 from hr3] at key
                have e := litEnd_map acc [(dv a * 16 + dv b) % 256] (i : Int) 4 (lit q r3)
                simp only [List.singleton_append] at e
                rw [e]
                refine Ev.step (f := fun k => (impl_digitOf.f k a).bind fun t159 => ((impl_digitOf.f k b).bind fun t161 => (impl_literal.l0 k xs (acc ++ [(wrap64 ((wrap64 (t159 * 16)) + t161)) % 256]) ((i + 4 : Nat) : Int)))) (fun k => ?_) ?_
                · simp only [impl_literal.j2, Bool.false_eq_true, ↓reduceIte, wrap1 (i + 1) b1, wrap2 (i + 1) b1, wrap1 (i + 1 + 2) b3, f8, f9, f10, f11, g2, g3, fa]
                refine Ev.bind (digitOf_ev a hab.1 hab.2) (Ev.bind (digitOf_ev b hbb.1 hbb.2) ?_)
                simp only [hexval (dv a) (dv b) (by omega) (by omega)]
                exact key
        · simp only [if_neg h120]
          have w32 : wrap32 e = e := by unfold wrap32; omega
          have hesc : impl_escaped.f e = some (match escv e with | none => (0, false) | some v => (v, true)) := by
            unfold impl_escaped.f escv
            rw [w32]
            repeat' split
            all_goals first | rfl | simp_all
          have head : ∀ k : Nat, impl_literal.l0 (k + 1) xs acc (i : Int) = (impl_escaped.f e).bind fun bt166 => (if bt166.2 = true then (impl_literal.l0 k xs (acc ++ [bt166.1]) ((i + 2 : Nat) : Int)) else (some (([] : List Int), 0))) := by
            intro k
            simp only [impl_literal.l0, ↓reduceIte, f1, f2, f3, hrd9, hq, hq92, h1092, wrap1 i b0_1, f4, f5, f6, hrd1, h120, wrap1 (i + 1) b1, fa]
          rw [hesc] at head
          cases hv : escv e with
          | none =>
            rw [hv] at head
            refine Ev.step (f := fun _ => some ([], 0)) (fun k => by rw [head]; rfl) (Ev.now _)
          | some v =>
            rw [hv] at head
            have key := ih (xs.length - (i + 2)) (by omega) (i + 2) (acc ++ [v]) (by omega) (by omega) (by simp; omega)
            rw [show xs.drop (i + 2) = r2 from hr1] at key
            have e := litEnd_map acc [v] (i : Int) 2 (lit q r2)
            simp only [List.singleton_append] at e
            simp only [e]
            refine Ev.step (fun k => ?_) key
            rw [head]
            simp only [Option.bind_some, if_true]
    · have key := ih (xs.length - (i + 1)) (by omega) (i + 1) (acc ++ [c]) (by omega) (by omega) (by simp; omega)
      rw [hr] at key
      have e := litEnd_map acc [c] (i : Int) 1 (lit q r)
      simp only [List.singleton_append] at e
      simp only [if_neg hcq, if_neg h10, if_neg h92, e]
      refine Ev.step (fun k => ?_) key
      simp only [impl_literal.l0, ↓reduceIte, f1, f2, f3, hrd, hq, hcq, h10, h92, fa, wrap1 i b0_1]

set_option maxHeartbeats 1000000 in
theorem spec_lit_loop (xs : List Int) (hb : ∀ x ∈ xs, 0 ≤ x ∧ x ≤ 255) (hn : xs.length ≤ 1073741824) (at_ : Nat) (q : Int) (hq : rd xs (at_ : Int) = q) (h0 : at_ < xs.length) (d : Nat) : ∀ (i : Nat) (acc : List Int), xs.length - i ≤ d → at_ ≤ i → i ≤ xs.length → acc.length ≤ i →
    Ev (fun k => spec_l1literal.l0 k xs (at_ : Int) acc (i : Int)) (litEnd acc ((i : Int) - at_) (lit q (xs.drop i))) := by
  induction d using Nat.strongRecOn with
  | _ d ih =>
  intro i acc hd hat hi hl
  have b0_1 : i ≤ 1073741824 := by omega
  have b0_2 : i ≤ 1073741824 := by omega
  have b0_3 : i ≤ 1073741824 := by omega
  have b0_4 : i ≤ 1073741824 := by omega
  have f2 : 0 ≤ (i : Int) := by omega
  have fa : acc.length < 140737488355328 := by omega
  have fat : 0 ≤ (at_ : Int) := by omega
  have fat2 : (at_ : Int) < (xs.length : Int) := by omega
  cases hds : xs.drop i with
  | nil =>
    have hge : xs.length ≤ i := by simpa using hds
    have f1 : ¬ (i : Int) < (xs.length : Int) := by omega
    have f1b : (i : Int) ≥ (xs.length : Int) := by omega
    refine Ev.step (f := fun k => spec_l1literal.j2 k xs (at_ : Int) acc (i : Int) false) (fun k => ?_) (Ev.step (f := fun _ => some ([], 0)) (fun k => ?_) (Ev.now _))
    · simp only [spec_l1literal.l0, ↓reduceIte, f1]
    · simp only [spec_l1literal.j2, Bool.false_eq_true, ↓reduceIte, f1b]
  | cons c r =>
    obtain ⟨hlt, hrd, hr⟩ := rd_drop xs i c r hds
    have hcb := rd_bounds xs hb i hlt
    rw [hrd] at hcb
    have f1 : (i : Int) < (xs.length : Int) := by omega
    have go : ∀ (R : List Int × Int), Ev (fun k => spec_l1literal.j2 k xs (at_ : Int) acc (i : Int) (c != q)) R → Ev (fun k => spec_l1literal.l0 k xs (at_ : Int) acc (i : Int)) R := by
      intro R hR
      refine Ev.step (fun k => ?_) hR
      simp only [spec_l1literal.l0, ↓reduceIte, f1, f2, fat, fat2, hrd, hq]
    apply go
    unfold lit
    by_cases hcq : c = q
    · refine Ev.step (f := fun _ => some (acc, (i : Int) + 1 - at_)) (fun k => ?_) ?_
      · have f1c : ¬ (i : Int) ≥ (xs.length : Int) := by omega
        simp only [spec_l1literal.j2, hcq, bne_self_eq_false, Bool.false_eq_true, ↓reduceIte, f1c, wrap1 i b0_1, show wrap64 (((i + 1 : Nat) : Int) - (at_ : Int)) = (i : Int) + 1 - at_ by unfold wrap64; omega]
      · simp only [if_pos hcq, litEnd, List.append_nil]
        rw [show (i : Int) - at_ + ((1 : Nat) : Int) = (i : Int) + 1 - at_ by omega]
        exact Ev.now _
    have hne : (c != q) = true := by simp [hcq]
    rw [hne]
    simp only [if_neg hcq]
    by_cases h10 : c = 10
    · have hrd9 : rd xs (i : Int) = 10 := by rw [hrd, h10]
      refine Ev.step (f := fun _ => some ([], 0)) (fun k => ?_) ?_
      · simp only [spec_l1literal.j2, ↓reduceIte, f1, f2, hrd9]
      · simp only [if_pos h10, litEnd]
        exact Ev.now _
    simp only [if_neg h10]
    by_cases h92 : c = 92
    · simp only [if_pos h92]
      have h1092 : ¬ (92 : Int) = 10 := by omega
      have hrd9 : rd xs (i : Int) = 92 := by rw [hrd, h92]
      cases r with
      | nil =>
        have hge : xs.length ≤ i + 1 := by simpa using hr
        have f4 : ((i + 1 : Nat) : Int) ≥ (xs.length : Int) := by omega
        refine Ev.step (f := fun _ => some ([], 0)) (fun k => ?_) (Ev.now _)
        simp only [spec_l1literal.j2, ↓reduceIte, f1, f2, hrd9, h1092, wrap1 i b0_1, f4]
      | cons e r2 =>
        obtain ⟨hlt1, hrd1, hr1⟩ := rd_drop xs (i + 1) e r2 hr
        have f4 : ¬ ((i + 1 : Nat) : Int) ≥ (xs.length : Int) := by omega
        have f5 : 0 ≤ ((i + 1 : Nat) : Int) := by omega
        have f6 : ((i + 1 : Nat) : Int) < (xs.length : Int) := by omega
        by_cases h120 : e = 120
        · simp only [if_pos h120]
          have hrd12 : rd xs ((i + 1 : Nat) : Int) = 120 := by rw [hrd1, h120]
          have bad : Ev (fun k => spec_l1literal.j3 k xs (at_ : Int) acc (i : Int) true) (([] : List Int), (0 : Int)) := by
            refine Ev.step (f := fun _ => some ([], 0)) (fun k => ?_) (Ev.now _)
            simp only [spec_l1literal.j3, ↓reduceIte]
          have short : xs.length ≤ i + 3 → Ev (fun k => spec_l1literal.j2 k xs (at_ : Int) acc (i : Int) true) (([] : List Int), (0 : Int)) := by
            intro hge
            have f7 : ((i + 3 : Nat) : Int) ≥ (xs.length : Int) := by omega
            refine Ev.step (fun k => ?_) bad
            simp only [spec_l1literal.j2, ↓reduceIte, f1, f2, hrd9, h1092, wrap1 i b0_1, f4, f5, f6, hrd12, wrap3 i b0_3, f7]
          match r2, hr1 with
          | [], hr1 =>
            have hge : xs.length ≤ i + 2 := by simpa using hr1
            exact short (by omega)
          | [_], hr1 =>
            have hge : xs.length = i + 3 := by
              have := congrArg List.length hr1
              simp at this; omega
            exact short (by omega)
          | a :: b :: r3, hr1 =>
            obtain ⟨hlt2, hrd2, hr2⟩ := rd_drop xs (i + 2) a (b :: r3) hr1
            obtain ⟨hlt3, hrd3, hr3⟩ := rd_drop xs (i + 3) b r3 hr2
            have hab := rd_bounds xs hb (i + 2) hlt2
            have hbb := rd_bounds xs hb (i + 3) hlt3
            rw [hrd2] at hab
            rw [hrd3] at hbb
            have f7 : ¬ ((i + 3 : Nat) : Int) ≥ (xs.length : Int) := by omega
            have f8 : 0 ≤ ((i + 2 : Nat) : Int) := by omega
            have f9 : ((i + 2 : Nat) : Int) < (xs.length : Int) := by omega
            have f10 : 0 ≤ ((i + 3 : Nat) : Int) := by omega
            have f11 : ((i + 3 : Nat) : Int) < (xs.length : Int) := by omega
            have ra := dv_range a
            have rb := dv_range b
            refine Ev.step (f := fun k => (spec_l1hex.f k a).bind fun t120 => (if t120 < 0 then (spec_l1literal.j3 k xs (at_ : Int) acc (i : Int) true) else ((spec_l1hex.f k b).bind fun t122 => (spec_l1literal.j3 k xs (at_ : Int) acc (i : Int) (decide (t122 < 0)))))) (fun k => ?_) ?_
            · simp only [spec_l1literal.j2, ↓reduceIte, f1, f2, hrd9, h1092, wrap1 i b0_1, f4, f5, f6, hrd12, wrap2 i b0_2, wrap3 i b0_3, f7, f8, f9, f10, f11, hrd2, hrd3]
            refine Ev.bind (l1hex_ev a hab.1 hab.2) ?_
            by_cases ha : dv a > 15
            · have h99 : dv a = 99 := by omega
              simp only [if_pos h99, if_pos (show (-1 : Int) < 0 by omega), if_pos (show dv a > 15 ∨ dv b > 15 from .inl ha), litEnd]
              exact bad
            · have h99 : ¬ dv a = 99 := by omega
              simp only [if_neg h99, if_neg (show ¬ dv a < 0 by omega)]
              refine Ev.bind (l1hex_ev b hbb.1 hbb.2) ?_
              by_cases hbx : dv b > 15
              · have g99 : dv b = 99 := by omega
                simp only [if_pos g99, decide_eq_true (show (-1 : Int) < 0 by omega), if_pos (show dv a > 15 ∨ dv b > 15 from .inr hbx), litEnd]
                exact bad
              · have g99 : ¬ dv b = 99 := by omega
                simp only [if_neg g99, decide_eq_false (show ¬ dv b < 0 by omega), if_neg (show ¬ (dv a > 15 ∨ dv b > 15) by omega)]
                have key := ih (xs.length - (i + 4)) (by omega) (i + 4) (acc ++ [(dv a * 16 + dv b) % 256]) (by omega) (by omega) (by omega) (by simp; omega)
                rw [show xs.drop (i + 4) = r3 from hr3] at key
                have e := litEnd_map acc [(dv a * 16 + dv b) % 256] ((i : Int) - at_) 4 (lit q r3)
                simp only [List.singleton_append] at e
                rw [e, show (i : Int) - at_ + ((4 : Nat) : Int) = ((i + 4 : Nat) : Int) - at_ by omega]
                refine Ev.step (f := fun k => (spec_l1hex.f k a).bind fun t124 => ((spec_l1hex.f k b).bind fun t126 => (spec_l1literal.l0 k xs (at_ : Int) (acc ++ [(wrap64 ((wrap64 (t124 * 16)) + t126)) % 256]) ((i + 4 : Nat) : Int)))) (fun k => ?_) ?_
                · simp only [spec_l1literal.j3, Bool.false_eq_true, ↓reduceIte, wrap2 i b0_2, wrap3 i b0_3, wrap4 i b0_4, f8, f9, f10, f11, hrd2, hrd3, fa]
                refine Ev.bind (l1hex_ev a hab.1 hab.2) ?_
                simp only [if_neg h99]
                refine Ev.bind (l1hex_ev b hbb.1 hbb.2) ?_
                simp only [if_neg g99, hexval (dv a) (dv b) (by omega) (by omega)]
                exact key
        · simp only [if_neg h120]
          have head : ∀ k : Nat, spec_l1literal.j2 (k + 1) xs (at_ : Int) acc (i : Int) true = match escv e with | none => some ([], 0) | some v => spec_l1literal.l0 k xs (at_ : Int) (acc ++ [v]) ((i + 2 : Nat) : Int) := by
            intro k
            simp only [spec_l1literal.j2, ↓reduceIte, f1, f2, hrd9, h1092, wrap1 i b0_1, f4, f5, f6, hrd1, h120, wrap2 i b0_2, fa]
            unfold escv
            by_cases a1 : e = 110
            · simp [a1]
            by_cases a2 : e = 116
            · simp [a2]
            by_cases a3 : e = 92
            · simp [a3]
            by_cases a4 : e = 34
            · simp [a4]
            by_cases a5 : e = 39
            · simp [a5]
            simp [a1, a2, a3, a4, a5]
          cases hv : escv e with
          | none =>
            rw [hv] at head
            exact Ev.step (f := fun _ => some ([], 0)) head (Ev.now _)
          | some v =>
            rw [hv] at head
            have key := ih (xs.length - (i + 2)) (by omega) (i + 2) (acc ++ [v]) (by omega) (by omega) (by omega) (by simp; omega)
            rw [show xs.drop (i + 2) = r2 from hr1] at key
            have e := litEnd_map acc [v] ((i : Int) - at_) 2 (lit q r2)
            simp only [List.singleton_append] at e
            simp only [e, show (i : Int) - at_ + ((2 : Nat) : Int) = ((i + 2 : Nat) : Int) - at_ by omega]
            exact Ev.step head key
    · have key := ih (xs.length - (i + 1)) (by omega) (i + 1) (acc ++ [c]) (by omega) (by omega) (by omega) (by simp; omega)
      rw [hr] at key
      have e := litEnd_map acc [c] ((i : Int) - at_) 1 (lit q r)
      simp only [List.singleton_append] at e
      simp only [if_neg h92, e, show (i : Int) - at_ + ((1 : Nat) : Int) = ((i + 1 : Nat) : Int) - at_ by omega]
      refine Ev.step (fun k => ?_) key
      simp only [spec_l1literal.j2, ↓reduceIte, f1, f2, hrd, h10, h92, fa, wrap1 i b0_1]
/-- The literal that begins xs, as a whole: its bytes and its length (0: none). -/
def litOf : List Int → List Int × Int
  | [] => ([], 0)
  | c :: r => if c = 34 ∨ c = 39 then litEnd [] 1 (lit c r) else ([], 0)
theorem impl_lit_ev (xs : List Int) (hb : ∀ x ∈ xs, 0 ≤ x ∧ x ≤ 255) (hn : xs.length ≤ 1073741824) : Ev (fun k => impl_literal.f k xs) (litOf xs) := by
  have bad : Ev (fun k => impl_literal.j0 k xs true) (([] : List Int), (0 : Int)) := by
    refine Ev.step (f := fun _ => some ([], 0)) (fun k => ?_) (Ev.now _)
    simp only [impl_literal.j0, if_true]
  match xs, hb, hn, bad with
  | [], _, _, bad =>
    refine Ev.congr (fun k => ?_) bad
    simp [impl_literal.f]
  | c :: r, hb, hn, bad =>
    have hrd : rd (c :: r) 0 = c := by simp [rd]
    have hl : ((c :: r).length : Int) = r.length + 1 := by simp
    have good : (c = 34 ∨ c = 39) → Ev (fun k => impl_literal.j0 k (c :: r) false) (litOf (c :: r)) := by
      intro h
      have := impl_lit_loop (c :: r) hb hn c hrd (by simp) (c :: r).length 1 [] (by omega) (by simp) (by simp)
      simp only [litOf, if_pos h]
      refine Ev.step (fun k => ?_) this
      simp only [impl_literal.j0, Bool.false_eq_true, if_false]
      rfl
    by_cases h34 : c = 34
    · refine Ev.congr (fun k => ?_) (good (.inl h34))
      unfold impl_literal.f
      rw [if_neg (by omega), if_pos (by omega), hrd, if_pos h34]
    · by_cases h39 : c = 39
      · refine Ev.congr (fun k => ?_) (good (.inr h39))
        unfold impl_literal.f
        rw [if_neg (by omega), if_pos (by omega), hrd, if_neg h34, show (c != 39) = false by simp [h39]]
      · simp only [litOf, if_neg (show ¬ (c = 34 ∨ c = 39) by omega)]
        refine Ev.congr (fun k => ?_) bad
        unfold impl_literal.f
        rw [if_neg (by omega), if_pos (by omega), hrd, if_neg h34, show (c != 39) = true by simp [h39]]
theorem spec_lit_ev (xs : List Int) (hb : ∀ x ∈ xs, 0 ≤ x ∧ x ≤ 255) (hn : xs.length ≤ 1073741824) (i : Nat) (hi : i ≤ xs.length) : Ev (fun k => spec_l1literal.f k xs (i : Int)) (litOf (xs.drop i)) := by
  have bad : Ev (fun k => spec_l1literal.j0 k xs (i : Int) true) (([] : List Int), (0 : Int)) := by
    refine Ev.step (f := fun _ => some ([], 0)) (fun k => ?_) (Ev.now _)
    simp only [spec_l1literal.j0, if_true]
  cases hds : xs.drop i with
  | nil =>
    have hge : xs.length ≤ i := by simpa using hds
    refine Ev.congr (fun k => ?_) bad
    unfold spec_l1literal.f
    rw [if_pos (by omega)]
  | cons c r =>
    obtain ⟨hlt, hrd, hr⟩ := rd_drop xs i c r hds
    have good : (c = 34 ∨ c = 39) → Ev (fun k => spec_l1literal.j0 k xs (i : Int) false) (litOf (c :: r)) := by
      intro h
      have := spec_lit_loop xs hb hn i c hrd hlt xs.length (i + 1) [] (by omega) (by omega) (by omega) (by simp)
      rw [hr, show ((i + 1 : Nat) : Int) - (i : Int) = 1 by omega] at this
      simp only [litOf, if_pos h]
      refine Ev.step (fun k => ?_) this
      simp only [spec_l1literal.j0, Bool.false_eq_true, if_false, wrap1 i (by omega)]
    by_cases h34 : c = 34
    · refine Ev.congr (fun k => ?_) (good (.inl h34))
      unfold spec_l1literal.f
      rw [if_neg (by omega), if_pos (by omega), if_pos (by omega), hrd, if_pos h34]
    · by_cases h39 : c = 39
      · refine Ev.congr (fun k => ?_) (good (.inr h39))
        unfold spec_l1literal.f
        rw [if_neg (by omega), if_pos (by omega), if_pos (by omega), hrd, if_neg h34, show (c != 39) = false by simp [h39]]
      · simp only [litOf, if_neg (show ¬ (c = 34 ∨ c = 39) by omega)]
        refine Ev.congr (fun k => ?_) bad
        unfold spec_l1literal.f
        rw [if_neg (by omega), if_pos (by omega), if_pos (by omega), hrd, if_neg h34, show (c != 39) = true by simp [h39]]
theorem lit_length (q : Int) : ∀ (n : Nat) (xs : List Int), xs.length ≤ n → ∀ s m, lit q xs = some (s, m) → s.length ≤ xs.length ∧ 1 ≤ m ∧ m ≤ xs.length := by
  intro n
  induction n with
  | zero =>
    intro xs hn s m h
    have : xs = [] := List.eq_nil_of_length_eq_zero (by omega)
    subst this
    simp [lit] at h
  | succ n ih =>
    intro xs hn s m h
    cases xs with
    | nil => simp [lit] at h
    | cons c r =>
      unfold lit at h
      simp at hn
      split at h
      · simp at h; obtain ⟨rfl, rfl⟩ := h; simp
      split at h
      · cases h
      split at h
      · split at h
        · cases h
        · rename_i e r2
          simp at hn
          split at h
          · split at h
            · rename_i h1 h2 r3
              simp at hn
              split at h
              · cases h
              · obtain ⟨x, hx, he⟩ := Option.map_eq_some_iff.1 h
                have := ih r3 (by omega) x.1 x.2 hx
                simp at he; obtain ⟨rfl, rfl⟩ := he
                simp; omega
            · cases h
          · split at h
            · cases h
            · obtain ⟨x, hx, he⟩ := Option.map_eq_some_iff.1 h
              have := ih r2 (by omega) x.1 x.2 hx
              simp at he; obtain ⟨rfl, rfl⟩ := he
              simp; omega
      · obtain ⟨x, hx, he⟩ := Option.map_eq_some_iff.1 h
        have := ih r (by omega) x.1 x.2 hx
        simp at he; obtain ⟨rfl, rfl⟩ := he
        simp; omega
theorem litOf_length (xs : List Int) : (litOf xs).1.length ≤ xs.length ∧ 0 ≤ (litOf xs).2 ∧ (litOf xs).2 ≤ xs.length := by
  cases xs with
  | nil => simp [litOf]
  | cons c r =>
    by_cases hc : c = 34 ∨ c = 39
    · simp only [litOf, if_pos hc]
      cases h : lit c r with
      | none => simp [litEnd]; omega
      | some x =>
        have := lit_length c r.length r (Nat.le_refl _) x.1 x.2 h
        simp [litEnd]; omega
    · simp only [litOf, if_neg hc]
      simp; omega

end Go.Proofs.Ytchfdpmkgjblgaa.Pure
