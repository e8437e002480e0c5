/- FnExactScanInt: for every list of bytes ScanInt of the program answers what the reference's answers, and writes nothing; no condition. -/
import Derived.Test.YtchfdpmkgjblgaaS3
namespace Go.Proofs.Ytchfdpmkgjblgaa.Pure
open Go.RowKit Go.Proofs.Ytchfdpmkgjblgaa.PFnExactScanInt Go.Proofs.YtchfdpmkgjblgaaW.PrintWords Go.Proofs.YtchfdpmkgjblgaaW.PrintLast
/-! ### the law's own helpers over bytes: copies, comparison, marks -/
theorem lit_u8 {x : Int} (h : (Lit.int .u8 x).wf = true) : 0 ≤ x ∧ x ≤ 255 := by
  have h2 := h
  simp [Lit.wf] at h2
  have e1 : IntKind.u8.min = 0 := rfl
  have e2 : IntKind.u8.max = 255 := rfl
  omega
theorem rd_nat (xs : List Int) (i : Nat) (h : i < xs.length) : rd xs (i : Int) = xs[i] := by
  simp [rd, List.getD_eq_getElem?_getD, h]
theorem wrap_succ {i n : Nat} (h : i < n) (hn : n ≤ 1073741824) : wrap64 ((i : Int) + 1) = ((i + 1 : Nat) : Int) := by
  unfold wrap64; omega

theorem toByteS_loop (xs : List Int) (hn : xs.length ≤ 1073741824) (d : Nat) : ∀ (i : Nat) (ys : List Int), xs.length - i = d → i ≤ xs.length → ys.length = xs.length → ys.take i = xs.take i →
    Ev (fun k => laws_toByteS.l0 k xs ys (i : Int)) xs := by
  induction d with
  | zero =>
    intro i ys hd hi hl ht
    have hi2 : i = xs.length := by omega
    have : ys = xs := by
      rw [List.take_of_length_le (by omega), List.take_of_length_le (by omega)] at ht
      exact ht
    subst this
    refine Ev.step (f := fun _ => some ys) (fun k => ?_) (Ev.now _)
    simp only [laws_toByteS.l0]
    rw [if_neg (by omega)]
  | succ d ih =>
    intro i ys hd hi hl ht
    have hlt : i < xs.length := by omega
    refine Ev.step (f := fun k => laws_toByteS.l0 k xs (ys.set i xs[i]) ((i + 1 : Nat) : Int)) (fun k => ?_) (ih (i + 1) (ys.set i xs[i]) (by omega) (by omega) (by simpa using hl) ?_)
    · simp only [laws_toByteS.l0]
      rw [if_pos (by omega), if_pos (by omega), if_pos (by omega), rd_nat xs i hlt, wrap_succ hlt hn]
      simp
    · apply List.ext_getElem?
      intro j
      simp only [List.getElem?_take, List.getElem?_set]
      have htj := congrArg (fun l => l[j]?) ht
      simp only [List.getElem?_take] at htj
      by_cases h1 : j < i + 1
      · rw [if_pos h1, if_pos h1]
        by_cases h2 : i = j
        · subst h2
          rw [if_pos rfl, if_pos (by omega)]
          simp [hlt]
        · rw [if_neg h2]
          rw [if_pos (by omega), if_pos (by omega)] at htj
          exact htj
      · rw [if_neg h1, if_neg h1]
theorem toByteS_ev (xs : List Int) (hn : xs.length ≤ 1073741824) : Ev (fun k => laws_toByteS.f k xs) xs := by
  refine Ev.congr (fun k => ?_) (toByteS_loop xs hn xs.length 0 (List.replicate xs.length 0) (by omega) (by omega) (by simp) (by simp))
  unfold laws_toByteS.f
  rw [if_pos (by omega), if_pos (by omega)]
  simp

theorem eqByteS_loop (xs : List Int) (hn : xs.length ≤ 1073741824) (d : Nat) : ∀ (i : Nat), xs.length - i = d → i ≤ xs.length → Ev (fun k => laws_eqByteS.l0 k xs xs (i : Int)) true := by
  induction d with
  | zero =>
    intro i hd hi
    refine Ev.step (f := fun _ => some true) (fun k => ?_) (Ev.now _)
    simp only [laws_eqByteS.l0]
    rw [if_neg (by omega)]
  | succ d ih =>
    intro i hd hi
    have hlt : i < xs.length := by omega
    refine Ev.step (f := fun k => laws_eqByteS.l0 k xs xs ((i + 1 : Nat) : Int)) (fun k => ?_) (ih (i + 1) (by omega) (by omega))
    simp only [laws_eqByteS.l0]
    rw [if_pos (by omega), if_pos (by omega), if_pos (by omega), if_pos trivial, wrap_succ hlt hn]
theorem eqByteS_ev (xs : List Int) (hn : xs.length ≤ 1073741824) : Ev (fun k => laws_eqByteS.f k xs xs) true := by
  refine Ev.congr (fun k => ?_) (eqByteS_loop xs hn xs.length 0 (by omega) (by omega))
  unfold laws_eqByteS.f
  rw [if_pos rfl]
  rfl
/-! ### whole numbers in a source -/
/-- What a byte is as a digit: 99 if it is none. -/
def dv (c : Int) : Int := if 48 ≤ c ∧ c ≤ 57 then c - 48 else if 97 ≤ c ∧ c ≤ 102 then c - 87 else if 65 ≤ c ∧ c ≤ 70 then c - 55 else 99
theorem l1hex_ev (c : Int) (h0 : 0 ≤ c) (h1 : c ≤ 255) : Ev (fun k => spec_l1hex.f k c) (if dv c = 99 then -1 else dv c) := by
  refine ⟨2, fun k hk => ?_⟩
  obtain ⟨k, rfl⟩ : ∃ m, k = m + 2 := ⟨k - 2, by omega⟩
  show spec_l1hex.f (k + 2) c = _
  unfold spec_l1hex.f dv
  simp only [spec_l1hex.j0, spec_l1hex.j1]
  by_cases a : 48 ≤ c ∧ c ≤ 57
  · rw [if_pos (by omega), if_pos (by simpa using a.2), if_pos a, if_neg (by omega)]; congr 1; omega
  · rw [if_neg a]
    by_cases b : 97 ≤ c ∧ c ≤ 102
    · rw [if_pos b, if_neg (show ¬ (c - 87 = 99) by omega)]
      rw [if_pos (by omega), if_neg (by simp; omega), if_pos (by omega), if_pos (by simpa using b.2)]; congr 1; omega
    · rw [if_neg b]
      by_cases d : 65 ≤ c ∧ c ≤ 70
      · rw [if_pos d, if_neg (show ¬ (c - 55 = 99) by omega)]
        rw [if_pos (by omega), if_neg (by simp; omega), if_neg (by omega), if_neg (by simp), if_pos (by omega), if_pos (by omega)]; congr 1; omega
      · rw [if_neg d, if_pos rfl]
        repeat' split
        all_goals first | rfl | omega | (simp at * <;> omega)
theorem digitOf_ev (c : Int) (h0 : 0 ≤ c) (h1 : c ≤ 255) : Ev (fun k => impl_digitOf.f k c) (dv c) := by
  refine ⟨2, fun k hk => ?_⟩
  obtain ⟨k, rfl⟩ : ∃ m, k = m + 2 := ⟨k - 2, by omega⟩
  show impl_digitOf.f (k + 2) c = _
  unfold impl_digitOf.f dv
  simp only [impl_digitOf.j0, impl_digitOf.j1]
  by_cases a : 48 ≤ c ∧ c ≤ 57
  · rw [if_pos (by omega), if_pos (by simpa using a.2), if_pos a]; congr 1; omega
  · rw [if_neg a]
    by_cases b : 97 ≤ c ∧ c ≤ 102
    · rw [if_pos b]
      rw [if_pos (by omega), if_neg (by simp; omega), if_pos (by omega), if_pos (by simpa using b.2)]; congr 1; omega
    · rw [if_neg b]
      by_cases d : 65 ≤ c ∧ c ≤ 70
      · rw [if_pos d]
        rw [if_pos (by omega), if_neg (by simp; omega), if_neg (by omega), if_neg (by simp), if_pos (by omega), if_pos (by omega)]; congr 1; omega
      · rw [if_neg d]
        repeat' split
        all_goals first | rfl | omega | (simp at * <;> omega)
theorem dv_range (c : Int) : 0 ≤ dv c ∧ (dv c ≤ 15 ∨ dv c = 99) := by
  unfold dv
  repeat' split
  all_goals omega
def goDig (base : Int) : List Int → Int → Option Int
  | [], v => some v
  | c :: r, v => if dv c ≥ base then none else goDig base r (wrap64 (wrap64 (v * base) + dv c))
/-- What ScanInt answers. -/
def scanEnd (big : Bool) : Option Int → Int × Int
  | none => (0, 2)
  | some v => if big then (0, 4) else (v, 0)
theorem spec_scan_loop (x0 ds : List Int) (base : Int) (hb : ∀ x ∈ ds, 0 ≤ x ∧ x ≤ 255) (hba : 1 ≤ base ∧ base ≤ 16) (hn : ds.length ≤ 1073741824) (d : Nat) : ∀ (i : Nat) (v : Int), ds.length - i = d → i ≤ ds.length →
    Ev (fun k => spec_ScanInt.l0 k x0 ds base v (i : Int)) (scanEnd (decide ((x0.length : Int) > 40)) (goDig base (ds.drop i) v)) := by
  induction d with
  | zero =>
    intro i v hd hi
    rw [List.drop_eq_nil_of_le (by omega)]
    refine Ev.step (f := fun _ => some _) (fun k => ?_) (Ev.now _)
    simp only [spec_ScanInt.l0]
    rw [if_neg (by omega)]
    by_cases hx : (x0.length : Int) > 40 <;> simp [goDig, scanEnd, hx]
  | succ d ih =>
    intro i v hd hi
    have hlt : i < ds.length := by omega
    obtain ⟨c, hc⟩ : ∃ c, c = ds[i] := ⟨_, rfl⟩
    have hcb := hb c (by rw [hc]; exact List.getElem_mem _)
    have hr := dv_range c
    rw [List.drop_eq_getElem_cons hlt, ← hc]
    have hrd : rd ds (i : Int) = c := by simp [rd, List.getD_eq_getElem?_getD, hlt, hc]
    have hw : wrap64 ((i : Int) + 1) = ((i + 1 : Nat) : Int) := by unfold wrap64; omega
    refine Ev.step (fun k => by simp only [spec_ScanInt.l0]; rw [if_pos (by omega), if_pos (by omega), hrd]) (Ev.bind (l1hex_ev c hcb.1 hcb.2) ?_)
    by_cases h99 : dv c = 99
    · simp only [if_pos h99, if_pos (show (-1 : Int) < 0 by omega)]
      simp only [goDig, if_pos (show dv c ≥ base by omega), scanEnd]
      exact Ev.now _
    · simp only [if_neg h99, if_neg (show ¬ dv c < 0 by omega), goDig]
      by_cases hge : dv c ≥ base
      · simp only [if_pos hge, scanEnd]
        exact Ev.now _
      · simp only [if_neg hge, hw]
        exact ih (i + 1) _ (by omega) (by omega)
theorem impl_scan_loop (x0 ds : List Int) (base : Int) (hb : ∀ x ∈ ds, 0 ≤ x ∧ x ≤ 255) (hn : ds.length ≤ 1073741824) (d : Nat) : ∀ (i : Nat) (v : Int), ds.length - i = d → i ≤ ds.length →
    Ev (fun k => impl_ScanInt.l0 k x0 ds base v ds (ds.length : Int) (i : Int)) (if ds.length = 0 then (0, 2) else scanEnd (decide ((x0.length : Int) > 40)) (goDig base (ds.drop i) v)) := by
  induction d with
  | zero =>
    intro i v hd hi
    rw [List.drop_eq_nil_of_le (by omega)]
    refine Ev.step (f := fun _ => some _) (fun k => ?_) (Ev.now _)
    simp only [impl_ScanInt.l0]
    rw [if_neg (by omega)]
    by_cases h0 : ds.length = 0
    · rw [if_pos (by omega), if_pos h0]
    · rw [if_neg (by omega), if_neg h0]
      by_cases hx : (x0.length : Int) > 40 <;> simp [goDig, scanEnd, hx]
  | succ d ih =>
    intro i v hd hi
    have hlt : i < ds.length := by omega
    obtain ⟨c, hc⟩ : ∃ c, c = ds[i] := ⟨_, rfl⟩
    have hcb := hb c (by rw [hc]; exact List.getElem_mem _)
    rw [List.drop_eq_getElem_cons hlt, ← hc]
    have hrd : rd ds (i : Int) = c := by simp [rd, List.getD_eq_getElem?_getD, hlt, hc]
    have hw : wrap64 ((i : Int) + 1) = ((i + 1 : Nat) : Int) := by unfold wrap64; omega
    refine Ev.step (fun k => by simp only [impl_ScanInt.l0]; rw [if_pos (by omega), if_pos (by omega), if_pos (by omega), hrd]) (Ev.bind (digitOf_ev c hcb.1 hcb.2) ?_)
    simp only [goDig]
    by_cases hge : dv c ≥ base
    · simp only [if_pos hge, scanEnd, if_neg (show ¬ ds.length = 0 by omega)]
      exact Ev.now _
    · simp only [if_neg hge, hw]
      have := ih (i + 1) (wrap64 (wrap64 (v * base) + dv c)) (by omega) (by omega)
      exact this
/-- The form '0x..' or '0X..'. -/
def isHex (xs : List Int) : Bool := decide ((xs.length : Int) > 2 ∧ rd xs 0 = 48 ∧ (rd xs 1 = 120 ∨ rd xs 1 = 88))
/-- ScanInt, plainly. -/
def scanOf (xs : List Int) : Int × Int :=
  let ds := if isHex xs then xs.drop 2 else xs
  let base : Int := if isHex xs then 16 else 10
  if ds.length = 0 then (0, 2) else scanEnd (decide ((xs.length : Int) > 40)) (goDig base ds 0)
theorem spec_scan_ev (xs : List Int) (hb : ∀ x ∈ xs, 0 ≤ x ∧ x ≤ 255) (hn : xs.length ≤ 1073741824) : Ev (fun k => spec_ScanInt.f k xs) (scanOf xs) := by
  have hbd : ∀ x ∈ xs.drop 2, 0 ≤ x ∧ x ≤ 255 := fun x hx => hb x (List.mem_of_mem_drop hx)
  have hj1 : ∀ (ds : List Int) (base : Int), (∀ x ∈ ds, 0 ≤ x ∧ x ≤ 255) → 1 ≤ base ∧ base ≤ 16 → ds.length ≤ 1073741824 →
      Ev (fun k => spec_ScanInt.j1 k xs ds base) (if ds.length = 0 then (0, 2) else scanEnd (decide ((xs.length : Int) > 40)) (goDig base ds 0)) := by
    intro ds base h1 h2 h3
    by_cases h0 : ds.length = 0
    · refine Ev.step (f := fun _ => some _) (fun k => ?_) (Ev.now _)
      simp only [spec_ScanInt.j1]
      rw [if_pos (by omega), if_pos h0]
    · rw [if_neg h0]
      refine Ev.step (fun k => ?_) (spec_scan_loop xs ds base h1 h2 h3 ds.length 0 0 (by omega) (by omega))
      simp only [spec_ScanInt.j1]
      rw [if_neg (by omega)]
      rfl
  have hyes : isHex xs = true → Ev (fun k => spec_ScanInt.j0 k xs xs 10 true) (scanOf xs) := by
    intro h
    have hl : (xs.length : Int) > 2 := (of_decide_eq_true h).1
    unfold scanOf
    simp only [h, if_true]
    refine Ev.step (fun k => ?_) (hj1 (xs.drop 2) 16 hbd (by omega) (by simp; omega))
    simp only [spec_ScanInt.j0, if_true]
    rw [if_pos (by omega)]
  have hno : isHex xs = false → Ev (fun k => spec_ScanInt.j0 k xs xs 10 false) (scanOf xs) := by
    intro h
    unfold scanOf
    simp only [h, Bool.false_eq_true, if_false]
    refine Ev.step (fun k => ?_) (hj1 xs 10 hb (by omega) hn)
    simp only [spec_ScanInt.j0, Bool.false_eq_true, if_false]
  by_cases hl : (xs.length : Int) > 2
  · by_cases h0 : rd xs 0 = 48
    · by_cases h1 : rd xs 1 = 120
      · refine Ev.congr (fun k => ?_) (hyes (by simp [isHex, hl, h0, h1]))
        unfold spec_ScanInt.f
        rw [if_pos hl, if_pos (by omega), if_pos h0, if_pos (by omega), if_pos h1]
      · by_cases h2 : rd xs 1 = 88
        · refine Ev.congr (fun k => ?_) (hyes (by simp [isHex, hl, h0, h2]))
          unfold spec_ScanInt.f
          rw [if_pos hl, if_pos (by omega), if_pos h0, if_pos (by omega), if_neg h1, h2]
          rfl
        · refine Ev.congr (fun k => ?_) (hno (by simp [isHex, h1, h2]))
          unfold spec_ScanInt.f
          rw [if_pos hl, if_pos (by omega), if_pos h0, if_pos (by omega), if_neg h1, beq_eq_false_iff_ne.2 h2]
    · refine Ev.congr (fun k => ?_) (hno (by simp [isHex, h0]))
      unfold spec_ScanInt.f
      rw [if_pos hl, if_pos (by omega), if_neg h0]
  · refine Ev.congr (fun k => ?_) (hno (by simp [isHex]; intro h; omega))
    unfold spec_ScanInt.f
    rw [if_neg hl]
theorem u8_ofNat_eq {a : Int} (n : Nat) (h0 : 0 ≤ a) (h1 : a ≤ 255) (hn : n ≤ 255) : UInt8.ofNat a.toNat = UInt8.ofNat n ↔ a = n := by
  constructor
  · intro h
    have := congrArg UInt8.toNat h
    simp at this
    omega
  · rintro rfl; simp
theorem hasPrefix2 (xs : List Int) (hb : ∀ x ∈ xs, 0 ≤ x ∧ x ≤ 255) (y : Nat) (hy : y ≤ 255) :
    bytes_HasPrefix.f xs [48, (y : Int)] = some (decide (2 ≤ xs.length ∧ rd xs 0 = 48 ∧ rd xs 1 = y)) := by
  unfold bytes_HasPrefix.f
  match xs, hb with
  | [], _ => simp
  | [a], _ => simp
  | a :: b :: r, hb =>
    have ha := hb a (by simp)
    have hbb := hb b (by simp)
    rw [if_pos (by simp; omega), if_pos (by simp), if_pos (by simp; omega)]
    unfold bytes_Equal.f
    have e : ((strOfNums ((a :: b :: r).take (([48, (y : Int)].length : Int) : Int).toNat)).toList == (strOfNums [48, (y : Int)]).toList) = decide (2 ≤ (a :: b :: r).length ∧ rd (a :: b :: r) 0 = 48 ∧ rd (a :: b :: r) 1 = y) := by
      rw [Bool.eq_iff_iff]
      simp only [beq_iff_eq, decide_eq_true_eq]
      have e1 : ∀ l : List Int, (strOfNums l).toList = l.map fun n => UInt8.ofNat n.toNat := by
        intro l; rw [← strOfNums_data]; exact ByteArray.toList_eq _
      rw [e1, e1]
      have q1 := u8_ofNat_eq 48 ha.1 ha.2 (by omega)
      have q2 := u8_ofNat_eq y hbb.1 hbb.2 hy
      have q3 : UInt8.ofNat (48 : Int).toNat = UInt8.ofNat 48 := rfl
      simp only [List.length_cons, List.length_nil, Int.toNat_natCast, List.take_succ_cons, List.take_zero, List.map_cons, List.map_nil, List.cons.injEq, and_true, q3, q1, q2]
      simp [rd]
    rw [e]
    rfl
theorem impl_scan_ev (xs : List Int) (hb : ∀ x ∈ xs, 0 ≤ x ∧ x ≤ 255) (hn : xs.length ≤ 1073741824) : Ev (fun k => impl_ScanInt.f k xs) (scanOf xs) := by
  have hbd : ∀ x ∈ xs.drop 2, 0 ≤ x ∧ x ≤ 255 := fun x hx => hb x (List.mem_of_mem_drop hx)
  have hj1 : ∀ (ds : List Int) (base : Int), (∀ x ∈ ds, 0 ≤ x ∧ x ≤ 255) → ds.length ≤ 1073741824 →
      Ev (fun k => impl_ScanInt.j1 k xs ds base) (if ds.length = 0 then (0, 2) else scanEnd (decide ((xs.length : Int) > 40)) (goDig base ds 0)) := by
    intro ds base h1 h3
    refine Ev.step (fun k => ?_) (impl_scan_loop xs ds base h1 h3 ds.length 0 0 (by omega) (by omega))
    simp only [impl_ScanInt.j1]
    rfl
  have hhex : 2 ≤ xs.length → rd xs 0 = 48 → (rd xs 1 = 120 ∨ rd xs 1 = 88) → Ev (fun k => impl_ScanInt.j0 k xs xs 10 true) (scanOf xs) := by
    intro h2 h48 h1
    refine Ev.step (f := fun k => impl_ScanInt.j1 k xs (xs.drop 2) 16) (fun k => by simp only [impl_ScanInt.j0, if_true]; rw [if_pos (by omega)]) ?_
    have := hj1 (xs.drop 2) 16 hbd (by simp; omega)
    by_cases hl : (xs.length : Int) > 2
    · have hx : isHex xs = true := by simp only [isHex, decide_eq_true_eq]; exact ⟨hl, h48, h1⟩
      unfold scanOf
      simp only [hx, if_true]
      exact this
    · have hl2 : xs.length = 2 := by omega
      have hx : isHex xs = false := by simp [isHex]; intro h; omega
      have e : scanOf xs = (0, 2) := by
        unfold scanOf
        simp only [hx, Bool.false_eq_true, if_false]
        rw [if_neg (by omega)]
        match xs, hl2 with
        | [a, b], _ =>
          simp [rd] at h48 h1
          rcases h1 with rfl | rfl <;> subst h48 <;> simp [goDig, dv, scanEnd]
      rw [e]
      rw [if_pos (by simp; omega)] at this
      exact this
  have hno : isHex xs = false → Ev (fun k => impl_ScanInt.j0 k xs xs 10 false) (scanOf xs) := by
    intro h
    unfold scanOf
    simp only [h, Bool.false_eq_true, if_false]
    refine Ev.step (fun k => ?_) (hj1 xs 10 hb hn)
    simp only [impl_ScanInt.j0, Bool.false_eq_true, if_false]
  have p1 := hasPrefix2 xs hb 120 (by omega)
  have p2 := hasPrefix2 xs hb 88 (by omega)
  by_cases a : 2 ≤ xs.length ∧ rd xs 0 = 48 ∧ rd xs 1 = ((120 : Nat) : Int)
  · refine Ev.congr (fun k => ?_) (hhex a.1 a.2.1 (.inl a.2.2))
    unfold impl_ScanInt.f
    rw [show ([48, 120] : List Int) = [48, ((120 : Nat) : Int)] from rfl, p1, decide_eq_true a]
    rfl
  · by_cases b : 2 ≤ xs.length ∧ rd xs 0 = 48 ∧ rd xs 1 = ((88 : Nat) : Int)
    · refine Ev.congr (fun k => ?_) (hhex b.1 b.2.1 (.inr b.2.2))
      unfold impl_ScanInt.f
      rw [show ([48, 120] : List Int) = [48, ((120 : Nat) : Int)] from rfl, show ([48, 88] : List Int) = [48, ((88 : Nat) : Int)] from rfl, p1, p2, decide_eq_false a, decide_eq_true b]
      rfl
    · refine Ev.congr (fun k => ?_) (hno ?_)
      · unfold impl_ScanInt.f
        rw [show ([48, 120] : List Int) = [48, ((120 : Nat) : Int)] from rfl, show ([48, 88] : List Int) = [48, ((88 : Nat) : Int)] from rfl, p1, p2, decide_eq_false a, decide_eq_false b]
        rfl
      · simp only [isHex, decide_eq_false_iff_not]
        rintro ⟨h1, h2, h3 | h3⟩
        · exact a ⟨by omega, h2, h3⟩
        · exact b ⟨by omega, h2, h3⟩

/-- ScanInt answers as the reference. -/
theorem FnExactScanInt : laws_FnExactScanInt.Pure := by
  intro xs _ _ hw
  refine Ev.rounds (g := fun k => laws_FnExactScanInt.f k xs) ?_
  have hb : ∀ x ∈ xs, 0 ≤ x ∧ x ≤ 255 := fun x hx => lit_u8 (hw x hx)
  by_cases hbig : (xs.length : Int) > 1048576
  · refine Ev.congr (fun k => ?_) (Ev.now true)
    unfold laws_FnExactScanInt.f
    rw [if_pos hbig]
  have hn : xs.length ≤ 1048576 := by omega
  have hS := spec_scan_ev xs hb (by omega)
  have hI := impl_scan_ev xs hb (by omega)
  have hT := toByteS_ev xs (by omega)
  have hE2 := eqByteS_ev xs (by omega)
  refine Ev.congr (f := fun k => _) (fun k => by unfold laws_FnExactScanInt.f; rw [if_neg hbig]) ?_
  refine Ev.bind hT (Ev.bind hS (Ev.bind hT (Ev.bind hI ?_)))
  simp only [if_true, bne_self_eq_false]
  refine Ev.step (fun k => by simp only [laws_FnExactScanInt.j0, Bool.false_eq_true, if_false]; rfl) ?_
  refine Ev.bind hT (Ev.bind hE2 ?_)
  simp only [if_true]
  exact Ev.now true

end Go.Proofs.Ytchfdpmkgjblgaa.Pure
