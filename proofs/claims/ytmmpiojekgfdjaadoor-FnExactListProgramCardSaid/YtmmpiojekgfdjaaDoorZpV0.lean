/- What the specification and the program check, over lists. -/
import Derived.Test.YtmmpiojekgfdjaaDoorZpCx1
import Derived.Test.YtmmpiojekgfdjaaDoorZpCx4
import Derived.Test.YtmmpiojekgfdjaaDoorZpCx8
import Derived.Test.YtmmpiojekgfdjaaDoorZpH12
import Derived.Test.YtmmpiojekgfdjaaDoorZpK
namespace Go.Proofs.YtmmpiojekgfdjaaDoor.C
open Go.RowKit YtmmpiojekgfdjaaDoorW.PrintWords YtmmpiojekgfdjaaDoorW.PrintLast
set_option linter.unusedVariables false
set_option linter.unusedSimpArgs false
theorem wrapN {i n : Nat} (h : i < n) (hn : n ≤ 9223372036854775807) : wrap64 ((i : Int) + 1) = ((i + 1 : Nat) : Int) := by
  unfold wrap64; omega
theorem Ev.up {ρ : Type} {F : Nat → Nat → Option ρ} {r : ρ} (n : Nat) (h : ∀ i, i < n → Ev (fun k => F k (i + 1)) r → Ev (fun k => F k i) r) (e : Ev (fun k => F k n) r) : ∀ i, i ≤ n → Ev (fun k => F k i) r := by
  have : ∀ d i, n - i = d → i ≤ n → Ev (fun k => F k i) r := by
    intro d
    induction d with
    | zero => intro i hd hi; obtain rfl : i = n := by omega
              exact e
    | succ d ih => intro i hd hi; exact h i (by omega) (ih (i + 1) (by omega) (by omega))
  exact fun i hi => this _ i rfl hi
theorem getD_nat {α : Type} (l : List α) (d : α) (i : Nat) (h : i < l.length) : l.getD (i : Int).toNat d = l[i] := by
  simp [List.getD_eq_getElem?_getD, List.getElem?_eq_getElem h]
theorem to_loop {α β τ : Type} {z : β} (L : Nat → List α → List β → Int → Option (List β)) (g : Nat → α → Option τ) (c : τ → β) (t : α → τ) (d : α) (xs : List α) (hn : xs.length ≤ 1073741824)
    (hL : ∀ k x acc i, L (k + 1) x acc i = if i < (x.length : Int) then (if 0 ≤ i then ((g k (x.getD i.toNat d)).bind fun b => (if i < (acc.length : Int) then L k x (acc.set i.toNat (c b)) (wrap64 (i + 1)) else none)) else none) else some acc)
    (hg : ∀ a ∈ xs, Ev (fun k => g k a) (t a)) : Ev (fun k => L k xs (List.replicate xs.length z) 0) (xs.map fun a => c (t a)) := by
  have key := Ev.up (F := fun k i => L k xs ((xs.take i).map (fun a => c (t a)) ++ List.replicate (xs.length - i) z) (i : Int)) (r := xs.map fun a => c (t a)) xs.length (fun i hi e => ?_) ?_ 0 (Nat.zero_le _)
  · simpa using key
  · refine Ev.step (f := fun k => (g k xs[i]).bind fun b => L k xs (((xs.take i).map (fun a => c (t a)) ++ List.replicate (xs.length - i) z).set i (c b)) ((i + 1 : Nat) : Int)) (fun k => ?_) ?_
    · rw [hL, if_pos (by omega), if_pos (by omega), getD_nat _ _ _ hi]
      congr 1
      funext b
      rw [if_pos (by simp; omega), wrapN hi (by omega), Int.toNat_natCast]
    · refine Ev.bind (f := fun k b => L k xs (((xs.take i).map (fun a => c (t a)) ++ List.replicate (xs.length - i) z).set i (c b)) ((i + 1 : Nat) : Int)) (hg _ (List.getElem_mem hi)) ?_
      have hs : ((xs.take i).map (fun a => c (t a)) ++ List.replicate (xs.length - i) z).set i (c (t xs[i])) = (xs.take (i + 1)).map (fun a => c (t a)) ++ List.replicate (xs.length - (i + 1)) z := by
        have hl : ((xs.take i).map (fun a => c (t a))).length = i := by simp; omega
        rw [show xs.length - i = (xs.length - (i + 1)) + 1 by omega, List.replicate_succ, List.set_append_right _ _ (by omega), hl, Nat.sub_self, List.take_succ_eq_append_getElem hi]
        simp only [List.set_cons_zero, List.map_append, List.map_cons, List.map_nil, List.append_assoc, List.singleton_append]
      rw [hs]
      exact e
  · refine Ev.step (f := fun _ => some (xs.map fun a => c (t a))) (fun k => ?_) (Ev.now _)
    rw [hL, if_neg (by omega)]
    simp
def sC (x : S77) : Nat := x.f2.length
def sP (x : S82) : Nat := x.f2.length + x.f3.length
def sizeP (cs : List S77) (ps : List S82) : Nat := cs.length + (cs.map sC).sum + (ps.length + (ps.map sP).sum)
def cC (x : S77) : S69 := ⟨x.f0, x.f1, x.f2⟩
def cU (x : S131) : S48 := ⟨x.f0, x.f1⟩
def cI (x : S133) : S51 := ⟨x.f0, x.f1, x.f2⟩
def cP (x : S82) : S45 := ⟨x.f0, x.f1, x.f2.map cU, x.f3.map cI⟩
theorem mapid {α : Type} (l : List α) : l.map (fun a => a) = l := List.map_id' l
theorem toByteS_ev (l : List Int) (h : l.length ≤ 1048576) : Ev (fun k => laws_toByteS.f k l) l := by
  have e := to_loop (z := (0 : Int)) laws_toByteS.l0 (fun _ a => some a) (fun a => a) (fun a => a) 0 l (by omega) (fun k x acc i => by rfl) (fun a _ => Ev.now _)
  rw [mapid] at e
  refine Ev.congr (fun k => ?_) e
  unfold laws_toByteS.f
  rw [if_pos (by omega), if_pos (by omega), Int.toNat_natCast]
theorem toConst_ev (x : S77) (h : x.f2.length ≤ 1048576) : Ev (fun k => laws_toConst.f k x.f0 x.f1 x.f2) (x.f0, x.f1, x.f2) := by
  unfold laws_toConst.f
  exact Ev.bind (f := fun _ t => some (x.f0, x.f1, t)) (toByteS_ev _ h) (Ev.now _)
theorem toConstS_ev (l : List S77) (h : l.length ≤ 1048576) (h2 : ∀ x ∈ l, x.f2.length ≤ 1048576) : Ev (fun k => laws_toConstS.f k l) (l.map cC) := by
  have e := to_loop (z := z69) laws_toConstS.l0 (fun k a => laws_toConst.f k a.f0 a.f1 a.f2) (fun b => ⟨b.1, b.2.1, b.2.2⟩) (fun a => (a.f0, a.f1, a.f2)) z77 l (by omega) (fun k x acc i => rfl) (fun a ha => toConst_ev a (h2 a ha))
  refine Ev.congr (fun k => ?_) e
  unfold laws_toConstS.f
  rw [if_pos (by omega), if_pos (by omega), Int.toNat_natCast]
theorem toCaptureS_ev (l : List S131) (h : l.length ≤ 1048576) : Ev (fun k => laws_toCaptureS.f k l) (l.map cU) := by
  have e := to_loop (z := z48) laws_toCaptureS.l0 (fun k a => laws_toCapture.f a.f0 a.f1) (fun b => ⟨b.1, b.2⟩) (fun a => (a.f0, a.f1)) z131 l (by omega) (fun k x acc i => rfl) (fun a ha => Ev.now _)
  refine Ev.congr (fun k => ?_) e
  unfold laws_toCaptureS.f
  rw [if_pos (by omega), if_pos (by omega), Int.toNat_natCast]
theorem toInsS_ev (l : List S133) (h : l.length ≤ 1048576) : Ev (fun k => laws_toInsS.f k l) (l.map cI) := by
  have e := to_loop (z := z51) laws_toInsS.l0 (fun k a => laws_toIns.f a.f0 a.f1 a.f2) (fun b => ⟨b.1, b.2.1, b.2.2⟩) (fun a => (a.f0, a.f1, a.f2)) z133 l (by omega) (fun k x acc i => rfl) (fun a ha => Ev.now _)
  refine Ev.congr (fun k => ?_) e
  unfold laws_toInsS.f
  rw [if_pos (by omega), if_pos (by omega), Int.toNat_natCast]
theorem toProto_ev (x : S82) (h : x.f2.length ≤ 1048576) (h2 : x.f3.length ≤ 1048576) : Ev (fun k => laws_toProto.f k x.f0 x.f1 x.f2 x.f3) (x.f0, x.f1, x.f2.map cU, x.f3.map cI) := by
  unfold laws_toProto.f
  refine Ev.bind (f := fun k t => (laws_toInsS.f k x.f3).bind fun t195 => (some (x.f0, x.f1, t, t195))) (toCaptureS_ev _ h) ?_
  exact Ev.bind (f := fun k t195 => some (x.f0, x.f1, x.f2.map cU, t195)) (toInsS_ev _ h2) (Ev.now _)
theorem toProtoS_ev (l : List S82) (h : l.length ≤ 1048576) (h2 : ∀ x ∈ l, x.f2.length ≤ 1048576 ∧ x.f3.length ≤ 1048576) : Ev (fun k => laws_toProtoS.f k l) (l.map cP) := by
  have e := to_loop (z := z45) laws_toProtoS.l0 (fun k a => laws_toProto.f k a.f0 a.f1 a.f2 a.f3) (fun b => ⟨b.1, b.2.1, b.2.2.1, b.2.2.2⟩) (fun a => (a.f0, a.f1, a.f2.map cU, a.f3.map cI)) z82 l (by omega) (fun k x acc i => rfl) (fun a ha => toProto_ev a (h2 a ha).1 (h2 a ha).2)
  refine Ev.congr (fun k => ?_) e
  unfold laws_toProtoS.f
  rw [if_pos (by omega), if_pos (by omega), Int.toNat_natCast]
theorem sum_mem {α : Type} {f : α → Nat} : ∀ {l : List α} {x : α}, x ∈ l → f x ≤ (l.map f).sum
  | [], x, h => by simp at h
  | y :: l, x, h => by
    simp only [List.map_cons, List.sum_cons]
    rcases List.mem_cons.1 h with rfl | h
    · omega
    · have := sum_mem (f := f) h; omega
theorem toProgram_ev (cs : List S77) (ps : List S82) (h : sizeP cs ps ≤ 1048576) : Ev (fun k => laws_toProgram.f k cs ps) (cs.map cC, ps.map cP) := by
  unfold sizeP at h
  unfold laws_toProgram.f
  refine Ev.bind (f := fun k t => (laws_toProtoS.f k ps).bind fun t217 => (some (t, t217))) (toConstS_ev cs (by omega) (fun x hx => by have := sum_mem (f := sC) hx; unfold sC at this h; omega)) ?_
  exact Ev.bind (f := fun k t217 => some (cs.map cC, t217)) (toProtoS_ev ps (by omega) (fun x hx => by have := sum_mem (f := sP) hx; unfold sP at this h; omega)) (Ev.now _)
def FineP (cs : List S69) (ps : List S45) : Prop := cs.length ≤ 1048576 ∧ ps.length ≤ 1048576 ∧ (∀ x ∈ cs, x.f2.length ≤ 1048576) ∧ (∀ x ∈ ps, x.f2.length ≤ 1048576 ∧ x.f3.length ≤ 1048576)
theorem fine_size {cs : List S77} {ps : List S82} (h : sizeP cs ps ≤ 1048576) : FineP (cs.map cC) (ps.map cP) := by
  unfold sizeP at h
  refine ⟨by simp; omega, by simp; omega, ?_, ?_⟩
  · intro x hx
    obtain ⟨y, hy, rfl⟩ := List.mem_map.1 hx
    have := sum_mem (f := sC) hy
    unfold sC at this h
    simp only [cC]
    omega
  · intro x hx
    obtain ⟨y, hy, rfl⟩ := List.mem_map.1 hx
    have := sum_mem (f := sP) hy
    unfold sP at this h
    simp only [cP, List.length_map]
    omega
def rowWd (op : Nat) : ByteArray := match spec_l4row.f (op : Int) with
  | some x => x.1
  | none => ByteArray.empty
theorem l4row_all : ∀ op : Fin 28, spec_l4row.f (op.val : Int) = some (rowWd op.val, rowT op.val, if op.val = 20 ∨ op.val = 21 then 1 else rowL op.val) ∧ (rowWd op.val).size = 2 ∧ bt (rowWd op.val) 0 = (if rowA op.val = 0 then 45 else rowA op.val) ∧ bt (rowWd op.val) 1 = (if rowB op.val = 0 then 45 else rowB op.val) := by decide +kernel
theorem l4row_some (op : Nat) (h : op < 28) : ∃ (s : ByteArray) (t l : Int), spec_l4row.f (op : Int) = some (s, t, l) ∧ s.size = 2 ∧ bt s 0 = (if rowA op = 0 then 45 else rowA op) ∧ bt s 1 = (if rowB op = 0 then 45 else rowB op) := ⟨_, _, _, l4row_all ⟨op, h⟩⟩
def operandB (what v : Int) (nc np : Nat) (s : Int) (n2 n3 : Nat) : Bool := !(decide (v < 0) || decide (boundV what nc np s n2 n3 ≤ v)) && !(decide (what = 112) && decide (v = 0))
theorem operand_eq (cs : List S69) (ps : List S45) (p s : Int) (us : List S48) (code : List S51) (what v : Int) (hw : what ≠ 45) :
    spec_l4operand.f cs ps p s us code (if what = 0 then 45 else what) v = some (operandB what v cs.length ps.length s us.length code.length) := by
  unfold spec_l4operand.f operandB boundV
  by_cases h0 : v < 0
  · rw [if_pos h0]; simp [h0]
  · rw [if_neg h0]
    by_cases c : what = 0
    · subst c
      simp [h0]
      rw [Bool.eq_iff_iff]; simp; omega
    · rw [if_neg c]
      have hd : decide (v < 0) = false := decide_eq_false h0
      rw [hd]
      by_cases c1 : what = 99
      · subst c1; simp; rw [Bool.eq_iff_iff]; simp
      by_cases c2 : what = 112
      · subst c2
        simp
        by_cases c3 : 1 ≤ v
        · have : v ≠ 0 := by omega
          simp [c3, this]; rw [Bool.eq_iff_iff]; simp
        · have : v = 0 := by omega
          simp [this]
      by_cases c3 : what = 115
      · subst c3; simp; rw [Bool.eq_iff_iff]; simp
      by_cases c4 : what = 51
      · subst c4; simp; rw [Bool.eq_iff_iff]; simp
      by_cases c5 : what = 117
      · subst c5; simp; rw [Bool.eq_iff_iff]; simp
      by_cases c6 : what = 105
      · subst c6; simp; rw [Bool.eq_iff_iff]; simp
      by_cases c7 : what = 111
      · subst c7; simp; rw [Bool.eq_iff_iff]; simp
      by_cases c8 : what = 110
      · subst c8; simp; rw [Bool.eq_iff_iff]; simp; omega
      by_cases c9 : what = 116
      · subst c9; simp; rw [Bool.eq_iff_iff]; simp
      · simp [c1, c2, c3, c4, c5, c6, c7, c8, c9]; rw [Bool.eq_iff_iff]; simp; omega
theorem rowA_45 : ∀ op, op < 28 → rowA op ≠ 45 ∧ rowB op ≠ 45 ∧ (rowA op = 112 ↔ op = 10) ∧ rowB op ≠ 112 := by decide
theorem caps_ev (n2 n3 : Nat) (us : List S48) (code : List S51) (p s q0 q1 : Int) (qs : List S48) (q3 : List S51) (hq : qs.length ≤ 1048576) :
    Ev (fun k => spec_l4insOK.l0 k 0 p s us code q0 q1 qs q3) (!(capsOver qs us.length s)) := by
  have key : ∀ m i, qs.length - i = m → i ≤ qs.length → Ev (fun k => spec_l4insOK.l0 k (i : Int) p s us code q0 q1 qs q3) (!(capsOver (qs.drop i) us.length s)) := by
    intro m
    induction m with
    | zero =>
      intro i hm hi
      have : qs.drop i = [] := by simp; omega
      rw [this]
      refine Ev.step (f := fun _ => some true) (fun k => ?_) (Ev.now _)
      simp only [spec_l4insOK.l0]
      rw [if_neg (by omega)]
    | succ m ih =>
      intro i hm hi
      have hlt : i < qs.length := by omega
      have hd : qs.drop i = qs[i] :: qs.drop (i + 1) := List.drop_eq_getElem_cons hlt
      have hr : rd_T48 qs (i : Int) = qs[i] := getD_nat _ _ _ hlt
      have := ih (i + 1) (by omega) (by omega)
      rw [hd]
      unfold capsOver at this ⊢
      rw [List.any_cons]
      by_cases hu : qs[i].f0 = true
      · by_cases hx : (us.length : Int) ≤ qs[i].f1
        · refine Ev.step (f := fun _ => some false) (fun k => ?_) (by rw [if_pos hu, decide_eq_true hx]; exact Ev.now _)
          simp only [spec_l4insOK.l0]
          rw [if_pos (by omega), if_pos (by omega), hr, if_pos hu, if_pos hx]
        · refine Ev.step (fun k => ?_) (by rw [if_pos hu, decide_eq_false hx]; exact this)
          simp only [spec_l4insOK.l0]
          rw [if_pos (by omega), if_pos (by omega), hr, if_pos hu, if_neg (by omega), if_pos hu, wrapN hlt (by omega)]
      · by_cases hx : s ≤ qs[i].f1
        · refine Ev.step (f := fun _ => some false) (fun k => ?_) (by rw [if_neg hu, decide_eq_true hx]; exact Ev.now _)
          simp only [spec_l4insOK.l0]
          rw [if_pos (by omega), if_pos (by omega), hr, if_neg hu, if_neg hu, if_pos hx]
        · refine Ev.step (fun k => ?_) (by rw [if_neg hu, decide_eq_false hx]; exact this)
          simp only [spec_l4insOK.l0]
          rw [if_pos (by omega), if_pos (by omega), hr, if_neg hu, if_neg hu, if_neg (by omega), wrapN hlt (by omega)]
  have := key qs.length 0 (by omega) (by omega)
  simpa using this
theorem insOK_ev (cs : List S69) (ps : List S45) (p s : Int) (us : List S48) (code : List S51) (op a b : Int) (hps : ∀ x ∈ ps, x.f2.length ≤ 1048576) :
    Ev (fun k => spec_l4insOK.f k cs ps p s us code op a b) (goodInsB op a b cs.length ps s us.length code.length) := by
  by_cases hop : op < 0 ∨ 28 ≤ op
  · unfold goodInsB
    rw [if_pos hop]
    refine Ev.congr (f := fun k => spec_l4insOK.j0 k true cs ps p s us code op a b) (fun k => ?_) (Ev.step (f := fun _ => some false) (fun k => ?_) (Ev.now _))
    · unfold spec_l4insOK.f
      rcases hop with h | h
      · rw [if_pos h]
      · rw [if_neg (by omega), decide_eq_true (by omega)]
    · simp only [spec_l4insOK.j0]; rfl
  obtain ⟨n, rfl⟩ : ∃ n : Nat, op = (n : Int) := ⟨op.toNat, by omega⟩
  have hn : n < 28 := by omega
  obtain ⟨w, t, l, hw, hsz, hA, hB⟩ := l4row_some n hn
  obtain ⟨a45, b45, a112, b112⟩ := rowA_45 n hn
  refine Ev.congr (f := fun k => spec_l4insOK.j0 k false cs ps p s us code n a b) (fun k => ?_) ?_
  · unfold spec_l4insOK.f
    rw [if_neg (by omega), decide_eq_false (by omega)]
  have oA := operand_eq cs ps p s us code (rowA n) a a45
  have oB := operand_eq cs ps p s us code (rowB n) b b45
  refine Ev.step (f := fun k => if operandB (rowA n) a cs.length ps.length s us.length code.length = true then spec_l4insOK.j1 k (!operandB (rowB n) b cs.length ps.length s us.length code.length) cs ps p s us code n a b else spec_l4insOK.j1 k true cs ps p s us code n a b) (fun k => ?_) ?_
  · simp only [spec_l4insOK.j0]
    rw [if_neg (by simp), hw]
    simp only [Option.bind_some]
    rw [hsz, if_pos (by omega), hA, oA]
    simp only [Option.bind_some]
    rw [if_pos (show (1 : Int) < ((2 : Nat) : Int) by omega), hB, oB]
    simp only [Option.bind_some]
  have hg := goodInsB_nat n hn a b cs.length ps s us.length code.length
  have hbad : insBad n a b cs.length ps s us.length code.length = !((!(decide (a < 0) || decide (boundV (rowA n) cs.length ps.length s us.length code.length ≤ a))) && operandB (rowB n) b cs.length ps.length s us.length code.length) := by
    unfold insBad operandB
    rw [decide_eq_false b112]
    cases decide (a < 0) <;> cases decide (boundV (rowA n) cs.length ps.length s us.length code.length ≤ a) <;> cases decide (b < 0) <;> cases decide (boundV (rowB n) cs.length ps.length s us.length code.length ≤ b) <;> rfl
  have no : ∀ k, spec_l4insOK.j1 (k + 1) true cs ps p s us code n a b = some false := fun k => by simp only [spec_l4insOK.j1]; rfl
  by_cases h1 : operandB (rowA n) a cs.length ps.length s us.length code.length = true
  · have h1' := h1
    unfold operandB at h1'
    rw [Bool.and_eq_true] at h1'
    obtain ⟨h1a, h1b⟩ := h1'
    refine Ev.congr (fun k => if_pos h1) ?_
    rw [hg, hbad, h1a, Bool.true_and]
    cases h2 : operandB (rowB n) b cs.length ps.length s us.length code.length with
    | false => exact Ev.step (f := fun _ => some false) no (Ev.now _)
    | true =>
      rw [if_neg (by simp)]
      by_cases h10 : n = 10
      · have ha112 := a112.2 h10
        rw [decide_eq_true ha112] at h1b
        simp at h1b
        rw [ha112] at h1a
        simp [boundV] at h1a
        rw [if_pos h10, if_neg h1b]
        have hlt : a.toNat < ps.length := by omega
        have hr : rd_T45 ps a = ps[a.toNat] := by
          have := getD_nat ps z45 a.toNat hlt
          rw [Int.toNat_of_nonneg (by omega)] at this
          exact this
        rw [hr]
        refine Ev.step (fun k => ?_) (caps_ev 0 0 us code p s ps[a.toNat].f0 ps[a.toNat].f1 ps[a.toNat].f2 ps[a.toNat].f3 (hps _ (List.getElem_mem hlt)))
        simp only [spec_l4insOK.j1]
        rw [if_neg (by simp), if_pos (by omega), if_pos (by omega), if_pos (by omega), hr]
      · rw [if_neg h10]
        refine Ev.step (f := fun _ => some true) (fun k => ?_) (Ev.now _)
        simp only [spec_l4insOK.j1]
        rw [if_neg (by simp), if_neg (by omega)]
  · refine Ev.congr (fun k => if_neg h1) (Ev.step (f := fun _ => some false) no ?_)
    have : goodInsB n a b cs.length ps s us.length code.length = false := by
      rw [hg, hbad]
      unfold operandB at h1
      by_cases h3 : (!(decide (a < 0) || decide (boundV (rowA n) cs.length ps.length s us.length code.length ≤ a))) = true
      · rw [h3] at h1
        simp at h1
        have h10 := a112.1 h1.1
        rw [if_pos h10, if_pos h1.2]
        split <;> rfl
      · rw [Bool.not_eq_true] at h3
        rw [h3]; simp
    rw [this]
    exact Ev.now _
def putsAt (code : List S51) (i h : Int) : List (Int × Int) := putsOf (rd_T51 code i).f0.toNat (rd_T51 code i).f1 (rd_T51 code i).f2 i (h1Of (rd_T51 code i).f0.toNat (rd_T51 code i).f1 h)
def h1At (code : List S51) (i h : Int) : Int := h1Of (rd_T51 code i).f0.toNat (rd_T51 code i).f1 h
structure Cons (code : List S51) (H : Int → Option Int) : Prop where
  z : H 0 = some 0
  s : ∀ i h, H i = some h → 0 ≤ i ∧ i < code.length ∧ h ≤ 300 ∧ 0 ≤ h1At code i h ∧ ∀ p ∈ putsAt code i h, H p.1 = some p.2
def FineIns (n : Nat) (x : S51) : Prop := 0 ≤ x.f0 ∧ x.f0 < 28 ∧ 0 ≤ x.f1 ∧ x.f1 ≤ 2000000 ∧ 0 ≤ x.f2 ∧ x.f2 ≤ 2000000 ∧ (18 ≤ x.f0 ∧ x.f0 ≤ 21 → x.f1 < n) ∧ (26 ≤ x.f0 ∧ x.f0 ≤ 27 → x.f2 < n)
theorem h1Of_eq (op : Nat) (a h : Int) : h1Of op a h = h - takesOf op a := by
  unfold h1Of takesOf; split <;> omega
def reachAll : List (Int × Int) → List Int → List Int → Option (List Int × Bool × List Int)
  | [], hs, ts => some (ts, true, hs)
  | p :: ps, hs, ts => match reachL p.1 p.2 hs ts with
    | none => none
    | some (ts1, ok, hs1) => if ok = true then reachAll ps hs1 ts1 else some (ts1, false, hs1)
theorem match_id (x : Option (List Int × Bool × List Int)) : (match x with | none => none | some (ts1, ok, hs1) => if ok = true then some (ts1, true, hs1) else some (ts1, false, hs1)) = x := by
  rcases x with _ | ⟨a, b, c⟩
  · rfl
  · cases b <;> rfl
theorem stepL_eq (code : List S51) (op : Nat) (hop : op < 28) (at_ a b m : Int) (hs ts : List Int) : stepL code op at_ a b m hs ts = reachAll (putsOf op a b at_ m) hs ts := by
  have l22 : rowL 22 = 0 := by decide
  have l19 : leavesOf 19 b = rowL 19 := by rfl
  unfold stepL step1L step2L putsOf
  by_cases c22 : op = 22
  · subst c22; simp [reachAll, leavesOf, l22] <;> rfl
  by_cases c23 : op = 23
  · subst c23; simp [reachAll]
  by_cases c24 : op = 24
  · subst c24; simp [reachAll]
  by_cases c18 : op = 18
  · subst c18; simp [reachAll]; exact (match_id _).symm
  have hl : leavesOf op b = rowL op := by unfold leavesOf; rw [if_neg c22, if_neg (by omega)]
  rw [hl]
  by_cases c19 : op = 19
  · subst c19; simp [reachAll]; simp only [match_id] <;> rfl
  by_cases c20 : op = 20 ∨ op = 21
  · simp only [c18, c22, c23, c24, c19, c20, or_self, if_false, if_true, reachAll]; simp only [match_id] <;> rfl
  by_cases c26 : op = 26 ∨ op = 27
  · simp only [c18, c22, c23, c24, c19, c20, c26, or_self, if_false, if_true, reachAll]; simp only [match_id] <;> rfl
  · simp only [c18, c22, c23, c24, c19, c20, c26, or_self, if_false, reachAll] <;> rfl
theorem puts_nonneg {n : Nat} {x : S51} (hx : FineIns n x) {i m : Int} (hi : 0 ≤ i) (hi2 : i ≤ n) (hn : n ≤ 20000) (hm : 0 ≤ m) (hm2 : m ≤ 2000) : ∀ p ∈ putsOf x.f0.toNat x.f1 x.f2 i m, 0 ≤ p.1 ∧ p.1 ≤ 20001 ∧ 0 ≤ p.2 ∧ p.2 ≤ 3000000 := by
  obtain ⟨o1, o2, o3, o4, o5, o6, o7, o8⟩ := hx
  have hb := row_bound x.f0.toNat (by omega)
  unfold putsOf
  intro p hp
  split at hp
  · simp at hp; subst hp; simp only; omega
  split at hp
  · simp at hp
  split at hp
  · simp at hp; subst hp; simp only; omega
  split at hp
  · simp at hp; rcases hp with rfl | rfl <;> simp only <;> omega
  split at hp
  · simp at hp; rcases hp with rfl | rfl <;> simp only <;> omega
  split at hp
  · simp at hp; rcases hp with rfl | rfl <;> simp only <;> omega
  · simp at hp; subst hp; simp only; omega
theorem puts_len (op : Nat) (a b i m : Int) : (putsOf op a b i m).length ≤ 2 := by
  unfold putsOf
  repeat' split
  all_goals simp
def unset (hs : List Int) : Nat := hs.countP (· < 0)
theorem rd_set {hs : List Int} {at_ : Int} (h0 : 0 ≤ at_) (h1 : at_ < hs.length) (n i : Int) (hi : 0 ≤ i) : rd (hs.set at_.toNat n) i = if i = at_ then n else rd hs i := by
  unfold rd
  rw [List.getD_eq_getElem?_getD, List.getD_eq_getElem?_getD, List.getElem?_set]
  by_cases e : i = at_
  · subst e; rw [if_pos rfl, if_pos (by omega), if_pos rfl]; rfl
  · rw [if_neg (by omega), if_neg e]
theorem unset_set : ∀ (hs : List Int) (j : Nat) (n : Int), j < hs.length → hs.getD j 0 < 0 → 0 ≤ n → unset (hs.set j n) + 1 = unset hs := by
  intro hs
  induction hs with
  | nil => intro j n h; simp at h
  | cons x xs ih =>
    intro j n h hx hn
    cases j with
    | zero =>
      simp at hx
      have hn2 : ¬ n < 0 := by omega
      simp [unset, hx, hn2, List.countP_cons]
    | succ j =>
      have := ih j n (by simpa using h) (by simpa using hx) hn
      simp only [unset, List.set_cons_succ, List.countP_cons] at *
      omega
structure Ext (hs ts hs2 ts2 : List Int) : Prop where
  len : hs2.length = hs.length
  keep : ∀ i : Int, 0 ≤ i → i < hs.length → 0 ≤ rd hs i → rd hs2 i = rd hs i
  new : ∀ i : Int, 0 ≤ i → i < hs.length → 0 ≤ rd hs2 i → rd hs2 i = rd hs i ∨ (i ∈ ts2 ∧ rd hs2 i ≤ 300)
  sub : ∀ t ∈ ts, t ∈ ts2
  tin : ∀ t ∈ ts2, t ∈ ts ∨ (0 ≤ t ∧ t < hs.length ∧ 0 ≤ rd hs2 t)
  cnt : unset hs2 + ts2.length ≤ unset hs + ts.length
  lens : ts2.length ≥ ts.length
theorem Ext.refl (hs ts : List Int) : Ext hs ts hs ts := ⟨rfl, fun _ _ _ _ => rfl, fun _ _ _ _ => .inl rfl, fun _ h => h, fun _ h => .inl h, Nat.le_refl _, Nat.le_refl _⟩
theorem Ext.trans {hs ts hs2 ts2 hs3 ts3 : List Int} (h : Ext hs ts hs2 ts2) (k : Ext hs2 ts2 hs3 ts3) : Ext hs ts hs3 ts3 := by
  have hl := h.len
  refine ⟨k.len.trans h.len, ?_, ?_, fun t ht => k.sub t (h.sub t ht), ?_, Nat.le_trans k.cnt h.cnt, Nat.le_trans h.lens k.lens⟩
  · intro i h0 h1 h2
    have e := h.keep i h0 h1 h2
    rw [k.keep i h0 (by omega) (by omega), e]
  · intro i h0 h1 h2
    rcases k.new i h0 (by omega) h2 with e | e
    · rcases h.new i h0 h1 (by omega) with e2 | e2
      · exact .inl (e.trans e2)
      · exact .inr ⟨k.sub i e2.1, by omega⟩
    · exact .inr e
  · intro t ht
    rcases k.tin t ht with e | e
    · rcases h.tin t e with e2 | e2
      · exact .inl e2
      · exact .inr ⟨e2.1, e2.2.1, by rw [k.keep t e2.1 (by omega) e2.2.2]; exact e2.2.2⟩
    · exact .inr ⟨e.1, by omega, e.2.2⟩
theorem reach_one {at_ n : Int} {hs ts : List Int} (h0 : 0 ≤ at_) (hn : 0 ≤ n) (ht : ts.length ≤ 1000000) :
    ∃ rs ok hs1, reachL at_ n hs ts = some (rs, ok, hs1) ∧
      ((ok = false ∧ (¬ (at_ < hs.length ∧ n ≤ 300) ∨ (at_ < hs.length ∧ 0 ≤ rd hs at_ ∧ rd hs at_ ≠ n))) ∨
       (ok = true ∧ at_ < hs.length ∧ n ≤ 300 ∧ rd hs1 at_ = n ∧ Ext hs ts hs1 rs ∧ rs.length ≤ ts.length + 1 ∧ (∀ i : Int, 0 ≤ i → i < hs.length → i ≠ at_ → rd hs1 i = rd hs i))) := by
  unfold reachL
  by_cases hc : (hs.length : Int) ≤ at_ ∨ 300 < n
  · rw [if_pos hc]; exact ⟨_, _, _, rfl, .inl ⟨rfl, .inl (by omega)⟩⟩
  rw [if_neg hc, if_neg (by omega)]
  by_cases h2 : 0 ≤ rd hs at_
  · rw [if_pos h2]
    refine ⟨_, _, _, rfl, ?_⟩
    by_cases e : rd hs at_ = n
    · exact .inr ⟨by simp [e], by omega, by omega, e, Ext.refl _ _, by omega, fun _ _ _ _ => rfl⟩
    · exact .inl ⟨by simp [e], .inr ⟨by omega, h2, e⟩⟩
  · rw [if_neg h2, if_pos ht]
    have hr := rd_set (hs := hs) (at_ := at_) h0 (by omega) n
    refine ⟨_, _, _, rfl, .inr ⟨rfl, by omega, by omega, by rw [hr at_ h0, if_pos rfl], ?_, by simp, fun i hi _ hne => by rw [hr i hi, if_neg hne]⟩⟩
    refine ⟨by simp, ?_, ?_, fun t h => by simp [h], ?_, ?_, by simp⟩
    · intro i hi _ h3
      rw [hr i hi, if_neg (fun e : i = at_ => h2 (e ▸ h3))]
    · intro i hi _ h3
      rw [hr i hi] at h3 ⊢
      by_cases e : i = at_
      · rw [if_pos e]; exact .inr ⟨by simp [e], by omega⟩
      · rw [if_neg e]; exact .inl rfl
    · intro t h
      simp at h
      rcases h with h | h
      · exact .inl h
      · subst h; exact .inr ⟨h0, by omega, by rw [hr _ h0, if_pos rfl]; exact hn⟩
    · have := unset_set hs at_.toNat n (by omega) (by unfold rd at h2; omega) hn
      simp; omega
theorem reach_all : ∀ (ps : List (Int × Int)) (hs ts : List Int), (∀ p ∈ ps, 0 ≤ p.1 ∧ 0 ≤ p.2) → ts.length + ps.length ≤ 1000000 →
    ∃ rs ok hs1, reachAll ps hs ts = some (rs, ok, hs1) ∧
      (ok = true → Ext hs ts hs1 rs ∧ ∀ p ∈ ps, p.1 < hs.length ∧ p.2 ≤ 300 ∧ rd hs1 p.1 = p.2) ∧
      (∀ H : Int → Option Int, (∀ i h, H i = some h → i < hs.length ∧ h ≤ 300) → (∀ i : Int, 0 ≤ i → i < hs.length → 0 ≤ rd hs i → H i = some (rd hs i)) → (∀ p ∈ ps, H p.1 = some p.2) →
        ok = true ∧ ∀ i : Int, 0 ≤ i → i < hs.length → 0 ≤ rd hs1 i → H i = some (rd hs1 i)) := by
  intro ps
  induction ps with
  | nil => intro hs ts _ _; exact ⟨_, _, _, rfl, fun _ => ⟨Ext.refl _ _, fun p hp => by simp at hp⟩, fun H _ h2 _ => ⟨rfl, h2⟩⟩
  | cons p ps ih =>
    intro hs ts hp hl
    simp only [List.length_cons] at hl
    obtain ⟨rs, ok, hs1, e, hh⟩ := reach_one (hs := hs) (hp p (by simp)).1 (hp p (by simp)).2 (ts := ts) (by omega)
    unfold reachAll
    rw [e]
    simp only
    rcases hh with ⟨e1, hf⟩ | ⟨e1, h1, h2, h3, h4, h5, h6⟩
    · subst e1
      refine ⟨_, _, _, rfl, fun h => by simp at h, fun H hH h1 h2 => ?_⟩
      exfalso
      have hpp := h2 p (by simp)
      have hr := hH _ _ hpp
      rcases hf with hf | ⟨g1, g2, g3⟩
      · exact hf hr
      · have := h1 p.1 (hp p (by simp)).1 g1 g2
        rw [hpp] at this
        injection this with this
        exact g3 this.symm
    · subst e1
      obtain ⟨rs2, ok2, hs2, e2, i1, i2⟩ := ih hs1 rs (fun q hq => hp q (by simp [hq])) (by omega)
      have hlen := h4.len
      refine ⟨rs2, ok2, hs2, by rw [if_pos rfl]; exact e2, ?_, ?_⟩
      · intro hok
        obtain ⟨j1, j2⟩ := i1 hok
        refine ⟨h4.trans j1, ?_⟩
        intro q hq
        simp at hq
        rcases hq with rfl | hq
        · refine ⟨h1, h2, ?_⟩
          rw [j1.keep q.1 (hp q (by simp)).1 (by omega) (by rw [h3]; exact (hp q (by simp)).2), h3]
        · have := j2 q hq; rw [hlen] at this; exact this
      · intro H hH h7 h8
        have := i2 H (by rw [hlen]; exact hH) (by
          intro i hi0 hi1 hi2
          rw [hlen] at hi1
          by_cases e : i = p.1
          · subst e; rw [h3]; exact h8 p (by simp)
          · rw [h6 i hi0 hi1 e] at hi2 ⊢; exact h7 i hi0 hi1 hi2) (fun q hq => h8 q (by simp [hq]))
        rw [hlen] at this
        exact this
def heightMap (code : List S51) (hs : List Int) (i : Int) : Option Int := if 0 ≤ i ∧ i < code.length ∧ 0 ≤ rd hs i then some (rd hs i) else none
structure SI (code : List S51) (hs ts : List Int) : Prop where
  len : hs.length = code.length
  top : ∀ i : Int, 0 ≤ i → i < code.length → -1 ≤ rd hs i ∧ rd hs i ≤ 300
  tin : ∀ t ∈ ts, 0 ≤ t ∧ t < code.length ∧ 0 ≤ rd hs t
  done : ∀ i : Int, 0 ≤ i → i < code.length → 0 ≤ rd hs i → i ∈ ts ∨ (0 ≤ h1At code i (rd hs i) ∧ ∀ p ∈ putsAt code i (rd hs i), 0 ≤ p.1 ∧ p.1 < code.length ∧ 0 ≤ p.2 ∧ rd hs p.1 = p.2)
theorem reachL_low {at_ n : Int} {hs ts rs hs1 : List Int} {ok : Bool} (hn : 0 ≤ n) (h : reachL at_ n hs ts = some (rs, ok, hs1)) (hh : ∀ i : Int, 0 ≤ i → i < hs.length → -1 ≤ rd hs i) : ∀ i : Int, 0 ≤ i → i < hs.length → -1 ≤ rd hs1 i := by
  unfold reachL at h
  split at h
  · injection h with h; injection h with _ h; injection h with _ h; rw [← h]; exact hh
  rename_i hc
  split at h
  · cases h
  rename_i h0
  split at h
  · injection h with h; injection h with _ h; injection h with _ h; rw [← h]; exact hh
  split at h
  · injection h with h; injection h with _ h; injection h with _ h; rw [← h]
    intro i h1 h2
    rw [rd_set (by omega) (by omega) n i h1]
    split
    · omega
    · exact hh i h1 h2
  · cases h
theorem reachAll_low : ∀ (ps : List (Int × Int)) (hs ts rs hs1 : List Int) (ok : Bool), (∀ p ∈ ps, 0 ≤ p.2) → reachAll ps hs ts = some (rs, ok, hs1) → (∀ i : Int, 0 ≤ i → i < hs.length → -1 ≤ rd hs i) → ∀ i : Int, 0 ≤ i → i < hs.length → -1 ≤ rd hs1 i := by
  intro ps
  induction ps with
  | nil => intro hs ts rs hs1 ok _ h hh; simp [reachAll] at h; rw [← h.2.2]; exact hh
  | cons p ps ih =>
    intro hs ts rs hs1 ok hp h hh
    unfold reachAll at h
    split at h
    · cases h
    · rename_i ts1 ok1 hs2 e
      have hl := reachL_len e
      have h2 := reachL_low (hp p (by simp)) e hh
      split at h
      · have := ih _ _ _ _ _ (fun q hq => hp q (by simp [hq])) h (by rw [hl]; exact h2)
        rw [hl] at this
        exact this
      · injection h with h; injection h with _ h; injection h with _ h; rw [← h]; exact h2
theorem fine_ok {n : Nat} {x : S51} (h : FineIns n x) : OkIns x := ⟨h.1, h.2.1, h.2.2.1, h.2.2.2.1, h.2.2.2.2.1, h.2.2.2.2.2.1⟩
theorem sh_main (code : List S51) (hL : code.length ≤ 20000) (hf : ∀ i : Int, 0 ≤ i → i < code.length → FineIns code.length (rd_T51 code i)) :
    ∀ (n : Nat) (hs ts : List Int), SI code hs ts → rd hs 0 = 0 → 0 < code.length → unset hs + ts.length < n → unset hs + ts.length ≤ 30000 →
      ∃ r, shL code n hs ts = some r ∧ (r = true → ∃ H, Cons code H) ∧ (∀ H, Cons code H → (∀ i : Int, 0 ≤ i → i < code.length → 0 ≤ rd hs i → H i = some (rd hs i)) → r = true) := by
  intro n
  induction n with
  | zero => intro hs ts _ _ _ h; omega
  | succ n ih =>
    intro hs ts hi hz hpos hn hb
    rcases List.eq_nil_or_concat ts with rfl | ⟨us, t, rfl⟩
    · refine ⟨true, rfl, fun _ => ⟨heightMap code hs, ?_, ?_⟩, fun _ _ _ => rfl⟩
      · unfold heightMap; rw [if_pos ⟨by omega, by omega, by omega⟩, hz]
      · intro i h e
        unfold heightMap at e
        split at e
        · rename_i c
          injection e with e
          subst e
          rcases hi.done i c.1 c.2.1 c.2.2 with d | ⟨d1, d2⟩
          · simp at d
          · refine ⟨c.1, c.2.1, (hi.top i c.1 c.2.1).2, d1, fun p hp => ?_⟩
            obtain ⟨e1, e2, e3, e4⟩ := d2 p hp
            unfold heightMap
            rw [if_pos ⟨e1, e2, by omega⟩, e4]
        · cases e
    · have hcc : us.concat t = us ++ [t] := List.concat_eq_append ..
      rw [hcc] at hi hn hb ⊢
      simp only [List.length_append, List.length_cons, List.length_nil] at hn hb
      obtain ⟨t0, t1, t2⟩ := hi.tin t (by simp)
      have hx := hf t t0 t1
      have htop := hi.top t t0 t1
      obtain ⟨u, vs, hu⟩ : ∃ u vs, us ++ [t] = u :: vs := by cases us with
        | nil => exact ⟨t, [], rfl⟩
        | cons a b => exact ⟨a, b ++ [t], rfl⟩
      have e1 : ∀ (hne : u :: vs ≠ []), (u :: vs).getLast hne = t := by intro hne; simp [← hu]
      have e2 : (u :: vs).dropLast = us := by rw [← hu]; simp
      have e3 : vs.length = us.length := by have := congrArg List.length hu; simp at this; omega
      rw [hu]
      unfold shL
      simp only [e1, e2]
      rw [if_pos ⟨hi.len, by omega, t0, t1, fine_ok hx, by omega, by omega⟩]
      rw [← h1Of_eq]
      by_cases hneg : h1Of (rd_T51 code t).f0.toNat (rd_T51 code t).f1 (rd hs t) < 0
      · rw [if_pos hneg]
        refine ⟨false, rfl, fun h => absurd h (by decide), fun H hH hA => ?_⟩
        have := (hH.s t _ (hA t t0 t1 t2)).2.2.2.1
        unfold h1At at this
        omega
      rw [if_neg hneg, stepL_eq code _ (by have := hx.1; have := hx.2.1; omega)]
      have hm : h1Of (rd_T51 code t).f0.toNat (rd_T51 code t).f1 (rd hs t) ≤ 2000 := by
        obtain ⟨o1, o2, o3, o4, o5, o6, o7, o8⟩ := hx
        have hb := row_bound (rd_T51 code t).f0.toNat (by omega)
        unfold h1Of; split <;> omega
      have hp := puts_nonneg hx t0 (by omega) hL (by omega) hm
      have hpl := puts_len (rd_T51 code t).f0.toNat (rd_T51 code t).f1 (rd_T51 code t).f2 t (h1Of (rd_T51 code t).f0.toNat (rd_T51 code t).f1 (rd hs t))
      obtain ⟨rs, ok, hs1, e, k1, k2⟩ := reach_all _ hs us (fun p h => ⟨(hp p h).1, (hp p h).2.2.1⟩) (by omega)
      have hlow := reachAll_low _ _ _ _ _ _ (fun p h => (hp p h).2.2.1) e (fun i h0 h1 => (hi.top i h0 (by rw [← hi.len]; exact h1)).1)
      rw [e]
      simp only
      cases ok with
      | false =>
        rw [if_neg (by simp)]
        refine ⟨false, rfl, fun h => absurd h (by decide), fun H hH hA => ?_⟩
        have hs_ := hH.s t _ (hA t t0 t1 t2)
        have := (k2 H (fun i h e => by have := hH.s i h e; rw [hi.len]; exact ⟨this.2.1, this.2.2.1⟩) (by rw [hi.len]; exact hA) hs_.2.2.2.2).1
        cases this
      | true =>
        rw [if_pos rfl]
        obtain ⟨x1, x2⟩ := k1 rfl
        have hlen := x1.len
        have hli := hi.len
        have SI2 : SI code hs1 rs := by
          refine ⟨by omega, ?_, ?_, ?_⟩
          · intro i h0 h1
            refine ⟨hlow i h0 (by omega), ?_⟩
            by_cases h2 : 0 ≤ rd hs1 i
            · rcases x1.new i h0 (by omega) h2 with e | e
              · rw [e]; exact (hi.top i h0 h1).2
              · exact e.2
            · omega
          · intro s hs_
            rcases x1.tin s hs_ with e | e
            · obtain ⟨g0, g1, g2⟩ := hi.tin s (by simp [e])
              exact ⟨g0, g1, by rw [x1.keep s g0 (by omega) g2]; exact g2⟩
            · exact ⟨e.1, by omega, e.2.2⟩
          · intro i h0 h1 h2
            by_cases hit : i = t
            · subst hit
              right
              rw [x1.keep i h0 (by omega) t2]
              refine ⟨by unfold h1At; omega, fun p hpp => ?_⟩
              obtain ⟨y1, y2, y3⟩ := x2 p hpp
              have y4 := hp p hpp
              exact ⟨y4.1, by omega, y4.2.2.1, y3⟩
            rcases x1.new i h0 (by omega) h2 with e | e
            · rw [e] at h2 ⊢
              rcases hi.done i h0 h1 h2 with d | ⟨d1, d2⟩
              · simp at d
                rcases d with d | d
                · exact .inl (x1.sub i d)
                · exact absurd d hit
              · refine .inr ⟨d1, fun p hpp => ?_⟩
                obtain ⟨y1, y2, y3, y4⟩ := d2 p hpp
                exact ⟨y1, y2, y3, by rw [x1.keep p.1 y1 (by omega) (by omega)]; exact y4⟩
            · exact .inl e.1
        have hcnt := x1.cnt
        obtain ⟨r, hr, r1, r2⟩ := ih hs1 rs SI2 (by rw [x1.keep 0 (by omega) (by omega) (by omega), hz]) hpos (by omega) (by omega)
        refine ⟨r, hr, r1, fun H hH hA => r2 H hH ?_⟩
        have hs_ := hH.s t _ (hA t t0 t1 t2)
        have := (k2 H (fun i h e => by have := hH.s i h e; rw [hi.len]; exact ⟨this.2.1, this.2.2.1⟩) (by rw [hi.len]; exact hA) hs_.2.2.2.2).2
        rw [hi.len] at this
        exact this
theorem unset_rep (n : Nat) : unset (List.replicate n (-1)) = n := by
  unfold unset; rw [List.countP_replicate]; simp
theorem rd_rep (n : Nat) (i : Int) (h0 : 0 ≤ i) (h : i < n) : rd (List.replicate n (-1)) i = -1 := by
  unfold rd; rw [List.getD_eq_getElem?_getD, List.getElem?_replicate, if_pos (by omega)]; rfl
theorem shStart_any (code : List S51) (hL : code.length ≤ 20000) (h1 : 0 < code.length) (hf : ∀ i : Int, 0 ≤ i → i < code.length → FineIns code.length (rd_T51 code i)) :
    ∃ r, shStart code (3 * code.length + 5) = some r ∧ (r = true ↔ ∃ H, Cons code H) := by
  obtain ⟨m, hm⟩ : ∃ m, code.length = m + 1 := ⟨code.length - 1, by omega⟩
  have hr0 := rd_rep code.length 0 (by omega) (by omega)
  unfold shStart
  have e : reachL 0 0 (List.replicate code.length (-1)) [] = some ([0], true, (List.replicate code.length (-1)).set 0 0) := by
    unfold reachL
    rw [if_neg (by simp only [List.length_replicate]; omega), if_neg (by omega), if_neg (by rw [hr0]; omega), if_pos (by simp)]
    rfl
  rw [e]
  simp only
  have hset := rd_set (hs := List.replicate code.length (-1)) (at_ := 0) (by omega) (by simp; omega) 0
  rw [show (0 : Int).toNat = 0 from rfl] at hset
  have hu : unset ((List.replicate code.length (-1)).set 0 0) + 1 = code.length := by
    rw [unset_set _ 0 0 (by simp; omega) (by rw [hm]; simp [List.replicate_succ]) (by omega), unset_rep]
  obtain ⟨r, hr, r1, r2⟩ := sh_main code hL hf (3 * code.length + 5) ((List.replicate code.length (-1)).set 0 0) [0] (by
    refine ⟨by simp, ?_, ?_, ?_⟩
    · intro i h0 h1
      rw [hset i h0]
      split
      · omega
      · rw [rd_rep _ i h0 h1]; omega
    · intro t ht; simp at ht; subst ht; exact ⟨by omega, by omega, by rw [hset 0 (by omega), if_pos rfl]; omega⟩
    · intro i h0 h1 h2
      rw [hset i h0] at h2
      split at h2
      · rename_i e; subst e; simp
      · rw [rd_rep _ i h0 h1] at h2; omega) (by rw [hset 0 (by omega), if_pos rfl]) h1 (by simp; omega) (by simp; omega)
  refine ⟨r, hr, r1, fun ⟨H, hH⟩ => r2 H hH ?_⟩
  intro i h0 h1 h2
  rw [hset i h0] at h2 ⊢
  split
  · rename_i e; subst e; exact hH.z
  · rename_i e; rw [if_neg e, rd_rep _ i h0 h1] at h2; omega
def left (code : List S51) (seen : List (Int × Int)) : Nat := (List.range code.length).countP fun (i : Nat) => (seen.lookup (i : Int)).isNone
theorem lookup_cons {k v i : Int} {l : List (Int × Int)} : ((k, v) :: l).lookup i = if i = k then some v else l.lookup i := by
  simp only [List.lookup]
  by_cases e : i = k
  · subst e; simp
  · rw [if_neg e, beq_false_of_ne e]
theorem countP_lt {l : List Nat} {p q : Nat → Bool} (h : ∀ i ∈ l, q i = true → p i = true) {j : Nat} (hj : j ∈ l) (hp : p j = true) (hq : q j = false) : l.countP q + 1 ≤ l.countP p := by
  induction l with
  | nil => simp at hj
  | cons x xs ih =>
    have hmono : xs.countP q ≤ xs.countP p := List.countP_mono_left (fun i hi => h i (by simp [hi]))
    simp only [List.countP_cons]
    simp at hj
    by_cases e : j = x
    · subst e; simp [hp, hq]; exact hmono
    · have := ih (fun i hi => h i (by simp [hi])) (hj.resolve_left e)
      have hx := h x (by simp)
      by_cases hqx : q x = true
      · rw [if_pos hqx, if_pos (hx hqx)]; omega
      · rw [if_neg hqx]; split <;> omega
theorem left_cons {code : List S51} {seen : List (Int × Int)} {at_ h : Int} (h0 : 0 ≤ at_) (h1 : at_ < code.length) (hl : seen.lookup at_ = none) : left code ((at_, h) :: seen) + 1 ≤ left code seen := by
  unfold left
  refine countP_lt (j := at_.toNat) ?_ (by simp; omega) ?_ ?_
  · intro i hi hq
    rw [lookup_cons] at hq
    split at hq
    · simp at hq
    · exact hq
  · rw [Int.toNat_of_nonneg h0, hl]; rfl
  · rw [Int.toNat_of_nonneg h0, lookup_cons, if_pos rfl]; rfl
structure GI (code : List S51) (seen todo : List (Int × Int)) : Prop where
  z : seen.lookup 0 = some 0 ∨ (0, 0) ∈ todo
  tin : ∀ p ∈ todo, 0 ≤ p.1 ∧ p.1 ≤ 20001 ∧ 0 ≤ p.2 ∧ p.2 ≤ 3000000
  done : ∀ i h : Int, seen.lookup i = some h → 0 ≤ i ∧ i < code.length ∧ h ≤ 300 ∧ 0 ≤ h1At code i h ∧ ∀ p ∈ putsAt code i h, seen.lookup p.1 = some p.2 ∨ p ∈ todo
  cnt : left code seen + seen.length ≤ code.length
theorem gh_main (code : List S51) (hL : code.length ≤ 20000) (hf : ∀ i : Int, 0 ≤ i → i < code.length → FineIns code.length (rd_T51 code i)) :
    ∀ (n : Nat) (seen todo : List (Int × Int)), GI code seen todo → 3 * left code seen + todo.length < n → 3 * left code seen + todo.length ≤ 70000 →
      ∃ r, ghL code n seen todo = some r ∧ (r = true → ∃ H, Cons code H) ∧ (∀ H, Cons code H → (∀ i h : Int, seen.lookup i = some h → H i = some h) → (∀ p ∈ todo, H p.1 = some p.2) → r = true) := by
  intro n
  induction n with
  | zero => intro seen todo _ h; omega
  | succ n ih =>
    intro seen todo hi hn hb
    cases todo with
    | nil =>
      refine ⟨true, rfl, fun _ => ⟨fun i => seen.lookup i, ?_, ?_⟩, fun _ _ _ _ => rfl⟩
      · rcases hi.z with h | h
        · exact h
        · simp at h
      · intro i h e
        obtain ⟨a, b, c, d, f⟩ := hi.done i h e
        exact ⟨a, b, c, d, fun p hp => (f p hp).resolve_right (by simp)⟩
    | cons p rest =>
      obtain ⟨at_, h⟩ := p
      simp only [List.length_cons] at hn hb
      obtain ⟨t0, t1, t2, t3⟩ := hi.tin (at_, h) (by simp)
      simp only at t0 t1 t2 t3
      have hc := hi.cnt
      unfold ghL
      rw [if_neg (by omega)]
      by_cases hbad : (code.length : Int) ≤ at_ ∨ 300 < h
      · rw [if_pos hbad]
        refine ⟨false, rfl, fun h => absurd h (by decide), fun H hH _ hT => ?_⟩
        have := hH.s at_ h (hT (at_, h) (by simp))
        omega
      rw [if_neg hbad]
      split
      · rename_i h' hl
        by_cases e : h' = h
        · subst e
          rw [if_pos rfl]
          obtain ⟨r, hr, r1, r2⟩ := ih seen rest (by
            refine ⟨?_, fun p hp => hi.tin p (by simp [hp]), ?_, hc⟩
            · rcases hi.z with a | a
              · exact .inl a
              · simp at a
                rcases a with ⟨rfl, rfl⟩ | a
                · exact .inl hl
                · exact .inr a
            · intro i k hk
              obtain ⟨a, b, c, d, f⟩ := hi.done i k hk
              refine ⟨a, b, c, d, fun p hp => ?_⟩
              rcases f p hp with g | g
              · exact .inl g
              · simp at g
                rcases g with rfl | g
                · exact .inl hl
                · exact .inr g) (by omega) (by omega)
          exact ⟨r, hr, r1, fun H hH hS hT => r2 H hH hS fun p hp => hT p (by simp [hp])⟩
        · rw [if_neg e]
          refine ⟨false, rfl, fun h => absurd h (by decide), fun H hH hS hT => ?_⟩
          have a := hS at_ h' hl
          have b := hT (at_, h) (by simp)
          simp only at b
          rw [a] at b
          injection b with b
          exact absurd b e
      · rename_i hl
        have hx := hf at_ t0 (by omega)
        rw [if_pos (fine_ok hx)]
        by_cases hneg : h1Of (rd_T51 code at_).f0.toNat (rd_T51 code at_).f1 h < 0
        · rw [if_pos hneg]
          refine ⟨false, rfl, fun h => absurd h (by decide), fun H hH _ hT => ?_⟩
          have := (hH.s at_ h (hT (at_, h) (by simp))).2.2.2.1
          unfold h1At at this
          omega
        rw [if_neg hneg]
        have hm : h1Of (rd_T51 code at_).f0.toNat (rd_T51 code at_).f1 h ≤ 2000 := by
          obtain ⟨o1, o2, o3, o4, o5, o6, o7, o8⟩ := hx
          have hb := row_bound (rd_T51 code at_).f0.toNat (by omega)
          unfold h1Of; split <;> omega
        have hp := puts_nonneg hx t0 (by omega) hL (by omega) hm
        have hpl := puts_len (rd_T51 code at_).f0.toNat (rd_T51 code at_).f1 (rd_T51 code at_).f2 at_ (h1Of (rd_T51 code at_).f0.toNat (rd_T51 code at_).f1 h)
        have hlc := left_cons (code := code) (h := h) t0 (by omega) hl
        obtain ⟨r, hr, r1, r2⟩ := ih ((at_, h) :: seen) (rest ++ putsOf (rd_T51 code at_).f0.toNat (rd_T51 code at_).f1 (rd_T51 code at_).f2 at_ (h1Of (rd_T51 code at_).f0.toNat (rd_T51 code at_).f1 h)) (by
          refine ⟨?_, ?_, ?_, ?_⟩
          · rw [lookup_cons]
            rcases hi.z with a | a
            · left; rw [if_neg (by rintro rfl; rw [hl] at a; cases a)]; exact a
            · simp at a
              rcases a with ⟨rfl, rfl⟩ | a
              · left; rw [if_pos rfl]
              · right; simp [a]
          · intro p hpp
            simp only [List.mem_append] at hpp
            rcases hpp with a | a
            · exact hi.tin p (by simp [a])
            · exact hp p a
          · intro i k hk
            rw [lookup_cons] at hk
            split at hk
            · rename_i e
              subst e
              injection hk with hk
              subst hk
              exact ⟨t0, by omega, by omega, by unfold h1At; omega, fun p hpp => .inr (by simp only [List.mem_append]; exact .inr hpp)⟩
            · obtain ⟨a, b, c, d, f⟩ := hi.done i k hk
              refine ⟨a, b, c, d, fun p hpp => ?_⟩
              rcases f p hpp with g | g
              · left; rw [lookup_cons, if_neg (by rintro e; rw [e, hl] at g; cases g)]; exact g
              · simp only [List.mem_cons] at g
                rcases g with rfl | g
                · left; rw [lookup_cons, if_pos rfl]
                · right; simp only [List.mem_append]; exact .inl g
          · simp only [List.length_cons]; omega) (by simp only [List.length_append]; omega) (by simp only [List.length_append]; omega)
        refine ⟨r, hr, r1, fun H hH hS hT => r2 H hH ?_ ?_⟩
        · intro i k hk
          rw [lookup_cons] at hk
          split at hk
          · rename_i e
            subst e
            injection hk with hk
            subst hk
            exact hT (i, h) (by simp)
          · exact hS i k hk
        · intro p hpp
          simp only [List.mem_append] at hpp
          rcases hpp with a | a
          · exact hT p (by simp [a])
          · exact (hH.s at_ h (hT (at_, h) (by simp))).2.2.2.2 p a
theorem ghL_any (code : List S51) (hL : code.length ≤ 20000) (hf : ∀ i : Int, 0 ≤ i → i < code.length → FineIns code.length (rd_T51 code i)) :
    ∃ r, ghL code (3 * code.length + 5) [] [(0, 0)] = some r ∧ (r = true ↔ ∃ H, Cons code H) := by
  have hl : left code [] = code.length := by unfold left; simp
  obtain ⟨r, hr, r1, r2⟩ := gh_main code hL hf (3 * code.length + 5) [] [(0, 0)] ⟨.inr (by simp), fun p hp => by simp at hp; subst hp; simp, fun i h e => by simp at e, by rw [hl]; simp⟩ (by rw [hl]; simp) (by rw [hl]; simp; omega)
  exact ⟨r, hr, r1, fun ⟨H, hH⟩ => r2 H hH (fun i h e => by simp at e) (fun p hp => by simp at hp; subst hp; exact hH.z)⟩
theorem heights_same (code : List S51) (hL : code.length ≤ 20000) (h1 : 0 < code.length) (hf : ∀ i : Int, 0 ≤ i → i < code.length → FineIns code.length (rd_T51 code i)) :
    ∃ r, ghL code (3 * code.length + 5) [] [(0, 0)] = some r ∧ shStart code (3 * code.length + 5) = some r := by
  obtain ⟨r, hr, h⟩ := ghL_any code hL hf
  obtain ⟨s, hs, k⟩ := shStart_any code hL h1 hf
  refine ⟨r, hr, ?_⟩
  rw [hs]
  have : r = s := by rw [Bool.eq_iff_iff, h, k]
  rw [this]
theorem boundV_le (what : Int) {nc np : Nat} {s : Int} {n2 n3 : Nat} (h0 : nc ≤ 20000) (h1 : np ≤ 500) (h2 : 0 ≤ s) (h3 : s ≤ 200) (h4 : n2 ≤ 100) (h5 : n3 ≤ 20000) : boundV what nc np s n2 n3 ≤ 20000 := by
  unfold boundV
  have hw : wrap64 (s - 2) = s - 2 := by unfold wrap64; omega
  rw [hw]
  repeat' split
  all_goals omega
theorem rows_t : ∀ op, op < 28 → (18 ≤ op ∧ op ≤ 21 → rowA op = 116) ∧ (26 ≤ op ∧ op ≤ 27 → rowB op = 116) := by decide
theorem fine_of_good {x : S51} {nc : Nat} {ps : List S45} {s : Int} {n2 n3 : Nat} (h : goodInsB x.f0 x.f1 x.f2 nc ps s n2 n3 = true) (h0 : nc ≤ 20000) (h1 : ps.length ≤ 500) (h2 : 0 ≤ s) (h3 : s ≤ 200) (h4 : n2 ≤ 100) (h5 : n3 ≤ 20000) : FineIns n3 x := by
  unfold goodInsB at h
  split at h
  · cases h
  rename_i hop
  split at h
  · cases h
  rename_i hb
  unfold insBad at hb
  simp at hb
  obtain ⟨b1, b2, b3, b4⟩ := hb
  have hA := boundV_le (rowA x.f0.toNat) h0 h1 h2 h3 h4 h5
  have hB := boundV_le (rowB x.f0.toNat) h0 h1 h2 h3 h4 h5
  have ht := rows_t x.f0.toNat (by omega)
  refine ⟨by omega, by omega, b1, by omega, b3, by omega, fun hh => ?_, fun hh => ?_⟩
  · have := ht.1 (by omega)
    rw [this] at b2
    simpa [boundV] using b2
  · have := ht.2 (by omega)
    rw [this] at b4
    simpa [boundV] using b4
theorem sumCode_mem {ps : List S45} {f : S45} (h : f ∈ ps) : f.f3.length ≤ sumCode ps := by
  induction ps with
  | nil => simp at h
  | cons g gs ih =>
    simp only [sumCode]
    rcases List.mem_cons.1 h with rfl | h
    · omega
    · have := ih h; omega
theorem sumCode_take {ps : List S45} {i : Nat} (h : i < ps.length) : sumCode (ps.take (i + 1)) = sumCode (ps.take i) + ps[i].f3.length := by
  have : ∀ (l : List S45) (f : S45), sumCode (l ++ [f]) = sumCode l + f.f3.length := by
    intro l f
    induction l with
    | nil => simp [sumCode]
    | cons g gs ih => simp only [List.cons_append, sumCode, ih]; omega
  rw [List.take_succ_eq_append_getElem h, this]
theorem sumCode_le (ps : List S45) (i : Nat) : sumCode (ps.take i) ≤ sumCode ps := by
  induction ps generalizing i with
  | nil => simp [sumCode]
  | cons g gs ih =>
    cases i with
    | zero => simp [sumCode]
    | succ i => simp only [List.take_succ_cons, sumCode]; have := ih i; omega
theorem protosBad_mem : ∀ {fs : List S45} {i : Nat}, protosBad i fs = false → ∀ f ∈ fs, protoBad f = false
  | [], _, _, f, hf => by simp at hf
  | g :: gs, i, h, f, hf => by
    unfold protosBad at h
    rw [Bool.or_eq_false_iff, Bool.or_eq_false_iff] at h
    rcases List.mem_cons.1 hf with rfl | hf
    · exact h.1.1
    · exact protosBad_mem h.2 f hf
theorem heights_ev (f : S45) (z : Bool) (h : f.f3.length ≤ 20000) (hz : shStart f.f3 (3 * f.f3.length + 5) = some z) : spec_l4heights.f f.f0 f.f1 f.f2 f.f3 = some z := by
  unfold spec_l4heights.f
  rw [if_pos (by omega), hz]
theorem code_ev (cs : List S69) (ps : List S45) (f : S45) (i : Nat) (r : Bool) (hps : ∀ x ∈ ps, x.f2.length ≤ 1048576) (hl : f.f3.length ≤ 20000)
    (he : codeOK cs.length ps f f.f3 = true → Ev (fun k => (spec_l4heights.f f.f0 f.f1 f.f2 f.f3).bind fun t => if t = true then spec_Check.l3 k (wrap64 ((i : Int) + 1)) cs ps else some false) r) :
    Ev (fun k => spec_Check.l4 k (i : Int) 0 cs ps f.f0 f.f1 f.f2 f.f3) (if codeOK cs.length ps f f.f3 = true then r else false) := by
  have key : ∀ m j, f.f3.length - j = m → j ≤ f.f3.length → codeOK cs.length ps f (f.f3.take j) = true → Ev (fun k => spec_Check.l4 k (i : Int) (j : Int) cs ps f.f0 f.f1 f.f2 f.f3) (if codeOK cs.length ps f (f.f3.drop j) = true then r else false) := by
    intro m
    induction m with
    | zero =>
      intro j hm hj hk
      obtain rfl : j = f.f3.length := by omega
      rw [List.take_length] at hk
      have hd : codeOK cs.length ps f (f.f3.drop f.f3.length) = true := by simp [codeOK]
      rw [if_pos hd]
      refine Ev.step (fun k => ?_) (he hk)
      simp only [spec_Check.l4]
      rw [if_neg (by omega)]
    | succ m ih =>
      intro j hm hj hk
      have hlt : j < f.f3.length := by omega
      have hd : f.f3.drop j = f.f3[j] :: f.f3.drop (j + 1) := List.drop_eq_getElem_cons hlt
      have hr : rd_T51 f.f3 (j : Int) = f.f3[j] := getD_nat _ _ _ hlt
      have e1 := insOK_ev cs ps f.f0 f.f1 f.f2 f.f3 f.f3[j].f0 f.f3[j].f1 f.f3[j].f2 hps
      rw [hd]
      refine Ev.step (f := fun k => (spec_l4insOK.f k cs ps f.f0 f.f1 f.f2 f.f3 f.f3[j].f0 f.f3[j].f1 f.f3[j].f2).bind fun t => if t = true then spec_Check.l4 k (i : Int) ((j + 1 : Nat) : Int) cs ps f.f0 f.f1 f.f2 f.f3 else some false) (fun k => ?_) ?_
      · simp only [spec_Check.l4]
        rw [if_pos (by omega), if_pos (by omega), hr, wrapN hlt (by omega)]
      · refine Ev.bind (f := fun k t => if t = true then spec_Check.l4 k (i : Int) ((j + 1 : Nat) : Int) cs ps f.f0 f.f1 f.f2 f.f3 else some false) e1 ?_
        cases hg : goodInsB f.f3[j].f0 f.f3[j].f1 f.f3[j].f2 cs.length ps f.f1 f.f2.length f.f3.length with
        | false =>
          have : codeOK cs.length ps f (f.f3[j] :: f.f3.drop (j + 1)) = false := by unfold codeOK; rw [List.all_cons, hg]; rfl
          rw [this]
          exact Ev.now _
        | true =>
          have : codeOK cs.length ps f (f.f3[j] :: f.f3.drop (j + 1)) = codeOK cs.length ps f (f.f3.drop (j + 1)) := by unfold codeOK; rw [List.all_cons, hg, Bool.true_and]
          rw [this]
          refine Ev.congr (fun k => if_pos rfl) (ih (j + 1) (by omega) (by omega) ?_)
          rw [List.take_succ_eq_append_getElem hlt]
          unfold codeOK at hk ⊢
          rw [List.all_append, hk]
          simp [hg]
  have := key f.f3.length 0 (by omega) (by omega) (by simp [codeOK])
  simpa using this
theorem codes_ev (cs : List S69) (ps : List S45) (hc : cs.length ≤ 20000) (hp : ps.length ≤ 500) (hps : ∀ x ∈ ps, x.f2.length ≤ 1048576) (hbad : ∀ f ∈ ps, protoBad f = false) (hsum : sumCode ps ≤ 20000) :
    ∃ r, codesOK cs.length ps ps = some r ∧ Ev (fun k => spec_Check.l3 k 0 cs ps) r := by
  have key : ∀ m i, ps.length - i = m → i ≤ ps.length → ∃ r, codesOK cs.length ps (ps.drop i) = some r ∧ Ev (fun k => spec_Check.l3 k (i : Int) cs ps) r := by
    intro m
    induction m with
    | zero =>
      intro i hm hi
      have : ps.drop i = [] := by simp; omega
      rw [this]
      refine ⟨true, rfl, Ev.step (f := fun _ => some true) (fun k => ?_) (Ev.now _)⟩
      simp only [spec_Check.l3]
      rw [if_neg (by omega)]
    | succ m ih =>
      intro i hm hi
      have hlt : i < ps.length := by omega
      have hd : ps.drop i = ps[i] :: ps.drop (i + 1) := List.drop_eq_getElem_cons hlt
      have hr : rd_T45 ps (i : Int) = ps[i] := getD_nat _ _ _ hlt
      obtain ⟨r0, hr0, e0⟩ := ih (i + 1) (by omega) (by omega)
      have hb := hbad _ (List.getElem_mem hlt)
      have hsm := sumCode_mem (List.getElem_mem hlt)
      have hl : ps[i].f3.length ≤ 20000 := by omega
      unfold protoBad at hb
      simp at hb
      obtain ⟨_, b0, b1, b2, b3, b4⟩ := hb
      have hpos : 0 < ps[i].f3.length := by rcases hcl : ps[i].f3 with _ | ⟨x, xs⟩; · exact absurd hcl b4
                                            · simp
      have step : ∀ r, (codeOK cs.length ps ps[i] ps[i].f3 = true → Ev (fun k => (spec_l4heights.f ps[i].f0 ps[i].f1 ps[i].f2 ps[i].f3).bind fun t => if t = true then spec_Check.l3 k (wrap64 ((i : Int) + 1)) cs ps else some false) r) → Ev (fun k => spec_Check.l3 k (i : Int) cs ps) (if codeOK cs.length ps ps[i] ps[i].f3 = true then r else false) := by
        intro r he
        refine Ev.step (fun k => ?_) (code_ev cs ps ps[i] i r hps hl he)
        simp only [spec_Check.l3]
        rw [if_pos (by omega), if_pos (by omega), hr]
      rw [hd]
      unfold codesOK
      by_cases hk : codeOK cs.length ps ps[i] ps[i].f3 = true
      · rw [if_pos hk]
        have hfine : ∀ j : Int, 0 ≤ j → j < ps[i].f3.length → FineIns ps[i].f3.length (rd_T51 ps[i].f3 j) := by
          intro j h0 h1
          have hj : j.toNat < ps[i].f3.length := by omega
          have e : rd_T51 ps[i].f3 j = ps[i].f3[j.toNat] := by
            have := getD_nat ps[i].f3 z51 j.toNat hj
            rw [Int.toNat_of_nonneg h0] at this
            exact this
          rw [e]
          unfold codeOK at hk
          rw [List.all_eq_true] at hk
          exact fine_of_good (hk _ (List.getElem_mem hj)) hc hp (by omega) (by omega) (by omega) hl
        obtain ⟨z, hz1, hz2⟩ := heights_same ps[i].f3 hl hpos hfine
        rw [hz1]
        have hh := heights_ev ps[i] z hl hz2
        have st := fun r => step r
        simp only [hk, if_true, hh, Option.bind_some, forall_const] at st
        cases z with
        | false => exact ⟨false, rfl, st false (Ev.now _)⟩
        | true =>
          refine ⟨r0, hr0, st r0 (Ev.congr (fun k => ?_) e0)⟩
          rw [if_pos rfl, wrapN hlt (by omega)]
      · rw [if_neg hk]
        have := step false (fun h => absurd h hk)
        rw [if_neg hk] at this
        exact ⟨false, rfl, this⟩
  have := key ps.length 0 (by omega) (by omega)
  simpa using this
theorem caps2_ev (cs : List S69) (ps : List S45) (t i : Int) (p s : Int) (us : List S48) (code : List S51) (r : Bool) (hl : us.length ≤ 1048576) (he : (us.any fun c => capBad c.f1) = false → Ev (fun k => spec_Check.l1 k t (wrap64 (i + 1)) cs ps) r) :
    Ev (fun k => spec_Check.l2 k t i 0 cs ps p s us code) (if (us.any fun c => capBad c.f1) = true then false else r) := by
  have key : ∀ m j, us.length - j = m → j ≤ us.length → (us.any fun c => capBad c.f1) = ((us.drop j).any fun c => capBad c.f1) → Ev (fun k => spec_Check.l2 k t i (j : Int) cs ps p s us code) (if ((us.drop j).any fun c => capBad c.f1) = true then false else r) := by
    intro m
    induction m with
    | zero =>
      intro j hm hj hk
      have : us.drop j = [] := by simp; omega
      rw [this] at hk ⊢
      refine Ev.step (fun k => ?_) (he (hk.trans rfl))
      simp only [spec_Check.l2]
      rw [if_neg (by omega)]
    | succ m ih =>
      intro j hm hj hk
      have hlt : j < us.length := by omega
      have hd : us.drop j = us[j] :: us.drop (j + 1) := List.drop_eq_getElem_cons hlt
      have hr : rd_T48 us (j : Int) = us[j] := getD_nat _ _ _ hlt
      rw [hd, List.any_cons] at hk
      rw [hd, List.any_cons]
      by_cases h0 : us[j].f1 < 0
      · have hb : capBad us[j].f1 = true := by unfold capBad; rw [decide_eq_true h0]; rfl
        rw [hb, Bool.true_or, if_pos rfl]
        refine Ev.step (f := fun _ => some false) (fun k => ?_) (Ev.now _)
        simp only [spec_Check.l2]
        rw [if_pos (by omega), if_pos (by omega), hr, if_pos h0]
      · by_cases h1 : 200 ≤ us[j].f1
        · have hb : capBad us[j].f1 = true := by unfold capBad; rw [decide_eq_true h1, Bool.or_true]
          rw [hb, Bool.true_or, if_pos rfl]
          refine Ev.step (f := fun _ => some false) (fun k => ?_) (Ev.now _)
          simp only [spec_Check.l2]
          rw [if_pos (by omega), if_pos (by omega), hr, if_neg h0, if_pos h1]
        · have hb : capBad us[j].f1 = false := by unfold capBad; rw [decide_eq_false h0, decide_eq_false h1]; rfl
          rw [hb, Bool.false_or] at hk ⊢
          refine Ev.step (fun k => ?_) (ih (j + 1) (by omega) (by omega) hk)
          simp only [spec_Check.l2]
          rw [if_pos (by omega), if_pos (by omega), hr, if_neg h0, if_neg h1, wrapN hlt (by omega)]
  have := key us.length 0 (by omega) (by omega) (by simp)
  simpa using this
theorem proto_ev (cs : List S69) (ps : List S45) (t : Int) (i : Nat) (f : S45) (r : Bool) (hl : f.f2.length ≤ 1048576) (he : (protoBad f || headBad i f) = false → Ev (fun k => spec_Check.l1 k t (wrap64 ((i : Int) + 1)) cs ps) r) (b : Bool)
    (hb : b = (decide (f.f0 < 0) || (decide (f.f1 < f.f0) || (decide (200 < f.f1) || (decide (100 < f.f2.length) || decide (f.f3.length = 0)))))) :
    Ev (fun k => spec_Check.j3 k t (i : Int) b cs ps f.f0 f.f1 f.f2 f.f3) (if (protoBad f || headBad i f) = true then false else r) := by
  have hpb : protoBad f = ((f.f2.any fun c => capBad c.f1) || b) := by rw [hb]; rfl
  cases b with
  | true =>
    rw [hpb, Bool.or_true, Bool.true_or, if_pos rfl]
    refine Ev.step (f := fun _ => some false) (fun k => ?_) (Ev.now _)
    simp only [spec_Check.j3]; rfl
  | false =>
    rw [hpb, Bool.or_false]
    have go : ∀ h : Bool, h = headBad i f → Ev (fun k => spec_Check.j4 k t (i : Int) h cs ps f.f0 f.f1 f.f2 f.f3) (if ((f.f2.any fun c => capBad c.f1) || headBad i f) = true then false else r) := by
      intro h hh
      rw [← hh]
      cases h with
      | true =>
        rw [Bool.or_true, if_pos rfl]
        refine Ev.step (f := fun _ => some false) (fun k => ?_) (Ev.now _)
        simp only [spec_Check.j4]; rfl
      | false =>
        rw [Bool.or_false]
        refine Ev.step (fun k => ?_) (caps2_ev cs ps t i f.f0 f.f1 f.f2 f.f3 r hl (fun h => he (by rw [hpb, ← hh, h]; rfl)))
        simp only [spec_Check.j4]; rfl
    have hb0 : ¬ f.f0 < 0 := by
      intro h0; rw [decide_eq_true h0] at hb; simp at hb
    by_cases hi : i = 0
    · subst hi
      by_cases h0 : f.f0 = 0
      · refine Ev.step (fun k => ?_) (go ((f.f2.length : Int) != 0) ?_)
        · simp only [spec_Check.j3]
          rw [if_neg (by simp), if_pos (show ((0 : Nat) : Int) = 0 from rfl), if_pos h0]
        · unfold headBad
          rw [h0]; cases f.f2 <;> simp <;> omega
      · refine Ev.step (fun k => ?_) (go true ?_)
        · simp only [spec_Check.j3]
          rw [if_neg (by simp), if_pos (show ((0 : Nat) : Int) = 0 from rfl), if_neg h0]
        · unfold headBad
          have : 0 < f.f0 := by omega
          rw [decide_eq_true this]; rfl
    · refine Ev.step (fun k => ?_) (go false ?_)
      · simp only [spec_Check.j3]
        rw [if_neg (by simp), if_neg (by omega)]
      · unfold headBad; rw [decide_eq_false hi]; rfl
theorem protos_ev (cs : List S69) (ps : List S45) (r : Bool) (hp : ps.length ≤ 1048576) (hps : ∀ x ∈ ps, x.f2.length ≤ 1048576 ∧ x.f3.length ≤ 1048576) (hsum : sumCode ps ≤ 1048576)
    (he : protosBad 0 ps = false → Ev (fun k => if (sumCode ps : Int) > 20000 then some false else spec_Check.l3 k 0 cs ps) r) :
    Ev (fun k => spec_Check.l1 k 0 0 cs ps) (if protosBad 0 ps = true then false else r) := by
  have key : ∀ m i, ps.length - i = m → i ≤ ps.length → (protosBad 0 ps = protosBad i (ps.drop i)) → Ev (fun k => spec_Check.l1 k ((sumCode (ps.take i) : Nat) : Int) (i : Int) cs ps) (if protosBad i (ps.drop i) = true then false else r) := by
    intro m
    induction m with
    | zero =>
      intro i hm hi hk
      have : ps.drop i = [] := by simp; omega
      rw [this] at hk ⊢
      have ht : ps.take i = ps := List.take_of_length_le (by omega)
      have := he (hk.trans rfl)
      rw [ht]
      refine Ev.step (fun k => ?_) this
      simp only [spec_Check.l1]
      rw [if_neg (by omega)]
    | succ m ih =>
      intro i hm hi hk
      have hlt : i < ps.length := by omega
      have hd : ps.drop i = ps[i] :: ps.drop (i + 1) := List.drop_eq_getElem_cons hlt
      have hr : rd_T45 ps (i : Int) = ps[i] := getD_nat _ _ _ hlt
      have hle := sumCode_le ps (i + 1)
      have hst := sumCode_take hlt
      have hw : wrap64 (((sumCode (ps.take i) : Nat) : Int) + (ps[i].f3.length : Int)) = ((sumCode (ps.take (i + 1)) : Nat) : Int) := by rw [hst]; unfold wrap64; omega
      rw [hd]
      have hpb : protosBad i (ps[i] :: ps.drop (i + 1)) = ((protoBad ps[i] || headBad i ps[i]) || protosBad (i + 1) (ps.drop (i + 1))) := rfl
      have hr' : (if protosBad i (ps[i] :: ps.drop (i + 1)) = true then false else r) = (if (protoBad ps[i] || headBad i ps[i]) = true then false else (if protosBad (i + 1) (ps.drop (i + 1)) = true then false else r)) := by
        rw [hpb]
        cases (protoBad ps[i] || headBad i ps[i]) <;> cases protosBad (i + 1) (ps.drop (i + 1)) <;> rfl
      rw [hr']
      have pe := proto_ev cs ps ((sumCode (ps.take (i + 1)) : Nat) : Int) i ps[i] (if protosBad (i + 1) (ps.drop (i + 1)) = true then false else r) (hps _ (List.getElem_mem hlt)).1 (fun h => by
        rw [wrapN hlt (by omega)]
        exact ih (i + 1) (by omega) (by omega) (by rw [hk, hd, hpb, h, Bool.false_or])) _ rfl
      have un : ∀ k, spec_Check.l1 (k + 1) ((sumCode (ps.take i) : Nat) : Int) (i : Int) cs ps = spec_Check.j3 k ((sumCode (ps.take (i + 1)) : Nat) : Int) (i : Int) (decide (ps[i].f0 < 0) || (decide (ps[i].f1 < ps[i].f0) || (decide (200 < ps[i].f1) || (decide (100 < ps[i].f2.length) || decide (ps[i].f3.length = 0))))) cs ps ps[i].f0 ps[i].f1 ps[i].f2 ps[i].f3 := by
        intro k
        simp only [spec_Check.l1]
        rw [if_pos (by omega), if_pos (by omega), hr, hw]
        by_cases a0 : ps[i].f0 < 0
        · rw [if_pos a0, decide_eq_true a0, Bool.true_or]
        rw [if_neg a0, decide_eq_false a0, Bool.false_or]
        by_cases a1 : ps[i].f1 < ps[i].f0
        · rw [if_pos a1, decide_eq_true a1, Bool.true_or]
        rw [if_neg a1, decide_eq_false a1, Bool.false_or]
        by_cases a2 : 200 < ps[i].f1
        · rw [if_pos a2, decide_eq_true a2, Bool.true_or]
        rw [if_neg a2, decide_eq_false a2, Bool.false_or]
        by_cases a3 : 100 < ps[i].f2.length
        · rw [if_pos (by omega), decide_eq_true a3, Bool.true_or]
        rw [if_neg (by omega), decide_eq_false a3, Bool.false_or]
        congr 1
        rw [Bool.eq_iff_iff]; simp
      exact Ev.step un pe
  have := key ps.length 0 (by omega) (by omega) (by simp)
  simpa [sumCode] using this
theorem consts_ev (cs : List S69) (ps : List S45) (r : Bool) (hc : cs.length ≤ 1048576) (he : Ev (fun k => spec_Check.l1 k 0 0 cs ps) r) :
    Ev (fun k => spec_Check.l0 k 0 cs ps) (if cs.any constBad = true then false else r) := by
  have key : ∀ m i, cs.length - i = m → i ≤ cs.length → Ev (fun k => spec_Check.l0 k (i : Int) cs ps) (if (cs.drop i).any constBad = true then false else r) := by
    intro m
    induction m with
    | zero =>
      intro i hm hi
      have : cs.drop i = [] := by simp; omega
      rw [this]
      refine Ev.step (fun k => ?_) he
      simp only [spec_Check.l0]
      rw [if_neg (by omega)]
    | succ m ih =>
      intro i hm hi
      have hlt : i < cs.length := by omega
      have hd : cs.drop i = cs[i] :: cs.drop (i + 1) := List.drop_eq_getElem_cons hlt
      have hr : rd_T69 cs (i : Int) = cs[i] := getD_nat _ _ _ hlt
      have := ih (i + 1) (by omega) (by omega)
      rw [hd, List.any_cons]
      have un : ∀ k, spec_Check.l0 (k + 1) (i : Int) cs ps = if constBad cs[i] = true then some false else spec_Check.l0 k ((i + 1 : Nat) : Int) cs ps := by
        intro k
        simp only [spec_Check.l0]
        rw [if_pos (by omega), if_pos (by omega), hr, wrapN hlt (by omega)]
        unfold constBad
        by_cases a0 : 5000 < cs[i].f2.length
        · rw [if_pos (by omega), decide_eq_true a0, Bool.true_or, if_pos rfl]
        rw [if_neg (by omega), decide_eq_false a0, Bool.false_or]
        cases cs[i].f0 with
        | true =>
          by_cases a1 : cs[i].f1 = 0
          · rw [if_pos rfl, if_pos a1, if_pos rfl, a1]; rfl
          · rw [if_pos rfl, if_neg a1, beq_false_of_ne a1]; rfl
        | false =>
          by_cases a1 : cs[i].f2.length = 0
          · rw [if_neg (by simp), if_neg (by simp), if_pos (by omega), a1]; rfl
          · rw [if_neg (by simp), if_neg (by simp), if_neg (by omega), decide_eq_true (show 0 < cs[i].f2.length by omega)]; rfl
      refine Ev.step un ?_
      cases hb : constBad cs[i] with
      | true => exact Ev.now _
      | false => exact this
  have := key cs.length 0 (by omega) (by omega)
  simpa using this
theorem check_ev (cs : List S69) (ps : List S45) (h : FineP cs ps) (hsum : sumCode ps ≤ 1048576) : ∃ r, impl_Check.f cs ps = some r ∧ Ev (fun k => spec_Check.f k cs ps) r := by
  obtain ⟨h0, h1, h2, h3⟩ := h
  have hbig : bigCode ps = false := by
    unfold bigCode
    rw [List.any_eq_false]
    intro x hx
    have := h3 x hx
    simp; omega
  unfold impl_Check.f
  rw [if_neg (by rw [hbig]; simp)]
  have no : ∀ k, spec_Check.j0 (k + 1) true cs ps = some false := fun k => by simp only [spec_Check.j0]; rfl
  by_cases hhead : ps.length < 1 ∨ 500 < ps.length ∨ 20000 < cs.length
  · rw [if_pos hhead]
    refine ⟨false, rfl, Ev.congr (f := fun k => spec_Check.j0 k true cs ps) (fun k => ?_) (Ev.step (f := fun _ => some false) no (Ev.now _))⟩
    unfold spec_Check.f
    by_cases a : (ps.length : Int) < 1
    · rw [if_pos a]
    rw [if_neg a]
    by_cases b : (ps.length : Int) > 500
    · rw [if_pos b]
    rw [if_neg b, decide_eq_true (by omega)]
  rw [if_neg hhead]
  have start : ∀ r, Ev (fun k => spec_Check.l0 k 0 cs ps) r → Ev (fun k => spec_Check.f k cs ps) r := by
    intro r e
    refine Ev.congr (f := fun k => spec_Check.j0 k false cs ps) (fun k => ?_) (Ev.step (fun k => ?_) e)
    · unfold spec_Check.f
      rw [if_neg (by omega), if_neg (by omega), decide_eq_false (by omega)]
    · simp only [spec_Check.j0]; rfl
  have fin : ∀ r, (protosBad 0 ps = false → Ev (fun k => if (sumCode ps : Int) > 20000 then some false else spec_Check.l3 k 0 cs ps) r) → Ev (fun k => spec_Check.f k cs ps) (if cs.any constBad = true then false else if protosBad 0 ps = true then false else r) :=
    fun r e => start _ (consts_ev cs ps _ h0 (protos_ev cs ps r h1 h3 hsum e))
  by_cases hcb : cs.any constBad = true
  · rw [if_pos hcb]
    by_cases hpb : protosBad 0 ps = true
    · have := fin false (fun e => by rw [hpb] at e; cases e)
      rw [if_pos hcb] at this
      exact ⟨false, rfl, this⟩
    · refine ⟨false, rfl, start _ ?_⟩
      have e1 : ∃ r, Ev (fun k => spec_Check.l1 k 0 0 cs ps) r := by
        by_cases hs : 20000 < sumCode ps
        · exact ⟨_, protos_ev cs ps false h1 h3 hsum (fun _ => Ev.congr (fun k => if_pos (by omega)) (Ev.now _))⟩
        · obtain ⟨r, hr, er⟩ := codes_ev cs ps (by omega) (by omega) (fun x hx => (h3 x hx).1) (protosBad_mem (by simpa using hpb)) (by omega)
          exact ⟨_, protos_ev cs ps r h1 h3 hsum (fun _ => Ev.congr (fun k => if_neg (by omega)) er)⟩
      obtain ⟨r, e1⟩ := e1
      have := consts_ev cs ps r h0 e1
      rw [if_pos hcb] at this
      exact this
  rw [if_neg hcb]
  by_cases hpb : protosBad 0 ps = true
  · rw [if_pos hpb]
    have := fin false (fun e => by rw [hpb] at e; cases e)
    rw [if_neg hcb, if_pos hpb] at this
    exact ⟨false, rfl, this⟩
  rw [if_neg hpb]
  by_cases hs : 20000 < sumCode ps
  · rw [if_pos hs]
    have := fin false (fun _ => Ev.congr (fun k => if_pos (by omega)) (Ev.now _))
    rw [if_neg hcb, if_neg hpb] at this
    exact ⟨false, rfl, this⟩
  rw [if_neg hs]
  obtain ⟨r, hr, er⟩ := codes_ev cs ps (by omega) (by omega) (fun x hx => (h3 x hx).1) (protosBad_mem (by simpa using hpb)) (by omega)
  have := fin r (fun _ => Ev.congr (fun k => if_neg (by omega)) er)
  rw [if_neg hcb, if_neg hpb] at this
  exact ⟨r, hr, this⟩
theorem sumCode_size (cs : List S77) (ps : List S82) : sumCode (ps.map cP) ≤ sizeP cs ps := by
  have : sumCode (ps.map cP) ≤ (ps.map sP).sum := by
    induction ps with
    | nil => simp [sumCode]
    | cons p ps ih => simp only [List.map_cons, sumCode, List.sum_cons, cP, sP, List.length_map] at *; omega
  unfold sizeP
  omega
end Go.Proofs.YtmmpiojekgfdjaaDoor.C
