/- impl.goodFields. -/
import Derived.Test.YtogffkekgfkhkaaZvV1
import Derived.Test.YtogffkekgfkhkaaZvCx7
import Derived.Test.YtogffkekgfkhkaaZvShelf
import Derived.Test.YtogffkekgfkhkaaZvK
namespace Go.Proofs.Ytogffkekgfkhkaa.C
open Go.RowKit Go.Proofs.YtogffkekgfkhkaaW.PrintWords Go.Proofs.YtogffkekgfkhkaaW.PrintLast Go.Proofs.YtogffkekgfkhkaaW.PrintMore
set_option linter.unusedVariables false
set_option linter.unusedSimpArgs false
def MaxLenCell (w : World) : Prop := ∃ m, w.cell? ⟨0, 0, none⟩ = some (.int .i64 m)
theorem MaxLenCell.pos {w : World} (h : MaxLenCell w) : 0 < w.heap.size := by
  obtain ⟨m, hm⟩ := h
  exact Nat.pos_of_ne_zero fun h0 => by simp [World.cell?, h0] at hm
theorem MaxLenCell.below {w w1 : World} {n : Nat} (h : MaxLenCell w) (hb : Below n w w1) (hn : 0 < n) : MaxLenCell w1 := by
  obtain ⟨m, hm⟩ := h
  exact ⟨m, (hb.cell (p := ⟨0, 0, none⟩) hn).trans hm⟩
def kwText : List UInt8 := [32, 97, 110, 100, 32, 98, 114, 101, 97, 107, 32, 100, 111, 32, 101, 108, 115, 101, 32, 101, 108, 115, 101, 105, 102, 32, 101, 110, 100, 32, 102, 97, 108, 115, 101, 32, 102, 111, 114, 32, 102, 117, 110, 99, 116, 105, 111, 110, 32, 105, 102, 32, 108, 111, 99, 97, 108, 32, 110, 105, 108, 32, 110, 111, 116, 32, 111, 114, 32, 114, 101, 112, 101, 97, 116, 32, 114, 101, 116, 117, 114, 110, 32, 116, 104, 101, 110, 32, 116, 114, 117, 101, 32, 117, 110, 116, 105, 108, 32, 119, 104, 105, 108, 101, 32]
def isKw (s : ByteArray) : Bool := Lib.contains kwText (32 :: (s.data.toList ++ [32]))
set_option maxHeartbeats 8000000 in
set_option maxRecDepth 100000 in
theorem impl_isKeyword.calls (s : ByteArray) (w : World) (hs : s.size ≤ 6000) (hm : MaxLenCell w) :
    Calls Try.prog 49 #[.string s] w fun e w' => e = .returned (.bool (isKw s)) ∧ Below w.heap.size w w' := by
  obtain ⟨m, hm⟩ := hm
  have e1 : ¬ (9223372036854775807 < 1 + s.size) := by omega
  have e2 : ¬ (9223372036854775807 < 1 + s.size + 1) := by omega
  go_enter Try.func49, Try.ntmps49
  go_wp2_with (go_at_call 56; refine (Try.strings_Contains _ _ m _ ?_ ?_).mono ?_; (case _ => decide); (case _ => exact hm); rintro e w' ⟨rfl, rfl⟩)
  go_ret
  exact ⟨rfl, Below.refl _ _⟩
def letterB (c : Int) : Bool := (impl_isLetter.f c).getD false
def digitB (c : Int) : Bool := (impl_isDigit.f c).getD false
theorem letterB_eq (c : Int) : impl_isLetter.f c = some (letterB c) := by
  unfold letterB impl_isLetter.f
  repeat' split
  all_goals rfl
theorem digitB_eq (c : Int) : impl_isDigit.f c = some (digitB c) := by
  unfold digitB impl_isDigit.f
  repeat' split
  all_goals rfl
theorem strOfNums_size (xs : List Int) : (strOfNums xs).size = xs.length := by simp [strOfNums, ByteArray.size]
theorem letter_calls (c : Int) (w : World) : Calls Try.prog 48 #[.int .u8 c] w fun e w' => e = .returned (.bool (letterB c)) ∧ ∃ n, w' = w.drewN n :=
  (impl_isLetter.calls c _ w (letterB_eq c)).mono fun e w' ⟨h1, h2⟩ => ⟨h1, by obtain ⟨n, hn⟩ := h2; exact ⟨n, hn⟩⟩
theorem digit_calls (c : Int) (w : World) : Calls Try.prog 50 #[.int .u8 c] w fun e w' => e = .returned (.bool (digitB c)) ∧ ∃ n, w' = w.drewN n :=
  (impl_isDigit.calls c _ w (digitB_eq c)).mono fun e w' ⟨h1, h2⟩ => ⟨h1, by obtain ⟨n, hn⟩ := h2; exact ⟨n, hn⟩⟩
def nameB (l : List Int) : Bool := match l with
  | [] => false
  | c :: _ => decide (l.length ≤ 5000) && letterB c && !isKw (strOfNums l) && l.all fun c => letterB c || digitB c
set_option maxHeartbeats 8000000 in
set_option maxRecDepth 100000 in
theorem isName_calls (A0 : Option Addr) (c0 : Nat) (l : List Int) (w : World) (hr0 : Kd.C (Kd.int .u8) w A0 l.length l) (hm : MaxLenCell w) :
    Calls Try.prog 37 #[.slice A0 l.length c0] w fun e w' => e = .returned (.bool (nameB l)) ∧ Below w.heap.size w w' := by
  cases l with
  | nil =>
    go_enter Try.func37, Try.ntmps37
    go_wp2
    go_ret
    exact ⟨rfl, Below.refl _ _⟩
  | cons x l' =>
    obtain ⟨l, hl⟩ : ∃ l, l = x :: l' := ⟨_, rfl⟩
    have hx : l[0]? = some x := by rw [hl]; rfl
    have hpos : 0 < l.length := by rw [hl]; simp
    have en : nameB (x :: l') = (decide (l.length ≤ 5000) && letterB x && !isKw (strOfNums l) && l.all fun c => letterB c || digitB c) := by rw [hl]; rfl
    rw [en]
    rw [← hl] at hr0 ⊢
    clear en hl
    have HR := Aside0.mk hr0
    have HM := Aside0.mk hm
    have HBN := Aside0.mk hr0.2.1
    have HP := Aside0.mk hpos
    obtain ⟨ad, e, hx0⟩ := Kd.at_int hr0 0 (by omega) (by omega)
    cases e
    rw [show rd l 0 = x by simp [rd, List.getD_eq_getElem?_getD, hx], show ((0 : Int)).toNat = 0 from rfl, Addr.add_zero'] at hx0
    have n0 : (((l.length : Nat) : Int) == 0) = false := beq_eq_false_iff_ne.mpr (by omega)
    have n1 : ((0 : Int) < ((l.length : Nat) : Int)) = True := eq_true (by omega)
    have n2 : (0 < l.length) = True := eq_true hpos
    clear hr0 hm hx
    rcases Nat.lt_or_ge 5000 l.length with h5' | h5
    · have h5 : ¬ l.length ≤ 5000 := by omega
      have d5 : decide (5000 < ((l.length : Nat) : Int)) = true := decide_eq_true (by omega)
      have d6 : decide (5000 < l.length) = true := decide_eq_true (by omega)
      rw [decide_eq_false h5, Bool.false_and, Bool.false_and, Bool.false_and]
      clear h5 h5' hpos
      go_enter Try.func37, Try.ntmps37
      go_wp2
      go_ret
      exact ⟨rfl, Below.refl _ _⟩
    have d5 : decide (5000 < ((l.length : Nat) : Int)) = false := decide_eq_false (by omega)
    have d6 : decide (5000 < l.length) = false := decide_eq_false (by omega)
    rw [decide_eq_true h5, Bool.true_and]
    have H5 := Aside0.mk h5
    have HLT := Aside0.mk (letter_calls x w)
    have hcv := fun nd_ => Kd.C_string (P := Try.prog) (c := c0) Try.underlying30 Try.underlying5 Try.underlying9 (Kd.C_drewN HR.out nd_)
    clear h5 hpos
    cases hb : letterB x with
    | false =>
      rw [Bool.false_and, Bool.false_and]
      have h2 := HLT.out
      rw [hb] at h2
      have HL2 := Aside0.mk h2
      clear h2 HLT hb
      go_enter Try.func37, Try.ntmps37
      go_wp2_with (go_at_call 48; refine HL2.out.mono ?_; rintro e w' ⟨rfl, nd, rfl⟩)
      go_ret
      exact ⟨rfl, below_drewN (Below.refl _ _) _⟩
    | true =>
      rw [Bool.true_and]
      have h2 := HLT.out
      rw [hb] at h2
      have HL2 := Aside0.mk h2
      clear h2 HLT hb
      have HKW : Aside0 (∀ nd, Calls Try.prog 49 #[.string (strOfNums l)] (w.drewN nd) fun e w' => e = .returned (.bool (isKw (strOfNums l))) ∧ Below (w.drewN nd).heap.size (w.drewN nd) w') := ⟨fun nd => impl_isKeyword.calls (strOfNums l) _ (by rw [strOfNums_size]; have := H5.out; omega) (HM.out.below (below_drewN (Below.refl _ _) nd) HM.out.pos)⟩
      cases hk : isKw (strOfNums l) with
      | true =>
        rw [Bool.not_true, Bool.false_and]
        have h3 := HKW.out
        rw [hk] at h3
        have HK2 := Aside0.mk h3
        clear h3 HKW hk
        go_enter Try.func37, Try.ntmps37
        go_wp2_with (first | (go_at_call 48; refine HL2.out.mono ?_; rintro e w' ⟨rfl, nd, rfl⟩) | (go_at_call 49; refine (HK2.out nd).mono ?_; rintro e w2 ⟨rfl, hb2⟩; have HB2 := Aside0.mk (below_step (below_drewN (Below.refl _ _) nd) hb2); clear hb2))
        go_ret
        exact ⟨rfl, HB2.out⟩
      | false =>
        rw [Bool.not_false, Bool.true_and]
        have h3 := HKW.out
        rw [hk] at h3
        have HK2 := Aside0.mk h3
        clear h3 HKW hk
        go_enter Try.func37, Try.ntmps37
        go_wp2_with (first | (go_at_call 48; refine HL2.out.mono ?_; rintro e w' ⟨rfl, nd, rfl⟩) | (go_at_call 49; refine (HK2.out nd).mono ?_; rintro e w2 ⟨rfl, hb2⟩; have HB2 := Aside0.mk (below_step (below_drewN (Below.refl _ _) nd) hb2); clear hb2))
        clear hcv n0 n1 n2 d5 d6 hx0
        go_loopg [27, 4] l.length (fun g v27 v4 wr => ∃ (j : Nat), v27 = .int .i64 (j : Int) ∧ Aside0 (j + g = l.length) ∧ Aside0 (((l.drop j).all fun c => letterB c || digitB c) = l.all fun c => letterB c || digitB c) ∧ Aside0 (Below w.heap.size w wr))
        case atStart => exact ⟨0, rfl, ⟨by omega⟩, ⟨by simp⟩, HB2⟩
        case round =>
          obtain ⟨j, rfl, hj, hi, HB⟩ := hrel
          by_cases hlt : j < l.length
          · obtain ⟨ad1, e, hx1⟩ := Kd.at_int (Kd.C_below HR.out HB.out) (j : Int) (by omega) (by omega)
            cases e
            rw [rd_nat l j hlt, Int.toNat_natCast] at hx1
            obtain ⟨y, hy⟩ : ∃ x, x = l[j] := ⟨_, rfl⟩
            rw [← hy] at hx1
            have HI : Aside0 (((letterB y || digitB y) && (l.drop (j + 1)).all fun c => letterB c || digitB c) = l.all fun c => letterB c || digitB c) := ⟨by have := hi.out; rw [List.drop_eq_getElem_cons hlt, ← hy, List.all_cons] at this; exact this⟩
            obtain ⟨z1, hz1⟩ : ∃ x, x = letterB y := ⟨_, rfl⟩
            obtain ⟨z2, hz2⟩ : ∃ x, x = digitB y := ⟨_, rfl⟩
            rw [← hz1, ← hz2] at HI
            have HC1 : Aside0 (∀ W, Calls Try.prog 48 #[.int .u8 y] W fun e w' => e = .returned (.bool z1) ∧ ∃ n, w' = W.drewN n) := ⟨fun W => by rw [hz1]; exact letter_calls y W⟩
            have HC2 : Aside0 (∀ W, Calls Try.prog 50 #[.int .u8 y] W fun e w' => e = .returned (.bool z2) ∧ ∃ n, w' = W.drewN n) := ⟨fun W => by rw [hz2]; exact digit_calls y W⟩
            have p0 : (0 ≤ (j : Int)) = True := eq_true (by omega)
            have p1 : ((j : Int) < (l.length : Int)) = True := eq_true (by omega)
            have hdl : decide ((j : Int) < (l.length : Int)) = true := decide_eq_true (by omega)
            have hdn : decide (j < l.length) = true := decide_eq_true hlt
            have HL := Aside0.mk hlt
            clear hi hy hz1 hz2 hlt
            cases z1 <;> cases z2 <;>
            · go_wp2_with (first | (go_at_call 48; refine (HC1.out _).mono ?_; rintro e w1 ⟨rfl, nd1, rfl⟩) | (go_at_call 50; refine (HC2.out _).mono ?_; rintro e w1 ⟨rfl, nd2, rfl⟩))
              first
                | (go_ret
                   exact ⟨ret_bool (by rw [← HI.out]; rfl), by first | exact below_drewN HB.out _ | exact below_drewN (below_drewN HB.out _) _⟩)
                | (go_roundg (l.length - (j + 1))
                   case measure => have := hj.out; have := HL.out; omega
                   case rel => exact ⟨j + 1, i64_next HL.out HBN.out, ⟨by have := HL.out; omega⟩, ⟨by have := HI.out; simpa using this⟩, ⟨by first | exact below_drewN HB.out _ | exact below_drewN (below_drewN HB.out _) _⟩⟩)
          · have e0 : (l.drop j) = [] := List.drop_eq_nil_of_le (by omega)
            have HJ : Aside0 (true = l.all fun c => letterB c || digitB c) := ⟨by rw [← hi.out, e0]; rfl⟩
            have hdl : decide ((j : Int) < (l.length : Int)) = false := decide_eq_false (by omega)
            have hdn : decide (j < l.length) = false := decide_eq_false hlt
            clear e0 hi hlt
            go_wp2
            go_ret
            exact ⟨ret_bool HJ.out, HB.out⟩
set_option maxHeartbeats 8000000 in
set_option maxRecDepth 100000 in
theorem goodFields_1 (b : Nat) (h : NV) (w : World) (hm : MaxLenCell w) {v2 v3 : Value} {q : Value} (hb : w.heap[b]? = some (.cells #[.int .i64 h.f0, .int .i64 h.f1, v2, v3, .int .i64 h.f4, q] 70 (0, 0))) (hK : k34.K w h [.int .i64 h.f0, .int .i64 h.f1, v2, v3, .int .i64 h.f4]) (hk : h.f0 = 1) :
    Calls Try.prog 25 #[pv b] w fun e w' => e = .returned (.bool (decide (1 ≤ h.f3.length) && decide (h.f3.length ≤ 50) && h.f3.all nameB && (!(decide (0 < h.f2.length)) && !(decide (5000 < h.f2.length))) && decide (h.f1 = 0))) ∧ Below w.heap.size w w' := by
  obtain ⟨A2, c2, A3, c3, e, l2, g2, l3, g3⟩ := k34_open hK
  simp only [List.cons.injEq, and_true, true_and] at e
  obtain ⟨rfl, rfl⟩ := e
  have q0 : w.cell? ⟨b, 0, none⟩ = some (.int .i64 h.f0) := (blk_cell hb 0).trans rfl
  have q1 : w.cell? ⟨b, 1, none⟩ = some (.int .i64 h.f1) := (blk_cell hb 1).trans rfl
  have q2 : w.cell? ⟨b, 2, none⟩ = some (.slice A2 h.f2.length c2) := (blk_cell hb 2).trans rfl
  have q3 : w.cell? ⟨b, 3, none⟩ = some (.slice A3 h.f3.length c3) := (blk_cell hb 3).trans rfl
  rw [hk] at q0
  have HM := Aside0.mk hm
  have HG := Aside0.mk g3
  obtain ⟨f1, hf1⟩ : ∃ x, x = h.f1 := ⟨_, rfl⟩
  obtain ⟨ns, hns⟩ : ∃ x, x = h.f3 := ⟨_, rfl⟩
  obtain ⟨tl, htl⟩ : ∃ x, x = h.f2.length := ⟨_, rfl⟩
  rw [← hf1] at q1
  rw [← hns] at q3 HG
  rw [← htl] at q2
  (try rw [← hf1])
  rw [← hns, ← htl]
  clear g2 l2 l3 g3 hb hK hm hf1 hns htl hk
  rcases Nat.lt_or_ge ns.length 1 with hL2 | hL
  · have hL : ¬ 1 ≤ ns.length := by omega
    have d1 : decide (((ns.length : Nat) : Int) < 1) = true := decide_eq_true (by omega)
    have HE : Aside0 (false = (decide (1 ≤ ns.length) && decide (ns.length ≤ 50) && ns.all nameB && (!(decide (0 < tl)) && !(decide (5000 < tl))) && decide (f1 = 0))) := ⟨by rw [decide_eq_false hL]; simp⟩
    clear hL hL2
    go_enter Try.func25, Try.ntmps25
    go_wp2
    go_ret
    exact ⟨ret_bool HE.out, Below.refl _ _⟩
  have d1 : decide (((ns.length : Nat) : Int) < 1) = false := decide_eq_false (by omega)
  rcases Nat.lt_or_ge 50 ns.length with hM2 | hM
  · have hM : ¬ ns.length ≤ 50 := by omega
    have d2 : decide (50 < ((ns.length : Nat) : Int)) = true := decide_eq_true (by omega)
    have d3 : decide (50 < ns.length) = true := decide_eq_true (by omega)
    have HE : Aside0 (false = (decide (1 ≤ ns.length) && decide (ns.length ≤ 50) && ns.all nameB && (!(decide (0 < tl)) && !(decide (5000 < tl))) && decide (f1 = 0))) := ⟨by rw [decide_eq_false hM]; simp⟩
    clear hL hM hM2
    go_enter Try.func25, Try.ntmps25
    go_wp2
    go_ret
    exact ⟨ret_bool HE.out, Below.refl _ _⟩
  have d2 : decide (50 < ((ns.length : Nat) : Int)) = false := decide_eq_false (by omega)
  have d3 : decide (50 < ns.length) = false := decide_eq_false (by omega)
  have HE : Aside0 ((ns.all nameB && (!(decide (0 < tl)) && !(decide (5000 < tl))) && decide (f1 = 0)) = (decide (1 ≤ ns.length) && decide (ns.length ≤ 50) && ns.all nameB && (!(decide (0 < tl)) && !(decide (5000 < tl))) && decide (f1 = 0))) := ⟨by rw [decide_eq_true hL, decide_eq_true hM]; simp⟩
  have HN := Aside0.mk hM
  clear hL hM
  go_enter Try.func25, Try.ntmps25
  go_wp2_with fail
  clear d1 d2 d3
  go_loopg [40, 6] ns.length (fun g v40 v6 wr => ∃ (j : Nat), v40 = .int .i64 (j : Int) ∧ Aside0 (j + g = ns.length) ∧ Aside0 ((ns.drop j).all nameB = ns.all nameB) ∧ Aside0 (Below w.heap.size w wr))
  case atStart => exact ⟨0, rfl, ⟨by omega⟩, ⟨by simp⟩, ⟨Below.refl _ _⟩⟩
  case round =>
    obtain ⟨j, rfl, hj, hi, HB⟩ := hrel
    by_cases hlt : j < ns.length
    · obtain ⟨ad, A0, c0, e, hx0, hl0, hr0⟩ := at_L1 HG.out (j : Int) (by omega) (by omega)
      cases e
      rw [Int.toNat_natCast, show rd_L1 ns (j : Int) = ns[j] by simp [rd_L1, List.getD_eq_getElem?_getD, hlt]] at hx0
      rw [show rd_L1 ns (j : Int) = ns[j] by simp [rd_L1, List.getD_eq_getElem?_getD, hlt]] at hr0
      have hx1 := (HB.out.cell (World.block_lt_of_cell? w _ hx0)).trans hx0
      obtain ⟨s, hs⟩ : ∃ x, x = ns[j] := ⟨_, rfl⟩
      rw [← hs] at hx1 hr0
      have HI : Aside0 ((nameB s && (ns.drop (j + 1)).all nameB) = ns.all nameB) := ⟨by have := hi.out; rw [List.drop_eq_getElem_cons hlt, ← hs, List.all_cons] at this; exact this⟩
      have HC := Aside0.mk (isName_calls A0 c0 s wr (Kd.C_below hr0 HB.out) (HM.out.below HB.out HM.out.pos))
      have p0 : (0 ≤ (j : Int)) = True := eq_true (by omega)
      have p1 : ((j : Int) < (ns.length : Int)) = True := eq_true (by omega)
      have hdl : decide ((j : Int) < (ns.length : Int)) = true := decide_eq_true (by omega)
      have hdn : decide (j < ns.length) = true := decide_eq_true hlt
      have HL := Aside0.mk hlt
      clear hi hx0 hl0 hr0 hs hlt
      cases hb : nameB s with
      | true =>
        have HI2 := HI.out
        rw [hb, Bool.true_and] at HI2
        have HJ := Aside0.mk HI2
        have HC2 := HC.out
        rw [hb] at HC2
        have HC3 := Aside0.mk HC2
        clear HI HI2 HC HC2 hb
        go_wp2_with (go_at_call 37; refine HC3.out.mono ?_; rintro e w1 ⟨rfl, hb1⟩; have HB1 := Aside0.mk (below_step HB.out hb1); clear hb1)
        go_roundg (ns.length - (j + 1))
        case measure => have := hj.out; have := HL.out; omega
        case rel => exact ⟨j + 1, i64_next HL.out (by have := HN.out; omega), ⟨by have := HL.out; omega⟩, HJ, HB1⟩
      | false =>
        have HI2 := HI.out
        rw [hb, Bool.false_and] at HI2
        have HE2 : Aside0 (false = (decide (1 ≤ ns.length) && decide (ns.length ≤ 50) && ns.all nameB && (!(decide (0 < tl)) && !(decide (5000 < tl))) && decide (f1 = 0))) := ⟨by rw [← HE.out, ← HI2]; simp⟩
        have HC2 := HC.out
        rw [hb] at HC2
        have HC3 := Aside0.mk HC2
        clear HI HI2 HC HC2 hb
        go_wp2_with (go_at_call 37; refine HC3.out.mono ?_; rintro e w1 ⟨rfl, hb1⟩; have HB1 := Aside0.mk (below_step HB.out hb1); clear hb1)
        go_ret
        exact ⟨ret_bool HE2.out, HB1.out⟩
    · have e0 : (ns.drop j) = [] := List.drop_eq_nil_of_le (by omega)
      have hall : ns.all nameB = true := by rw [← hi.out, e0]; rfl
      have hE2 := HE.out
      obtain ⟨rr, hrr⟩ : ∃ x, x = (decide (1 ≤ ns.length) && decide (ns.length ≤ 50) && ns.all nameB && (!(decide (0 < tl)) && !(decide (5000 < tl))) && decide (f1 = 0)) := ⟨_, rfl⟩
      rw [← hrr] at hE2
      have HRR := Aside0.mk hrr
      rw [hall, Bool.true_and] at hE2
      clear hrr
      have hdl : decide ((j : Int) < (ns.length : Int)) = false := decide_eq_false (by omega)
      have hdn : decide (j < ns.length) = false := decide_eq_false hlt
      have p0' := (HB.out.cell (World.block_lt_of_cell? w _ q0)).trans q0
      have p1' := (HB.out.cell (World.block_lt_of_cell? w _ q1)).trans q1
      have p2' := (HB.out.cell (World.block_lt_of_cell? w _ q2)).trans q2
      have t3 : decide (0 < ((tl : Nat) : Int)) = decide (0 < tl) := decide_eq_decide.2 (by omega)
      have t4 : decide (5000 < ((tl : Nat) : Int)) = decide (5000 < tl) := decide_eq_decide.2 (by omega)
      have t5 : (f1 == 0) = decide (f1 = 0) := rfl
      obtain ⟨z3, hz3⟩ : ∃ x, x = decide (0 < tl) := ⟨_, rfl⟩
      obtain ⟨z4, hz4⟩ : ∃ x, x = decide (5000 < tl) := ⟨_, rfl⟩
      obtain ⟨z5, hz5⟩ : ∃ x, x = decide (f1 = 0) := ⟨_, rfl⟩
      obtain ⟨z6, hz6⟩ : ∃ x, x = decide (0 ≤ f1) := ⟨_, rfl⟩
      obtain ⟨z7, hz7⟩ : ∃ x, x = decide (f1 ≤ 11) := ⟨_, rfl⟩
      have hz3' := hz3.symm
      have hz4' := hz4.symm
      have hz6' := hz6.symm
      have hz7' := hz7.symm
      rw [← hz3] at t3
      rw [← hz4] at t4
      rw [← hz5] at t5
      try rw [← hz3] at hE2
      try rw [← hz4] at hE2
      try rw [← hz5] at hE2
      try rw [← hz6] at hE2
      try rw [← hz7] at hE2
      have HE2 := Aside0.mk hE2
      clear e0 hi hlt hall hE2 hz3 hz4 hz5 hz6 hz7 HE
      cases z3 <;> cases z4 <;> cases z5 <;> cases z6 <;> cases z7 <;>
      · go_wp2
        go_ret
        exact ⟨ret_bool (HE2.out.trans HRR.out), HB.out⟩
set_option maxHeartbeats 8000000 in
set_option maxRecDepth 100000 in
theorem goodFields_26 (b : Nat) (h : NV) (w : World) (hm : MaxLenCell w) {v2 v3 : Value} {q : Value} (hb : w.heap[b]? = some (.cells #[.int .i64 h.f0, .int .i64 h.f1, v2, v3, .int .i64 h.f4, q] 70 (0, 0))) (hK : k34.K w h [.int .i64 h.f0, .int .i64 h.f1, v2, v3, .int .i64 h.f4]) (hk : h.f0 = 26) :
    Calls Try.prog 25 #[pv b] w fun e w' => e = .returned (.bool (decide (1 ≤ h.f3.length) && decide (h.f3.length ≤ 1) && h.f3.all nameB && (!(decide (0 < h.f2.length)) && !(decide (5000 < h.f2.length))) && decide (h.f1 = 0))) ∧ Below w.heap.size w w' := by
  obtain ⟨A2, c2, A3, c3, e, l2, g2, l3, g3⟩ := k34_open hK
  simp only [List.cons.injEq, and_true, true_and] at e
  obtain ⟨rfl, rfl⟩ := e
  have q0 : w.cell? ⟨b, 0, none⟩ = some (.int .i64 h.f0) := (blk_cell hb 0).trans rfl
  have q1 : w.cell? ⟨b, 1, none⟩ = some (.int .i64 h.f1) := (blk_cell hb 1).trans rfl
  have q2 : w.cell? ⟨b, 2, none⟩ = some (.slice A2 h.f2.length c2) := (blk_cell hb 2).trans rfl
  have q3 : w.cell? ⟨b, 3, none⟩ = some (.slice A3 h.f3.length c3) := (blk_cell hb 3).trans rfl
  rw [hk] at q0
  have HM := Aside0.mk hm
  have HG := Aside0.mk g3
  obtain ⟨f1, hf1⟩ : ∃ x, x = h.f1 := ⟨_, rfl⟩
  obtain ⟨ns, hns⟩ : ∃ x, x = h.f3 := ⟨_, rfl⟩
  obtain ⟨tl, htl⟩ : ∃ x, x = h.f2.length := ⟨_, rfl⟩
  rw [← hf1] at q1
  rw [← hns] at q3 HG
  rw [← htl] at q2
  (try rw [← hf1])
  rw [← hns, ← htl]
  clear g2 l2 l3 g3 hb hK hm hf1 hns htl hk
  rcases Nat.lt_or_ge ns.length 1 with hL2 | hL
  · have hL : ¬ 1 ≤ ns.length := by omega
    have d1 : decide (((ns.length : Nat) : Int) < 1) = true := decide_eq_true (by omega)
    have HE : Aside0 (false = (decide (1 ≤ ns.length) && decide (ns.length ≤ 1) && ns.all nameB && (!(decide (0 < tl)) && !(decide (5000 < tl))) && decide (f1 = 0))) := ⟨by rw [decide_eq_false hL]; simp⟩
    clear hL hL2
    go_enter Try.func25, Try.ntmps25
    go_wp2
    go_ret
    exact ⟨ret_bool HE.out, Below.refl _ _⟩
  have d1 : decide (((ns.length : Nat) : Int) < 1) = false := decide_eq_false (by omega)
  rcases Nat.lt_or_ge 1 ns.length with hM2 | hM
  · have hM : ¬ ns.length ≤ 1 := by omega
    have d2 : decide (1 < ((ns.length : Nat) : Int)) = true := decide_eq_true (by omega)
    have d3 : decide (1 < ns.length) = true := decide_eq_true (by omega)
    have HE : Aside0 (false = (decide (1 ≤ ns.length) && decide (ns.length ≤ 1) && ns.all nameB && (!(decide (0 < tl)) && !(decide (5000 < tl))) && decide (f1 = 0))) := ⟨by rw [decide_eq_false hM]; simp⟩
    clear hL hM hM2
    go_enter Try.func25, Try.ntmps25
    go_wp2
    go_ret
    exact ⟨ret_bool HE.out, Below.refl _ _⟩
  have d2 : decide (1 < ((ns.length : Nat) : Int)) = false := decide_eq_false (by omega)
  have d3 : decide (1 < ns.length) = false := decide_eq_false (by omega)
  have HE : Aside0 ((ns.all nameB && (!(decide (0 < tl)) && !(decide (5000 < tl))) && decide (f1 = 0)) = (decide (1 ≤ ns.length) && decide (ns.length ≤ 1) && ns.all nameB && (!(decide (0 < tl)) && !(decide (5000 < tl))) && decide (f1 = 0))) := ⟨by rw [decide_eq_true hL, decide_eq_true hM]; simp⟩
  have HN := Aside0.mk hM
  clear hL hM
  go_enter Try.func25, Try.ntmps25
  go_wp2_with fail
  clear d1 d2 d3
  go_loopg [40, 6] ns.length (fun g v40 v6 wr => ∃ (j : Nat), v40 = .int .i64 (j : Int) ∧ Aside0 (j + g = ns.length) ∧ Aside0 ((ns.drop j).all nameB = ns.all nameB) ∧ Aside0 (Below w.heap.size w wr))
  case atStart => exact ⟨0, rfl, ⟨by omega⟩, ⟨by simp⟩, ⟨Below.refl _ _⟩⟩
  case round =>
    obtain ⟨j, rfl, hj, hi, HB⟩ := hrel
    by_cases hlt : j < ns.length
    · obtain ⟨ad, A0, c0, e, hx0, hl0, hr0⟩ := at_L1 HG.out (j : Int) (by omega) (by omega)
      cases e
      rw [Int.toNat_natCast, show rd_L1 ns (j : Int) = ns[j] by simp [rd_L1, List.getD_eq_getElem?_getD, hlt]] at hx0
      rw [show rd_L1 ns (j : Int) = ns[j] by simp [rd_L1, List.getD_eq_getElem?_getD, hlt]] at hr0
      have hx1 := (HB.out.cell (World.block_lt_of_cell? w _ hx0)).trans hx0
      obtain ⟨s, hs⟩ : ∃ x, x = ns[j] := ⟨_, rfl⟩
      rw [← hs] at hx1 hr0
      have HI : Aside0 ((nameB s && (ns.drop (j + 1)).all nameB) = ns.all nameB) := ⟨by have := hi.out; rw [List.drop_eq_getElem_cons hlt, ← hs, List.all_cons] at this; exact this⟩
      have HC := Aside0.mk (isName_calls A0 c0 s wr (Kd.C_below hr0 HB.out) (HM.out.below HB.out HM.out.pos))
      have p0 : (0 ≤ (j : Int)) = True := eq_true (by omega)
      have p1 : ((j : Int) < (ns.length : Int)) = True := eq_true (by omega)
      have hdl : decide ((j : Int) < (ns.length : Int)) = true := decide_eq_true (by omega)
      have hdn : decide (j < ns.length) = true := decide_eq_true hlt
      have HL := Aside0.mk hlt
      clear hi hx0 hl0 hr0 hs hlt
      cases hb : nameB s with
      | true =>
        have HI2 := HI.out
        rw [hb, Bool.true_and] at HI2
        have HJ := Aside0.mk HI2
        have HC2 := HC.out
        rw [hb] at HC2
        have HC3 := Aside0.mk HC2
        clear HI HI2 HC HC2 hb
        go_wp2_with (go_at_call 37; refine HC3.out.mono ?_; rintro e w1 ⟨rfl, hb1⟩; have HB1 := Aside0.mk (below_step HB.out hb1); clear hb1)
        go_roundg (ns.length - (j + 1))
        case measure => have := hj.out; have := HL.out; omega
        case rel => exact ⟨j + 1, i64_next HL.out (by have := HN.out; omega), ⟨by have := HL.out; omega⟩, HJ, HB1⟩
      | false =>
        have HI2 := HI.out
        rw [hb, Bool.false_and] at HI2
        have HE2 : Aside0 (false = (decide (1 ≤ ns.length) && decide (ns.length ≤ 1) && ns.all nameB && (!(decide (0 < tl)) && !(decide (5000 < tl))) && decide (f1 = 0))) := ⟨by rw [← HE.out, ← HI2]; simp⟩
        have HC2 := HC.out
        rw [hb] at HC2
        have HC3 := Aside0.mk HC2
        clear HI HI2 HC HC2 hb
        go_wp2_with (go_at_call 37; refine HC3.out.mono ?_; rintro e w1 ⟨rfl, hb1⟩; have HB1 := Aside0.mk (below_step HB.out hb1); clear hb1)
        go_ret
        exact ⟨ret_bool HE2.out, HB1.out⟩
    · have e0 : (ns.drop j) = [] := List.drop_eq_nil_of_le (by omega)
      have hall : ns.all nameB = true := by rw [← hi.out, e0]; rfl
      have hE2 := HE.out
      obtain ⟨rr, hrr⟩ : ∃ x, x = (decide (1 ≤ ns.length) && decide (ns.length ≤ 1) && ns.all nameB && (!(decide (0 < tl)) && !(decide (5000 < tl))) && decide (f1 = 0)) := ⟨_, rfl⟩
      rw [← hrr] at hE2
      have HRR := Aside0.mk hrr
      rw [hall, Bool.true_and] at hE2
      clear hrr
      have hdl : decide ((j : Int) < (ns.length : Int)) = false := decide_eq_false (by omega)
      have hdn : decide (j < ns.length) = false := decide_eq_false hlt
      have p0' := (HB.out.cell (World.block_lt_of_cell? w _ q0)).trans q0
      have p1' := (HB.out.cell (World.block_lt_of_cell? w _ q1)).trans q1
      have p2' := (HB.out.cell (World.block_lt_of_cell? w _ q2)).trans q2
      have t3 : decide (0 < ((tl : Nat) : Int)) = decide (0 < tl) := decide_eq_decide.2 (by omega)
      have t4 : decide (5000 < ((tl : Nat) : Int)) = decide (5000 < tl) := decide_eq_decide.2 (by omega)
      have t5 : (f1 == 0) = decide (f1 = 0) := rfl
      obtain ⟨z3, hz3⟩ : ∃ x, x = decide (0 < tl) := ⟨_, rfl⟩
      obtain ⟨z4, hz4⟩ : ∃ x, x = decide (5000 < tl) := ⟨_, rfl⟩
      obtain ⟨z5, hz5⟩ : ∃ x, x = decide (f1 = 0) := ⟨_, rfl⟩
      obtain ⟨z6, hz6⟩ : ∃ x, x = decide (0 ≤ f1) := ⟨_, rfl⟩
      obtain ⟨z7, hz7⟩ : ∃ x, x = decide (f1 ≤ 11) := ⟨_, rfl⟩
      have hz3' := hz3.symm
      have hz4' := hz4.symm
      have hz6' := hz6.symm
      have hz7' := hz7.symm
      rw [← hz3] at t3
      rw [← hz4] at t4
      rw [← hz5] at t5
      try rw [← hz3] at hE2
      try rw [← hz4] at hE2
      try rw [← hz5] at hE2
      try rw [← hz6] at hE2
      try rw [← hz7] at hE2
      have HE2 := Aside0.mk hE2
      clear e0 hi hlt hall hE2 hz3 hz4 hz5 hz6 hz7 HE
      cases z3 <;> cases z4 <;> cases z5 <;> cases z6 <;> cases z7 <;>
      · go_wp2
        go_ret
        exact ⟨ret_bool (HE2.out.trans HRR.out), HB.out⟩
set_option maxHeartbeats 8000000 in
set_option maxRecDepth 100000 in
theorem goodFields_7 (b : Nat) (h : NV) (w : World) (hm : MaxLenCell w) {v2 v3 : Value} {q : Value} (hb : w.heap[b]? = some (.cells #[.int .i64 h.f0, .int .i64 h.f1, v2, v3, .int .i64 h.f4, q] 70 (0, 0))) (hK : k34.K w h [.int .i64 h.f0, .int .i64 h.f1, v2, v3, .int .i64 h.f4]) (hk : h.f0 = 7) :
    Calls Try.prog 25 #[pv b] w fun e w' => e = .returned (.bool (decide (1 ≤ h.f3.length) && decide (h.f3.length ≤ 1) && h.f3.all nameB && (!(decide (0 < h.f2.length)) && !(decide (5000 < h.f2.length))) && decide (h.f1 = 0))) ∧ Below w.heap.size w w' := by
  obtain ⟨A2, c2, A3, c3, e, l2, g2, l3, g3⟩ := k34_open hK
  simp only [List.cons.injEq, and_true, true_and] at e
  obtain ⟨rfl, rfl⟩ := e
  have q0 : w.cell? ⟨b, 0, none⟩ = some (.int .i64 h.f0) := (blk_cell hb 0).trans rfl
  have q1 : w.cell? ⟨b, 1, none⟩ = some (.int .i64 h.f1) := (blk_cell hb 1).trans rfl
  have q2 : w.cell? ⟨b, 2, none⟩ = some (.slice A2 h.f2.length c2) := (blk_cell hb 2).trans rfl
  have q3 : w.cell? ⟨b, 3, none⟩ = some (.slice A3 h.f3.length c3) := (blk_cell hb 3).trans rfl
  rw [hk] at q0
  have HM := Aside0.mk hm
  have HG := Aside0.mk g3
  obtain ⟨f1, hf1⟩ : ∃ x, x = h.f1 := ⟨_, rfl⟩
  obtain ⟨ns, hns⟩ : ∃ x, x = h.f3 := ⟨_, rfl⟩
  obtain ⟨tl, htl⟩ : ∃ x, x = h.f2.length := ⟨_, rfl⟩
  rw [← hf1] at q1
  rw [← hns] at q3 HG
  rw [← htl] at q2
  (try rw [← hf1])
  rw [← hns, ← htl]
  clear g2 l2 l3 g3 hb hK hm hf1 hns htl hk
  rcases Nat.lt_or_ge ns.length 1 with hL2 | hL
  · have hL : ¬ 1 ≤ ns.length := by omega
    have d1 : decide (((ns.length : Nat) : Int) < 1) = true := decide_eq_true (by omega)
    have HE : Aside0 (false = (decide (1 ≤ ns.length) && decide (ns.length ≤ 1) && ns.all nameB && (!(decide (0 < tl)) && !(decide (5000 < tl))) && decide (f1 = 0))) := ⟨by rw [decide_eq_false hL]; simp⟩
    clear hL hL2
    go_enter Try.func25, Try.ntmps25
    go_wp2
    go_ret
    exact ⟨ret_bool HE.out, Below.refl _ _⟩
  have d1 : decide (((ns.length : Nat) : Int) < 1) = false := decide_eq_false (by omega)
  rcases Nat.lt_or_ge 1 ns.length with hM2 | hM
  · have hM : ¬ ns.length ≤ 1 := by omega
    have d2 : decide (1 < ((ns.length : Nat) : Int)) = true := decide_eq_true (by omega)
    have d3 : decide (1 < ns.length) = true := decide_eq_true (by omega)
    have HE : Aside0 (false = (decide (1 ≤ ns.length) && decide (ns.length ≤ 1) && ns.all nameB && (!(decide (0 < tl)) && !(decide (5000 < tl))) && decide (f1 = 0))) := ⟨by rw [decide_eq_false hM]; simp⟩
    clear hL hM hM2
    go_enter Try.func25, Try.ntmps25
    go_wp2
    go_ret
    exact ⟨ret_bool HE.out, Below.refl _ _⟩
  have d2 : decide (1 < ((ns.length : Nat) : Int)) = false := decide_eq_false (by omega)
  have d3 : decide (1 < ns.length) = false := decide_eq_false (by omega)
  have HE : Aside0 ((ns.all nameB && (!(decide (0 < tl)) && !(decide (5000 < tl))) && decide (f1 = 0)) = (decide (1 ≤ ns.length) && decide (ns.length ≤ 1) && ns.all nameB && (!(decide (0 < tl)) && !(decide (5000 < tl))) && decide (f1 = 0))) := ⟨by rw [decide_eq_true hL, decide_eq_true hM]; simp⟩
  have HN := Aside0.mk hM
  clear hL hM
  go_enter Try.func25, Try.ntmps25
  go_wp2_with fail
  clear d1 d2 d3
  go_loopg [40, 6] ns.length (fun g v40 v6 wr => ∃ (j : Nat), v40 = .int .i64 (j : Int) ∧ Aside0 (j + g = ns.length) ∧ Aside0 ((ns.drop j).all nameB = ns.all nameB) ∧ Aside0 (Below w.heap.size w wr))
  case atStart => exact ⟨0, rfl, ⟨by omega⟩, ⟨by simp⟩, ⟨Below.refl _ _⟩⟩
  case round =>
    obtain ⟨j, rfl, hj, hi, HB⟩ := hrel
    by_cases hlt : j < ns.length
    · obtain ⟨ad, A0, c0, e, hx0, hl0, hr0⟩ := at_L1 HG.out (j : Int) (by omega) (by omega)
      cases e
      rw [Int.toNat_natCast, show rd_L1 ns (j : Int) = ns[j] by simp [rd_L1, List.getD_eq_getElem?_getD, hlt]] at hx0
      rw [show rd_L1 ns (j : Int) = ns[j] by simp [rd_L1, List.getD_eq_getElem?_getD, hlt]] at hr0
      have hx1 := (HB.out.cell (World.block_lt_of_cell? w _ hx0)).trans hx0
      obtain ⟨s, hs⟩ : ∃ x, x = ns[j] := ⟨_, rfl⟩
      rw [← hs] at hx1 hr0
      have HI : Aside0 ((nameB s && (ns.drop (j + 1)).all nameB) = ns.all nameB) := ⟨by have := hi.out; rw [List.drop_eq_getElem_cons hlt, ← hs, List.all_cons] at this; exact this⟩
      have HC := Aside0.mk (isName_calls A0 c0 s wr (Kd.C_below hr0 HB.out) (HM.out.below HB.out HM.out.pos))
      have p0 : (0 ≤ (j : Int)) = True := eq_true (by omega)
      have p1 : ((j : Int) < (ns.length : Int)) = True := eq_true (by omega)
      have hdl : decide ((j : Int) < (ns.length : Int)) = true := decide_eq_true (by omega)
      have hdn : decide (j < ns.length) = true := decide_eq_true hlt
      have HL := Aside0.mk hlt
      clear hi hx0 hl0 hr0 hs hlt
      cases hb : nameB s with
      | true =>
        have HI2 := HI.out
        rw [hb, Bool.true_and] at HI2
        have HJ := Aside0.mk HI2
        have HC2 := HC.out
        rw [hb] at HC2
        have HC3 := Aside0.mk HC2
        clear HI HI2 HC HC2 hb
        go_wp2_with (go_at_call 37; refine HC3.out.mono ?_; rintro e w1 ⟨rfl, hb1⟩; have HB1 := Aside0.mk (below_step HB.out hb1); clear hb1)
        go_roundg (ns.length - (j + 1))
        case measure => have := hj.out; have := HL.out; omega
        case rel => exact ⟨j + 1, i64_next HL.out (by have := HN.out; omega), ⟨by have := HL.out; omega⟩, HJ, HB1⟩
      | false =>
        have HI2 := HI.out
        rw [hb, Bool.false_and] at HI2
        have HE2 : Aside0 (false = (decide (1 ≤ ns.length) && decide (ns.length ≤ 1) && ns.all nameB && (!(decide (0 < tl)) && !(decide (5000 < tl))) && decide (f1 = 0))) := ⟨by rw [← HE.out, ← HI2]; simp⟩
        have HC2 := HC.out
        rw [hb] at HC2
        have HC3 := Aside0.mk HC2
        clear HI HI2 HC HC2 hb
        go_wp2_with (go_at_call 37; refine HC3.out.mono ?_; rintro e w1 ⟨rfl, hb1⟩; have HB1 := Aside0.mk (below_step HB.out hb1); clear hb1)
        go_ret
        exact ⟨ret_bool HE2.out, HB1.out⟩
    · have e0 : (ns.drop j) = [] := List.drop_eq_nil_of_le (by omega)
      have hall : ns.all nameB = true := by rw [← hi.out, e0]; rfl
      have hE2 := HE.out
      obtain ⟨rr, hrr⟩ : ∃ x, x = (decide (1 ≤ ns.length) && decide (ns.length ≤ 1) && ns.all nameB && (!(decide (0 < tl)) && !(decide (5000 < tl))) && decide (f1 = 0)) := ⟨_, rfl⟩
      rw [← hrr] at hE2
      have HRR := Aside0.mk hrr
      rw [hall, Bool.true_and] at hE2
      clear hrr
      have hdl : decide ((j : Int) < (ns.length : Int)) = false := decide_eq_false (by omega)
      have hdn : decide (j < ns.length) = false := decide_eq_false hlt
      have p0' := (HB.out.cell (World.block_lt_of_cell? w _ q0)).trans q0
      have p1' := (HB.out.cell (World.block_lt_of_cell? w _ q1)).trans q1
      have p2' := (HB.out.cell (World.block_lt_of_cell? w _ q2)).trans q2
      have t3 : decide (0 < ((tl : Nat) : Int)) = decide (0 < tl) := decide_eq_decide.2 (by omega)
      have t4 : decide (5000 < ((tl : Nat) : Int)) = decide (5000 < tl) := decide_eq_decide.2 (by omega)
      have t5 : (f1 == 0) = decide (f1 = 0) := rfl
      obtain ⟨z3, hz3⟩ : ∃ x, x = decide (0 < tl) := ⟨_, rfl⟩
      obtain ⟨z4, hz4⟩ : ∃ x, x = decide (5000 < tl) := ⟨_, rfl⟩
      obtain ⟨z5, hz5⟩ : ∃ x, x = decide (f1 = 0) := ⟨_, rfl⟩
      obtain ⟨z6, hz6⟩ : ∃ x, x = decide (0 ≤ f1) := ⟨_, rfl⟩
      obtain ⟨z7, hz7⟩ : ∃ x, x = decide (f1 ≤ 11) := ⟨_, rfl⟩
      have hz3' := hz3.symm
      have hz4' := hz4.symm
      have hz6' := hz6.symm
      have hz7' := hz7.symm
      rw [← hz3] at t3
      rw [← hz4] at t4
      rw [← hz5] at t5
      try rw [← hz3] at hE2
      try rw [← hz4] at hE2
      try rw [← hz5] at hE2
      try rw [← hz6] at hE2
      try rw [← hz7] at hE2
      have HE2 := Aside0.mk hE2
      clear e0 hi hlt hall hE2 hz3 hz4 hz5 hz6 hz7 HE
      cases z3 <;> cases z4 <;> cases z5 <;> cases z6 <;> cases z7 <;>
      · go_wp2
        go_ret
        exact ⟨ret_bool (HE2.out.trans HRR.out), HB.out⟩
set_option maxHeartbeats 8000000 in
set_option maxRecDepth 100000 in
theorem goodFields_16 (b : Nat) (h : NV) (w : World) (hm : MaxLenCell w) {v2 v3 : Value} {q : Value} (hb : w.heap[b]? = some (.cells #[.int .i64 h.f0, .int .i64 h.f1, v2, v3, .int .i64 h.f4, q] 70 (0, 0))) (hK : k34.K w h [.int .i64 h.f0, .int .i64 h.f1, v2, v3, .int .i64 h.f4]) (hk : h.f0 = 16) :
    Calls Try.prog 25 #[pv b] w fun e w' => e = .returned (.bool (decide (1 ≤ h.f3.length) && decide (h.f3.length ≤ 1) && h.f3.all nameB && (!(decide (0 < h.f2.length)) && !(decide (5000 < h.f2.length))) && decide (h.f1 = 0))) ∧ Below w.heap.size w w' := by
  obtain ⟨A2, c2, A3, c3, e, l2, g2, l3, g3⟩ := k34_open hK
  simp only [List.cons.injEq, and_true, true_and] at e
  obtain ⟨rfl, rfl⟩ := e
  have q0 : w.cell? ⟨b, 0, none⟩ = some (.int .i64 h.f0) := (blk_cell hb 0).trans rfl
  have q1 : w.cell? ⟨b, 1, none⟩ = some (.int .i64 h.f1) := (blk_cell hb 1).trans rfl
  have q2 : w.cell? ⟨b, 2, none⟩ = some (.slice A2 h.f2.length c2) := (blk_cell hb 2).trans rfl
  have q3 : w.cell? ⟨b, 3, none⟩ = some (.slice A3 h.f3.length c3) := (blk_cell hb 3).trans rfl
  rw [hk] at q0
  have HM := Aside0.mk hm
  have HG := Aside0.mk g3
  obtain ⟨f1, hf1⟩ : ∃ x, x = h.f1 := ⟨_, rfl⟩
  obtain ⟨ns, hns⟩ : ∃ x, x = h.f3 := ⟨_, rfl⟩
  obtain ⟨tl, htl⟩ : ∃ x, x = h.f2.length := ⟨_, rfl⟩
  rw [← hf1] at q1
  rw [← hns] at q3 HG
  rw [← htl] at q2
  (try rw [← hf1])
  rw [← hns, ← htl]
  clear g2 l2 l3 g3 hb hK hm hf1 hns htl hk
  rcases Nat.lt_or_ge ns.length 1 with hL2 | hL
  · have hL : ¬ 1 ≤ ns.length := by omega
    have d1 : decide (((ns.length : Nat) : Int) < 1) = true := decide_eq_true (by omega)
    have HE : Aside0 (false = (decide (1 ≤ ns.length) && decide (ns.length ≤ 1) && ns.all nameB && (!(decide (0 < tl)) && !(decide (5000 < tl))) && decide (f1 = 0))) := ⟨by rw [decide_eq_false hL]; simp⟩
    clear hL hL2
    go_enter Try.func25, Try.ntmps25
    go_wp2
    go_ret
    exact ⟨ret_bool HE.out, Below.refl _ _⟩
  have d1 : decide (((ns.length : Nat) : Int) < 1) = false := decide_eq_false (by omega)
  rcases Nat.lt_or_ge 1 ns.length with hM2 | hM
  · have hM : ¬ ns.length ≤ 1 := by omega
    have d2 : decide (1 < ((ns.length : Nat) : Int)) = true := decide_eq_true (by omega)
    have d3 : decide (1 < ns.length) = true := decide_eq_true (by omega)
    have HE : Aside0 (false = (decide (1 ≤ ns.length) && decide (ns.length ≤ 1) && ns.all nameB && (!(decide (0 < tl)) && !(decide (5000 < tl))) && decide (f1 = 0))) := ⟨by rw [decide_eq_false hM]; simp⟩
    clear hL hM hM2
    go_enter Try.func25, Try.ntmps25
    go_wp2
    go_ret
    exact ⟨ret_bool HE.out, Below.refl _ _⟩
  have d2 : decide (1 < ((ns.length : Nat) : Int)) = false := decide_eq_false (by omega)
  have d3 : decide (1 < ns.length) = false := decide_eq_false (by omega)
  have HE : Aside0 ((ns.all nameB && (!(decide (0 < tl)) && !(decide (5000 < tl))) && decide (f1 = 0)) = (decide (1 ≤ ns.length) && decide (ns.length ≤ 1) && ns.all nameB && (!(decide (0 < tl)) && !(decide (5000 < tl))) && decide (f1 = 0))) := ⟨by rw [decide_eq_true hL, decide_eq_true hM]; simp⟩
  have HN := Aside0.mk hM
  clear hL hM
  go_enter Try.func25, Try.ntmps25
  go_wp2_with fail
  clear d1 d2 d3
  go_loopg [40, 6] ns.length (fun g v40 v6 wr => ∃ (j : Nat), v40 = .int .i64 (j : Int) ∧ Aside0 (j + g = ns.length) ∧ Aside0 ((ns.drop j).all nameB = ns.all nameB) ∧ Aside0 (Below w.heap.size w wr))
  case atStart => exact ⟨0, rfl, ⟨by omega⟩, ⟨by simp⟩, ⟨Below.refl _ _⟩⟩
  case round =>
    obtain ⟨j, rfl, hj, hi, HB⟩ := hrel
    by_cases hlt : j < ns.length
    · obtain ⟨ad, A0, c0, e, hx0, hl0, hr0⟩ := at_L1 HG.out (j : Int) (by omega) (by omega)
      cases e
      rw [Int.toNat_natCast, show rd_L1 ns (j : Int) = ns[j] by simp [rd_L1, List.getD_eq_getElem?_getD, hlt]] at hx0
      rw [show rd_L1 ns (j : Int) = ns[j] by simp [rd_L1, List.getD_eq_getElem?_getD, hlt]] at hr0
      have hx1 := (HB.out.cell (World.block_lt_of_cell? w _ hx0)).trans hx0
      obtain ⟨s, hs⟩ : ∃ x, x = ns[j] := ⟨_, rfl⟩
      rw [← hs] at hx1 hr0
      have HI : Aside0 ((nameB s && (ns.drop (j + 1)).all nameB) = ns.all nameB) := ⟨by have := hi.out; rw [List.drop_eq_getElem_cons hlt, ← hs, List.all_cons] at this; exact this⟩
      have HC := Aside0.mk (isName_calls A0 c0 s wr (Kd.C_below hr0 HB.out) (HM.out.below HB.out HM.out.pos))
      have p0 : (0 ≤ (j : Int)) = True := eq_true (by omega)
      have p1 : ((j : Int) < (ns.length : Int)) = True := eq_true (by omega)
      have hdl : decide ((j : Int) < (ns.length : Int)) = true := decide_eq_true (by omega)
      have hdn : decide (j < ns.length) = true := decide_eq_true hlt
      have HL := Aside0.mk hlt
      clear hi hx0 hl0 hr0 hs hlt
      cases hb : nameB s with
      | true =>
        have HI2 := HI.out
        rw [hb, Bool.true_and] at HI2
        have HJ := Aside0.mk HI2
        have HC2 := HC.out
        rw [hb] at HC2
        have HC3 := Aside0.mk HC2
        clear HI HI2 HC HC2 hb
        go_wp2_with (go_at_call 37; refine HC3.out.mono ?_; rintro e w1 ⟨rfl, hb1⟩; have HB1 := Aside0.mk (below_step HB.out hb1); clear hb1)
        go_roundg (ns.length - (j + 1))
        case measure => have := hj.out; have := HL.out; omega
        case rel => exact ⟨j + 1, i64_next HL.out (by have := HN.out; omega), ⟨by have := HL.out; omega⟩, HJ, HB1⟩
      | false =>
        have HI2 := HI.out
        rw [hb, Bool.false_and] at HI2
        have HE2 : Aside0 (false = (decide (1 ≤ ns.length) && decide (ns.length ≤ 1) && ns.all nameB && (!(decide (0 < tl)) && !(decide (5000 < tl))) && decide (f1 = 0))) := ⟨by rw [← HE.out, ← HI2]; simp⟩
        have HC2 := HC.out
        rw [hb] at HC2
        have HC3 := Aside0.mk HC2
        clear HI HI2 HC HC2 hb
        go_wp2_with (go_at_call 37; refine HC3.out.mono ?_; rintro e w1 ⟨rfl, hb1⟩; have HB1 := Aside0.mk (below_step HB.out hb1); clear hb1)
        go_ret
        exact ⟨ret_bool HE2.out, HB1.out⟩
    · have e0 : (ns.drop j) = [] := List.drop_eq_nil_of_le (by omega)
      have hall : ns.all nameB = true := by rw [← hi.out, e0]; rfl
      have hE2 := HE.out
      obtain ⟨rr, hrr⟩ : ∃ x, x = (decide (1 ≤ ns.length) && decide (ns.length ≤ 1) && ns.all nameB && (!(decide (0 < tl)) && !(decide (5000 < tl))) && decide (f1 = 0)) := ⟨_, rfl⟩
      rw [← hrr] at hE2
      have HRR := Aside0.mk hrr
      rw [hall, Bool.true_and] at hE2
      clear hrr
      have hdl : decide ((j : Int) < (ns.length : Int)) = false := decide_eq_false (by omega)
      have hdn : decide (j < ns.length) = false := decide_eq_false hlt
      have p0' := (HB.out.cell (World.block_lt_of_cell? w _ q0)).trans q0
      have p1' := (HB.out.cell (World.block_lt_of_cell? w _ q1)).trans q1
      have p2' := (HB.out.cell (World.block_lt_of_cell? w _ q2)).trans q2
      have t3 : decide (0 < ((tl : Nat) : Int)) = decide (0 < tl) := decide_eq_decide.2 (by omega)
      have t4 : decide (5000 < ((tl : Nat) : Int)) = decide (5000 < tl) := decide_eq_decide.2 (by omega)
      have t5 : (f1 == 0) = decide (f1 = 0) := rfl
      obtain ⟨z3, hz3⟩ : ∃ x, x = decide (0 < tl) := ⟨_, rfl⟩
      obtain ⟨z4, hz4⟩ : ∃ x, x = decide (5000 < tl) := ⟨_, rfl⟩
      obtain ⟨z5, hz5⟩ : ∃ x, x = decide (f1 = 0) := ⟨_, rfl⟩
      obtain ⟨z6, hz6⟩ : ∃ x, x = decide (0 ≤ f1) := ⟨_, rfl⟩
      obtain ⟨z7, hz7⟩ : ∃ x, x = decide (f1 ≤ 11) := ⟨_, rfl⟩
      have hz3' := hz3.symm
      have hz4' := hz4.symm
      have hz6' := hz6.symm
      have hz7' := hz7.symm
      rw [← hz3] at t3
      rw [← hz4] at t4
      rw [← hz5] at t5
      try rw [← hz3] at hE2
      try rw [← hz4] at hE2
      try rw [← hz5] at hE2
      try rw [← hz6] at hE2
      try rw [← hz7] at hE2
      have HE2 := Aside0.mk hE2
      clear e0 hi hlt hall hE2 hz3 hz4 hz5 hz6 hz7 HE
      cases z3 <;> cases z4 <;> cases z5 <;> cases z6 <;> cases z7 <;>
      · go_wp2
        go_ret
        exact ⟨ret_bool (HE2.out.trans HRR.out), HB.out⟩
set_option maxHeartbeats 8000000 in
set_option maxRecDepth 100000 in
theorem goodFields_19 (b : Nat) (h : NV) (w : World) (hm : MaxLenCell w) {v2 v3 : Value} {q : Value} (hb : w.heap[b]? = some (.cells #[.int .i64 h.f0, .int .i64 h.f1, v2, v3, .int .i64 h.f4, q] 70 (0, 0))) (hK : k34.K w h [.int .i64 h.f0, .int .i64 h.f1, v2, v3, .int .i64 h.f4]) (hk : h.f0 = 19) :
    Calls Try.prog 25 #[pv b] w fun e w' => e = .returned (.bool (decide (0 ≤ h.f3.length) && decide (h.f3.length ≤ 50) && h.f3.all nameB && (!(decide (0 < h.f2.length)) && !(decide (5000 < h.f2.length))) && decide (h.f1 = 0))) ∧ Below w.heap.size w w' := by
  obtain ⟨A2, c2, A3, c3, e, l2, g2, l3, g3⟩ := k34_open hK
  simp only [List.cons.injEq, and_true, true_and] at e
  obtain ⟨rfl, rfl⟩ := e
  have q0 : w.cell? ⟨b, 0, none⟩ = some (.int .i64 h.f0) := (blk_cell hb 0).trans rfl
  have q1 : w.cell? ⟨b, 1, none⟩ = some (.int .i64 h.f1) := (blk_cell hb 1).trans rfl
  have q2 : w.cell? ⟨b, 2, none⟩ = some (.slice A2 h.f2.length c2) := (blk_cell hb 2).trans rfl
  have q3 : w.cell? ⟨b, 3, none⟩ = some (.slice A3 h.f3.length c3) := (blk_cell hb 3).trans rfl
  rw [hk] at q0
  have HM := Aside0.mk hm
  have HG := Aside0.mk g3
  obtain ⟨f1, hf1⟩ : ∃ x, x = h.f1 := ⟨_, rfl⟩
  obtain ⟨ns, hns⟩ : ∃ x, x = h.f3 := ⟨_, rfl⟩
  obtain ⟨tl, htl⟩ : ∃ x, x = h.f2.length := ⟨_, rfl⟩
  rw [← hf1] at q1
  rw [← hns] at q3 HG
  rw [← htl] at q2
  (try rw [← hf1])
  rw [← hns, ← htl]
  clear g2 l2 l3 g3 hb hK hm hf1 hns htl hk
  have hL : 0 ≤ ns.length := Nat.zero_le _
  have d1 : decide (((ns.length : Nat) : Int) < 0) = false := decide_eq_false (by omega)
  rcases Nat.lt_or_ge 50 ns.length with hM2 | hM
  · have hM : ¬ ns.length ≤ 50 := by omega
    have d2 : decide (50 < ((ns.length : Nat) : Int)) = true := decide_eq_true (by omega)
    have d3 : decide (50 < ns.length) = true := decide_eq_true (by omega)
    have HE : Aside0 (false = (decide (0 ≤ ns.length) && decide (ns.length ≤ 50) && ns.all nameB && (!(decide (0 < tl)) && !(decide (5000 < tl))) && decide (f1 = 0))) := ⟨by rw [decide_eq_false hM]; simp⟩
    clear hL hM hM2
    go_enter Try.func25, Try.ntmps25
    go_wp2
    go_ret
    exact ⟨ret_bool HE.out, Below.refl _ _⟩
  have d2 : decide (50 < ((ns.length : Nat) : Int)) = false := decide_eq_false (by omega)
  have d3 : decide (50 < ns.length) = false := decide_eq_false (by omega)
  have HE : Aside0 ((ns.all nameB && (!(decide (0 < tl)) && !(decide (5000 < tl))) && decide (f1 = 0)) = (decide (0 ≤ ns.length) && decide (ns.length ≤ 50) && ns.all nameB && (!(decide (0 < tl)) && !(decide (5000 < tl))) && decide (f1 = 0))) := ⟨by rw [decide_eq_true hL, decide_eq_true hM]; simp⟩
  have HN := Aside0.mk hM
  clear hL hM
  go_enter Try.func25, Try.ntmps25
  go_wp2_with fail
  clear d1 d2 d3
  go_loopg [40, 6] ns.length (fun g v40 v6 wr => ∃ (j : Nat), v40 = .int .i64 (j : Int) ∧ Aside0 (j + g = ns.length) ∧ Aside0 ((ns.drop j).all nameB = ns.all nameB) ∧ Aside0 (Below w.heap.size w wr))
  case atStart => exact ⟨0, rfl, ⟨by omega⟩, ⟨by simp⟩, ⟨Below.refl _ _⟩⟩
  case round =>
    obtain ⟨j, rfl, hj, hi, HB⟩ := hrel
    by_cases hlt : j < ns.length
    · obtain ⟨ad, A0, c0, e, hx0, hl0, hr0⟩ := at_L1 HG.out (j : Int) (by omega) (by omega)
      cases e
      rw [Int.toNat_natCast, show rd_L1 ns (j : Int) = ns[j] by simp [rd_L1, List.getD_eq_getElem?_getD, hlt]] at hx0
      rw [show rd_L1 ns (j : Int) = ns[j] by simp [rd_L1, List.getD_eq_getElem?_getD, hlt]] at hr0
      have hx1 := (HB.out.cell (World.block_lt_of_cell? w _ hx0)).trans hx0
      obtain ⟨s, hs⟩ : ∃ x, x = ns[j] := ⟨_, rfl⟩
      rw [← hs] at hx1 hr0
      have HI : Aside0 ((nameB s && (ns.drop (j + 1)).all nameB) = ns.all nameB) := ⟨by have := hi.out; rw [List.drop_eq_getElem_cons hlt, ← hs, List.all_cons] at this; exact this⟩
      have HC := Aside0.mk (isName_calls A0 c0 s wr (Kd.C_below hr0 HB.out) (HM.out.below HB.out HM.out.pos))
      have p0 : (0 ≤ (j : Int)) = True := eq_true (by omega)
      have p1 : ((j : Int) < (ns.length : Int)) = True := eq_true (by omega)
      have hdl : decide ((j : Int) < (ns.length : Int)) = true := decide_eq_true (by omega)
      have hdn : decide (j < ns.length) = true := decide_eq_true hlt
      have HL := Aside0.mk hlt
      clear hi hx0 hl0 hr0 hs hlt
      cases hb : nameB s with
      | true =>
        have HI2 := HI.out
        rw [hb, Bool.true_and] at HI2
        have HJ := Aside0.mk HI2
        have HC2 := HC.out
        rw [hb] at HC2
        have HC3 := Aside0.mk HC2
        clear HI HI2 HC HC2 hb
        go_wp2_with (go_at_call 37; refine HC3.out.mono ?_; rintro e w1 ⟨rfl, hb1⟩; have HB1 := Aside0.mk (below_step HB.out hb1); clear hb1)
        go_roundg (ns.length - (j + 1))
        case measure => have := hj.out; have := HL.out; omega
        case rel => exact ⟨j + 1, i64_next HL.out (by have := HN.out; omega), ⟨by have := HL.out; omega⟩, HJ, HB1⟩
      | false =>
        have HI2 := HI.out
        rw [hb, Bool.false_and] at HI2
        have HE2 : Aside0 (false = (decide (0 ≤ ns.length) && decide (ns.length ≤ 50) && ns.all nameB && (!(decide (0 < tl)) && !(decide (5000 < tl))) && decide (f1 = 0))) := ⟨by rw [← HE.out, ← HI2]; simp⟩
        have HC2 := HC.out
        rw [hb] at HC2
        have HC3 := Aside0.mk HC2
        clear HI HI2 HC HC2 hb
        go_wp2_with (go_at_call 37; refine HC3.out.mono ?_; rintro e w1 ⟨rfl, hb1⟩; have HB1 := Aside0.mk (below_step HB.out hb1); clear hb1)
        go_ret
        exact ⟨ret_bool HE2.out, HB1.out⟩
    · have e0 : (ns.drop j) = [] := List.drop_eq_nil_of_le (by omega)
      have hall : ns.all nameB = true := by rw [← hi.out, e0]; rfl
      have hE2 := HE.out
      obtain ⟨rr, hrr⟩ : ∃ x, x = (decide (0 ≤ ns.length) && decide (ns.length ≤ 50) && ns.all nameB && (!(decide (0 < tl)) && !(decide (5000 < tl))) && decide (f1 = 0)) := ⟨_, rfl⟩
      rw [← hrr] at hE2
      have HRR := Aside0.mk hrr
      rw [hall, Bool.true_and] at hE2
      clear hrr
      have hdl : decide ((j : Int) < (ns.length : Int)) = false := decide_eq_false (by omega)
      have hdn : decide (j < ns.length) = false := decide_eq_false hlt
      have p0' := (HB.out.cell (World.block_lt_of_cell? w _ q0)).trans q0
      have p1' := (HB.out.cell (World.block_lt_of_cell? w _ q1)).trans q1
      have p2' := (HB.out.cell (World.block_lt_of_cell? w _ q2)).trans q2
      have t3 : decide (0 < ((tl : Nat) : Int)) = decide (0 < tl) := decide_eq_decide.2 (by omega)
      have t4 : decide (5000 < ((tl : Nat) : Int)) = decide (5000 < tl) := decide_eq_decide.2 (by omega)
      have t5 : (f1 == 0) = decide (f1 = 0) := rfl
      obtain ⟨z3, hz3⟩ : ∃ x, x = decide (0 < tl) := ⟨_, rfl⟩
      obtain ⟨z4, hz4⟩ : ∃ x, x = decide (5000 < tl) := ⟨_, rfl⟩
      obtain ⟨z5, hz5⟩ : ∃ x, x = decide (f1 = 0) := ⟨_, rfl⟩
      obtain ⟨z6, hz6⟩ : ∃ x, x = decide (0 ≤ f1) := ⟨_, rfl⟩
      obtain ⟨z7, hz7⟩ : ∃ x, x = decide (f1 ≤ 11) := ⟨_, rfl⟩
      have hz3' := hz3.symm
      have hz4' := hz4.symm
      have hz6' := hz6.symm
      have hz7' := hz7.symm
      rw [← hz3] at t3
      rw [← hz4] at t4
      rw [← hz5] at t5
      try rw [← hz3] at hE2
      try rw [← hz4] at hE2
      try rw [← hz5] at hE2
      try rw [← hz6] at hE2
      try rw [← hz7] at hE2
      have HE2 := Aside0.mk hE2
      clear e0 hi hlt hall hE2 hz3 hz4 hz5 hz6 hz7 HE
      cases z3 <;> cases z4 <;> cases z5 <;> cases z6 <;> cases z7 <;>
      · go_wp2
        go_ret
        exact ⟨ret_bool (HE2.out.trans HRR.out), HB.out⟩
set_option maxHeartbeats 8000000 in
set_option maxRecDepth 100000 in
theorem goodFields_15 (b : Nat) (h : NV) (w : World) (hm : MaxLenCell w) {v2 v3 : Value} {q : Value} (hb : w.heap[b]? = some (.cells #[.int .i64 h.f0, .int .i64 h.f1, v2, v3, .int .i64 h.f4, q] 70 (0, 0))) (hK : k34.K w h [.int .i64 h.f0, .int .i64 h.f1, v2, v3, .int .i64 h.f4]) (hk : h.f0 = 15) :
    Calls Try.prog 25 #[pv b] w fun e w' => e = .returned (.bool (decide (0 ≤ h.f3.length) && decide (h.f3.length ≤ 0) && h.f3.all nameB && (!(decide (5000 < h.f2.length))) && decide (h.f1 = 0))) ∧ Below w.heap.size w w' := by
  obtain ⟨A2, c2, A3, c3, e, l2, g2, l3, g3⟩ := k34_open hK
  simp only [List.cons.injEq, and_true, true_and] at e
  obtain ⟨rfl, rfl⟩ := e
  have q0 : w.cell? ⟨b, 0, none⟩ = some (.int .i64 h.f0) := (blk_cell hb 0).trans rfl
  have q1 : w.cell? ⟨b, 1, none⟩ = some (.int .i64 h.f1) := (blk_cell hb 1).trans rfl
  have q2 : w.cell? ⟨b, 2, none⟩ = some (.slice A2 h.f2.length c2) := (blk_cell hb 2).trans rfl
  have q3 : w.cell? ⟨b, 3, none⟩ = some (.slice A3 h.f3.length c3) := (blk_cell hb 3).trans rfl
  rw [hk] at q0
  have HM := Aside0.mk hm
  have HG := Aside0.mk g3
  obtain ⟨f1, hf1⟩ : ∃ x, x = h.f1 := ⟨_, rfl⟩
  obtain ⟨ns, hns⟩ : ∃ x, x = h.f3 := ⟨_, rfl⟩
  obtain ⟨tl, htl⟩ : ∃ x, x = h.f2.length := ⟨_, rfl⟩
  rw [← hf1] at q1
  rw [← hns] at q3 HG
  rw [← htl] at q2
  (try rw [← hf1])
  rw [← hns, ← htl]
  clear g2 l2 l3 g3 hb hK hm hf1 hns htl hk
  have hL : 0 ≤ ns.length := Nat.zero_le _
  have d1 : decide (((ns.length : Nat) : Int) < 0) = false := decide_eq_false (by omega)
  rcases Nat.lt_or_ge 0 ns.length with hM2 | hM
  · have hM : ¬ ns.length ≤ 0 := by omega
    have d2 : decide (0 < ((ns.length : Nat) : Int)) = true := decide_eq_true (by omega)
    have d3 : decide (0 < ns.length) = true := decide_eq_true (by omega)
    have HE : Aside0 (false = (decide (0 ≤ ns.length) && decide (ns.length ≤ 0) && ns.all nameB && (!(decide (5000 < tl))) && decide (f1 = 0))) := ⟨by rw [decide_eq_false hM]; simp⟩
    clear hL hM hM2
    go_enter Try.func25, Try.ntmps25
    go_wp2
    go_ret
    exact ⟨ret_bool HE.out, Below.refl _ _⟩
  have d2 : decide (0 < ((ns.length : Nat) : Int)) = false := decide_eq_false (by omega)
  have d3 : decide (0 < ns.length) = false := decide_eq_false (by omega)
  have HE : Aside0 ((ns.all nameB && (!(decide (5000 < tl))) && decide (f1 = 0)) = (decide (0 ≤ ns.length) && decide (ns.length ≤ 0) && ns.all nameB && (!(decide (5000 < tl))) && decide (f1 = 0))) := ⟨by rw [decide_eq_true hL, decide_eq_true hM]; simp⟩
  have HN := Aside0.mk hM
  clear hL hM
  go_enter Try.func25, Try.ntmps25
  go_wp2_with fail
  clear d1 d2 d3
  go_loopg [40, 6] ns.length (fun g v40 v6 wr => ∃ (j : Nat), v40 = .int .i64 (j : Int) ∧ Aside0 (j + g = ns.length) ∧ Aside0 ((ns.drop j).all nameB = ns.all nameB) ∧ Aside0 (Below w.heap.size w wr))
  case atStart => exact ⟨0, rfl, ⟨by omega⟩, ⟨by simp⟩, ⟨Below.refl _ _⟩⟩
  case round =>
    obtain ⟨j, rfl, hj, hi, HB⟩ := hrel
    by_cases hlt : j < ns.length
    · obtain ⟨ad, A0, c0, e, hx0, hl0, hr0⟩ := at_L1 HG.out (j : Int) (by omega) (by omega)
      cases e
      rw [Int.toNat_natCast, show rd_L1 ns (j : Int) = ns[j] by simp [rd_L1, List.getD_eq_getElem?_getD, hlt]] at hx0
      rw [show rd_L1 ns (j : Int) = ns[j] by simp [rd_L1, List.getD_eq_getElem?_getD, hlt]] at hr0
      have hx1 := (HB.out.cell (World.block_lt_of_cell? w _ hx0)).trans hx0
      obtain ⟨s, hs⟩ : ∃ x, x = ns[j] := ⟨_, rfl⟩
      rw [← hs] at hx1 hr0
      have HI : Aside0 ((nameB s && (ns.drop (j + 1)).all nameB) = ns.all nameB) := ⟨by have := hi.out; rw [List.drop_eq_getElem_cons hlt, ← hs, List.all_cons] at this; exact this⟩
      have HC := Aside0.mk (isName_calls A0 c0 s wr (Kd.C_below hr0 HB.out) (HM.out.below HB.out HM.out.pos))
      have p0 : (0 ≤ (j : Int)) = True := eq_true (by omega)
      have p1 : ((j : Int) < (ns.length : Int)) = True := eq_true (by omega)
      have hdl : decide ((j : Int) < (ns.length : Int)) = true := decide_eq_true (by omega)
      have hdn : decide (j < ns.length) = true := decide_eq_true hlt
      have HL := Aside0.mk hlt
      clear hi hx0 hl0 hr0 hs hlt
      cases hb : nameB s with
      | true =>
        have HI2 := HI.out
        rw [hb, Bool.true_and] at HI2
        have HJ := Aside0.mk HI2
        have HC2 := HC.out
        rw [hb] at HC2
        have HC3 := Aside0.mk HC2
        clear HI HI2 HC HC2 hb
        go_wp2_with (go_at_call 37; refine HC3.out.mono ?_; rintro e w1 ⟨rfl, hb1⟩; have HB1 := Aside0.mk (below_step HB.out hb1); clear hb1)
        go_roundg (ns.length - (j + 1))
        case measure => have := hj.out; have := HL.out; omega
        case rel => exact ⟨j + 1, i64_next HL.out (by have := HN.out; omega), ⟨by have := HL.out; omega⟩, HJ, HB1⟩
      | false =>
        have HI2 := HI.out
        rw [hb, Bool.false_and] at HI2
        have HE2 : Aside0 (false = (decide (0 ≤ ns.length) && decide (ns.length ≤ 0) && ns.all nameB && (!(decide (5000 < tl))) && decide (f1 = 0))) := ⟨by rw [← HE.out, ← HI2]; simp⟩
        have HC2 := HC.out
        rw [hb] at HC2
        have HC3 := Aside0.mk HC2
        clear HI HI2 HC HC2 hb
        go_wp2_with (go_at_call 37; refine HC3.out.mono ?_; rintro e w1 ⟨rfl, hb1⟩; have HB1 := Aside0.mk (below_step HB.out hb1); clear hb1)
        go_ret
        exact ⟨ret_bool HE2.out, HB1.out⟩
    · have e0 : (ns.drop j) = [] := List.drop_eq_nil_of_le (by omega)
      have hall : ns.all nameB = true := by rw [← hi.out, e0]; rfl
      have hE2 := HE.out
      obtain ⟨rr, hrr⟩ : ∃ x, x = (decide (0 ≤ ns.length) && decide (ns.length ≤ 0) && ns.all nameB && (!(decide (5000 < tl))) && decide (f1 = 0)) := ⟨_, rfl⟩
      rw [← hrr] at hE2
      have HRR := Aside0.mk hrr
      rw [hall, Bool.true_and] at hE2
      clear hrr
      have hdl : decide ((j : Int) < (ns.length : Int)) = false := decide_eq_false (by omega)
      have hdn : decide (j < ns.length) = false := decide_eq_false hlt
      have p0' := (HB.out.cell (World.block_lt_of_cell? w _ q0)).trans q0
      have p1' := (HB.out.cell (World.block_lt_of_cell? w _ q1)).trans q1
      have p2' := (HB.out.cell (World.block_lt_of_cell? w _ q2)).trans q2
      have t3 : decide (0 < ((tl : Nat) : Int)) = decide (0 < tl) := decide_eq_decide.2 (by omega)
      have t4 : decide (5000 < ((tl : Nat) : Int)) = decide (5000 < tl) := decide_eq_decide.2 (by omega)
      have t5 : (f1 == 0) = decide (f1 = 0) := rfl
      obtain ⟨z3, hz3⟩ : ∃ x, x = decide (0 < tl) := ⟨_, rfl⟩
      obtain ⟨z4, hz4⟩ : ∃ x, x = decide (5000 < tl) := ⟨_, rfl⟩
      obtain ⟨z5, hz5⟩ : ∃ x, x = decide (f1 = 0) := ⟨_, rfl⟩
      obtain ⟨z6, hz6⟩ : ∃ x, x = decide (0 ≤ f1) := ⟨_, rfl⟩
      obtain ⟨z7, hz7⟩ : ∃ x, x = decide (f1 ≤ 11) := ⟨_, rfl⟩
      have hz3' := hz3.symm
      have hz4' := hz4.symm
      have hz6' := hz6.symm
      have hz7' := hz7.symm
      rw [← hz3] at t3
      rw [← hz4] at t4
      rw [← hz5] at t5
      try rw [← hz3] at hE2
      try rw [← hz4] at hE2
      try rw [← hz5] at hE2
      try rw [← hz6] at hE2
      try rw [← hz7] at hE2
      have HE2 := Aside0.mk hE2
      clear e0 hi hlt hall hE2 hz3 hz4 hz5 hz6 hz7 HE
      cases z3 <;> cases z4 <;> cases z5 <;> cases z6 <;> cases z7 <;>
      · go_wp2
        go_ret
        exact ⟨ret_bool (HE2.out.trans HRR.out), HB.out⟩
set_option maxHeartbeats 8000000 in
set_option maxRecDepth 100000 in
theorem goodFields_14 (b : Nat) (h : NV) (w : World) (hm : MaxLenCell w) {v2 v3 : Value} {q : Value} (hb : w.heap[b]? = some (.cells #[.int .i64 h.f0, .int .i64 h.f1, v2, v3, .int .i64 h.f4, q] 70 (0, 0))) (hK : k34.K w h [.int .i64 h.f0, .int .i64 h.f1, v2, v3, .int .i64 h.f4]) (hk : h.f0 = 14) :
    Calls Try.prog 25 #[pv b] w fun e w' => e = .returned (.bool (decide (0 ≤ h.f3.length) && decide (h.f3.length ≤ 0) && h.f3.all nameB && (!(decide (0 < h.f2.length)) && !(decide (5000 < h.f2.length))) && true)) ∧ Below w.heap.size w w' := by
  obtain ⟨A2, c2, A3, c3, e, l2, g2, l3, g3⟩ := k34_open hK
  simp only [List.cons.injEq, and_true, true_and] at e
  obtain ⟨rfl, rfl⟩ := e
  have q0 : w.cell? ⟨b, 0, none⟩ = some (.int .i64 h.f0) := (blk_cell hb 0).trans rfl
  have q1 : w.cell? ⟨b, 1, none⟩ = some (.int .i64 h.f1) := (blk_cell hb 1).trans rfl
  have q2 : w.cell? ⟨b, 2, none⟩ = some (.slice A2 h.f2.length c2) := (blk_cell hb 2).trans rfl
  have q3 : w.cell? ⟨b, 3, none⟩ = some (.slice A3 h.f3.length c3) := (blk_cell hb 3).trans rfl
  rw [hk] at q0
  have HM := Aside0.mk hm
  have HG := Aside0.mk g3
  obtain ⟨f1, hf1⟩ : ∃ x, x = h.f1 := ⟨_, rfl⟩
  obtain ⟨ns, hns⟩ : ∃ x, x = h.f3 := ⟨_, rfl⟩
  obtain ⟨tl, htl⟩ : ∃ x, x = h.f2.length := ⟨_, rfl⟩
  rw [← hf1] at q1
  rw [← hns] at q3 HG
  rw [← htl] at q2
  (try rw [← hf1])
  rw [← hns, ← htl]
  clear g2 l2 l3 g3 hb hK hm hf1 hns htl hk
  have hL : 0 ≤ ns.length := Nat.zero_le _
  have d1 : decide (((ns.length : Nat) : Int) < 0) = false := decide_eq_false (by omega)
  rcases Nat.lt_or_ge 0 ns.length with hM2 | hM
  · have hM : ¬ ns.length ≤ 0 := by omega
    have d2 : decide (0 < ((ns.length : Nat) : Int)) = true := decide_eq_true (by omega)
    have d3 : decide (0 < ns.length) = true := decide_eq_true (by omega)
    have HE : Aside0 (false = (decide (0 ≤ ns.length) && decide (ns.length ≤ 0) && ns.all nameB && (!(decide (0 < tl)) && !(decide (5000 < tl))) && true)) := ⟨by rw [decide_eq_false hM]; simp⟩
    clear hL hM hM2
    go_enter Try.func25, Try.ntmps25
    go_wp2
    go_ret
    exact ⟨ret_bool HE.out, Below.refl _ _⟩
  have d2 : decide (0 < ((ns.length : Nat) : Int)) = false := decide_eq_false (by omega)
  have d3 : decide (0 < ns.length) = false := decide_eq_false (by omega)
  have HE : Aside0 ((ns.all nameB && (!(decide (0 < tl)) && !(decide (5000 < tl))) && true) = (decide (0 ≤ ns.length) && decide (ns.length ≤ 0) && ns.all nameB && (!(decide (0 < tl)) && !(decide (5000 < tl))) && true)) := ⟨by rw [decide_eq_true hL, decide_eq_true hM]; simp⟩
  have HN := Aside0.mk hM
  clear hL hM
  go_enter Try.func25, Try.ntmps25
  go_wp2_with fail
  clear d1 d2 d3
  go_loopg [40, 6] ns.length (fun g v40 v6 wr => ∃ (j : Nat), v40 = .int .i64 (j : Int) ∧ Aside0 (j + g = ns.length) ∧ Aside0 ((ns.drop j).all nameB = ns.all nameB) ∧ Aside0 (Below w.heap.size w wr))
  case atStart => exact ⟨0, rfl, ⟨by omega⟩, ⟨by simp⟩, ⟨Below.refl _ _⟩⟩
  case round =>
    obtain ⟨j, rfl, hj, hi, HB⟩ := hrel
    by_cases hlt : j < ns.length
    · obtain ⟨ad, A0, c0, e, hx0, hl0, hr0⟩ := at_L1 HG.out (j : Int) (by omega) (by omega)
      cases e
      rw [Int.toNat_natCast, show rd_L1 ns (j : Int) = ns[j] by simp [rd_L1, List.getD_eq_getElem?_getD, hlt]] at hx0
      rw [show rd_L1 ns (j : Int) = ns[j] by simp [rd_L1, List.getD_eq_getElem?_getD, hlt]] at hr0
      have hx1 := (HB.out.cell (World.block_lt_of_cell? w _ hx0)).trans hx0
      obtain ⟨s, hs⟩ : ∃ x, x = ns[j] := ⟨_, rfl⟩
      rw [← hs] at hx1 hr0
      have HI : Aside0 ((nameB s && (ns.drop (j + 1)).all nameB) = ns.all nameB) := ⟨by have := hi.out; rw [List.drop_eq_getElem_cons hlt, ← hs, List.all_cons] at this; exact this⟩
      have HC := Aside0.mk (isName_calls A0 c0 s wr (Kd.C_below hr0 HB.out) (HM.out.below HB.out HM.out.pos))
      have p0 : (0 ≤ (j : Int)) = True := eq_true (by omega)
      have p1 : ((j : Int) < (ns.length : Int)) = True := eq_true (by omega)
      have hdl : decide ((j : Int) < (ns.length : Int)) = true := decide_eq_true (by omega)
      have hdn : decide (j < ns.length) = true := decide_eq_true hlt
      have HL := Aside0.mk hlt
      clear hi hx0 hl0 hr0 hs hlt
      cases hb : nameB s with
      | true =>
        have HI2 := HI.out
        rw [hb, Bool.true_and] at HI2
        have HJ := Aside0.mk HI2
        have HC2 := HC.out
        rw [hb] at HC2
        have HC3 := Aside0.mk HC2
        clear HI HI2 HC HC2 hb
        go_wp2_with (go_at_call 37; refine HC3.out.mono ?_; rintro e w1 ⟨rfl, hb1⟩; have HB1 := Aside0.mk (below_step HB.out hb1); clear hb1)
        go_roundg (ns.length - (j + 1))
        case measure => have := hj.out; have := HL.out; omega
        case rel => exact ⟨j + 1, i64_next HL.out (by have := HN.out; omega), ⟨by have := HL.out; omega⟩, HJ, HB1⟩
      | false =>
        have HI2 := HI.out
        rw [hb, Bool.false_and] at HI2
        have HE2 : Aside0 (false = (decide (0 ≤ ns.length) && decide (ns.length ≤ 0) && ns.all nameB && (!(decide (0 < tl)) && !(decide (5000 < tl))) && true)) := ⟨by rw [← HE.out, ← HI2]; simp⟩
        have HC2 := HC.out
        rw [hb] at HC2
        have HC3 := Aside0.mk HC2
        clear HI HI2 HC HC2 hb
        go_wp2_with (go_at_call 37; refine HC3.out.mono ?_; rintro e w1 ⟨rfl, hb1⟩; have HB1 := Aside0.mk (below_step HB.out hb1); clear hb1)
        go_ret
        exact ⟨ret_bool HE2.out, HB1.out⟩
    · have e0 : (ns.drop j) = [] := List.drop_eq_nil_of_le (by omega)
      have hall : ns.all nameB = true := by rw [← hi.out, e0]; rfl
      have hE2 := HE.out
      obtain ⟨rr, hrr⟩ : ∃ x, x = (decide (0 ≤ ns.length) && decide (ns.length ≤ 0) && ns.all nameB && (!(decide (0 < tl)) && !(decide (5000 < tl))) && true) := ⟨_, rfl⟩
      rw [← hrr] at hE2
      have HRR := Aside0.mk hrr
      rw [hall, Bool.true_and] at hE2
      clear hrr
      have hdl : decide ((j : Int) < (ns.length : Int)) = false := decide_eq_false (by omega)
      have hdn : decide (j < ns.length) = false := decide_eq_false hlt
      have p0' := (HB.out.cell (World.block_lt_of_cell? w _ q0)).trans q0
      have p1' := (HB.out.cell (World.block_lt_of_cell? w _ q1)).trans q1
      have p2' := (HB.out.cell (World.block_lt_of_cell? w _ q2)).trans q2
      have t3 : decide (0 < ((tl : Nat) : Int)) = decide (0 < tl) := decide_eq_decide.2 (by omega)
      have t4 : decide (5000 < ((tl : Nat) : Int)) = decide (5000 < tl) := decide_eq_decide.2 (by omega)
      have t5 : (f1 == 0) = decide (f1 = 0) := rfl
      obtain ⟨z3, hz3⟩ : ∃ x, x = decide (0 < tl) := ⟨_, rfl⟩
      obtain ⟨z4, hz4⟩ : ∃ x, x = decide (5000 < tl) := ⟨_, rfl⟩
      obtain ⟨z5, hz5⟩ : ∃ x, x = decide (f1 = 0) := ⟨_, rfl⟩
      obtain ⟨z6, hz6⟩ : ∃ x, x = decide (0 ≤ f1) := ⟨_, rfl⟩
      obtain ⟨z7, hz7⟩ : ∃ x, x = decide (f1 ≤ 11) := ⟨_, rfl⟩
      have hz3' := hz3.symm
      have hz4' := hz4.symm
      have hz6' := hz6.symm
      have hz7' := hz7.symm
      rw [← hz3] at t3
      rw [← hz4] at t4
      rw [← hz5] at t5
      try rw [← hz3] at hE2
      try rw [← hz4] at hE2
      try rw [← hz5] at hE2
      try rw [← hz6] at hE2
      try rw [← hz7] at hE2
      have HE2 := Aside0.mk hE2
      clear e0 hi hlt hall hE2 hz3 hz4 hz5 hz6 hz7 HE
      cases z3 <;> cases z4 <;> cases z5 <;> cases z6 <;> cases z7 <;>
      · go_wp2
        go_ret
        exact ⟨ret_bool (HE2.out.trans HRR.out), HB.out⟩
set_option maxHeartbeats 8000000 in
set_option maxRecDepth 100000 in
theorem goodFields_2 (b : Nat) (h : NV) (w : World) (hm : MaxLenCell w) {v2 v3 : Value} {q : Value} (hb : w.heap[b]? = some (.cells #[.int .i64 h.f0, .int .i64 h.f1, v2, v3, .int .i64 h.f4, q] 70 (0, 0))) (hK : k34.K w h [.int .i64 h.f0, .int .i64 h.f1, v2, v3, .int .i64 h.f4]) (hk : h.f0 = 2) :
    Calls Try.prog 25 #[pv b] w fun e w' => e = .returned (.bool (decide (0 ≤ h.f3.length) && decide (h.f3.length ≤ 0) && h.f3.all nameB && (!(decide (0 < h.f2.length)) && !(decide (5000 < h.f2.length))) && true)) ∧ Below w.heap.size w w' := by
  obtain ⟨A2, c2, A3, c3, e, l2, g2, l3, g3⟩ := k34_open hK
  simp only [List.cons.injEq, and_true, true_and] at e
  obtain ⟨rfl, rfl⟩ := e
  have q0 : w.cell? ⟨b, 0, none⟩ = some (.int .i64 h.f0) := (blk_cell hb 0).trans rfl
  have q1 : w.cell? ⟨b, 1, none⟩ = some (.int .i64 h.f1) := (blk_cell hb 1).trans rfl
  have q2 : w.cell? ⟨b, 2, none⟩ = some (.slice A2 h.f2.length c2) := (blk_cell hb 2).trans rfl
  have q3 : w.cell? ⟨b, 3, none⟩ = some (.slice A3 h.f3.length c3) := (blk_cell hb 3).trans rfl
  rw [hk] at q0
  have HM := Aside0.mk hm
  have HG := Aside0.mk g3
  obtain ⟨f1, hf1⟩ : ∃ x, x = h.f1 := ⟨_, rfl⟩
  obtain ⟨ns, hns⟩ : ∃ x, x = h.f3 := ⟨_, rfl⟩
  obtain ⟨tl, htl⟩ : ∃ x, x = h.f2.length := ⟨_, rfl⟩
  rw [← hf1] at q1
  rw [← hns] at q3 HG
  rw [← htl] at q2
  (try rw [← hf1])
  rw [← hns, ← htl]
  clear g2 l2 l3 g3 hb hK hm hf1 hns htl hk
  have hL : 0 ≤ ns.length := Nat.zero_le _
  have d1 : decide (((ns.length : Nat) : Int) < 0) = false := decide_eq_false (by omega)
  rcases Nat.lt_or_ge 0 ns.length with hM2 | hM
  · have hM : ¬ ns.length ≤ 0 := by omega
    have d2 : decide (0 < ((ns.length : Nat) : Int)) = true := decide_eq_true (by omega)
    have d3 : decide (0 < ns.length) = true := decide_eq_true (by omega)
    have HE : Aside0 (false = (decide (0 ≤ ns.length) && decide (ns.length ≤ 0) && ns.all nameB && (!(decide (0 < tl)) && !(decide (5000 < tl))) && true)) := ⟨by rw [decide_eq_false hM]; simp⟩
    clear hL hM hM2
    go_enter Try.func25, Try.ntmps25
    go_wp2
    go_ret
    exact ⟨ret_bool HE.out, Below.refl _ _⟩
  have d2 : decide (0 < ((ns.length : Nat) : Int)) = false := decide_eq_false (by omega)
  have d3 : decide (0 < ns.length) = false := decide_eq_false (by omega)
  have HE : Aside0 ((ns.all nameB && (!(decide (0 < tl)) && !(decide (5000 < tl))) && true) = (decide (0 ≤ ns.length) && decide (ns.length ≤ 0) && ns.all nameB && (!(decide (0 < tl)) && !(decide (5000 < tl))) && true)) := ⟨by rw [decide_eq_true hL, decide_eq_true hM]; simp⟩
  have HN := Aside0.mk hM
  clear hL hM
  go_enter Try.func25, Try.ntmps25
  go_wp2_with fail
  clear d1 d2 d3
  go_loopg [40, 6] ns.length (fun g v40 v6 wr => ∃ (j : Nat), v40 = .int .i64 (j : Int) ∧ Aside0 (j + g = ns.length) ∧ Aside0 ((ns.drop j).all nameB = ns.all nameB) ∧ Aside0 (Below w.heap.size w wr))
  case atStart => exact ⟨0, rfl, ⟨by omega⟩, ⟨by simp⟩, ⟨Below.refl _ _⟩⟩
  case round =>
    obtain ⟨j, rfl, hj, hi, HB⟩ := hrel
    by_cases hlt : j < ns.length
    · obtain ⟨ad, A0, c0, e, hx0, hl0, hr0⟩ := at_L1 HG.out (j : Int) (by omega) (by omega)
      cases e
      rw [Int.toNat_natCast, show rd_L1 ns (j : Int) = ns[j] by simp [rd_L1, List.getD_eq_getElem?_getD, hlt]] at hx0
      rw [show rd_L1 ns (j : Int) = ns[j] by simp [rd_L1, List.getD_eq_getElem?_getD, hlt]] at hr0
      have hx1 := (HB.out.cell (World.block_lt_of_cell? w _ hx0)).trans hx0
      obtain ⟨s, hs⟩ : ∃ x, x = ns[j] := ⟨_, rfl⟩
      rw [← hs] at hx1 hr0
      have HI : Aside0 ((nameB s && (ns.drop (j + 1)).all nameB) = ns.all nameB) := ⟨by have := hi.out; rw [List.drop_eq_getElem_cons hlt, ← hs, List.all_cons] at this; exact this⟩
      have HC := Aside0.mk (isName_calls A0 c0 s wr (Kd.C_below hr0 HB.out) (HM.out.below HB.out HM.out.pos))
      have p0 : (0 ≤ (j : Int)) = True := eq_true (by omega)
      have p1 : ((j : Int) < (ns.length : Int)) = True := eq_true (by omega)
      have hdl : decide ((j : Int) < (ns.length : Int)) = true := decide_eq_true (by omega)
      have hdn : decide (j < ns.length) = true := decide_eq_true hlt
      have HL := Aside0.mk hlt
      clear hi hx0 hl0 hr0 hs hlt
      cases hb : nameB s with
      | true =>
        have HI2 := HI.out
        rw [hb, Bool.true_and] at HI2
        have HJ := Aside0.mk HI2
        have HC2 := HC.out
        rw [hb] at HC2
        have HC3 := Aside0.mk HC2
        clear HI HI2 HC HC2 hb
        go_wp2_with (go_at_call 37; refine HC3.out.mono ?_; rintro e w1 ⟨rfl, hb1⟩; have HB1 := Aside0.mk (below_step HB.out hb1); clear hb1)
        go_roundg (ns.length - (j + 1))
        case measure => have := hj.out; have := HL.out; omega
        case rel => exact ⟨j + 1, i64_next HL.out (by have := HN.out; omega), ⟨by have := HL.out; omega⟩, HJ, HB1⟩
      | false =>
        have HI2 := HI.out
        rw [hb, Bool.false_and] at HI2
        have HE2 : Aside0 (false = (decide (0 ≤ ns.length) && decide (ns.length ≤ 0) && ns.all nameB && (!(decide (0 < tl)) && !(decide (5000 < tl))) && true)) := ⟨by rw [← HE.out, ← HI2]; simp⟩
        have HC2 := HC.out
        rw [hb] at HC2
        have HC3 := Aside0.mk HC2
        clear HI HI2 HC HC2 hb
        go_wp2_with (go_at_call 37; refine HC3.out.mono ?_; rintro e w1 ⟨rfl, hb1⟩; have HB1 := Aside0.mk (below_step HB.out hb1); clear hb1)
        go_ret
        exact ⟨ret_bool HE2.out, HB1.out⟩
    · have e0 : (ns.drop j) = [] := List.drop_eq_nil_of_le (by omega)
      have hall : ns.all nameB = true := by rw [← hi.out, e0]; rfl
      have hE2 := HE.out
      obtain ⟨rr, hrr⟩ : ∃ x, x = (decide (0 ≤ ns.length) && decide (ns.length ≤ 0) && ns.all nameB && (!(decide (0 < tl)) && !(decide (5000 < tl))) && true) := ⟨_, rfl⟩
      rw [← hrr] at hE2
      have HRR := Aside0.mk hrr
      rw [hall, Bool.true_and] at hE2
      clear hrr
      have hdl : decide ((j : Int) < (ns.length : Int)) = false := decide_eq_false (by omega)
      have hdn : decide (j < ns.length) = false := decide_eq_false hlt
      have p0' := (HB.out.cell (World.block_lt_of_cell? w _ q0)).trans q0
      have p1' := (HB.out.cell (World.block_lt_of_cell? w _ q1)).trans q1
      have p2' := (HB.out.cell (World.block_lt_of_cell? w _ q2)).trans q2
      have t3 : decide (0 < ((tl : Nat) : Int)) = decide (0 < tl) := decide_eq_decide.2 (by omega)
      have t4 : decide (5000 < ((tl : Nat) : Int)) = decide (5000 < tl) := decide_eq_decide.2 (by omega)
      have t5 : (f1 == 0) = decide (f1 = 0) := rfl
      obtain ⟨z3, hz3⟩ : ∃ x, x = decide (0 < tl) := ⟨_, rfl⟩
      obtain ⟨z4, hz4⟩ : ∃ x, x = decide (5000 < tl) := ⟨_, rfl⟩
      obtain ⟨z5, hz5⟩ : ∃ x, x = decide (f1 = 0) := ⟨_, rfl⟩
      obtain ⟨z6, hz6⟩ : ∃ x, x = decide (0 ≤ f1) := ⟨_, rfl⟩
      obtain ⟨z7, hz7⟩ : ∃ x, x = decide (f1 ≤ 11) := ⟨_, rfl⟩
      have hz3' := hz3.symm
      have hz4' := hz4.symm
      have hz6' := hz6.symm
      have hz7' := hz7.symm
      rw [← hz3] at t3
      rw [← hz4] at t4
      rw [← hz5] at t5
      try rw [← hz3] at hE2
      try rw [← hz4] at hE2
      try rw [← hz5] at hE2
      try rw [← hz6] at hE2
      try rw [← hz7] at hE2
      have HE2 := Aside0.mk hE2
      clear e0 hi hlt hall hE2 hz3 hz4 hz5 hz6 hz7 HE
      cases z3 <;> cases z4 <;> cases z5 <;> cases z6 <;> cases z7 <;>
      · go_wp2
        go_ret
        exact ⟨ret_bool (HE2.out.trans HRR.out), HB.out⟩
set_option maxHeartbeats 8000000 in
set_option maxRecDepth 100000 in
theorem goodFields_21 (b : Nat) (h : NV) (w : World) (hm : MaxLenCell w) {v2 v3 : Value} {q : Value} (hb : w.heap[b]? = some (.cells #[.int .i64 h.f0, .int .i64 h.f1, v2, v3, .int .i64 h.f4, q] 70 (0, 0))) (hK : k34.K w h [.int .i64 h.f0, .int .i64 h.f1, v2, v3, .int .i64 h.f4]) (hk : h.f0 = 21) :
    Calls Try.prog 25 #[pv b] w fun e w' => e = .returned (.bool (decide (0 ≤ h.f3.length) && decide (h.f3.length ≤ 0) && h.f3.all nameB && (!(decide (0 < h.f2.length)) && !(decide (5000 < h.f2.length))) && (decide (0 ≤ h.f1) && decide (h.f1 ≤ 11)))) ∧ Below w.heap.size w w' := by
  obtain ⟨A2, c2, A3, c3, e, l2, g2, l3, g3⟩ := k34_open hK
  simp only [List.cons.injEq, and_true, true_and] at e
  obtain ⟨rfl, rfl⟩ := e
  have q0 : w.cell? ⟨b, 0, none⟩ = some (.int .i64 h.f0) := (blk_cell hb 0).trans rfl
  have q1 : w.cell? ⟨b, 1, none⟩ = some (.int .i64 h.f1) := (blk_cell hb 1).trans rfl
  have q2 : w.cell? ⟨b, 2, none⟩ = some (.slice A2 h.f2.length c2) := (blk_cell hb 2).trans rfl
  have q3 : w.cell? ⟨b, 3, none⟩ = some (.slice A3 h.f3.length c3) := (blk_cell hb 3).trans rfl
  rw [hk] at q0
  have HM := Aside0.mk hm
  have HG := Aside0.mk g3
  obtain ⟨f1, hf1⟩ : ∃ x, x = h.f1 := ⟨_, rfl⟩
  obtain ⟨ns, hns⟩ : ∃ x, x = h.f3 := ⟨_, rfl⟩
  obtain ⟨tl, htl⟩ : ∃ x, x = h.f2.length := ⟨_, rfl⟩
  rw [← hf1] at q1
  rw [← hns] at q3 HG
  rw [← htl] at q2
  (try rw [← hf1])
  rw [← hns, ← htl]
  clear g2 l2 l3 g3 hb hK hm hf1 hns htl hk
  have hL : 0 ≤ ns.length := Nat.zero_le _
  have d1 : decide (((ns.length : Nat) : Int) < 0) = false := decide_eq_false (by omega)
  rcases Nat.lt_or_ge 0 ns.length with hM2 | hM
  · have hM : ¬ ns.length ≤ 0 := by omega
    have d2 : decide (0 < ((ns.length : Nat) : Int)) = true := decide_eq_true (by omega)
    have d3 : decide (0 < ns.length) = true := decide_eq_true (by omega)
    have HE : Aside0 (false = (decide (0 ≤ ns.length) && decide (ns.length ≤ 0) && ns.all nameB && (!(decide (0 < tl)) && !(decide (5000 < tl))) && (decide (0 ≤ f1) && decide (f1 ≤ 11)))) := ⟨by rw [decide_eq_false hM]; simp⟩
    clear hL hM hM2
    go_enter Try.func25, Try.ntmps25
    go_wp2
    go_ret
    exact ⟨ret_bool HE.out, Below.refl _ _⟩
  have d2 : decide (0 < ((ns.length : Nat) : Int)) = false := decide_eq_false (by omega)
  have d3 : decide (0 < ns.length) = false := decide_eq_false (by omega)
  have HE : Aside0 ((ns.all nameB && (!(decide (0 < tl)) && !(decide (5000 < tl))) && (decide (0 ≤ f1) && decide (f1 ≤ 11))) = (decide (0 ≤ ns.length) && decide (ns.length ≤ 0) && ns.all nameB && (!(decide (0 < tl)) && !(decide (5000 < tl))) && (decide (0 ≤ f1) && decide (f1 ≤ 11)))) := ⟨by rw [decide_eq_true hL, decide_eq_true hM]; simp⟩
  have HN := Aside0.mk hM
  clear hL hM
  go_enter Try.func25, Try.ntmps25
  go_wp2_with fail
  clear d1 d2 d3
  go_loopg [40, 6] ns.length (fun g v40 v6 wr => ∃ (j : Nat), v40 = .int .i64 (j : Int) ∧ Aside0 (j + g = ns.length) ∧ Aside0 ((ns.drop j).all nameB = ns.all nameB) ∧ Aside0 (Below w.heap.size w wr))
  case atStart => exact ⟨0, rfl, ⟨by omega⟩, ⟨by simp⟩, ⟨Below.refl _ _⟩⟩
  case round =>
    obtain ⟨j, rfl, hj, hi, HB⟩ := hrel
    by_cases hlt : j < ns.length
    · obtain ⟨ad, A0, c0, e, hx0, hl0, hr0⟩ := at_L1 HG.out (j : Int) (by omega) (by omega)
      cases e
      rw [Int.toNat_natCast, show rd_L1 ns (j : Int) = ns[j] by simp [rd_L1, List.getD_eq_getElem?_getD, hlt]] at hx0
      rw [show rd_L1 ns (j : Int) = ns[j] by simp [rd_L1, List.getD_eq_getElem?_getD, hlt]] at hr0
      have hx1 := (HB.out.cell (World.block_lt_of_cell? w _ hx0)).trans hx0
      obtain ⟨s, hs⟩ : ∃ x, x = ns[j] := ⟨_, rfl⟩
      rw [← hs] at hx1 hr0
      have HI : Aside0 ((nameB s && (ns.drop (j + 1)).all nameB) = ns.all nameB) := ⟨by have := hi.out; rw [List.drop_eq_getElem_cons hlt, ← hs, List.all_cons] at this; exact this⟩
      have HC := Aside0.mk (isName_calls A0 c0 s wr (Kd.C_below hr0 HB.out) (HM.out.below HB.out HM.out.pos))
      have p0 : (0 ≤ (j : Int)) = True := eq_true (by omega)
      have p1 : ((j : Int) < (ns.length : Int)) = True := eq_true (by omega)
      have hdl : decide ((j : Int) < (ns.length : Int)) = true := decide_eq_true (by omega)
      have hdn : decide (j < ns.length) = true := decide_eq_true hlt
      have HL := Aside0.mk hlt
      clear hi hx0 hl0 hr0 hs hlt
      cases hb : nameB s with
      | true =>
        have HI2 := HI.out
        rw [hb, Bool.true_and] at HI2
        have HJ := Aside0.mk HI2
        have HC2 := HC.out
        rw [hb] at HC2
        have HC3 := Aside0.mk HC2
        clear HI HI2 HC HC2 hb
        go_wp2_with (go_at_call 37; refine HC3.out.mono ?_; rintro e w1 ⟨rfl, hb1⟩; have HB1 := Aside0.mk (below_step HB.out hb1); clear hb1)
        go_roundg (ns.length - (j + 1))
        case measure => have := hj.out; have := HL.out; omega
        case rel => exact ⟨j + 1, i64_next HL.out (by have := HN.out; omega), ⟨by have := HL.out; omega⟩, HJ, HB1⟩
      | false =>
        have HI2 := HI.out
        rw [hb, Bool.false_and] at HI2
        have HE2 : Aside0 (false = (decide (0 ≤ ns.length) && decide (ns.length ≤ 0) && ns.all nameB && (!(decide (0 < tl)) && !(decide (5000 < tl))) && (decide (0 ≤ f1) && decide (f1 ≤ 11)))) := ⟨by rw [← HE.out, ← HI2]; simp⟩
        have HC2 := HC.out
        rw [hb] at HC2
        have HC3 := Aside0.mk HC2
        clear HI HI2 HC HC2 hb
        go_wp2_with (go_at_call 37; refine HC3.out.mono ?_; rintro e w1 ⟨rfl, hb1⟩; have HB1 := Aside0.mk (below_step HB.out hb1); clear hb1)
        go_ret
        exact ⟨ret_bool HE2.out, HB1.out⟩
    · have e0 : (ns.drop j) = [] := List.drop_eq_nil_of_le (by omega)
      have hall : ns.all nameB = true := by rw [← hi.out, e0]; rfl
      have hE2 := HE.out
      obtain ⟨rr, hrr⟩ : ∃ x, x = (decide (0 ≤ ns.length) && decide (ns.length ≤ 0) && ns.all nameB && (!(decide (0 < tl)) && !(decide (5000 < tl))) && (decide (0 ≤ f1) && decide (f1 ≤ 11))) := ⟨_, rfl⟩
      rw [← hrr] at hE2
      have HRR := Aside0.mk hrr
      rw [hall, Bool.true_and] at hE2
      clear hrr
      have hdl : decide ((j : Int) < (ns.length : Int)) = false := decide_eq_false (by omega)
      have hdn : decide (j < ns.length) = false := decide_eq_false hlt
      have p0' := (HB.out.cell (World.block_lt_of_cell? w _ q0)).trans q0
      have p1' := (HB.out.cell (World.block_lt_of_cell? w _ q1)).trans q1
      have p2' := (HB.out.cell (World.block_lt_of_cell? w _ q2)).trans q2
      have t3 : decide (0 < ((tl : Nat) : Int)) = decide (0 < tl) := decide_eq_decide.2 (by omega)
      have t4 : decide (5000 < ((tl : Nat) : Int)) = decide (5000 < tl) := decide_eq_decide.2 (by omega)
      have t5 : (f1 == 0) = decide (f1 = 0) := rfl
      obtain ⟨z3, hz3⟩ : ∃ x, x = decide (0 < tl) := ⟨_, rfl⟩
      obtain ⟨z4, hz4⟩ : ∃ x, x = decide (5000 < tl) := ⟨_, rfl⟩
      obtain ⟨z5, hz5⟩ : ∃ x, x = decide (f1 = 0) := ⟨_, rfl⟩
      obtain ⟨z6, hz6⟩ : ∃ x, x = decide (0 ≤ f1) := ⟨_, rfl⟩
      obtain ⟨z7, hz7⟩ : ∃ x, x = decide (f1 ≤ 11) := ⟨_, rfl⟩
      have hz3' := hz3.symm
      have hz4' := hz4.symm
      have hz6' := hz6.symm
      have hz7' := hz7.symm
      rw [← hz3] at t3
      rw [← hz4] at t4
      rw [← hz5] at t5
      try rw [← hz3] at hE2
      try rw [← hz4] at hE2
      try rw [← hz5] at hE2
      try rw [← hz6] at hE2
      try rw [← hz7] at hE2
      have HE2 := Aside0.mk hE2
      clear e0 hi hlt hall hE2 hz3 hz4 hz5 hz6 hz7 HE
      cases z3 <;> cases z4 <;> cases z5 <;> cases z6 <;> cases z7 <;>
      · go_wp2
        go_ret
        exact ⟨ret_bool (HE2.out.trans HRR.out), HB.out⟩
set_option maxHeartbeats 8000000 in
set_option maxRecDepth 100000 in
theorem goodFields_z (b : Nat) (h : NV) (w : World) (hm : MaxLenCell w) {v2 v3 : Value} {q : Value} (hb : w.heap[b]? = some (.cells #[.int .i64 h.f0, .int .i64 h.f1, v2, v3, .int .i64 h.f4, q] 70 (0, 0))) (hK : k34.K w h [.int .i64 h.f0, .int .i64 h.f1, v2, v3, .int .i64 h.f4]) (hk1 : (h.f0 == 1) = false) (hk26 : (h.f0 == 26) = false) (hk7 : (h.f0 == 7) = false) (hk16 : (h.f0 == 16) = false) (hk19 : (h.f0 == 19) = false) (hk15 : (h.f0 == 15) = false) (hk14 : (h.f0 == 14) = false) (hk2 : (h.f0 == 2) = false) (hk21 : (h.f0 == 21) = false) :
    Calls Try.prog 25 #[pv b] w fun e w' => e = .returned (.bool (decide (0 ≤ h.f3.length) && decide (h.f3.length ≤ 0) && h.f3.all nameB && (!(decide (0 < h.f2.length)) && !(decide (5000 < h.f2.length))) && decide (h.f1 = 0))) ∧ Below w.heap.size w w' := by
  obtain ⟨A2, c2, A3, c3, e, l2, g2, l3, g3⟩ := k34_open hK
  simp only [List.cons.injEq, and_true, true_and] at e
  obtain ⟨rfl, rfl⟩ := e
  have q0 : w.cell? ⟨b, 0, none⟩ = some (.int .i64 h.f0) := (blk_cell hb 0).trans rfl
  have q1 : w.cell? ⟨b, 1, none⟩ = some (.int .i64 h.f1) := (blk_cell hb 1).trans rfl
  have q2 : w.cell? ⟨b, 2, none⟩ = some (.slice A2 h.f2.length c2) := (blk_cell hb 2).trans rfl
  have q3 : w.cell? ⟨b, 3, none⟩ = some (.slice A3 h.f3.length c3) := (blk_cell hb 3).trans rfl
  obtain ⟨f0, hf0⟩ : ∃ x, x = h.f0 := ⟨_, rfl⟩
  rw [← hf0] at q0 hk1 hk26 hk7 hk16 hk19 hk15 hk14 hk2 hk21
  have hk15n : (f0 != 15) = true := by unfold bne; rw [hk15]; rfl
  have HM := Aside0.mk hm
  have HG := Aside0.mk g3
  obtain ⟨f1, hf1⟩ : ∃ x, x = h.f1 := ⟨_, rfl⟩
  obtain ⟨ns, hns⟩ : ∃ x, x = h.f3 := ⟨_, rfl⟩
  obtain ⟨tl, htl⟩ : ∃ x, x = h.f2.length := ⟨_, rfl⟩
  rw [← hf1] at q1
  rw [← hns] at q3 HG
  rw [← htl] at q2
  (try rw [← hf1])
  rw [← hns, ← htl]
  clear g2 l2 l3 g3 hb hK hm hf1 hns htl hf0
  have hL : 0 ≤ ns.length := Nat.zero_le _
  have d1 : decide (((ns.length : Nat) : Int) < 0) = false := decide_eq_false (by omega)
  rcases Nat.lt_or_ge 0 ns.length with hM2 | hM
  · have hM : ¬ ns.length ≤ 0 := by omega
    have d2 : decide (0 < ((ns.length : Nat) : Int)) = true := decide_eq_true (by omega)
    have d3 : decide (0 < ns.length) = true := decide_eq_true (by omega)
    have HE : Aside0 (false = (decide (0 ≤ ns.length) && decide (ns.length ≤ 0) && ns.all nameB && (!(decide (0 < tl)) && !(decide (5000 < tl))) && decide (f1 = 0))) := ⟨by rw [decide_eq_false hM]; simp⟩
    clear hL hM hM2
    go_enter Try.func25, Try.ntmps25
    go_wp2
    go_ret
    exact ⟨ret_bool HE.out, Below.refl _ _⟩
  have d2 : decide (0 < ((ns.length : Nat) : Int)) = false := decide_eq_false (by omega)
  have d3 : decide (0 < ns.length) = false := decide_eq_false (by omega)
  have HE : Aside0 ((ns.all nameB && (!(decide (0 < tl)) && !(decide (5000 < tl))) && decide (f1 = 0)) = (decide (0 ≤ ns.length) && decide (ns.length ≤ 0) && ns.all nameB && (!(decide (0 < tl)) && !(decide (5000 < tl))) && decide (f1 = 0))) := ⟨by rw [decide_eq_true hL, decide_eq_true hM]; simp⟩
  have HN := Aside0.mk hM
  clear hL hM
  go_enter Try.func25, Try.ntmps25
  go_wp2_with fail
  clear d1 d2 d3
  go_loopg [40, 6] ns.length (fun g v40 v6 wr => ∃ (j : Nat), v40 = .int .i64 (j : Int) ∧ Aside0 (j + g = ns.length) ∧ Aside0 ((ns.drop j).all nameB = ns.all nameB) ∧ Aside0 (Below w.heap.size w wr))
  case atStart => exact ⟨0, rfl, ⟨by omega⟩, ⟨by simp⟩, ⟨Below.refl _ _⟩⟩
  case round =>
    obtain ⟨j, rfl, hj, hi, HB⟩ := hrel
    by_cases hlt : j < ns.length
    · obtain ⟨ad, A0, c0, e, hx0, hl0, hr0⟩ := at_L1 HG.out (j : Int) (by omega) (by omega)
      cases e
      rw [Int.toNat_natCast, show rd_L1 ns (j : Int) = ns[j] by simp [rd_L1, List.getD_eq_getElem?_getD, hlt]] at hx0
      rw [show rd_L1 ns (j : Int) = ns[j] by simp [rd_L1, List.getD_eq_getElem?_getD, hlt]] at hr0
      have hx1 := (HB.out.cell (World.block_lt_of_cell? w _ hx0)).trans hx0
      obtain ⟨s, hs⟩ : ∃ x, x = ns[j] := ⟨_, rfl⟩
      rw [← hs] at hx1 hr0
      have HI : Aside0 ((nameB s && (ns.drop (j + 1)).all nameB) = ns.all nameB) := ⟨by have := hi.out; rw [List.drop_eq_getElem_cons hlt, ← hs, List.all_cons] at this; exact this⟩
      have HC := Aside0.mk (isName_calls A0 c0 s wr (Kd.C_below hr0 HB.out) (HM.out.below HB.out HM.out.pos))
      have p0 : (0 ≤ (j : Int)) = True := eq_true (by omega)
      have p1 : ((j : Int) < (ns.length : Int)) = True := eq_true (by omega)
      have hdl : decide ((j : Int) < (ns.length : Int)) = true := decide_eq_true (by omega)
      have hdn : decide (j < ns.length) = true := decide_eq_true hlt
      have HL := Aside0.mk hlt
      clear hi hx0 hl0 hr0 hs hlt
      cases hb : nameB s with
      | true =>
        have HI2 := HI.out
        rw [hb, Bool.true_and] at HI2
        have HJ := Aside0.mk HI2
        have HC2 := HC.out
        rw [hb] at HC2
        have HC3 := Aside0.mk HC2
        clear HI HI2 HC HC2 hb
        go_wp2_with (go_at_call 37; refine HC3.out.mono ?_; rintro e w1 ⟨rfl, hb1⟩; have HB1 := Aside0.mk (below_step HB.out hb1); clear hb1)
        go_roundg (ns.length - (j + 1))
        case measure => have := hj.out; have := HL.out; omega
        case rel => exact ⟨j + 1, i64_next HL.out (by have := HN.out; omega), ⟨by have := HL.out; omega⟩, HJ, HB1⟩
      | false =>
        have HI2 := HI.out
        rw [hb, Bool.false_and] at HI2
        have HE2 : Aside0 (false = (decide (0 ≤ ns.length) && decide (ns.length ≤ 0) && ns.all nameB && (!(decide (0 < tl)) && !(decide (5000 < tl))) && decide (f1 = 0))) := ⟨by rw [← HE.out, ← HI2]; simp⟩
        have HC2 := HC.out
        rw [hb] at HC2
        have HC3 := Aside0.mk HC2
        clear HI HI2 HC HC2 hb
        go_wp2_with (go_at_call 37; refine HC3.out.mono ?_; rintro e w1 ⟨rfl, hb1⟩; have HB1 := Aside0.mk (below_step HB.out hb1); clear hb1)
        go_ret
        exact ⟨ret_bool HE2.out, HB1.out⟩
    · have e0 : (ns.drop j) = [] := List.drop_eq_nil_of_le (by omega)
      have hall : ns.all nameB = true := by rw [← hi.out, e0]; rfl
      have hE2 := HE.out
      obtain ⟨rr, hrr⟩ : ∃ x, x = (decide (0 ≤ ns.length) && decide (ns.length ≤ 0) && ns.all nameB && (!(decide (0 < tl)) && !(decide (5000 < tl))) && decide (f1 = 0)) := ⟨_, rfl⟩
      rw [← hrr] at hE2
      have HRR := Aside0.mk hrr
      rw [hall, Bool.true_and] at hE2
      clear hrr
      have hdl : decide ((j : Int) < (ns.length : Int)) = false := decide_eq_false (by omega)
      have hdn : decide (j < ns.length) = false := decide_eq_false hlt
      have p0' := (HB.out.cell (World.block_lt_of_cell? w _ q0)).trans q0
      have p1' := (HB.out.cell (World.block_lt_of_cell? w _ q1)).trans q1
      have p2' := (HB.out.cell (World.block_lt_of_cell? w _ q2)).trans q2
      have t3 : decide (0 < ((tl : Nat) : Int)) = decide (0 < tl) := decide_eq_decide.2 (by omega)
      have t4 : decide (5000 < ((tl : Nat) : Int)) = decide (5000 < tl) := decide_eq_decide.2 (by omega)
      have t5 : (f1 == 0) = decide (f1 = 0) := rfl
      obtain ⟨z3, hz3⟩ : ∃ x, x = decide (0 < tl) := ⟨_, rfl⟩
      obtain ⟨z4, hz4⟩ : ∃ x, x = decide (5000 < tl) := ⟨_, rfl⟩
      obtain ⟨z5, hz5⟩ : ∃ x, x = decide (f1 = 0) := ⟨_, rfl⟩
      obtain ⟨z6, hz6⟩ : ∃ x, x = decide (0 ≤ f1) := ⟨_, rfl⟩
      obtain ⟨z7, hz7⟩ : ∃ x, x = decide (f1 ≤ 11) := ⟨_, rfl⟩
      have hz3' := hz3.symm
      have hz4' := hz4.symm
      have hz6' := hz6.symm
      have hz7' := hz7.symm
      rw [← hz3] at t3
      rw [← hz4] at t4
      rw [← hz5] at t5
      try rw [← hz3] at hE2
      try rw [← hz4] at hE2
      try rw [← hz5] at hE2
      try rw [← hz6] at hE2
      try rw [← hz7] at hE2
      have HE2 := Aside0.mk hE2
      clear e0 hi hlt hall hE2 hz3 hz4 hz5 hz6 hz7 HE
      cases z3 <;> cases z4 <;> cases z5 <;> cases z6 <;> cases z7 <;>
      · go_wp2
        go_ret
        exact ⟨ret_bool (HE2.out.trans HRR.out), HB.out⟩
def leastB (f0 : Int) : Nat := if f0 = 1 ∨ f0 = 26 ∨ f0 = 7 ∨ f0 = 16 then 1 else 0
def mostB (f0 : Int) : Nat := if f0 = 1 ∨ f0 = 19 then 50 else if f0 = 26 ∨ f0 = 7 ∨ f0 = 16 then 1 else 0
def numB (f0 f1 : Int) : Bool := if f0 = 14 ∨ f0 = 2 then true else if f0 = 21 then decide (0 ≤ f1) && decide (f1 ≤ 11) else decide (f1 = 0)
def fieldsB (h : NV) : Bool := decide (leastB h.f0 ≤ h.f3.length) && decide (h.f3.length ≤ mostB h.f0) && h.f3.all nameB && (!(decide (h.f0 ≠ 15) && decide (0 < h.f2.length)) && !(decide (5000 < h.f2.length))) && numB h.f0 h.f1
theorem goodFields_calls (b : Nat) (h : NV) (w : World) (hm : MaxLenCell w) {v2 v3 : Value} {q : Value} (hb : w.heap[b]? = some (.cells #[.int .i64 h.f0, .int .i64 h.f1, v2, v3, .int .i64 h.f4, q] 70 (0, 0))) (hK : k34.K w h [.int .i64 h.f0, .int .i64 h.f1, v2, v3, .int .i64 h.f4]) :
    Calls Try.prog 25 #[pv b] w fun e w' => e = .returned (.bool (fieldsB h)) ∧ Below w.heap.size w w' := by
  by_cases c1 : h.f0 = 1
  · rw [show fieldsB h = _ by unfold fieldsB leastB mostB numB; rw [c1]; try rfl]; exact goodFields_1 b h w hm hb hK c1
  by_cases c26 : h.f0 = 26
  · rw [show fieldsB h = _ by unfold fieldsB leastB mostB numB; rw [c26]; try rfl]; exact goodFields_26 b h w hm hb hK c26
  by_cases c7 : h.f0 = 7
  · rw [show fieldsB h = _ by unfold fieldsB leastB mostB numB; rw [c7]; try rfl]; exact goodFields_7 b h w hm hb hK c7
  by_cases c16 : h.f0 = 16
  · rw [show fieldsB h = _ by unfold fieldsB leastB mostB numB; rw [c16]; try rfl]; exact goodFields_16 b h w hm hb hK c16
  by_cases c19 : h.f0 = 19
  · rw [show fieldsB h = _ by unfold fieldsB leastB mostB numB; rw [c19]; try rfl]; exact goodFields_19 b h w hm hb hK c19
  by_cases c15 : h.f0 = 15
  · rw [show fieldsB h = _ by unfold fieldsB leastB mostB numB; rw [c15]; try rfl]; exact goodFields_15 b h w hm hb hK c15
  by_cases c14 : h.f0 = 14
  · rw [show fieldsB h = _ by unfold fieldsB leastB mostB numB; rw [c14]; try rfl]; exact goodFields_14 b h w hm hb hK c14
  by_cases c2 : h.f0 = 2
  · rw [show fieldsB h = _ by unfold fieldsB leastB mostB numB; rw [c2]; try rfl]; exact goodFields_2 b h w hm hb hK c2
  by_cases c21 : h.f0 = 21
  · rw [show fieldsB h = _ by unfold fieldsB leastB mostB numB; rw [c21]; try rfl]; exact goodFields_21 b h w hm hb hK c21
  have e : fieldsB h = (decide (0 ≤ h.f3.length) && decide (h.f3.length ≤ 0) && h.f3.all nameB && (!(decide (0 < h.f2.length)) && !(decide (5000 < h.f2.length))) && decide (h.f1 = 0)) := by
    unfold fieldsB leastB mostB numB
    rw [if_neg (by omega), if_neg (by omega), if_neg (by omega), if_neg (by omega), if_neg (by omega), decide_eq_true c15, Bool.true_and]
  rw [e]
  exact goodFields_z b h w hm hb hK (beq_eq_false_iff_ne.mpr c1) (beq_eq_false_iff_ne.mpr c26) (beq_eq_false_iff_ne.mpr c7) (beq_eq_false_iff_ne.mpr c16) (beq_eq_false_iff_ne.mpr c19) (beq_eq_false_iff_ne.mpr c15) (beq_eq_false_iff_ne.mpr c14) (beq_eq_false_iff_ne.mpr c2) (beq_eq_false_iff_ne.mpr c21)
end Go.Proofs.Ytogffkekgfkhkaa.C
