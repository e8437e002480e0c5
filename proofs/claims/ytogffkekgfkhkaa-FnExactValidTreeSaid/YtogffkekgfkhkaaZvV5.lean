/- impl.goodBreaks. -/
import Derived.Test.YtogffkekgfkhkaaZvV1
import Derived.Test.YtogffkekgfkhkaaZvK
namespace Go.Proofs.Ytogffkekgfkhkaa.C
open Go.RowKit Go.Proofs.YtogffkekgfkhkaaW.PrintWords Go.Proofs.YtogffkekgfkhkaaW.PrintLast Go.Proofs.YtogffkekgfkhkaaW.PrintMore
set_option linter.unusedVariables false
set_option linter.unusedSimpArgs false
def innerB (f0 : Int) (loop : Bool) : Bool := if f0 = 4 ∨ f0 = 5 ∨ f0 = 7 then true else if f0 = 19 then false else loop
def brkF : Fo → Bool → Bool
  | .nil, _ => true
  | .cons h k r, loop => (if h.f0 = 8 then loop else brkF k (innerB h.f0 loop)) && brkF r loop
def brkT (loop : Bool) (t : NV × Fo) : Bool := if t.1.f0 = 8 then loop else brkF t.2 (innerB t.1.f0 loop)
theorem brkF_all : ∀ (F : Fo) (loop : Bool), brkF F loop = F.trees.all (brkT loop)
  | .nil, _ => rfl
  | .cons h k r, loop => by simp only [brkF, Fo.trees, List.all_cons, brkT, brkF_all r loop]
def BrkC (d : Kd NV) (t : NV × Fo) : Prop := ∀ (loop : Bool) (b : Nat) (w : World), NodeAt d w b t.1 t.2 →
  Calls Try.prog 27 #[nv b, .bool loop] w fun e w' => e = .returned (.bool (brkT loop t)) ∧ Below w.heap.size w w'
set_option maxHeartbeats 4000000 in
set_option maxRecDepth 100000 in
theorem brk_one {d : Kd NV} (hd : NKd d) (h : NV) (k : Fo) (ih : ∀ t ∈ k.trees, BrkC d t) : BrkC d (h, k) := by
  intro loop b w hn
  dsimp only at hn
  have h0 := hn.c0
  obtain ⟨A, c, h5, hl, hC⟩ := hn.kids
  have HC := Aside0.mk hC
  have HD := Aside0.mk hd
  have HN := Aside0.mk hn
  have HM := Aside0.mk hC.2.1
  have IH := Aside0.mk ih
  have hmh := method_head
  have hmk := method_kids
  by_cases c8 : h.f0 = 8
  · have e : brkT loop (h, k) = loop := by simp [brkT, c8]
    rw [e]
    rw [c8] at h0
    clear hC hd hn ih hl e c8
    go_enter Try.func27, Try.ntmps27
    go_wp2_with (first | (go_at_call 81; refine (head_calls b _ _ h0).mono ?_; rintro e w1 ⟨rfl, rfl⟩))
    go_ret
    exact ⟨rfl, Below.refl _ _⟩
  · obtain ⟨lp, hlp⟩ : ∃ x, x = innerB h.f0 loop := ⟨_, rfl⟩
    have e : brkT loop (h, k) = k.trees.all (brkT lp) := by simp [brkT, c8, brkF_all, hlp]
    rw [e]
    have b8 : (h.f0 == 8) = false := beq_eq_false_iff_ne.mpr c8
    have HP := Aside0.mk hlp
    obtain ⟨ts, hts⟩ : ∃ x, x = k.trees := ⟨_, rfl⟩
    rw [← hts] at HC HM IH h5 ⊢
    obtain ⟨f0, hf0⟩ : ∃ x, x = h.f0 := ⟨_, rfl⟩
    rw [← hf0] at h0 b8 HP
    clear hC hd hn ih hl e c8 hlp hts hf0 HN
    go_enter Try.func27, Try.ntmps27
    go_wp2_with (first | (go_at_call 81; refine (head_calls b _ _ h0).mono ?_; rintro e w1 ⟨rfl, rfl⟩) | (go_at_call 82; refine (kids_calls b _ _ h5).mono ?_; rintro e w1 ⟨rfl, rfl⟩))
    all_goals simp only [beq_iff_eq, beq_eq_false_iff_ne, ne_eq] at *
    · obtain rfl : lp = true := (by rw [HP.out]; unfold innerB; exact if_pos (by first | exact .inl ‹_› | exact .inr (.inl ‹_›) | exact .inr (.inr ‹_›)))
      clear HP
      subst_vars
      go_loopg [24, 6] ts.length (fun g v24 v6 wr => ∃ (j : Nat), v24 = .int .i64 (j : Int) ∧ Aside0 (j + g = ts.length) ∧ Aside0 ((ts.drop j).all (brkT true) = ts.all (brkT true)) ∧ Aside0 (Below w.heap.size w wr))
      case atStart => exact ⟨0, rfl, ⟨by omega⟩, ⟨by simp⟩, ⟨Below.refl _ _⟩⟩
      case round =>
        obtain ⟨j, rfl, hj, hi, HB⟩ := hrel
        by_cases hlt : j < ts.length
        · obtain ⟨ad, b1, e, hx0, hN⟩ := kn_at HD.out (Kd.C_below HC.out HB.out) j hlt
          cases e
          have hih := IH.out ts[j] (List.getElem_mem hlt) true b1 _ hN
          obtain ⟨t, ht⟩ : ∃ t, t = ts[j] := ⟨_, rfl⟩
          rw [← ht] at hN hih
          have HI : Aside0 ((brkT true t && (ts.drop (j + 1)).all (brkT true)) = ts.all (brkT true)) := ⟨by have := hi.out; rw [List.drop_eq_getElem_cons hlt, ← ht, List.all_cons] at this; exact this⟩
          have HC1 := Aside0.mk hih
          clear ht hi hN hih
          have p0 : (0 ≤ (j : Int)) = True := eq_true (by omega)
          have q0 : ((j : Int) < (ts.length : Int)) = True := eq_true (by omega)
          have hdl : decide ((j : Int) < (ts.length : Int)) = true := decide_eq_true (by omega)
          have hdn : decide (j < ts.length) = true := decide_eq_true hlt
          have HL := Aside0.mk hlt
          clear hlt
          cases hb : brkT true t with
          | true =>
            have HI2 := HI.out
            have HC2 := HC1.out
            rw [hb] at HI2 HC2
            rw [Bool.true_and] at HI2
            have HJ := Aside0.mk HI2
            have HC3 := Aside0.mk HC2
            clear HI HI2 HC1 HC2 hb
            go_wp2_with (go_at_call 27; refine HC3.out.mono ?_; rintro e w1 ⟨rfl, hb1⟩; have HB1 := Aside0.mk (below_step HB.out hb1); clear hb1)
            go_roundg (ts.length - (j + 1))
            case measure => have := hj.out; have := HL.out; omega
            case rel => exact ⟨j + 1, i64_next HL.out HM.out, ⟨by have := HL.out; omega⟩, HJ, HB1⟩
          | false =>
            have HI2 := HI.out
            have HC2 := HC1.out
            rw [hb] at HI2 HC2
            rw [Bool.false_and] at HI2
            have HJ := Aside0.mk HI2
            have HC3 := Aside0.mk HC2
            clear HI HI2 HC1 HC2 hb
            go_wp2_with (go_at_call 27; refine HC3.out.mono ?_; rintro e w1 ⟨rfl, hb1⟩; have HB1 := Aside0.mk (below_step HB.out hb1); clear hb1)
            go_ret
            exact ⟨ret_bool HJ.out, HB1.out⟩
        · have e0 : (ts.drop j) = [] := List.drop_eq_nil_of_le (by omega)
          have HJ : Aside0 (ts.all (brkT true) = true) := ⟨by rw [← hi.out, e0]; rfl⟩
          have hdl : decide ((j : Int) < (ts.length : Int)) = false := decide_eq_false (by omega)
          have hdn : decide (j < ts.length) = false := decide_eq_false hlt
          clear e0 hi hlt
          go_wp2
          go_ret
          exact ⟨ret_bool HJ.out.symm, HB.out⟩
    · obtain rfl : lp = true := (by rw [HP.out]; unfold innerB; exact if_pos (by first | exact .inl ‹_› | exact .inr (.inl ‹_›) | exact .inr (.inr ‹_›)))
      clear HP
      subst_vars
      go_loopg [24, 6] ts.length (fun g v24 v6 wr => ∃ (j : Nat), v24 = .int .i64 (j : Int) ∧ Aside0 (j + g = ts.length) ∧ Aside0 ((ts.drop j).all (brkT true) = ts.all (brkT true)) ∧ Aside0 (Below w.heap.size w wr))
      case atStart => exact ⟨0, rfl, ⟨by omega⟩, ⟨by simp⟩, ⟨Below.refl _ _⟩⟩
      case round =>
        obtain ⟨j, rfl, hj, hi, HB⟩ := hrel
        by_cases hlt : j < ts.length
        · obtain ⟨ad, b1, e, hx0, hN⟩ := kn_at HD.out (Kd.C_below HC.out HB.out) j hlt
          cases e
          have hih := IH.out ts[j] (List.getElem_mem hlt) true b1 _ hN
          obtain ⟨t, ht⟩ : ∃ t, t = ts[j] := ⟨_, rfl⟩
          rw [← ht] at hN hih
          have HI : Aside0 ((brkT true t && (ts.drop (j + 1)).all (brkT true)) = ts.all (brkT true)) := ⟨by have := hi.out; rw [List.drop_eq_getElem_cons hlt, ← ht, List.all_cons] at this; exact this⟩
          have HC1 := Aside0.mk hih
          clear ht hi hN hih
          have p0 : (0 ≤ (j : Int)) = True := eq_true (by omega)
          have q0 : ((j : Int) < (ts.length : Int)) = True := eq_true (by omega)
          have hdl : decide ((j : Int) < (ts.length : Int)) = true := decide_eq_true (by omega)
          have hdn : decide (j < ts.length) = true := decide_eq_true hlt
          have HL := Aside0.mk hlt
          clear hlt
          cases hb : brkT true t with
          | true =>
            have HI2 := HI.out
            have HC2 := HC1.out
            rw [hb] at HI2 HC2
            rw [Bool.true_and] at HI2
            have HJ := Aside0.mk HI2
            have HC3 := Aside0.mk HC2
            clear HI HI2 HC1 HC2 hb
            go_wp2_with (go_at_call 27; refine HC3.out.mono ?_; rintro e w1 ⟨rfl, hb1⟩; have HB1 := Aside0.mk (below_step HB.out hb1); clear hb1)
            go_roundg (ts.length - (j + 1))
            case measure => have := hj.out; have := HL.out; omega
            case rel => exact ⟨j + 1, i64_next HL.out HM.out, ⟨by have := HL.out; omega⟩, HJ, HB1⟩
          | false =>
            have HI2 := HI.out
            have HC2 := HC1.out
            rw [hb] at HI2 HC2
            rw [Bool.false_and] at HI2
            have HJ := Aside0.mk HI2
            have HC3 := Aside0.mk HC2
            clear HI HI2 HC1 HC2 hb
            go_wp2_with (go_at_call 27; refine HC3.out.mono ?_; rintro e w1 ⟨rfl, hb1⟩; have HB1 := Aside0.mk (below_step HB.out hb1); clear hb1)
            go_ret
            exact ⟨ret_bool HJ.out, HB1.out⟩
        · have e0 : (ts.drop j) = [] := List.drop_eq_nil_of_le (by omega)
          have HJ : Aside0 (ts.all (brkT true) = true) := ⟨by rw [← hi.out, e0]; rfl⟩
          have hdl : decide ((j : Int) < (ts.length : Int)) = false := decide_eq_false (by omega)
          have hdn : decide (j < ts.length) = false := decide_eq_false hlt
          clear e0 hi hlt
          go_wp2
          go_ret
          exact ⟨ret_bool HJ.out.symm, HB.out⟩
    · obtain rfl : lp = true := (by rw [HP.out]; unfold innerB; exact if_pos (by first | exact .inl ‹_› | exact .inr (.inl ‹_›) | exact .inr (.inr ‹_›)))
      clear HP
      subst_vars
      go_loopg [24, 6] ts.length (fun g v24 v6 wr => ∃ (j : Nat), v24 = .int .i64 (j : Int) ∧ Aside0 (j + g = ts.length) ∧ Aside0 ((ts.drop j).all (brkT true) = ts.all (brkT true)) ∧ Aside0 (Below w.heap.size w wr))
      case atStart => exact ⟨0, rfl, ⟨by omega⟩, ⟨by simp⟩, ⟨Below.refl _ _⟩⟩
      case round =>
        obtain ⟨j, rfl, hj, hi, HB⟩ := hrel
        by_cases hlt : j < ts.length
        · obtain ⟨ad, b1, e, hx0, hN⟩ := kn_at HD.out (Kd.C_below HC.out HB.out) j hlt
          cases e
          have hih := IH.out ts[j] (List.getElem_mem hlt) true b1 _ hN
          obtain ⟨t, ht⟩ : ∃ t, t = ts[j] := ⟨_, rfl⟩
          rw [← ht] at hN hih
          have HI : Aside0 ((brkT true t && (ts.drop (j + 1)).all (brkT true)) = ts.all (brkT true)) := ⟨by have := hi.out; rw [List.drop_eq_getElem_cons hlt, ← ht, List.all_cons] at this; exact this⟩
          have HC1 := Aside0.mk hih
          clear ht hi hN hih
          have p0 : (0 ≤ (j : Int)) = True := eq_true (by omega)
          have q0 : ((j : Int) < (ts.length : Int)) = True := eq_true (by omega)
          have hdl : decide ((j : Int) < (ts.length : Int)) = true := decide_eq_true (by omega)
          have hdn : decide (j < ts.length) = true := decide_eq_true hlt
          have HL := Aside0.mk hlt
          clear hlt
          cases hb : brkT true t with
          | true =>
            have HI2 := HI.out
            have HC2 := HC1.out
            rw [hb] at HI2 HC2
            rw [Bool.true_and] at HI2
            have HJ := Aside0.mk HI2
            have HC3 := Aside0.mk HC2
            clear HI HI2 HC1 HC2 hb
            go_wp2_with (go_at_call 27; refine HC3.out.mono ?_; rintro e w1 ⟨rfl, hb1⟩; have HB1 := Aside0.mk (below_step HB.out hb1); clear hb1)
            go_roundg (ts.length - (j + 1))
            case measure => have := hj.out; have := HL.out; omega
            case rel => exact ⟨j + 1, i64_next HL.out HM.out, ⟨by have := HL.out; omega⟩, HJ, HB1⟩
          | false =>
            have HI2 := HI.out
            have HC2 := HC1.out
            rw [hb] at HI2 HC2
            rw [Bool.false_and] at HI2
            have HJ := Aside0.mk HI2
            have HC3 := Aside0.mk HC2
            clear HI HI2 HC1 HC2 hb
            go_wp2_with (go_at_call 27; refine HC3.out.mono ?_; rintro e w1 ⟨rfl, hb1⟩; have HB1 := Aside0.mk (below_step HB.out hb1); clear hb1)
            go_ret
            exact ⟨ret_bool HJ.out, HB1.out⟩
        · have e0 : (ts.drop j) = [] := List.drop_eq_nil_of_le (by omega)
          have HJ : Aside0 (ts.all (brkT true) = true) := ⟨by rw [← hi.out, e0]; rfl⟩
          have hdl : decide ((j : Int) < (ts.length : Int)) = false := decide_eq_false (by omega)
          have hdn : decide (j < ts.length) = false := decide_eq_false hlt
          clear e0 hi hlt
          go_wp2
          go_ret
          exact ⟨ret_bool HJ.out.symm, HB.out⟩
    · obtain rfl : lp = false := (by rw [HP.out]; unfold innerB; rw [if_neg (by omega)]; exact if_pos (by assumption))
      clear HP
      subst_vars
      go_loopg [24, 6] ts.length (fun g v24 v6 wr => ∃ (j : Nat), v24 = .int .i64 (j : Int) ∧ Aside0 (j + g = ts.length) ∧ Aside0 ((ts.drop j).all (brkT false) = ts.all (brkT false)) ∧ Aside0 (Below w.heap.size w wr))
      case atStart => exact ⟨0, rfl, ⟨by omega⟩, ⟨by simp⟩, ⟨Below.refl _ _⟩⟩
      case round =>
        obtain ⟨j, rfl, hj, hi, HB⟩ := hrel
        by_cases hlt : j < ts.length
        · obtain ⟨ad, b1, e, hx0, hN⟩ := kn_at HD.out (Kd.C_below HC.out HB.out) j hlt
          cases e
          have hih := IH.out ts[j] (List.getElem_mem hlt) false b1 _ hN
          obtain ⟨t, ht⟩ : ∃ t, t = ts[j] := ⟨_, rfl⟩
          rw [← ht] at hN hih
          have HI : Aside0 ((brkT false t && (ts.drop (j + 1)).all (brkT false)) = ts.all (brkT false)) := ⟨by have := hi.out; rw [List.drop_eq_getElem_cons hlt, ← ht, List.all_cons] at this; exact this⟩
          have HC1 := Aside0.mk hih
          clear ht hi hN hih
          have p0 : (0 ≤ (j : Int)) = True := eq_true (by omega)
          have q0 : ((j : Int) < (ts.length : Int)) = True := eq_true (by omega)
          have hdl : decide ((j : Int) < (ts.length : Int)) = true := decide_eq_true (by omega)
          have hdn : decide (j < ts.length) = true := decide_eq_true hlt
          have HL := Aside0.mk hlt
          clear hlt
          cases hb : brkT false t with
          | true =>
            have HI2 := HI.out
            have HC2 := HC1.out
            rw [hb] at HI2 HC2
            rw [Bool.true_and] at HI2
            have HJ := Aside0.mk HI2
            have HC3 := Aside0.mk HC2
            clear HI HI2 HC1 HC2 hb
            go_wp2_with (go_at_call 27; refine HC3.out.mono ?_; rintro e w1 ⟨rfl, hb1⟩; have HB1 := Aside0.mk (below_step HB.out hb1); clear hb1)
            go_roundg (ts.length - (j + 1))
            case measure => have := hj.out; have := HL.out; omega
            case rel => exact ⟨j + 1, i64_next HL.out HM.out, ⟨by have := HL.out; omega⟩, HJ, HB1⟩
          | false =>
            have HI2 := HI.out
            have HC2 := HC1.out
            rw [hb] at HI2 HC2
            rw [Bool.false_and] at HI2
            have HJ := Aside0.mk HI2
            have HC3 := Aside0.mk HC2
            clear HI HI2 HC1 HC2 hb
            go_wp2_with (go_at_call 27; refine HC3.out.mono ?_; rintro e w1 ⟨rfl, hb1⟩; have HB1 := Aside0.mk (below_step HB.out hb1); clear hb1)
            go_ret
            exact ⟨ret_bool HJ.out, HB1.out⟩
        · have e0 : (ts.drop j) = [] := List.drop_eq_nil_of_le (by omega)
          have HJ : Aside0 (ts.all (brkT false) = true) := ⟨by rw [← hi.out, e0]; rfl⟩
          have hdl : decide ((j : Int) < (ts.length : Int)) = false := decide_eq_false (by omega)
          have hdn : decide (j < ts.length) = false := decide_eq_false hlt
          clear e0 hi hlt
          go_wp2
          go_ret
          exact ⟨ret_bool HJ.out.symm, HB.out⟩
    · obtain rfl : lp = loop := (by rw [HP.out]; unfold innerB; rw [if_neg (by omega)]; exact if_neg (by assumption))
      clear HP
      subst_vars
      go_loopg [24, 6] ts.length (fun g v24 v6 wr => ∃ (j : Nat), v24 = .int .i64 (j : Int) ∧ Aside0 (j + g = ts.length) ∧ Aside0 ((ts.drop j).all (brkT lp) = ts.all (brkT lp)) ∧ Aside0 (Below w.heap.size w wr))
      case atStart => exact ⟨0, rfl, ⟨by omega⟩, ⟨by simp⟩, ⟨Below.refl _ _⟩⟩
      case round =>
        obtain ⟨j, rfl, hj, hi, HB⟩ := hrel
        by_cases hlt : j < ts.length
        · obtain ⟨ad, b1, e, hx0, hN⟩ := kn_at HD.out (Kd.C_below HC.out HB.out) j hlt
          cases e
          have hih := IH.out ts[j] (List.getElem_mem hlt) lp b1 _ hN
          obtain ⟨t, ht⟩ : ∃ t, t = ts[j] := ⟨_, rfl⟩
          rw [← ht] at hN hih
          have HI : Aside0 ((brkT lp t && (ts.drop (j + 1)).all (brkT lp)) = ts.all (brkT lp)) := ⟨by have := hi.out; rw [List.drop_eq_getElem_cons hlt, ← ht, List.all_cons] at this; exact this⟩
          have HC1 := Aside0.mk hih
          clear ht hi hN hih
          have p0 : (0 ≤ (j : Int)) = True := eq_true (by omega)
          have q0 : ((j : Int) < (ts.length : Int)) = True := eq_true (by omega)
          have hdl : decide ((j : Int) < (ts.length : Int)) = true := decide_eq_true (by omega)
          have hdn : decide (j < ts.length) = true := decide_eq_true hlt
          have HL := Aside0.mk hlt
          clear hlt
          cases hb : brkT lp t with
          | true =>
            have HI2 := HI.out
            have HC2 := HC1.out
            rw [hb] at HI2 HC2
            rw [Bool.true_and] at HI2
            have HJ := Aside0.mk HI2
            have HC3 := Aside0.mk HC2
            clear HI HI2 HC1 HC2 hb
            go_wp2_with (go_at_call 27; refine HC3.out.mono ?_; rintro e w1 ⟨rfl, hb1⟩; have HB1 := Aside0.mk (below_step HB.out hb1); clear hb1)
            go_roundg (ts.length - (j + 1))
            case measure => have := hj.out; have := HL.out; omega
            case rel => exact ⟨j + 1, i64_next HL.out HM.out, ⟨by have := HL.out; omega⟩, HJ, HB1⟩
          | false =>
            have HI2 := HI.out
            have HC2 := HC1.out
            rw [hb] at HI2 HC2
            rw [Bool.false_and] at HI2
            have HJ := Aside0.mk HI2
            have HC3 := Aside0.mk HC2
            clear HI HI2 HC1 HC2 hb
            go_wp2_with (go_at_call 27; refine HC3.out.mono ?_; rintro e w1 ⟨rfl, hb1⟩; have HB1 := Aside0.mk (below_step HB.out hb1); clear hb1)
            go_ret
            exact ⟨ret_bool HJ.out, HB1.out⟩
        · have e0 : (ts.drop j) = [] := List.drop_eq_nil_of_le (by omega)
          have HJ : Aside0 (ts.all (brkT lp) = true) := ⟨by rw [← hi.out, e0]; rfl⟩
          have hdl : decide ((j : Int) < (ts.length : Int)) = false := decide_eq_false (by omega)
          have hdn : decide (j < ts.length) = false := decide_eq_false hlt
          clear e0 hi hlt
          go_wp2
          go_ret
          exact ⟨ret_bool HJ.out.symm, HB.out⟩
theorem brk_all {d : Kd NV} (hd : NKd d) : ∀ (F : Fo), ∀ t ∈ F.trees, BrkC d t
  | .nil, _, h => by simp [Fo.trees] at h
  | .cons h k r, t, ht => by
    simp only [Fo.trees, List.mem_cons] at ht
    rcases ht with rfl | ht
    · exact brk_one hd h k (brk_all hd k)
    · exact brk_all hd r t ht
end Go.Proofs.Ytogffkekgfkhkaa.C
