/- Kinds of nodes. -/
import Derived.Test.YtogffkekgfkhkaaZvV3
import Derived.Test.YtogffkekgfkhkaaZvK
namespace Go.Proofs.Ytogffkekgfkhkaa.C
open Go.RowKit Go.Proofs.YtogffkekgfkhkaaW.PrintWords Go.Proofs.YtogffkekgfkhkaaW.PrintLast Go.Proofs.YtogffkekgfkhkaaW.PrintMore
set_option linter.unusedVariables false
set_option linter.unusedSimpArgs false
set_option maxHeartbeats 4000000 in
set_option maxRecDepth 100000 in
theorem goodKids_6t {d : Kd NV} (hd : NKd d) (b : Nat) (h : NV) (k : Fo) (w : World) (hn : NodeAt d w b h k) (hk : h.f0 = 6) (h2 : decide (2 ≤ k.trees.length) = true) :
    Calls Try.prog 26 #[nv b] w fun e w' => e = .returned (.bool (ifB k.trees.length 0 k.trees && decide (2 ≤ k.trees.length))) ∧ Below w.heap.size w w' := by
  have h0 := hn.c0
  rw [hk] at h0
  obtain ⟨A, c, h5, hl, hC⟩ := hn.kids
  have HC := Aside0.mk hC
  have HN := Aside0.mk hn
  have HK := Aside0.mk hk
  have HLen := Aside0.mk hC.2.1
  have hmh := method_head
  have hmk := method_kids
  clear hC hn hk hl
  go_enter Try.func26, Try.ntmps26
  go_wp2_with (first | (go_at_call 81; refine (head_calls b _ _ h0).mono ?_; rintro e w1 ⟨rfl, rfl⟩) | (go_at_call 82; refine (kids_calls b _ _ h5).mono ?_; rintro e w1 ⟨rfl, rfl⟩))
  refine (isKind_calls (some ⟨w.heap.size + 1, 0, none⟩) 1 [0] _ (by exact ints_new _ [0] 3 (by decide) _ (by simp))).mono ?_
  rintro e w1 ⟨B2, rfl, hq, hb1⟩
  have HG := Aside0.mk (GK.mk' HN.out HC.out hb1 hq)
  clear hq hb1 h0 h5
  have g0 := HG.out.n.c0
  rw [HK.out] at g0
  have g1 := HG.out.x
  obtain ⟨ts, hts⟩ : ∃ x, x = k.trees := ⟨_, rfl⟩
  have HTS := Aside0.mk hts
  have HD := Aside0.mk hd
  rw [← hts] at HLen HC g1 h2
  have hn2 : decide (2 ≤ ((ts.length : Nat) : Int)) = true := by rw [← h2]; exact decide_eq_decide.2 (by omega)
  have HTS2 : Aside0 ((ifB ts.length 0 ts && true) = (ifB k.trees.length 0 k.trees && decide (2 ≤ k.trees.length))) := ⟨by rw [← hts, h2]⟩
  clear hts hd
  go_wp2
  clear g0 g1
  have hlw : wrap64 (((ts.length : Nat) : Int) - 1) = ((ts.length : Nat) : Int) - 1 := by have := HLen.out; unfold wrap64; omega
  go_loopg [137, 10, 11, 12] ts.length (fun g v137 v10 v11 v12 wr => ∃ (j : Nat), v137 = .int .i64 (j : Int) ∧ Aside0 (j + g = ts.length) ∧ Aside0 (ifB ts.length j (ts.drop j) = ifB ts.length 0 ts) ∧ Aside0 (GK d w wr b h k A c B2))
  case atStart => exact ⟨0, rfl, ⟨by omega⟩, ⟨by simp⟩, HG⟩
  case round =>
    clear HG
    obtain ⟨j, rfl, hj, hi, HG⟩ := hrel
    by_cases hlt : j < ts.length
    · clear hn2
      obtain ⟨ad, b1, e, hx0, hN⟩ := kn_at HD.out HG.out.C j (by rw [← HTS.out]; exact hlt)
      cases e
      obtain ⟨t, ht⟩ : ∃ t, t = ts[j] := ⟨_, rfl⟩
      have hte : k.trees[j]'(by rw [← HTS.out]; exact hlt) = t := by rw [ht]; congr 1; exact HTS.out.symm
      rw [hte] at hN
      have HNN := Aside0.mk hN
      obtain ⟨e1, he1⟩ : ∃ x, x = decide (ts.length ≤ j + 1) := ⟨_, rfl⟩
      obtain ⟨e2, he2⟩ : ∃ x, x = decide (ts.length % 2 = 1) := ⟨_, rfl⟩
      obtain ⟨e3, he3⟩ : ∃ x, x = decide (j % 2 = 1) := ⟨_, rfl⟩
      obtain ⟨bk, hbk⟩ : ∃ x, x = isK [0] t.1.f0 := ⟨_, rfl⟩
      obtain ⟨ex, hex⟩ : ∃ x, x = isExprB t.1.f0 := ⟨_, rfl⟩
      have hemp : (ts.drop (j + 1)).isEmpty = decide (ts.length ≤ j + 1) := by rw [Bool.eq_iff_iff, List.isEmpty_iff, List.drop_eq_nil_iff, decide_eq_true_eq]
      have HI : Aside0 ((((e3 || (e1 && e2)) == bk) && (bk || ex) && ifB ts.length (j + 1) (ts.drop (j + 1))) = ifB ts.length 0 ts) := ⟨by have := hi.out; rw [List.drop_eq_getElem_cons hlt, ← ht, ifB, hemp, ← he1, ← he2, ← he3, ← hbk, ← hex] at this; exact this⟩
      have f1 : (((j : Nat) : Int) == ((ts.length : Nat) : Int) - 1) = e1 := by rw [he1, Bool.eq_iff_iff, beq_iff_eq, decide_eq_true_eq]; omega
      have f2 : (((ts.length : Nat) : Int) % 2 == 1) = e2 := by rw [he2, Bool.eq_iff_iff, beq_iff_eq, decide_eq_true_eq]; omega
      have f3 : (((j : Nat) : Int) % 2 == 1) = e3 := by rw [he3, Bool.eq_iff_iff, beq_iff_eq, decide_eq_true_eq]; omega
      have g1 : (((j : Nat) : Int) = ((ts.length : Nat) : Int) - 1) = (e1 = true) := by rw [he1, decide_eq_true_eq]; exact propext (by omega)
      have g2 : (((ts.length : Nat) : Int) % 2 = 1) = (e2 = true) := by rw [he2, decide_eq_true_eq]; exact propext (by omega)
      have g3 : (((j : Nat) : Int) % 2 = 1) = (e3 = true) := by rw [he3, decide_eq_true_eq]; exact propext (by omega)
      have HCB : Aside0 (∀ W, Below wr.heap.size wr W → Calls Try.prog 52 #[nv b1, pv B2] W fun e w' => e = .returned (.bool bk) ∧ Below W.heap.size W w') := ⟨fun W hW => (isKind1_calls B2 b1 [0] _ W (HG.out.q.below hW) (HNN.out.below hW).c0).mono (fun e w' ⟨h1, h2⟩ => ⟨by rw [h1, hbk]; rfl, h2⟩)⟩
      have HCE : Aside0 (∀ W, Below wr.heap.size wr W → Calls Try.prog 44 #[nv b1] W fun e w' => e = .returned (.bool ex) ∧ W = w') := ⟨fun W hW => (isExpr_calls b1 W _ (HNN.out.below hW).c0).mono (fun e w' ⟨h1, h2⟩ => ⟨by rw [h1, hex], h2⟩)⟩
      have hxx := HG.out.x
      rw [← HTS.out] at hxx
      have HL := Aside0.mk hlt
      have p0 : (0 ≤ (j : Int)) = True := eq_true (by omega)
      have q0 : ((j : Int) < (ts.length : Int)) = True := eq_true (by omega)
      have hdl : decide ((j : Int) < (ts.length : Int)) = true := decide_eq_true (by omega)
      have hdn : decide (j < ts.length) = true := decide_eq_true hlt
      have HB0 : Aside0 (Below wr.heap.size wr wr) := ⟨Below.refl _ _⟩
      clear ht hte hi hN hemp he1 he2 he3 hbk hex hlt
      cases e1 <;> cases e2 <;> cases e3 <;> cases bk <;> cases ex <;>
      · go_wp2_with (first | (go_at_call 52; refine (HCB.out _ HB0.out).mono ?_; rintro e w4 ⟨rfl, hb4⟩; have HB0' := Aside0.mk (below_step HB0.out hb4); clear hb4 HB0; have HB0 := HB0'; clear HB0') | (go_at_call 44; refine (HCE.out _ HB0.out).mono ?_; rintro e w5 ⟨rfl, rfl⟩))
        first
          | (go_ret
             have hI2 := HI.out
             have hT2 := HTS2.out
             rw [← hI2] at hT2
             exact ⟨ret_bool (by rw [← hT2]; rfl), (HG.out.below HB0.out).B⟩)
          | (go_roundg (ts.length - (j + 1))
             case measure => have := hj.out; have := HL.out; omega
             case rel => exact ⟨j + 1, i64_next HL.out HLen.out, ⟨by have := HL.out; omega⟩, ⟨by have := HI.out; simpa using this⟩, ⟨HG.out.below HB0.out⟩⟩)
    · have e0 : (ts.drop j) = [] := List.drop_eq_nil_of_le (by omega)
      have hie : ifB ts.length 0 ts = true := by rw [← hi.out, e0]; rfl
      have hT2 := HTS2.out
      rw [hie, Bool.true_and] at hT2
      have HJ := Aside0.mk hT2
      have hdl : decide ((j : Int) < (ts.length : Int)) = false := decide_eq_false (by omega)
      have hdn : decide (j < ts.length) = false := decide_eq_false hlt
      have hxx := HG.out.x
      rw [← HTS.out] at hxx
      clear e0 hi hlt hie hT2
      go_wp2
      go_ret
      exact ⟨ret_bool HJ.out, HG.out.B⟩
set_option maxHeartbeats 4000000 in
set_option maxRecDepth 100000 in
theorem goodKids_6f {d : Kd NV} (hd : NKd d) (b : Nat) (h : NV) (k : Fo) (w : World) (hn : NodeAt d w b h k) (hk : h.f0 = 6) (h2 : decide (2 ≤ k.trees.length) = false) :
    Calls Try.prog 26 #[nv b] w fun e w' => e = .returned (.bool (ifB k.trees.length 0 k.trees && decide (2 ≤ k.trees.length))) ∧ Below w.heap.size w w' := by
  have h0 := hn.c0
  rw [hk] at h0
  obtain ⟨A, c, h5, hl, hC⟩ := hn.kids
  have HC := Aside0.mk hC
  have HN := Aside0.mk hn
  have HK := Aside0.mk hk
  have HLen := Aside0.mk hC.2.1
  have hmh := method_head
  have hmk := method_kids
  clear hC hn hk hl
  go_enter Try.func26, Try.ntmps26
  go_wp2_with (first | (go_at_call 81; refine (head_calls b _ _ h0).mono ?_; rintro e w1 ⟨rfl, rfl⟩) | (go_at_call 82; refine (kids_calls b _ _ h5).mono ?_; rintro e w1 ⟨rfl, rfl⟩))
  refine (isKind_calls (some ⟨w.heap.size + 1, 0, none⟩) 1 [0] _ (by exact ints_new _ [0] 3 (by decide) _ (by simp))).mono ?_
  rintro e w1 ⟨B2, rfl, hq, hb1⟩
  have HG := Aside0.mk (GK.mk' HN.out HC.out hb1 hq)
  clear hq hb1 h0 h5
  have g0 := HG.out.n.c0
  rw [HK.out] at g0
  have g1 := HG.out.x
  obtain ⟨ts, hts⟩ : ∃ x, x = k.trees := ⟨_, rfl⟩
  have HTS := Aside0.mk hts
  have HD := Aside0.mk hd
  rw [← hts] at HLen HC g1 h2
  have hn2 : decide (2 ≤ ((ts.length : Nat) : Int)) = false := by rw [← h2]; exact decide_eq_decide.2 (by omega)
  have HTS2 : Aside0 ((ifB ts.length 0 ts && false) = (ifB k.trees.length 0 k.trees && decide (2 ≤ k.trees.length))) := ⟨by rw [← hts, h2]⟩
  clear hts hd
  go_wp2
  clear g0 g1
  have hlw : wrap64 (((ts.length : Nat) : Int) - 1) = ((ts.length : Nat) : Int) - 1 := by have := HLen.out; unfold wrap64; omega
  go_loopg [137, 10, 11, 12] ts.length (fun g v137 v10 v11 v12 wr => ∃ (j : Nat), v137 = .int .i64 (j : Int) ∧ Aside0 (j + g = ts.length) ∧ Aside0 (ifB ts.length j (ts.drop j) = ifB ts.length 0 ts) ∧ Aside0 (GK d w wr b h k A c B2))
  case atStart => exact ⟨0, rfl, ⟨by omega⟩, ⟨by simp⟩, HG⟩
  case round =>
    clear HG
    obtain ⟨j, rfl, hj, hi, HG⟩ := hrel
    by_cases hlt : j < ts.length
    · clear hn2
      obtain ⟨ad, b1, e, hx0, hN⟩ := kn_at HD.out HG.out.C j (by rw [← HTS.out]; exact hlt)
      cases e
      obtain ⟨t, ht⟩ : ∃ t, t = ts[j] := ⟨_, rfl⟩
      have hte : k.trees[j]'(by rw [← HTS.out]; exact hlt) = t := by rw [ht]; congr 1; exact HTS.out.symm
      rw [hte] at hN
      have HNN := Aside0.mk hN
      obtain ⟨e1, he1⟩ : ∃ x, x = decide (ts.length ≤ j + 1) := ⟨_, rfl⟩
      obtain ⟨e2, he2⟩ : ∃ x, x = decide (ts.length % 2 = 1) := ⟨_, rfl⟩
      obtain ⟨e3, he3⟩ : ∃ x, x = decide (j % 2 = 1) := ⟨_, rfl⟩
      obtain ⟨bk, hbk⟩ : ∃ x, x = isK [0] t.1.f0 := ⟨_, rfl⟩
      obtain ⟨ex, hex⟩ : ∃ x, x = isExprB t.1.f0 := ⟨_, rfl⟩
      have hemp : (ts.drop (j + 1)).isEmpty = decide (ts.length ≤ j + 1) := by rw [Bool.eq_iff_iff, List.isEmpty_iff, List.drop_eq_nil_iff, decide_eq_true_eq]
      have HI : Aside0 ((((e3 || (e1 && e2)) == bk) && (bk || ex) && ifB ts.length (j + 1) (ts.drop (j + 1))) = ifB ts.length 0 ts) := ⟨by have := hi.out; rw [List.drop_eq_getElem_cons hlt, ← ht, ifB, hemp, ← he1, ← he2, ← he3, ← hbk, ← hex] at this; exact this⟩
      have f1 : (((j : Nat) : Int) == ((ts.length : Nat) : Int) - 1) = e1 := by rw [he1, Bool.eq_iff_iff, beq_iff_eq, decide_eq_true_eq]; omega
      have f2 : (((ts.length : Nat) : Int) % 2 == 1) = e2 := by rw [he2, Bool.eq_iff_iff, beq_iff_eq, decide_eq_true_eq]; omega
      have f3 : (((j : Nat) : Int) % 2 == 1) = e3 := by rw [he3, Bool.eq_iff_iff, beq_iff_eq, decide_eq_true_eq]; omega
      have g1 : (((j : Nat) : Int) = ((ts.length : Nat) : Int) - 1) = (e1 = true) := by rw [he1, decide_eq_true_eq]; exact propext (by omega)
      have g2 : (((ts.length : Nat) : Int) % 2 = 1) = (e2 = true) := by rw [he2, decide_eq_true_eq]; exact propext (by omega)
      have g3 : (((j : Nat) : Int) % 2 = 1) = (e3 = true) := by rw [he3, decide_eq_true_eq]; exact propext (by omega)
      have HCB : Aside0 (∀ W, Below wr.heap.size wr W → Calls Try.prog 52 #[nv b1, pv B2] W fun e w' => e = .returned (.bool bk) ∧ Below W.heap.size W w') := ⟨fun W hW => (isKind1_calls B2 b1 [0] _ W (HG.out.q.below hW) (HNN.out.below hW).c0).mono (fun e w' ⟨h1, h2⟩ => ⟨by rw [h1, hbk]; rfl, h2⟩)⟩
      have HCE : Aside0 (∀ W, Below wr.heap.size wr W → Calls Try.prog 44 #[nv b1] W fun e w' => e = .returned (.bool ex) ∧ W = w') := ⟨fun W hW => (isExpr_calls b1 W _ (HNN.out.below hW).c0).mono (fun e w' ⟨h1, h2⟩ => ⟨by rw [h1, hex], h2⟩)⟩
      have hxx := HG.out.x
      rw [← HTS.out] at hxx
      have HL := Aside0.mk hlt
      have p0 : (0 ≤ (j : Int)) = True := eq_true (by omega)
      have q0 : ((j : Int) < (ts.length : Int)) = True := eq_true (by omega)
      have hdl : decide ((j : Int) < (ts.length : Int)) = true := decide_eq_true (by omega)
      have hdn : decide (j < ts.length) = true := decide_eq_true hlt
      have HB0 : Aside0 (Below wr.heap.size wr wr) := ⟨Below.refl _ _⟩
      clear ht hte hi hN hemp he1 he2 he3 hbk hex hlt
      cases e1 <;> cases e2 <;> cases e3 <;> cases bk <;> cases ex <;>
      · go_wp2_with (first | (go_at_call 52; refine (HCB.out _ HB0.out).mono ?_; rintro e w4 ⟨rfl, hb4⟩; have HB0' := Aside0.mk (below_step HB0.out hb4); clear hb4 HB0; have HB0 := HB0'; clear HB0') | (go_at_call 44; refine (HCE.out _ HB0.out).mono ?_; rintro e w5 ⟨rfl, rfl⟩))
        first
          | (go_ret
             have hI2 := HI.out
             have hT2 := HTS2.out
             rw [← hI2] at hT2
             exact ⟨ret_bool (by rw [← hT2]; rfl), (HG.out.below HB0.out).B⟩)
          | (go_roundg (ts.length - (j + 1))
             case measure => have := hj.out; have := HL.out; omega
             case rel => exact ⟨j + 1, i64_next HL.out HLen.out, ⟨by have := HL.out; omega⟩, ⟨by have := HI.out; simpa using this⟩, ⟨HG.out.below HB0.out⟩⟩)
    · have e0 : (ts.drop j) = [] := List.drop_eq_nil_of_le (by omega)
      have hie : ifB ts.length 0 ts = true := by rw [← hi.out, e0]; rfl
      have hT2 := HTS2.out
      rw [hie, Bool.true_and] at hT2
      have HJ := Aside0.mk hT2
      have hdl : decide ((j : Int) < (ts.length : Int)) = false := decide_eq_false (by omega)
      have hdn : decide (j < ts.length) = false := decide_eq_false hlt
      have hxx := HG.out.x
      rw [← HTS.out] at hxx
      clear e0 hi hlt hie hT2
      go_wp2
      go_ret
      exact ⟨ret_bool HJ.out, HG.out.B⟩
end Go.Proofs.Ytogffkekgfkhkaa.C
