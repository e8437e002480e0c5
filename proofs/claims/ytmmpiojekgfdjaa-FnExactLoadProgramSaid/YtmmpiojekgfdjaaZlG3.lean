/- LoadProgram. -/
import Derived.Test.YtmmpiojekgfdjaaZlG2
import Derived.Test.YtmmpiojekgfdjaaZlGi
import Derived.Test.YtmmpiojekgfdjaaZlK
namespace Go.Proofs.Ytmmpiojekgfdjaa.C
open Go.RowKit YtmmpiojekgfdjaaW.PrintWords YtmmpiojekgfdjaaW.PrintLast
set_option linter.unusedVariables false
set_option linter.unusedSimpArgs false
theorem chkT_of {C : List S48} {P : List S52} {r : Bool} (h : impl_Check.f C P = some r) : chkT C P = r := by
 unfold chkT
 rw [h]
 cases r <;> rfl
theorem err_ne : (errForm == errShort) = false ∧ (errTail == errShort) = false ∧ (errTail == errForm) = false := by decide
theorem err_eq : (errShort == errShort) = true ∧ (errForm == errForm) = true ∧ (errTail == errTail) = true := by decide
set_option maxHeartbeats 8000000 in
set_option maxRecDepth 100000 in
theorem load_calls (A : Option Addr) (c : Nat) (l : List Int) (w : World) (hc : Kd.C (Kd.int .u8) w A l.length l) (hn : l.length ≤ c) (hb : Byt l) (hl : l.length ≤ 1048576) :
  Calls Try.prog 23 #[.slice A l.length c] w fun e w' => ∃ u0 u1, e = .returned (.tuple #[.agg #[u0, u1], .int .i64 (iAns l).2]) ∧ Kd.S k48 48 w' w.heap.size (fun _ => True) u0 (iAns l).1.1 ∧ Kd.S k52 52 w' w.heap.size (fun _ => True) u1 (iAns l).1.2 ∧ Below w.heap.size w w' := by
 obtain ⟨w0, hw0⟩ : ∃ w0, w0 = w.alloc (.cells #[.slice none 0 0, .slice none 0 0] 31) := ⟨_, rfl⟩
 have hb0 : Below w.heap.size w w0 := by rw [hw0]; exact (Below.refl _ _).alloc (Nat.le_refl _) _
 have hr0 : w0.heap[w.heap.size]? = some (.cells #[.slice none 0 0, .slice none 0 0] 31 (0, 0)) := by rw [hw0, heap_alloc_new]
 obtain ⟨W, hW⟩ : ∃ W, W = w0.alloc (.cells #[.slice A l.length c, .nilIface] 93) := ⟨_, rfl⟩
 obtain ⟨bq, hbq⟩ : ∃ b, b = w0.heap.size := ⟨_, rfl⟩
 have hbW : Below w0.heap.size w0 W := by rw [hW]; exact (Below.refl _ _).alloc (Nat.le_refl _) _
 have hli : LdIs w0 W bq (l, false) := ⟨hbW, by omega, A, c, .nilIface, by rw [hW, hbq, heap_alloc_new], rfl, Kd.C_below hc hb0, hn⟩
 have HLI := amZ hli
 have HB0 := amZ hb0
 have HR0 := amZ hr0
 have HY := amZ hb
 have HL := amZ hl
 have hW' : (w.alloc (.cells #[.slice none 0 0, .slice none 0 0] 31)).alloc (.cells #[.slice A l.length c, .nilIface] 93) = W := by rw [hW, hw0]
 have hbq' : w.heap.size + 1 = bq := by rw [hbq, hw0]; simp
 clear hc hn hb hl hw0 hb0 hr0 hW hbW hbq hli
 go_enter Try.func23, Try.ntmps23
 go_upto_region 2 with (fail)
 clear hW' hbq'
 go_wp2_with fail
 refine (program_calls w0 W bq (l, false) HLI.out ⟨HY.out, HL.out⟩).mono ?_
 rintro e W1 ⟨u0, u1, rfl, hs0, hs1, h1⟩
 obtain ⟨C, hC⟩ : ∃ C, C = (ldProg (l, false)).1.1 := ⟨_, rfl⟩
 obtain ⟨P, hP⟩ : ∃ P, P = (ldProg (l, false)).1.2 := ⟨_, rfl⟩
 obtain ⟨s, hs⟩ : ∃ s, s = (ldProg (l, false)).2 := ⟨_, rfl⟩
 rw [← hC] at hs0
 rw [← hP] at hs1
 rw [← hs] at h1
 have HE : Aside0 (ldProg (l, false) = ((C, P), s)) := ⟨by rw [hC, hP, hs]⟩
 obtain ⟨A0, c0, e0⟩ := Kd.S_slice hs0
 obtain ⟨A1, c1, e1⟩ := Kd.S_slice hs1
 subst e0
 subst e1
 have HS0 := amZ hs0
 have HS1 := amZ hs1
 have HL1 := amZ h1
 clear hC hP hs hs0 hs1 h1 HLI
 go_upto_region 3 with (fail)
 obtain ⟨W2, hW2⟩ : ∃ W, W = W1.alloc (.cells #[.slice A0 C.length c0, .slice A1 P.length c1] 31) := ⟨_, rfl⟩
 obtain ⟨bp, hbp⟩ : ∃ b, b = W1.heap.size := ⟨_, rfl⟩
 have hb2 : Below W1.heap.size W1 W2 := by rw [hW2]; exact (Below.refl _ _).alloc (Nat.le_refl _) _
 have HBP : Aside0 (W2.heap[bp]? = some (.cells #[.slice A0 C.length c0, .slice A1 P.length c1] 31 (0, 0))) := ⟨by rw [hW2, hbp, heap_alloc_new]⟩
 have HS02 := amZ (Kd.S_below HS0.out hb2)
 have HS12 := amZ (Kd.S_below HS1.out hb2)
 have HL2 := amZ (HL1.out.below hb2)
 have HR2 : Aside0 (W2.heap[w.heap.size]? = some (.cells #[.slice none 0 0, .slice none 0 0] 31 (0, 0))) := ⟨(HL2.out.b.block _ (ziY HR0.out)).trans HR0.out⟩
 have HBW : Aside0 (Below w.heap.size w W2) := ⟨zdY HB0.out HL2.out.b⟩
 rw [← hW2, ← hbp]
 clear hW2 hbp hb2 HS0 HS1 HL1
 obtain ⟨bl, e⟩ := s
 obtain ⟨_, _, Al, cl, v, h1, h2, _, _⟩ := HL2.out
 have x1 : W2.cell? ⟨bq, 1, none⟩ = some v := (zaY h1 1).trans rfl
 have z2 := zbY HR2.out 0
 have z3 := zbY HR2.out 1
 have z0 : W2.cell? ⟨w.heap.size, 0, none⟩ = some (.slice none 0 0) := (zaY HR2.out 0).trans rfl
 have z1 : W2.cell? ⟨w.heap.size, 1, none⟩ = some (.slice none 0 0) := (zaY HR2.out 1).trans rfl
 clear h1
 cases e with
 | true =>
  have HI : Aside0 (iAns l = (([], []), 1)) := ⟨by unfold iAns; rw [HE.out]; rfl⟩
  obtain ⟨str, rfl, hstr⟩ := (show ∃ s, v = .iface 96 (.string s) ∧ IsErr s from h2)
  clear h2
  have HF : Aside0 (((W2.setCell ⟨w.heap.size, 0, none⟩ (.slice none 0 0)).setCell ⟨w.heap.size, 1, none⟩ (.slice none 0 0)).heap[w.heap.size]? = some (.cells #[.slice none 0 0, .slice none 0 0] 31 (0, 0))) := ⟨heap_setCell_same _ _ 1 _ 31 _ (heap_setCell_same W2 w.heap.size 0 _ 31 _ HR2.out)⟩
  have HBF : Aside0 (Below w.heap.size w ((W2.setCell ⟨w.heap.size, 0, none⟩ (.slice none 0 0)).setCell ⟨w.heap.size, 1, none⟩ (.slice none 0 0))) := ⟨(HBW.out.setCell (Nat.le_refl _) _).setCell (Nat.le_refl _) _⟩
  have E1 := err_eq
  have E2 := err_ne
  have HEQ := amZ E1
  have HNE := amZ E2
  clear E1 E2
  rcases hstr with rfl | rfl | rfl
  ·
   go_wp2_with fail
   refine (is_calls errShort errShort W2).mono ?_
   rw [HEQ.out.1]
   rintro e w' ⟨rfl, rfl⟩
   go_wp2_with fail
   refine bodyPost_ret (results_list (rs := [.cell 2 31, .tmp 3]) rfl (by simp) (.cell w.heap.size 31 _ (0, 0) _ rfl HF.out Try.underlying31 rfl (by kernel_rfl) (.tmp .nil))) rfl ?_
   exact ⟨_, _, by rw [HI.out]; rfl, by rw [HI.out]; exact Kd.S_nil _ _ _ _ _, by rw [HI.out]; exact Kd.S_nil _ _ _ _ _, HBF.out⟩
  ·
   go_wp2_with fail
   refine (is_calls errForm errShort W2).mono ?_
   rw [HNE.out.1]
   rintro e w' ⟨rfl, rfl⟩
   go_wp2_with fail
   refine (is_calls errForm errForm W2).mono ?_
   rw [HEQ.out.2.1]
   rintro e w' ⟨rfl, rfl⟩
   go_wp2_with fail
   refine bodyPost_ret (results_list (rs := [.cell 2 31, .tmp 3]) rfl (by simp) (.cell w.heap.size 31 _ (0, 0) _ rfl HF.out Try.underlying31 rfl (by kernel_rfl) (.tmp .nil))) rfl ?_
   exact ⟨_, _, by rw [HI.out]; rfl, by rw [HI.out]; exact Kd.S_nil _ _ _ _ _, by rw [HI.out]; exact Kd.S_nil _ _ _ _ _, HBF.out⟩
  ·
   go_wp2_with fail
   refine (is_calls errTail errShort W2).mono ?_
   rw [HNE.out.2.1]
   rintro e w' ⟨rfl, rfl⟩
   go_wp2_with fail
   refine (is_calls errTail errForm W2).mono ?_
   rw [HNE.out.2.2]
   rintro e w' ⟨rfl, rfl⟩
   go_wp2_with fail
   refine (is_calls errTail errTail W2).mono ?_
   rw [HEQ.out.2.2]
   rintro e w' ⟨rfl, rfl⟩
   go_wp2_with fail
   refine bodyPost_ret (results_list (rs := [.cell 2 31, .tmp 3]) rfl (by simp) (.cell w.heap.size 31 _ (0, 0) _ rfl HF.out Try.underlying31 rfl (by kernel_rfl) (.tmp .nil))) rfl ?_
   exact ⟨_, _, by rw [HI.out]; rfl, by rw [HI.out]; exact Kd.S_nil _ _ _ _ _, by rw [HI.out]; exact Kd.S_nil _ _ _ _ _, HBF.out⟩
 | false =>
  have hv : v = .nilIface := h2
  subst hv
  clear h2
  have hfin := i_fine l HY.out HL.out (by rw [HE.out])
  rw [HE.out] at hfin
  obtain ⟨r, hr, _⟩ := check_ev C P hfin.1 hfin.2
  have HI : Aside0 (iAns l = if r = true then ((C, P), 0) else (([], []), 1)) := ⟨by
   unfold iAns
   rw [HE.out]
   dsimp only
   rw [chkT_of hr]
   cases r <;> rfl⟩
  have HRR := amZ hr
  have y0 : W2.cell? ⟨bp, 0, none⟩ = some (.slice A0 C.length c0) := (zaY HBP.out 0).trans rfl
  have y1 : W2.cell? ⟨bp, 1, none⟩ = some (.slice A1 P.length c1) := (zaY HBP.out 1).trans rfl
  clear hfin hr
  go_wp2_with fail
  refine (is_nil errShort W2).mono ?_
  rintro e w' ⟨rfl, rfl⟩
  go_wp2_with fail
  refine (is_nil errForm W2).mono ?_
  rintro e w' ⟨rfl, rfl⟩
  go_wp2_with fail
  refine (is_nil errTail W2).mono ?_
  rintro e w' ⟨rfl, rfl⟩
  go_wp2_with fail
  refine (impl_Check.calls A0 c0 C A1 c1 P r W2 (Kd.S_reads' HS02.out).2.2 (Kd.S_reads' HS02.out).2.1 (Kd.S_reads' HS12.out).2.2 (Kd.S_reads' HS12.out).2.1 HRR.out).mono ?_
  rintro e W3 ⟨rfl, hb3⟩
  have HR3 : Aside0 (W3.heap[w.heap.size]? = some (.cells #[.slice none 0 0, .slice none 0 0] 31 (0, 0))) := ⟨(hb3.block _ (ziY HR2.out)).trans HR2.out⟩
  have HBP3 : Aside0 (W3.heap[bp]? = some (.cells #[.slice A0 C.length c0, .slice A1 P.length c1] 31 (0, 0))) := ⟨(hb3.block _ (ziY HBP.out)).trans HBP.out⟩
  have HBW3 := amZ (zdY HBW.out hb3)
  have HS03 := amZ (Kd.S_below HS02.out hb3)
  have HS13 := amZ (Kd.S_below HS12.out hb3)
  clear hb3 z0 z1 z2 z3 y0 y1 x1
  have z2 := zbY HR3.out 0
  have z3 := zbY HR3.out 1
  have z0 : W3.cell? ⟨w.heap.size, 0, none⟩ = some (.slice none 0 0) := (zaY HR3.out 0).trans rfl
  have z1 : W3.cell? ⟨w.heap.size, 1, none⟩ = some (.slice none 0 0) := (zaY HR3.out 1).trans rfl
  have y0 : W3.cell? ⟨bp, 0, none⟩ = some (.slice A0 C.length c0) := (zaY HBP3.out 0).trans rfl
  have y1 : W3.cell? ⟨bp, 1, none⟩ = some (.slice A1 P.length c1) := (zaY HBP3.out 1).trans rfl
  cases r with
  | false =>
   have HF : Aside0 (((W3.setCell ⟨w.heap.size, 0, none⟩ (.slice none 0 0)).setCell ⟨w.heap.size, 1, none⟩ (.slice none 0 0)).heap[w.heap.size]? = some (.cells #[.slice none 0 0, .slice none 0 0] 31 (0, 0))) := ⟨heap_setCell_same _ _ 1 _ 31 _ (heap_setCell_same W3 w.heap.size 0 _ 31 _ HR3.out)⟩
   have HBF : Aside0 (Below w.heap.size w ((W3.setCell ⟨w.heap.size, 0, none⟩ (.slice none 0 0)).setCell ⟨w.heap.size, 1, none⟩ (.slice none 0 0))) := ⟨(HBW3.out.setCell (Nat.le_refl _) _).setCell (Nat.le_refl _) _⟩
   go_wp2_with fail
   refine bodyPost_ret (results_list (rs := [.cell 2 31, .tmp 3]) rfl (by simp) (.cell w.heap.size 31 _ (0, 0) _ rfl HF.out Try.underlying31 rfl (by kernel_rfl) (.tmp .nil))) rfl ?_
   exact ⟨_, _, by rw [HI.out]; rfl, by rw [HI.out]; exact Kd.S_nil _ _ _ _ _, by rw [HI.out]; exact Kd.S_nil _ _ _ _ _, HBF.out⟩
  | true =>
   have ho1 := heap_setCell_same W3 w.heap.size 0 _ 31 (.slice A0 C.length c0) HR3.out
   have HF : Aside0 (((W3.setCell ⟨w.heap.size, 0, none⟩ (.slice A0 C.length c0)).setCell ⟨w.heap.size, 1, none⟩ (.slice A1 P.length c1)).heap[w.heap.size]? = some (.cells #[.slice A0 C.length c0, .slice A1 P.length c1] 31 (0, 0))) := ⟨heap_setCell_same _ _ 1 _ 31 _ ho1⟩
   have HBF : Aside0 (Below w.heap.size w ((W3.setCell ⟨w.heap.size, 0, none⟩ (.slice A0 C.length c0)).setCell ⟨w.heap.size, 1, none⟩ (.slice A1 P.length c1))) := ⟨(HBW3.out.setCell (Nat.le_refl _) _).setCell (Nat.le_refl _) _⟩
   have HSF0 := amZ (Kd.S_lower (Kd.S_set (Kd.S_set HS03.out HR3.out (by decide) 0 (.slice A0 C.length c0)) ho1 (by decide) 1 (.slice A1 P.length c1)) HB0.out.size)
   have HSF1 := amZ (Kd.S_lower (Kd.S_set (Kd.S_set HS13.out HR3.out (by decide) 0 (.slice A0 C.length c0)) ho1 (by decide) 1 (.slice A1 P.length c1)) HB0.out.size)
   clear ho1
   go_wp2_with fail
   refine bodyPost_ret (results_list (rs := [.cell 2 31, .tmp 3]) rfl (by simp) (.cell w.heap.size 31 _ (0, 0) _ rfl HF.out Try.underlying31 rfl (by kernel_rfl) (.tmp .nil))) rfl ?_
   exact ⟨_, _, by rw [HI.out]; rfl, by rw [HI.out]; exact HSF0.out, by rw [HI.out]; exact HSF1.out, HBF.out⟩
end Go.Proofs.Ytmmpiojekgfdjaa.C
