/- A part of the proof. -/
import Derived.Test.YtmmpiojekgfdjaaDoorZpCx0
import Derived.Test.YtmmpiojekgfdjaaDoorZpH12
import Derived.Test.YtmmpiojekgfdjaaDoorZpCx1
import Derived.Test.YtmmpiojekgfdjaaDoorZpK
namespace Go.Proofs.YtmmpiojekgfdjaaDoor.C
open Go.RowKit YtmmpiojekgfdjaaDoorW.PrintWords YtmmpiojekgfdjaaDoorW.PrintLast
set_option linter.unusedVariables false
set_option linter.unusedSimpArgs false
def spec_l4takes.j0 : Nat → Int → Int → Bool → Int → Int → Int → Option (Int × Int)
 | 0, _, _, _, _, _, _ => none
 | k + 1, x5, x6, x30, x132000, x132001, x132002 => if x30 = true then (some (wrap64 (x5 + x132001), 0)) else (if x132000 = 20 then (some (1, 0)) else (if x132000 = 21 then (some (1, 0)) else (some (x5, x6))))
def spec_l4takes.f (k : Nat) (a0_0 : Int) (a0_1 : Int) (a0_2 : Int) : Option (Int × Int) := (spec_l4row.f a0_0).bind fun bt132 => (if a0_0 = 22 then (some (wrap64 (bt132.2.1 + a0_1), a0_2)) else (if a0_0 = 23 then (spec_l4takes.j0 k bt132.2.1 bt132.2.2 true a0_0 a0_1 a0_2) else (spec_l4takes.j0 k bt132.2.1 bt132.2.2 (a0_0 == 24) a0_0 a0_1 a0_2)))
set_option maxHeartbeats 8000000 in
set_option maxRecDepth 100000 in
theorem spec_l4takes.calls (k : Nat) (a0_0 : Int) (a0_1 : Int) (a0_2 : Int) (r1 : Int) (r2 : Int) (w : World) (h : spec_l4takes.f k a0_0 a0_1 a0_2 = some (r1, r2)) :
  Calls Tryd.prog 57 #[.agg #[.int .i64 a0_0, .int .i64 a0_1, .int .i64 a0_2]] w fun e w' => e = .returned (.tuple #[.int .i64 r1, .int .i64 r2]) ∧ Below w.heap.size w w' := by
 have hu51 := Tryd.underlying51
 have HB := amZ (Below.refl w.heap.size w)
 have H : ((spec_l4row.f a0_0).bind fun bt132 => (if a0_0 = 22 then (some (wrap64 (bt132.2.1 + a0_1), a0_2)) else (if a0_0 = 23 then (spec_l4takes.j0 k bt132.2.1 bt132.2.2 true a0_0 a0_1 a0_2) else (spec_l4takes.j0 k bt132.2.1 bt132.2.2 (a0_0 == 24) a0_0 a0_1 a0_2)))) = some (r1, r2) := h
 clear h
 replace H := Option.bind_eq_some_iff.mp H
 obtain ⟨⟨t132, t133, t134⟩, A20, H⟩ := H
 replace H : (if a0_0 = 22 then (some (wrap64 (t133 + a0_1), a0_2)) else (if a0_0 = 23 then (spec_l4takes.j0 k t133 t134 true a0_0 a0_1 a0_2) else (spec_l4takes.j0 k t133 t134 (a0_0 == 24) a0_0 a0_1 a0_2))) = some (r1, r2) := H
 have A2 := amZ A20
 clear A20
 by_cases c3 : a0_0 = 22
 ·
  rw [if_pos c3] at H
  have c3b0 : (a0_0 == 22) = true := beq_iff_eq.mpr c3
  have c3b1 : (a0_0 != 22) = false := bne_eq_false_iff_eq.mpr c3
  clear c3
  simp only [Option.some.injEq, Prod.mk.injEq] at H
  obtain ⟨rfl, rfl⟩ := H
  go_enter Tryd.func57, Tryd.ntmps57
  go_wp2_with (first | ((with_reducible refine zmY (N := 1) rfl ?_); refine znY ?hg (N := 1) ?hd (cs := #[.int .i64 a0_0, .int .i64 a0_1, .int .i64 a0_2]) (t := 51) ?hr ?_; (case hd => rfl); (case hg => rfl); (case hr => first | (go_simp; done) | (go_simp; rfl)); intro gb131 hg w4 hbox hb; have n0_ := amZ (zcY bwZ hb); have n1_ := amZ (hbox); have n2_ := amZ ((by rw [hg]; exact (zgY bwZ) : w.heap.size ≤ gb131)); have n3_ := amZ ((by rw [hg]; exact (zgY bwZ) : w.heap.size ≤ gb131)); clear HB; have HB := n0_; have BK131 := n1_; have GW131 := n2_; have GE131 := n3_; clear n0_ n1_ n2_ n3_; clear hb hbox hg; have hcz5_0 : w4.cell? ⟨gb131, 0, none⟩ = some (.int .i64 a0_0) := (zaY BK131.out 0).trans rfl; have hcz5_1 : w4.cell? ⟨gb131, 1, none⟩ = some (.int .i64 a0_1) := (zaY BK131.out 1).trans rfl; have hcz5_2 : w4.cell? ⟨gb131, 2, none⟩ = some (.int .i64 a0_2) := (zaY BK131.out 2).trans rfl; have hfz5_0 := zbY BK131.out 0; have hfz5_1 := zbY BK131.out 1; have hfz5_2 := zbY BK131.out 2) | (go_at_call 38; (with_reducible refine (spec_l4row.calls a0_0 t132 t133 t134 _ A2.out).mono ?_); rintro e w6 ⟨rfl, hb⟩; have n0_ := amZ (zkY (g := gb131) (o := .cells #[.int .i64 a0_0, .int .i64 a0_1, .int .i64 a0_2] 51 (0, 0)) bkZ hb); have n1_ := amZ (zcY bwZ hb); clear BK131; clear HB; have BK131 := n0_; have HB := n1_; clear n0_ n1_; (try clear hb); (try clear hb2); (try clear hk); (try clear hi); have hcz7_0 : w6.cell? ⟨gb131, 0, none⟩ = some (.int .i64 a0_0) := (zaY BK131.out 0).trans rfl; have hcz7_1 : w6.cell? ⟨gb131, 1, none⟩ = some (.int .i64 a0_1) := (zaY BK131.out 1).trans rfl; have hcz7_2 : w6.cell? ⟨gb131, 2, none⟩ = some (.int .i64 a0_2) := (zaY BK131.out 2).trans rfl; have hfz7_0 := zbY BK131.out 0; have hfz7_1 := zbY BK131.out 1; have hfz7_2 := zbY BK131.out 2))
  repeat (go_quiet (first | ((with_reducible refine zmY (N := 1) rfl ?_); refine znY ?hg (N := 1) ?hd (cs := #[.int .i64 a0_0, .int .i64 a0_1, .int .i64 a0_2]) (t := 51) ?hr ?_; (case hd => rfl); (case hg => rfl); (case hr => first | (go_simp; done) | (go_simp; rfl)); intro gb131 hg w4 hbox hb; have n0_ := amZ (zcY bwZ hb); have n1_ := amZ (hbox); have n2_ := amZ ((by rw [hg]; exact (zgY bwZ) : w.heap.size ≤ gb131)); have n3_ := amZ ((by rw [hg]; exact (zgY bwZ) : w.heap.size ≤ gb131)); clear HB; have HB := n0_; have BK131 := n1_; have GW131 := n2_; have GE131 := n3_; clear n0_ n1_ n2_ n3_; clear hb hbox hg; have hcz5_0 : w4.cell? ⟨gb131, 0, none⟩ = some (.int .i64 a0_0) := (zaY BK131.out 0).trans rfl; have hcz5_1 : w4.cell? ⟨gb131, 1, none⟩ = some (.int .i64 a0_1) := (zaY BK131.out 1).trans rfl; have hcz5_2 : w4.cell? ⟨gb131, 2, none⟩ = some (.int .i64 a0_2) := (zaY BK131.out 2).trans rfl; have hfz5_0 := zbY BK131.out 0; have hfz5_1 := zbY BK131.out 1; have hfz5_2 := zbY BK131.out 2) | (go_at_call 38; (with_reducible refine (spec_l4row.calls a0_0 t132 t133 t134 _ A2.out).mono ?_); rintro e w6 ⟨rfl, hb⟩; have n0_ := amZ (zkY (g := gb131) (o := .cells #[.int .i64 a0_0, .int .i64 a0_1, .int .i64 a0_2] 51 (0, 0)) bkZ hb); have n1_ := amZ (zcY bwZ hb); clear BK131; clear HB; have BK131 := n0_; have HB := n1_; clear n0_ n1_; (try clear hb); (try clear hb2); (try clear hk); (try clear hi); have hcz7_0 : w6.cell? ⟨gb131, 0, none⟩ = some (.int .i64 a0_0) := (zaY BK131.out 0).trans rfl; have hcz7_1 : w6.cell? ⟨gb131, 1, none⟩ = some (.int .i64 a0_1) := (zaY BK131.out 1).trans rfl; have hcz7_2 : w6.cell? ⟨gb131, 2, none⟩ = some (.int .i64 a0_2) := (zaY BK131.out 2).trans rfl; have hfz7_0 := zbY BK131.out 0; have hfz7_1 := zbY BK131.out 1; have hfz7_2 := zbY BK131.out 2)); try go_wp2_with (first | ((with_reducible refine zmY (N := 1) rfl ?_); refine znY ?hg (N := 1) ?hd (cs := #[.int .i64 a0_0, .int .i64 a0_1, .int .i64 a0_2]) (t := 51) ?hr ?_; (case hd => rfl); (case hg => rfl); (case hr => first | (go_simp; done) | (go_simp; rfl)); intro gb131 hg w4 hbox hb; have n0_ := amZ (zcY bwZ hb); have n1_ := amZ (hbox); have n2_ := amZ ((by rw [hg]; exact (zgY bwZ) : w.heap.size ≤ gb131)); have n3_ := amZ ((by rw [hg]; exact (zgY bwZ) : w.heap.size ≤ gb131)); clear HB; have HB := n0_; have BK131 := n1_; have GW131 := n2_; have GE131 := n3_; clear n0_ n1_ n2_ n3_; clear hb hbox hg; have hcz5_0 : w4.cell? ⟨gb131, 0, none⟩ = some (.int .i64 a0_0) := (zaY BK131.out 0).trans rfl; have hcz5_1 : w4.cell? ⟨gb131, 1, none⟩ = some (.int .i64 a0_1) := (zaY BK131.out 1).trans rfl; have hcz5_2 : w4.cell? ⟨gb131, 2, none⟩ = some (.int .i64 a0_2) := (zaY BK131.out 2).trans rfl; have hfz5_0 := zbY BK131.out 0; have hfz5_1 := zbY BK131.out 1; have hfz5_2 := zbY BK131.out 2) | (go_at_call 38; (with_reducible refine (spec_l4row.calls a0_0 t132 t133 t134 _ A2.out).mono ?_); rintro e w6 ⟨rfl, hb⟩; have n0_ := amZ (zkY (g := gb131) (o := .cells #[.int .i64 a0_0, .int .i64 a0_1, .int .i64 a0_2] 51 (0, 0)) bkZ hb); have n1_ := amZ (zcY bwZ hb); clear BK131; clear HB; have BK131 := n0_; have HB := n1_; clear n0_ n1_; (try clear hb); (try clear hb2); (try clear hk); (try clear hi); have hcz7_0 : w6.cell? ⟨gb131, 0, none⟩ = some (.int .i64 a0_0) := (zaY BK131.out 0).trans rfl; have hcz7_1 : w6.cell? ⟨gb131, 1, none⟩ = some (.int .i64 a0_1) := (zaY BK131.out 1).trans rfl; have hcz7_2 : w6.cell? ⟨gb131, 2, none⟩ = some (.int .i64 a0_2) := (zaY BK131.out 2).trans rfl; have hfz7_0 := zbY BK131.out 0; have hfz7_1 := zbY BK131.out 1; have hfz7_2 := zbY BK131.out 2)))
  go_ret2
  exact ⟨by first | rfl | (simp [zjY, ziY] <;> rfl) | (simp [*, zjY, ziY] <;> rfl), bwZ⟩
 ·
  rw [if_neg c3] at H
  have c3b0 : (a0_0 == 22) = false := beq_eq_false_iff_ne.mpr c3
  have c3b1 : (a0_0 != 22) = true := bne_iff_ne.mpr c3
  have HC8 := amZ H
  clear H
  go_enter Tryd.func57, Tryd.ntmps57
  go_upto_region 4 with (first | ((with_reducible refine zmY (N := 1) rfl ?_); refine znY ?hg (N := 1) ?hd (cs := #[.int .i64 a0_0, .int .i64 a0_1, .int .i64 a0_2]) (t := 51) ?hr ?_; (case hd => rfl); (case hg => rfl); (case hr => first | (go_simp; done) | (go_simp; rfl)); intro gb131 hg w9 hbox hb; have n0_ := amZ (zcY bwZ hb); have n1_ := amZ (hbox); have n2_ := amZ ((by rw [hg]; exact (zgY bwZ) : w.heap.size ≤ gb131)); have n3_ := amZ ((by rw [hg]; exact (zgY bwZ) : w.heap.size ≤ gb131)); clear HB; have HB := n0_; have BK131 := n1_; have GW131 := n2_; have GE131 := n3_; clear n0_ n1_ n2_ n3_; clear hb hbox hg; have hcz10_0 : w9.cell? ⟨gb131, 0, none⟩ = some (.int .i64 a0_0) := (zaY BK131.out 0).trans rfl; have hcz10_1 : w9.cell? ⟨gb131, 1, none⟩ = some (.int .i64 a0_1) := (zaY BK131.out 1).trans rfl; have hcz10_2 : w9.cell? ⟨gb131, 2, none⟩ = some (.int .i64 a0_2) := (zaY BK131.out 2).trans rfl; have hfz10_0 := zbY BK131.out 0; have hfz10_1 := zbY BK131.out 1; have hfz10_2 := zbY BK131.out 2) | (go_at_call 38; (with_reducible refine (spec_l4row.calls a0_0 t132 t133 t134 _ A2.out).mono ?_); rintro e w11 ⟨rfl, hb⟩; have n0_ := amZ (zkY (g := gb131) (o := .cells #[.int .i64 a0_0, .int .i64 a0_1, .int .i64 a0_2] 51 (0, 0)) bkZ hb); have n1_ := amZ (zcY bwZ hb); clear BK131; clear HB; have BK131 := n0_; have HB := n1_; clear n0_ n1_; (try clear hb); (try clear hb2); (try clear hk); (try clear hi); have hcz12_0 : w11.cell? ⟨gb131, 0, none⟩ = some (.int .i64 a0_0) := (zaY BK131.out 0).trans rfl; have hcz12_1 : w11.cell? ⟨gb131, 1, none⟩ = some (.int .i64 a0_1) := (zaY BK131.out 1).trans rfl; have hcz12_2 : w11.cell? ⟨gb131, 2, none⟩ = some (.int .i64 a0_2) := (zaY BK131.out 2).trans rfl; have hfz12_0 := zbY BK131.out 0; have hfz12_1 := zbY BK131.out 1; have hfz12_2 := zbY BK131.out 2))
  repeat (go_quiet (first | ((with_reducible refine zmY (N := 1) rfl ?_); refine znY ?hg (N := 1) ?hd (cs := #[.int .i64 a0_0, .int .i64 a0_1, .int .i64 a0_2]) (t := 51) ?hr ?_; (case hd => rfl); (case hg => rfl); (case hr => first | (go_simp; done) | (go_simp; rfl)); intro gb131 hg w9 hbox hb; have n0_ := amZ (zcY bwZ hb); have n1_ := amZ (hbox); have n2_ := amZ ((by rw [hg]; exact (zgY bwZ) : w.heap.size ≤ gb131)); have n3_ := amZ ((by rw [hg]; exact (zgY bwZ) : w.heap.size ≤ gb131)); clear HB; have HB := n0_; have BK131 := n1_; have GW131 := n2_; have GE131 := n3_; clear n0_ n1_ n2_ n3_; clear hb hbox hg; have hcz10_0 : w9.cell? ⟨gb131, 0, none⟩ = some (.int .i64 a0_0) := (zaY BK131.out 0).trans rfl; have hcz10_1 : w9.cell? ⟨gb131, 1, none⟩ = some (.int .i64 a0_1) := (zaY BK131.out 1).trans rfl; have hcz10_2 : w9.cell? ⟨gb131, 2, none⟩ = some (.int .i64 a0_2) := (zaY BK131.out 2).trans rfl; have hfz10_0 := zbY BK131.out 0; have hfz10_1 := zbY BK131.out 1; have hfz10_2 := zbY BK131.out 2) | (go_at_call 38; (with_reducible refine (spec_l4row.calls a0_0 t132 t133 t134 _ A2.out).mono ?_); rintro e w11 ⟨rfl, hb⟩; have n0_ := amZ (zkY (g := gb131) (o := .cells #[.int .i64 a0_0, .int .i64 a0_1, .int .i64 a0_2] 51 (0, 0)) bkZ hb); have n1_ := amZ (zcY bwZ hb); clear BK131; clear HB; have BK131 := n0_; have HB := n1_; clear n0_ n1_; (try clear hb); (try clear hb2); (try clear hk); (try clear hi); have hcz12_0 : w11.cell? ⟨gb131, 0, none⟩ = some (.int .i64 a0_0) := (zaY BK131.out 0).trans rfl; have hcz12_1 : w11.cell? ⟨gb131, 1, none⟩ = some (.int .i64 a0_1) := (zaY BK131.out 1).trans rfl; have hcz12_2 : w11.cell? ⟨gb131, 2, none⟩ = some (.int .i64 a0_2) := (zaY BK131.out 2).trans rfl; have hfz12_0 := zbY BK131.out 0; have hfz12_1 := zbY BK131.out 1; have hfz12_2 := zbY BK131.out 2)); go_upto_region 4 with (first | ((with_reducible refine zmY (N := 1) rfl ?_); refine znY ?hg (N := 1) ?hd (cs := #[.int .i64 a0_0, .int .i64 a0_1, .int .i64 a0_2]) (t := 51) ?hr ?_; (case hd => rfl); (case hg => rfl); (case hr => first | (go_simp; done) | (go_simp; rfl)); intro gb131 hg w9 hbox hb; have n0_ := amZ (zcY bwZ hb); have n1_ := amZ (hbox); have n2_ := amZ ((by rw [hg]; exact (zgY bwZ) : w.heap.size ≤ gb131)); have n3_ := amZ ((by rw [hg]; exact (zgY bwZ) : w.heap.size ≤ gb131)); clear HB; have HB := n0_; have BK131 := n1_; have GW131 := n2_; have GE131 := n3_; clear n0_ n1_ n2_ n3_; clear hb hbox hg; have hcz10_0 : w9.cell? ⟨gb131, 0, none⟩ = some (.int .i64 a0_0) := (zaY BK131.out 0).trans rfl; have hcz10_1 : w9.cell? ⟨gb131, 1, none⟩ = some (.int .i64 a0_1) := (zaY BK131.out 1).trans rfl; have hcz10_2 : w9.cell? ⟨gb131, 2, none⟩ = some (.int .i64 a0_2) := (zaY BK131.out 2).trans rfl; have hfz10_0 := zbY BK131.out 0; have hfz10_1 := zbY BK131.out 1; have hfz10_2 := zbY BK131.out 2) | (go_at_call 38; (with_reducible refine (spec_l4row.calls a0_0 t132 t133 t134 _ A2.out).mono ?_); rintro e w11 ⟨rfl, hb⟩; have n0_ := amZ (zkY (g := gb131) (o := .cells #[.int .i64 a0_0, .int .i64 a0_1, .int .i64 a0_2] 51 (0, 0)) bkZ hb); have n1_ := amZ (zcY bwZ hb); clear BK131; clear HB; have BK131 := n0_; have HB := n1_; clear n0_ n1_; (try clear hb); (try clear hb2); (try clear hk); (try clear hi); have hcz12_0 : w11.cell? ⟨gb131, 0, none⟩ = some (.int .i64 a0_0) := (zaY BK131.out 0).trans rfl; have hcz12_1 : w11.cell? ⟨gb131, 1, none⟩ = some (.int .i64 a0_1) := (zaY BK131.out 1).trans rfl; have hcz12_2 : w11.cell? ⟨gb131, 2, none⟩ = some (.int .i64 a0_2) := (zaY BK131.out 2).trans rfl; have hfz12_0 := zbY BK131.out 0; have hfz12_1 := zbY BK131.out 1; have hfz12_2 := zbY BK131.out 2)))
  (try simp only [Act.put, List.setIfInBounds_toArray, List.set_cons_zero, List.set_cons_succ])
  go_cut [30] (fun v30 wc => ∃ (kq : Nat) (x30_7 : Bool), v30 = .bool x30_7 ∧ Aside0 (spec_l4takes.j0 kq t133 t134 x30_7 a0_0 a0_1 a0_2 = some (r1, r2)) ∧ Aside0 (kq ≤ k) ∧ Aside0 (wc.heap[gb131]? = some (.cells #[.int .i64 a0_0, .int .i64 a0_1, .int .i64 a0_2] 51 (0, 0))) ∧ Aside0 (Below w.heap.size w wc))
  case first =>
   have H := HC8.out
   clear HC8
   by_cases c13 : a0_0 = 23
   ·
    rw [if_pos c13] at H
    have c13b0 : (a0_0 == 23) = true := beq_iff_eq.mpr c13
    have c13b1 : (a0_0 != 23) = false := bne_eq_false_iff_eq.mpr c13
    clear c13
    (first | rw [c13b0] | (simp only [i64_w, i32_w]; rw [c13b0]) | skip)
    have H' := amZ H
    clear H
    have hcz14_0 : w11.cell? ⟨gb131, 0, none⟩ = some (.int .i64 a0_0) := (zaY BK131.out 0).trans rfl
    have hcz14_1 : w11.cell? ⟨gb131, 1, none⟩ = some (.int .i64 a0_1) := (zaY BK131.out 1).trans rfl
    have hcz14_2 : w11.cell? ⟨gb131, 2, none⟩ = some (.int .i64 a0_2) := (zaY BK131.out 2).trans rfl
    have hfz14_0 := zbY BK131.out 0
    have hfz14_1 := zbY BK131.out 1
    have hfz14_2 := zbY BK131.out 2
    go_wp2
    repeat (go_quiet (fail); try go_wp2)
    go_meet
    case rel => exact ⟨_, (true), (by first | rfl | (simp; done) | (simp [*]; done)), H', ⟨by first | omega | exact Nat.le_refl _⟩, ⟨by (with_reducible repeat (first | refine zeY ?_ _ | refine zhY ?_ | refine zfY ?_ _)); exact BK131.out⟩, ⟨bwZ⟩⟩
   ·
    rw [if_neg c13] at H
    have c13b0 : (a0_0 == 23) = false := beq_eq_false_iff_ne.mpr c13
    have c13b1 : (a0_0 != 23) = true := bne_iff_ne.mpr c13
    (first | rw [c13b0] | (simp only [i64_w, i32_w]; rw [c13b0]) | skip)
    have H' := amZ H
    clear H
    have hcz15_0 : w11.cell? ⟨gb131, 0, none⟩ = some (.int .i64 a0_0) := (zaY BK131.out 0).trans rfl
    have hcz15_1 : w11.cell? ⟨gb131, 1, none⟩ = some (.int .i64 a0_1) := (zaY BK131.out 1).trans rfl
    have hcz15_2 : w11.cell? ⟨gb131, 2, none⟩ = some (.int .i64 a0_2) := (zaY BK131.out 2).trans rfl
    have hfz15_0 := zbY BK131.out 0
    have hfz15_1 := zbY BK131.out 1
    have hfz15_2 := zbY BK131.out 2
    go_wp2
    repeat (go_quiet (fail); try go_wp2)
    go_meet
    case rel => exact ⟨_, ((a0_0 == 24)), (by first | rfl | (simp; done) | (simp [*]; done)), H', ⟨by first | omega | exact Nat.le_refl _⟩, ⟨by (with_reducible repeat (first | refine zeY ?_ _ | refine zhY ?_ | refine zfY ?_ _)); exact BK131.out⟩, ⟨bwZ⟩⟩
  case rest =>
   clear HC8
   try clear c1
   try clear p2
   try clear c3
   try clear c3b0
   try clear c3b1
   try clear c5
   try clear p6
   try clear c13
   try clear c13b0
   try clear c13b1
   try clear hcz10_0
   try clear hcz10_1
   try clear hcz10_2
   try clear hcz12_0
   try clear hcz12_1
   try clear hcz12_2
   try clear hcz14_0
   try clear hcz14_1
   try clear hcz14_2
   try clear hcz15_0
   try clear hcz15_1
   try clear hcz15_2
   try clear hcz5_0
   try clear hcz5_1
   try clear hcz5_2
   try clear hcz7_0
   try clear hcz7_1
   try clear hcz7_2
   try clear hfz10_0
   try clear hfz10_1
   try clear hfz10_2
   try clear hfz12_0
   try clear hfz12_1
   try clear hfz12_2
   try clear hfz14_0
   try clear hfz14_1
   try clear hfz14_2
   try clear hfz15_0
   try clear hfz15_1
   try clear hfz15_2
   try clear hfz5_0
   try clear hfz5_1
   try clear hfz5_2
   try clear hfz7_0
   try clear hfz7_1
   try clear hfz7_2
   obtain ⟨kq, x30_7, rfl, HA, HJ7, BK131, HB⟩ := hcut
   cases kq with
   | zero => exact absurd HA.out (by simp [spec_l4takes.j0])
   | succ kj7 =>
    have H := HA.out
    clear HA
    simp only [spec_l4takes.j0] at H
    by_cases c16 : x30_7 = true
    ·
     subst c16
     have H1 : (some (wrap64 (t133 + a0_1), 0)) = some (r1, r2) := by rw [if_pos rfl] at H; exact H
     clear H
     have H := H1
     clear H1
     simp only [Option.some.injEq, Prod.mk.injEq] at H
     obtain ⟨rfl, rfl⟩ := H
     have hcz17_0 : wc.cell? ⟨gb131, 0, none⟩ = some (.int .i64 a0_0) := (zaY BK131.out 0).trans rfl
     have hcz17_1 : wc.cell? ⟨gb131, 1, none⟩ = some (.int .i64 a0_1) := (zaY BK131.out 1).trans rfl
     have hcz17_2 : wc.cell? ⟨gb131, 2, none⟩ = some (.int .i64 a0_2) := (zaY BK131.out 2).trans rfl
     have hfz17_0 := zbY BK131.out 0
     have hfz17_1 := zbY BK131.out 1
     have hfz17_2 := zbY BK131.out 2
     go_wp2
     repeat (go_quiet (fail); try go_wp2)
     go_ret2
     exact ⟨by first | rfl | (simp [zjY, ziY] <;> rfl) | (simp [*, zjY, ziY] <;> rfl), bwZ⟩
    ·
     replace c16 := Bool.eq_false_iff.mpr c16
     subst c16
     have H1 : (if a0_0 = 20 then (some (1, 0)) else (if a0_0 = 21 then (some (1, 0)) else (some (t133, t134)))) = some (r1, r2) := by rw [if_neg (show ¬ (false = true) by decide)] at H; exact H
     clear H
     have H := H1
     clear H1
     by_cases c18 : a0_0 = 20
     ·
      rw [if_pos c18] at H
      have c18b0 : (a0_0 == 20) = true := beq_iff_eq.mpr c18
      have c18b1 : (a0_0 != 20) = false := bne_eq_false_iff_eq.mpr c18
      clear c18
      simp only [Option.some.injEq, Prod.mk.injEq] at H
      obtain ⟨rfl, rfl⟩ := H
      have hcz19_0 : wc.cell? ⟨gb131, 0, none⟩ = some (.int .i64 a0_0) := (zaY BK131.out 0).trans rfl
      have hcz19_1 : wc.cell? ⟨gb131, 1, none⟩ = some (.int .i64 a0_1) := (zaY BK131.out 1).trans rfl
      have hcz19_2 : wc.cell? ⟨gb131, 2, none⟩ = some (.int .i64 a0_2) := (zaY BK131.out 2).trans rfl
      have hfz19_0 := zbY BK131.out 0
      have hfz19_1 := zbY BK131.out 1
      have hfz19_2 := zbY BK131.out 2
      go_wp2
      repeat (go_quiet (fail); try go_wp2)
      go_ret2
      exact ⟨by first | rfl | (simp [zjY, ziY] <;> rfl) | (simp [*, zjY, ziY] <;> rfl), bwZ⟩
     ·
      rw [if_neg c18] at H
      have c18b0 : (a0_0 == 20) = false := beq_eq_false_iff_ne.mpr c18
      have c18b1 : (a0_0 != 20) = true := bne_iff_ne.mpr c18
      by_cases c20 : a0_0 = 21
      ·
       rw [if_pos c20] at H
       have c20b0 : (a0_0 == 21) = true := beq_iff_eq.mpr c20
       have c20b1 : (a0_0 != 21) = false := bne_eq_false_iff_eq.mpr c20
       clear c20
       simp only [Option.some.injEq, Prod.mk.injEq] at H
       obtain ⟨rfl, rfl⟩ := H
       have hcz21_0 : wc.cell? ⟨gb131, 0, none⟩ = some (.int .i64 a0_0) := (zaY BK131.out 0).trans rfl
       have hcz21_1 : wc.cell? ⟨gb131, 1, none⟩ = some (.int .i64 a0_1) := (zaY BK131.out 1).trans rfl
       have hcz21_2 : wc.cell? ⟨gb131, 2, none⟩ = some (.int .i64 a0_2) := (zaY BK131.out 2).trans rfl
       have hfz21_0 := zbY BK131.out 0
       have hfz21_1 := zbY BK131.out 1
       have hfz21_2 := zbY BK131.out 2
       go_wp2
       repeat (go_quiet (fail); try go_wp2)
       go_ret2
       exact ⟨by first | rfl | (simp [zjY, ziY] <;> rfl) | (simp [*, zjY, ziY] <;> rfl), bwZ⟩
      ·
       rw [if_neg c20] at H
       have c20b0 : (a0_0 == 21) = false := beq_eq_false_iff_ne.mpr c20
       have c20b1 : (a0_0 != 21) = true := bne_iff_ne.mpr c20
       simp only [Option.some.injEq, Prod.mk.injEq] at H
       obtain ⟨rfl, rfl⟩ := H
       have hcz22_0 : wc.cell? ⟨gb131, 0, none⟩ = some (.int .i64 a0_0) := (zaY BK131.out 0).trans rfl
       have hcz22_1 : wc.cell? ⟨gb131, 1, none⟩ = some (.int .i64 a0_1) := (zaY BK131.out 1).trans rfl
       have hcz22_2 : wc.cell? ⟨gb131, 2, none⟩ = some (.int .i64 a0_2) := (zaY BK131.out 2).trans rfl
       have hfz22_0 := zbY BK131.out 0
       have hfz22_1 := zbY BK131.out 1
       have hfz22_2 := zbY BK131.out 2
       go_wp2
       repeat (go_quiet (fail); try go_wp2)
       go_ret2
       exact ⟨by first | rfl | (simp [zjY, ziY] <;> rfl) | (simp [*, zjY, ziY] <;> rfl), bwZ⟩
theorem l4row_rows : ∀ op : Fin 28, (spec_l4row.f (op.val : Int)).map (fun x => (x.2.1, x.2.2)) = some (rowT op.val, if op.val = 20 ∨ op.val = 21 then 1 else rowL op.val) := by decide +kernel
theorem takesC : TakesC := by
 intro op a b w hop h0 h1
 refine spec_l4takes.calls 1 (op : Int) a b _ _ w ?_
 have hr := l4row_rows ⟨op, hop⟩
 have hb := row_bound op hop
 simp only at hr
 unfold spec_l4takes.f
 cases e : spec_l4row.f (op : Int) with
 | none => rw [e] at hr; cases hr
 | some x =>
  rw [e] at hr
  injection hr with hr
  injection hr with hx1 hx2
  have hw : wrap64 (rowT op + a) = rowT op + a := wrapB (by omega) (by omega)
  simp only [Option.bind_some]
  rw [hx1, hx2]
  by_cases c22 : op = 22
  ·
   subst c22; simp [takesOf, leavesOf, spec_l4takes.j0, hw]
  have n22 : ¬ ((op : Int) = 22) := by omega
  by_cases c23 : op = 23
  ·
   subst c23; simp [takesOf, leavesOf, spec_l4takes.j0, hw]
  have n23 : ¬ ((op : Int) = 23) := by omega
  by_cases c24 : op = 24
  ·
   subst c24; simp [takesOf, leavesOf, spec_l4takes.j0, hw]
  have n24 : ((op : Int) == 24) = false := by rw [beq_eq_false_iff_ne]; omega
  rw [if_neg n22, if_neg n23, n24]
  unfold takesOf leavesOf
  rw [if_neg (show ¬ (op = 22 ∨ op = 23 ∨ op = 24) by omega), if_neg c22, if_neg (show ¬ (op = 23 ∨ op = 24) by omega)]
  simp only [spec_l4takes.j0]
  rw [if_neg (by simp)]
  by_cases c20 : op = 20
  ·
   subst c20; rfl
  by_cases c21 : op = 21
  ·
   subst c21; rfl
  rw [if_neg (by omega), if_neg (by omega), if_neg (by omega)]
def spec_l4heights.f (a0_0 : Int) (a0_1 : Int) (l0_2 : List S48) (l0_3 : List S51) : Option Bool := if l0_3.length ≤ 2000000 then shStart l0_3 (3 * l0_3.length + 5) else none
theorem spec_l4heights.calls (a0_0 : Int) (a0_1 : Int) (A0_2 : Option Addr) (c0_2 : Nat) (l0_2 : List (S48)) (A0_3 : Option Addr) (c0_3 : Nat) (l0_3 : List (S51)) (r : Bool) (w : World) (hr0_2 : Kd.C k48 w A0_2 l0_2.length l0_2) (hc0_2 : l0_2.length ≤ c0_2) (hr0_3 : Kd.C k51 w A0_3 l0_3.length l0_3) (hc0_3 : l0_3.length ≤ c0_3) (h : spec_l4heights.f a0_0 a0_1 l0_2 l0_3 = some r) :
  Calls Tryd.prog 35 #[.agg #[.int .i64 a0_0, .int .i64 a0_1, .slice A0_2 l0_2.length c0_2, .slice A0_3 l0_3.length c0_3]] w fun e w' => e = .returned (.bool r) ∧ Below w.heap.size w w' := by
 unfold spec_l4heights.f at h
 split at h
 ·
  rename_i hl
  exact l4heights_calls takesC a0_0 a0_1 A0_2 l0_2.length c0_2 A0_3 c0_3 l0_3 _ r w hr0_3 hl h
 ·
  cases h
end Go.Proofs.YtmmpiojekgfdjaaDoor.C
