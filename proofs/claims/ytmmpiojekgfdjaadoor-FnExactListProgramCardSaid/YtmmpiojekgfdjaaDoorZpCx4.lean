/- A part of the proof. -/
import Derived.Test.YtmmpiojekgfdjaaDoorZpCx0
import Derived.Test.YtmmpiojekgfdjaaDoorZpCx2
import Derived.Test.YtmmpiojekgfdjaaDoorZpCx3
import Derived.Test.YtmmpiojekgfdjaaDoorZpK
namespace Go.Proofs.YtmmpiojekgfdjaaDoor.C
open Go.RowKit YtmmpiojekgfdjaaDoorW.PrintWords YtmmpiojekgfdjaaDoorW.PrintLast
set_option linter.unusedVariables false
set_option linter.unusedSimpArgs false
mutual
def spec_Check.j0 : Nat → Bool → List (S69) → List (S45) → Option (Bool)
 | 0, _, _, _ => none
 | k + 1, x27, x136000, x136001 => if x27 = true then (some false) else (spec_Check.l0 k 0 x136000 x136001)
def spec_Check.l0 : Nat → Int → List (S69) → List (S45) → Option (Bool)
 | 0, _, _, _ => none
 | k + 1, x3, x136000, x136001 => if x3 < (x136000.length : Int) then (if 0 ≤ x3 then (if (((rd_T69 x136000 x3).f2).length : Int) > 5000 then (some false) else (if (rd_T69 x136000 x3).f0 = true then (if ((rd_T69 x136000 x3).f1) = 0 then (if ((rd_T69 x136000 x3).f0 = true) then (spec_Check.l0 k (wrap64 (x3 + 1)) x136000 x136001) else (if (((rd_T69 x136000 x3).f2).length : Int) = 0 then (spec_Check.l0 k (wrap64 (x3 + 1)) x136000 x136001) else (some false))) else (some false)) else (if ((rd_T69 x136000 x3).f0 = true) then (spec_Check.l0 k (wrap64 (x3 + 1)) x136000 x136001) else (if (((rd_T69 x136000 x3).f2).length : Int) = 0 then (spec_Check.l0 k (wrap64 (x3 + 1)) x136000 x136001) else (some false))))) else (none)) else (spec_Check.l1 k 0 0 x136000 x136001)
def spec_Check.l1 : Nat → Int → Int → List (S69) → List (S45) → Option (Bool)
 | 0, _, _, _, _ => none
 | k + 1, x5, x6, x136000, x136001 => if x6 < (x136001.length : Int) then (if 0 ≤ x6 then (if ((rd_T45 x136001 x6).f0) < 0 then (spec_Check.j3 k (wrap64 (x5 + (((rd_T45 x136001 x6).f3).length : Int))) x6 true x136000 x136001 ((rd_T45 x136001 x6).f0) ((rd_T45 x136001 x6).f1) ((rd_T45 x136001 x6).f2) ((rd_T45 x136001 x6).f3)) else (if ((rd_T45 x136001 x6).f0) > ((rd_T45 x136001 x6).f1) then (spec_Check.j3 k (wrap64 (x5 + (((rd_T45 x136001 x6).f3).length : Int))) x6 true x136000 x136001 ((rd_T45 x136001 x6).f0) ((rd_T45 x136001 x6).f1) ((rd_T45 x136001 x6).f2) ((rd_T45 x136001 x6).f3)) else (if ((rd_T45 x136001 x6).f1) > 200 then (spec_Check.j3 k (wrap64 (x5 + (((rd_T45 x136001 x6).f3).length : Int))) x6 true x136000 x136001 ((rd_T45 x136001 x6).f0) ((rd_T45 x136001 x6).f1) ((rd_T45 x136001 x6).f2) ((rd_T45 x136001 x6).f3)) else (if (((rd_T45 x136001 x6).f2).length : Int) > 100 then (spec_Check.j3 k (wrap64 (x5 + (((rd_T45 x136001 x6).f3).length : Int))) x6 true x136000 x136001 ((rd_T45 x136001 x6).f0) ((rd_T45 x136001 x6).f1) ((rd_T45 x136001 x6).f2) ((rd_T45 x136001 x6).f3)) else (spec_Check.j3 k (wrap64 (x5 + (((rd_T45 x136001 x6).f3).length : Int))) x6 ((((rd_T45 x136001 x6).f3).length : Int) == 0) x136000 x136001 ((rd_T45 x136001 x6).f0) ((rd_T45 x136001 x6).f1) ((rd_T45 x136001 x6).f2) ((rd_T45 x136001 x6).f3)))))) else (none)) else (if x5 > 20000 then (some false) else (spec_Check.l3 k 0 x136000 x136001))
def spec_Check.j3 : Nat → Int → Int → Bool → List (S69) → List (S45) → Int → Int → List (S48) → List (S51) → Option (Bool)
 | 0, _, _, _, _, _, _, _, _, _ => none
 | k + 1, x5, x6, x107, x136000, x136001, x140000, x140001, x140002, x140003 => if x107 = true then (some false) else (if x6 = 0 then (if x140000 = 0 then (spec_Check.j4 k x5 x6 ((x140002.length : Int) != 0) x136000 x136001 x140000 x140001 x140002 x140003) else (spec_Check.j4 k x5 x6 true x136000 x136001 x140000 x140001 x140002 x140003)) else (spec_Check.j4 k x5 x6 false x136000 x136001 x140000 x140001 x140002 x140003))
def spec_Check.j4 : Nat → Int → Int → Bool → List (S69) → List (S45) → Int → Int → List (S48) → List (S51) → Option (Bool)
 | 0, _, _, _, _, _, _, _, _, _ => none
 | k + 1, x5, x6, x120, x136000, x136001, x140000, x140001, x140002, x140003 => if x120 = true then (some false) else (spec_Check.l2 k x5 x6 0 x136000 x136001 x140000 x140001 x140002 x140003)
def spec_Check.l2 : Nat → Int → Int → Int → List (S69) → List (S45) → Int → Int → List (S48) → List (S51) → Option (Bool)
 | 0, _, _, _, _, _, _, _, _, _ => none
 | k + 1, x5, x6, x8, x136000, x136001, x140000, x140001, x140002, x140003 => if x8 < (x140002.length : Int) then (if 0 ≤ x8 then (if ((rd_T48 x140002 x8).f1) < 0 then (some false) else (if ((rd_T48 x140002 x8).f1) ≥ 200 then (some false) else (spec_Check.l2 k x5 x6 (wrap64 (x8 + 1)) x136000 x136001 x140000 x140001 x140002 x140003))) else (none)) else (spec_Check.l1 k x5 (wrap64 (x6 + 1)) x136000 x136001)
def spec_Check.l3 : Nat → Int → List (S69) → List (S45) → Option (Bool)
 | 0, _, _, _ => none
 | k + 1, x9, x136000, x136001 => if x9 < (x136001.length : Int) then (if 0 ≤ x9 then (spec_Check.l4 k x9 0 x136000 x136001 ((rd_T45 x136001 x9).f0) ((rd_T45 x136001 x9).f1) ((rd_T45 x136001 x9).f2) ((rd_T45 x136001 x9).f3)) else (none)) else (some true)
def spec_Check.l4 : Nat → Int → Int → List (S69) → List (S45) → Int → Int → List (S48) → List (S51) → Option (Bool)
 | 0, _, _, _, _, _, _, _, _ => none
 | k + 1, x9, x11, x136000, x136001, x144000, x144001, x144002, x144003 => if x11 < (x144003.length : Int) then (if 0 ≤ x11 then ((spec_l4insOK.f k x136000 x136001 x144000 x144001 x144002 x144003 ((rd_T51 x144003 x11).f0) ((rd_T51 x144003 x11).f1) ((rd_T51 x144003 x11).f2)).bind fun t145 => (if t145 = true then (spec_Check.l4 k x9 (wrap64 (x11 + 1)) x136000 x136001 x144000 x144001 x144002 x144003) else (some false))) else (none)) else ((spec_l4heights.f x144000 x144001 x144002 x144003).bind fun t146 => (if t146 = true then (spec_Check.l3 k (wrap64 (x9 + 1)) x136000 x136001) else (some false)))
end
def spec_Check.f (k : Nat) (l0_0 : List (S69)) (l0_1 : List (S45)) : Option (Bool) := if (l0_1.length : Int) < 1 then (spec_Check.j0 k true l0_0 l0_1) else (if (l0_1.length : Int) > 500 then (spec_Check.j0 k true l0_0 l0_1) else (spec_Check.j0 k (decide ((l0_0.length : Int) > 20000)) l0_0 l0_1))
def spec_Check.T33 : Bool × List (List Nat × List Nat) := (true, [([], []), ([], []), ([], []), ([2], [2]), ([], []), ([3, 4], [3, 4]), ([5], [5]), ([0, 1, 6], [0, 1, 6]), ([7], [7])])
def spec_Check.B33 : List Nat := [0, 0, 0, 4, 0, 28, 60, 127, 255]
theorem spec_Check.tab33 : rtab .any (opsOf Tryd.f15 33) = spec_Check.T33 := by kernel_rfl
theorem spec_Check.bits33 : waitsOk spec_Check.T33.2 spec_Check.B33 = true := by kernel_rfl
set_option maxHeartbeats 8000000 in
set_option maxRecDepth 100000 in
theorem spec_Check.calls (k : Nat) (A0_0 : Option Addr) (c0_0 : Nat) (l0_0 : List (S69)) (A0_1 : Option Addr) (c0_1 : Nat) (l0_1 : List (S45)) (r : Bool) (w : World) (hr0_0 : Kd.C k69 w A0_0 l0_0.length l0_0) (hc0_0 : l0_0.length ≤ c0_0) (hr0_1 : Kd.C k45 w A0_1 l0_1.length l0_1) (hc0_1 : l0_1.length ≤ c0_1) (h : spec_Check.f k l0_0 l0_1 = some r) :
  Calls Tryd.prog 15 #[.agg #[.slice A0_0 l0_0.length c0_0, .slice A0_1 l0_1.length c0_1]] w fun e w' => e = .returned (.bool r) ∧ Below w.heap.size w w' := by
 have hu32 := Tryd.underlying32
 have hu69 := Tryd.underlying69
 have hu45 := Tryd.underlying45
 have hu51 := Tryd.underlying51
 have HR0_0 := amZ hr0_0
 have HC0_0 := amZ hc0_0
 clear hr0_0 hc0_0
 have HR0_1 := amZ hr0_1
 have HC0_1 := amZ hc0_1
 clear hr0_1 hc0_1
 have HB := amZ (Below.refl w.heap.size w)
 have H : (if (l0_1.length : Int) < 1 then (spec_Check.j0 k true l0_0 l0_1) else (if (l0_1.length : Int) > 500 then (spec_Check.j0 k true l0_0 l0_1) else (spec_Check.j0 k (decide ((l0_0.length : Int) > 20000)) l0_0 l0_1))) = some r := h
 clear h
 have HC2 := amZ H
 clear H
 go_enter Tryd.func15, Tryd.ntmps15
 go_upto_region 1 with (first | ((with_reducible refine zmY (N := 1) rfl ?_); (try (refine gate_guard (by rfl) ?_; dsimp only)); refine znY ?hg (N := 1) ?hd (cs := #[.slice A0_0 l0_0.length c0_0, .slice A0_1 l0_1.length c0_1]) (t := 32) ?hr ?_; (case hd => rfl); (case hg => rfl); (case hr => first | (go_simp; done) | (go_simp; rfl)); intro gb135 hg w3 hbox hb; have n0_ := amZ (zcY bwZ hb); have n1_ := amZ (hbox); have n2_ := amZ ((by rw [hg]; exact (zgY bwZ) : w.heap.size ≤ gb135)); have n3_ := amZ ((by rw [hg]; exact (zgY bwZ) : w.heap.size ≤ gb135)); clear HB; have HB := n0_; have BK135 := n1_; have GW135 := n2_; have GE135 := n3_; clear n0_ n1_ n2_ n3_; clear hb hbox hg))
 (try simp only [Act.put, List.setIfInBounds_toArray, List.set_cons_zero, List.set_cons_succ])
 go_cut [27] (fun v27 wc => ∃ (kq : Nat) (x27_1 : Bool), v27 = .bool x27_1 ∧ Aside0 (spec_Check.j0 kq x27_1 l0_0 l0_1 = some r) ∧ Aside0 (kq ≤ k) ∧ Aside0 (wc.heap[gb135]? = some (.cells #[(.slice A0_0 l0_0.length c0_0), (.slice A0_1 l0_1.length c0_1)] 32 (0, 0))) ∧ Aside0 (Below w.heap.size w wc))
 case first =>
  have H := HC2.out
  clear HC2
  by_cases c4 : (l0_1.length : Int) < 1
  ·
   rw [if_pos c4] at H
   have c4b0 : decide ((l0_1.length : Int) < 1) = true := decide_eq_true c4
   have c4b1 : decide (l0_1.length < 1) = true := decide_eq_true (by omega)
   clear c4
   (first | rw [c4b0] | (simp only [i64_w, i32_w]; rw [c4b0]) | skip)
   have H' := amZ H
   clear H
   have hcz5_0 : w3.cell? ⟨gb135, 0, none⟩ = some (.slice A0_0 l0_0.length c0_0) := (zaY BK135.out 0).trans rfl
   have hcz5_1 : w3.cell? ⟨gb135, 1, none⟩ = some (.slice A0_1 l0_1.length c0_1) := (zaY BK135.out 1).trans rfl
   have hfz5_0 := zbY BK135.out 0
   have hfz5_1 := zbY BK135.out 1
   go_wp2
   go_meet
   case rel => exact ⟨_, (true), (by first | rfl | (simp; done) | (simp [*]; done)), H', ⟨by first | omega | exact Nat.le_refl _⟩, ⟨by (with_reducible repeat (first | refine zeY ?_ _ | refine zhY ?_ | refine zfY ?_ _)); exact BK135.out⟩, ⟨bwZ⟩⟩
  ·
   rw [if_neg c4] at H
   have c4b0 : decide ((l0_1.length : Int) < 1) = false := decide_eq_false c4
   have c4b1 : decide (l0_1.length < 1) = false := decide_eq_false (by omega)
   clear c4
   (first | rw [c4b0] | (simp only [i64_w, i32_w]; rw [c4b0]) | skip)
   by_cases c6 : (l0_1.length : Int) > 500
   ·
    rw [if_pos c6] at H
    have c6b0 : decide (500 < (l0_1.length : Int)) = true := decide_eq_true c6
    have c6b1 : decide (500 < l0_1.length) = true := decide_eq_true (by omega)
    clear c6
    have H' := amZ H
    clear H
    have hcz7_0 : w3.cell? ⟨gb135, 0, none⟩ = some (.slice A0_0 l0_0.length c0_0) := (zaY BK135.out 0).trans rfl
    have hcz7_1 : w3.cell? ⟨gb135, 1, none⟩ = some (.slice A0_1 l0_1.length c0_1) := (zaY BK135.out 1).trans rfl
    have hfz7_0 := zbY BK135.out 0
    have hfz7_1 := zbY BK135.out 1
    go_wp2
    go_meet
    case rel => exact ⟨_, (true), (by first | rfl | (simp; done) | (simp [*]; done)), H', ⟨by first | omega | exact Nat.le_refl _⟩, ⟨by (with_reducible repeat (first | refine zeY ?_ _ | refine zhY ?_ | refine zfY ?_ _)); exact BK135.out⟩, ⟨bwZ⟩⟩
   ·
    rw [if_neg c6] at H
    have c6b0 : decide (500 < (l0_1.length : Int)) = false := decide_eq_false c6
    have c6b1 : decide (500 < l0_1.length) = false := decide_eq_false (by omega)
    clear c6
    have H' := amZ H
    clear H
    have hcz8_0 : w3.cell? ⟨gb135, 0, none⟩ = some (.slice A0_0 l0_0.length c0_0) := (zaY BK135.out 0).trans rfl
    have hcz8_1 : w3.cell? ⟨gb135, 1, none⟩ = some (.slice A0_1 l0_1.length c0_1) := (zaY BK135.out 1).trans rfl
    have hfz8_0 := zbY BK135.out 0
    have hfz8_1 := zbY BK135.out 1
    go_wp2
    go_meet
    case rel => exact ⟨_, (decide ((l0_0.length : Int) > 20000)), (by first | rfl | (simp; done) | (simp [*]; done)), H', ⟨by first | omega | exact Nat.le_refl _⟩, ⟨by (with_reducible repeat (first | refine zeY ?_ _ | refine zhY ?_ | refine zfY ?_ _)); exact BK135.out⟩, ⟨bwZ⟩⟩
 case rest =>
  clear HC2
  try clear c1
  try clear p2
  try clear c4
  try clear c4b0
  try clear c4b1
  try clear c6
  try clear c6b0
  try clear c6b1
  try clear hcz5_0
  try clear hcz5_1
  try clear hcz7_0
  try clear hcz7_1
  try clear hcz8_0
  try clear hcz8_1
  try clear hfz5_0
  try clear hfz5_1
  try clear hfz7_0
  try clear hfz7_1
  try clear hfz8_0
  try clear hfz8_1
  obtain ⟨kq, x27_1, rfl, HA, HJ1, BK135, HB⟩ := hcut
  cases kq with
  | zero => exact absurd HA.out (by simp [spec_Check.j0])
  | succ kj1 =>
   have H := HA.out
   clear HA
   simp only [spec_Check.j0] at H
   by_cases c9 : x27_1 = true
   ·
    subst c9
    have H1 : (some false) = some r := by rw [if_pos rfl] at H; exact H
    clear H
    have H := H1
    clear H1
    obtain rfl := Option.some.inj H
    go_wp2
    go_ret
    exact ⟨by first | rfl | (simp [zjY, ziY] <;> rfl) | (simp [*, zjY, ziY] <;> rfl), bwZ⟩
   ·
    replace c9 := Bool.eq_false_iff.mpr c9
    subst c9
    have H1 : (spec_Check.l0 kj1 0 l0_0 l0_1) = some r := by rw [if_neg (show ¬ (false = true) by decide)] at H; exact H
    clear H
    have H := H1
    clear H1
    have H' := amZ H
    clear H
    go_wp2
    go_loopg [3] kj1 (fun kq v3 w' => ∃ (x3_2 : Int), v3 = .int .i64 x3_2 ∧ Aside0 (spec_Check.l0 kq x3_2 l0_0 l0_1 = some r) ∧ Aside0 (kq ≤ kj1) ∧ Aside0 (w'.heap[gb135]? = some (.cells #[(.slice A0_0 l0_0.length c0_0), (.slice A0_1 l0_1.length c0_1)] 32 (0, 0))) ∧ Aside0 (Below w.heap.size w w'))
    case atStart => exact ⟨(0), (by first | rfl | (simp; done) | (simp [*]; done)), H', ⟨Nat.le_refl _⟩, ⟨by (with_reducible repeat (first | refine zeY ?_ _ | refine zhY ?_ | refine zfY ?_ _)); exact BK135.out⟩, ⟨bwZ⟩⟩
    case round =>
     clear H'
     try clear c1
     try clear p2
     try clear c4
     try clear c4b0
     try clear c4b1
     try clear c6
     try clear c6b0
     try clear c6b1
     try clear c9
     try clear hcz5_0
     try clear hcz5_1
     try clear hcz7_0
     try clear hcz7_1
     try clear hcz8_0
     try clear hcz8_1
     try clear hfz5_0
     try clear hfz5_1
     try clear hfz7_0
     try clear hfz7_1
     try clear hfz8_0
     try clear hfz8_1
     try clear p2
     obtain ⟨x3_2, rfl, HA, HK2, BK135, HB⟩ := hrel
     cases gk with
     | zero => exact absurd HA.out (by simp [spec_Check.l0])
     | succ k2 =>
      have H := HA.out
      clear HA
      simp only [spec_Check.l0] at H
      by_cases c10 : x3_2 < (l0_0.length : Int)
      ·
       rw [if_pos c10] at H
       have c10b0 : decide (x3_2 < (l0_0.length : Int)) = true := decide_eq_true c10
       clear c10
       by_cases c11 : 0 ≤ x3_2
       ·
        rw [if_pos c11] at H
        have c11b0 : decide (0 ≤ x3_2) = true := decide_eq_true c11
        clear c11
        by_cases c12 : (((rd_T69 l0_0 x3_2).f2).length : Int) > 5000
        ·
         rw [if_pos c12] at H
         have c12b0 : decide (5000 < (((rd_T69 l0_0 x3_2).f2).length : Int)) = true := decide_eq_true c12
         have c12b1 : decide (5000 < ((rd_T69 l0_0 x3_2).f2).length) = true := decide_eq_true (by omega)
         clear c12
         obtain rfl := Option.some.inj H
         have hcz13_0 : wr.cell? ⟨gb135, 0, none⟩ = some (.slice A0_0 l0_0.length c0_0) := (zaY BK135.out 0).trans rfl
         have hcz13_1 : wr.cell? ⟨gb135, 1, none⟩ = some (.slice A0_1 l0_1.length c0_1) := (zaY BK135.out 1).trans rfl
         have hfz13_0 := zbY BK135.out 0
         have hfz13_1 := zbY BK135.out 1
         have p136 : 0 ≤ (x3_2 : Int) := odZ
         have q136 : x3_2 < (l0_0.length : Int) := odZ
         obtain ⟨ad136, A136_2, c136_2, e136, hx136_0, hx136_1, hx136_2, hl136_2, hi136_2⟩ := at_T69 HR0_0.out x3_2 p136 q136
         cases e136
         replace hx136_0 := (HB.out.cell (World.block_lt_of_cell? w _ hx136_0)).trans hx136_0
         replace hx136_1 := (HB.out.cell (World.block_lt_of_cell? w _ hx136_1)).trans hx136_1
         replace hx136_2 := (HB.out.cell (World.block_lt_of_cell? w _ hx136_2)).trans hx136_2
         have HR136_2 := amZ hi136_2
         have HC136_2 := amZ hl136_2
         clear hi136_2 hl136_2
         replace p136 := eq_true p136
         replace q136 := eq_true q136
         go_wp2_with (first | ((with_reducible refine zmY (N := 4) rfl ?_); (try (refine gate_guard (by rfl) ?_; dsimp only)); refine znY ?hg (N := 4) ?hd (cs := #[.bool false, .int .i64 0, .slice none 0 0]) (t := 69) ?hr ?_; (case hd => rfl); (case hg => rfl); (case hr => first | (go_simp; done) | (go_simp; rfl)); intro gb137 hg w14 hbox hb; have n0_ := amZ (zkY (g := gb135) (o := .cells #[.slice (some ad136) l0_0.length c0_0, .slice A0_1 l0_1.length c0_1] 32 (0, 0)) bkZ hb); have n1_ := amZ (zcY bwZ hb); have n2_ := amZ (hbox); have n3_ := amZ ((by rw [hg]; exact (zgY bwZ) : w.heap.size ≤ gb137)); have n4_ := amZ ((by rw [hg]; exact (zgY bwZ) : w.heap.size ≤ gb137)); have n5_ := amZ ((by rw [hg]; exact Nat.ne_of_lt (zlY (g := gb135) (o := .cells #[.slice (some ad136) l0_0.length c0_0, .slice A0_1 l0_1.length c0_1] 32 (0, 0)) bkZ) : gb135 ≠ gb137)); have n6_ := amZ ((by rw [hg]; exact Nat.ne_of_gt (zlY (g := gb135) (o := .cells #[.slice (some ad136) l0_0.length c0_0, .slice A0_1 l0_1.length c0_1] 32 (0, 0)) bkZ) : gb137 ≠ gb135)); clear BK135; clear HB; have BK135 := n0_; have HB := n1_; have BK137 := n2_; have GW137 := n3_; have GE137 := n4_; have NB135_137 := n5_; have NB137_135 := n6_; clear n0_ n1_ n2_ n3_ n4_ n5_ n6_; clear hb hbox hg; have hnb15 := NB137_135.out; have hnc15 := NB135_137.out; have hcz16_0 : w14.cell? ⟨gb137, 0, none⟩ = some (.bool false) := (zaY BK137.out 0).trans rfl; have hcz16_1 : w14.cell? ⟨gb137, 1, none⟩ = some (.int .i64 0) := (zaY BK137.out 1).trans rfl; have hcz16_2 : w14.cell? ⟨gb137, 2, none⟩ = some (.slice none 0 0) := (zaY BK137.out 2).trans rfl; have hfz16_0 := zbY BK137.out 0; have hfz16_1 := zbY BK137.out 1; have hfz16_2 := zbY BK137.out 2))
         go_ret
         exact ⟨by first | rfl | (simp [zjY, ziY] <;> rfl) | (simp [*, zjY, ziY] <;> rfl), bwZ⟩
        ·
         rw [if_neg c12] at H
         have c12b0 : decide (5000 < (((rd_T69 l0_0 x3_2).f2).length : Int)) = false := decide_eq_false c12
         have c12b1 : decide (5000 < ((rd_T69 l0_0 x3_2).f2).length) = false := decide_eq_false (by omega)
         clear c12
         obtain ⟨bq17, hbq17⟩ : ∃ b_ : Bool, b_ = ((rd_T69 l0_0 x3_2).f0) := ⟨_, rfl⟩
         replace H : (if bq17 = true then (if ((rd_T69 l0_0 x3_2).f1) = 0 then (if (bq17 = true) then (spec_Check.l0 k2 (wrap64 (x3_2 + 1)) l0_0 l0_1) else (if (((rd_T69 l0_0 x3_2).f2).length : Int) = 0 then (spec_Check.l0 k2 (wrap64 (x3_2 + 1)) l0_0 l0_1) else (some false))) else (some false)) else (if (bq17 = true) then (spec_Check.l0 k2 (wrap64 (x3_2 + 1)) l0_0 l0_1) else (if (((rd_T69 l0_0 x3_2).f2).length : Int) = 0 then (spec_Check.l0 k2 (wrap64 (x3_2 + 1)) l0_0 l0_1) else (some false)))) = some r := by rw [← hbq17] at H; exact H
         have Nbq17 := amZ hbq17
         clear hbq17
         by_cases c18 : bq17 = true
         ·
          subst c18
          have H1 : (if ((rd_T69 l0_0 x3_2).f1) = 0 then (if (true = true) then (spec_Check.l0 k2 (wrap64 (x3_2 + 1)) l0_0 l0_1) else (if (((rd_T69 l0_0 x3_2).f2).length : Int) = 0 then (spec_Check.l0 k2 (wrap64 (x3_2 + 1)) l0_0 l0_1) else (some false))) else (some false)) = some r := by rw [if_pos rfl] at H; exact H
          clear H
          have H := H1
          clear H1
          by_cases c19 : ((rd_T69 l0_0 x3_2).f1) = 0
          ·
           rw [if_pos c19] at H
           have c19b0 : (((rd_T69 l0_0 x3_2).f1) == 0) = true := beq_iff_eq.mpr c19
           have c19b1 : (((rd_T69 l0_0 x3_2).f1) != 0) = false := bne_eq_false_iff_eq.mpr c19
           clear c19
           by_cases c20 : (true = true)
           ·
            clear c20
            have H1 : (spec_Check.l0 k2 (wrap64 (x3_2 + 1)) l0_0 l0_1) = some r := by rw [if_pos rfl] at H; exact H
            clear H
            have H := H1
            clear H1
            have H' := amZ H
            clear H
            have hcz21_0 : wr.cell? ⟨gb135, 0, none⟩ = some (.slice A0_0 l0_0.length c0_0) := (zaY BK135.out 0).trans rfl
            have hcz21_1 : wr.cell? ⟨gb135, 1, none⟩ = some (.slice A0_1 l0_1.length c0_1) := (zaY BK135.out 1).trans rfl
            have hfz21_0 := zbY BK135.out 0
            have hfz21_1 := zbY BK135.out 1
            have p136 : 0 ≤ (x3_2 : Int) := odZ
            have q136 : x3_2 < (l0_0.length : Int) := odZ
            obtain ⟨ad136, A136_2, c136_2, e136, hx136_0, hx136_1, hx136_2, hl136_2, hi136_2⟩ := at_T69 HR0_0.out x3_2 p136 q136
            (try rw [← Nbq17.out] at hx136_0)
            cases e136
            replace hx136_0 := (HB.out.cell (World.block_lt_of_cell? w _ hx136_0)).trans hx136_0
            replace hx136_1 := (HB.out.cell (World.block_lt_of_cell? w _ hx136_1)).trans hx136_1
            replace hx136_2 := (HB.out.cell (World.block_lt_of_cell? w _ hx136_2)).trans hx136_2
            have HR136_2 := amZ hi136_2
            have HC136_2 := amZ hl136_2
            clear hi136_2 hl136_2
            replace p136 := eq_true p136
            replace q136 := eq_true q136
            go_wp2_with (first | ((with_reducible refine zmY (N := 4) rfl ?_); (try (refine gate_guard (by rfl) ?_; dsimp only)); refine znY ?hg (N := 4) ?hd (cs := #[.bool false, .int .i64 0, .slice none 0 0]) (t := 69) ?hr ?_; (case hd => rfl); (case hg => rfl); (case hr => first | (go_simp; done) | (go_simp; rfl)); intro gb137 hg w22 hbox hb; have n0_ := amZ (zkY (g := gb135) (o := .cells #[.slice (some ad136) l0_0.length c0_0, .slice A0_1 l0_1.length c0_1] 32 (0, 0)) bkZ hb); have n1_ := amZ (zcY bwZ hb); have n2_ := amZ (hbox); have n3_ := amZ ((by rw [hg]; exact (zgY bwZ) : w.heap.size ≤ gb137)); have n4_ := amZ ((by rw [hg]; exact (zgY bwZ) : w.heap.size ≤ gb137)); have n5_ := amZ ((by rw [hg]; exact Nat.ne_of_lt (zlY (g := gb135) (o := .cells #[.slice (some ad136) l0_0.length c0_0, .slice A0_1 l0_1.length c0_1] 32 (0, 0)) bkZ) : gb135 ≠ gb137)); have n6_ := amZ ((by rw [hg]; exact Nat.ne_of_gt (zlY (g := gb135) (o := .cells #[.slice (some ad136) l0_0.length c0_0, .slice A0_1 l0_1.length c0_1] 32 (0, 0)) bkZ) : gb137 ≠ gb135)); clear BK135; clear HB; have BK135 := n0_; have HB := n1_; have BK137 := n2_; have GW137 := n3_; have GE137 := n4_; have NB135_137 := n5_; have NB137_135 := n6_; clear n0_ n1_ n2_ n3_ n4_ n5_ n6_; clear hb hbox hg; have hnb23 := NB137_135.out; have hnc23 := NB135_137.out; have hcz24_0 : w22.cell? ⟨gb137, 0, none⟩ = some (.bool false) := (zaY BK137.out 0).trans rfl; have hcz24_1 : w22.cell? ⟨gb137, 1, none⟩ = some (.int .i64 0) := (zaY BK137.out 1).trans rfl; have hcz24_2 : w22.cell? ⟨gb137, 2, none⟩ = some (.slice none 0 0) := (zaY BK137.out 2).trans rfl; have hfz24_0 := zbY BK137.out 0; have hfz24_1 := zbY BK137.out 1; have hfz24_2 := zbY BK137.out 2))
            go_roundg k2
            case measure => have := HJ1.out; have := HK2.out; omega
            case rel => exact ⟨(wrap64 (x3_2 + 1)), (by first | rfl | (simp; done) | (simp [*]; done)), H', ⟨by have := HJ1.out; have := HK2.out; omega⟩, ⟨by (with_reducible repeat (first | refine zeY ?_ _ | refine zhY ?_ | refine zfY ?_ _)); refine blk_far ?_ NB135_137.out _; (with_reducible repeat (first | refine zeY ?_ _ | refine zhY ?_ | refine zfY ?_ _)); refine blk_far ?_ NB135_137.out _; (with_reducible repeat (first | refine zeY ?_ _ | refine zhY ?_ | refine zfY ?_ _)); refine blk_far ?_ NB135_137.out _; (with_reducible repeat (first | refine zeY ?_ _ | refine zhY ?_ | refine zfY ?_ _)); exact BK135.out⟩, ⟨bwZ⟩⟩
           ·
            exact absurd rfl c20
          ·
           rw [if_neg c19] at H
           have c19b0 : (((rd_T69 l0_0 x3_2).f1) == 0) = false := beq_eq_false_iff_ne.mpr c19
           have c19b1 : (((rd_T69 l0_0 x3_2).f1) != 0) = true := bne_iff_ne.mpr c19
           obtain rfl := Option.some.inj H
           have hcz34_0 : wr.cell? ⟨gb135, 0, none⟩ = some (.slice A0_0 l0_0.length c0_0) := (zaY BK135.out 0).trans rfl
           have hcz34_1 : wr.cell? ⟨gb135, 1, none⟩ = some (.slice A0_1 l0_1.length c0_1) := (zaY BK135.out 1).trans rfl
           have hfz34_0 := zbY BK135.out 0
           have hfz34_1 := zbY BK135.out 1
           have p136 : 0 ≤ (x3_2 : Int) := odZ
           have q136 : x3_2 < (l0_0.length : Int) := odZ
           obtain ⟨ad136, A136_2, c136_2, e136, hx136_0, hx136_1, hx136_2, hl136_2, hi136_2⟩ := at_T69 HR0_0.out x3_2 p136 q136
           (try rw [← Nbq17.out] at hx136_0)
           cases e136
           replace hx136_0 := (HB.out.cell (World.block_lt_of_cell? w _ hx136_0)).trans hx136_0
           replace hx136_1 := (HB.out.cell (World.block_lt_of_cell? w _ hx136_1)).trans hx136_1
           replace hx136_2 := (HB.out.cell (World.block_lt_of_cell? w _ hx136_2)).trans hx136_2
           have HR136_2 := amZ hi136_2
           have HC136_2 := amZ hl136_2
           clear hi136_2 hl136_2
           replace p136 := eq_true p136
           replace q136 := eq_true q136
           go_wp2_with (first | ((with_reducible refine zmY (N := 4) rfl ?_); (try (refine gate_guard (by rfl) ?_; dsimp only)); refine znY ?hg (N := 4) ?hd (cs := #[.bool false, .int .i64 0, .slice none 0 0]) (t := 69) ?hr ?_; (case hd => rfl); (case hg => rfl); (case hr => first | (go_simp; done) | (go_simp; rfl)); intro gb137 hg w35 hbox hb; have n0_ := amZ (zkY (g := gb135) (o := .cells #[.slice (some ad136) l0_0.length c0_0, .slice A0_1 l0_1.length c0_1] 32 (0, 0)) bkZ hb); have n1_ := amZ (zcY bwZ hb); have n2_ := amZ (hbox); have n3_ := amZ ((by rw [hg]; exact (zgY bwZ) : w.heap.size ≤ gb137)); have n4_ := amZ ((by rw [hg]; exact (zgY bwZ) : w.heap.size ≤ gb137)); have n5_ := amZ ((by rw [hg]; exact Nat.ne_of_lt (zlY (g := gb135) (o := .cells #[.slice (some ad136) l0_0.length c0_0, .slice A0_1 l0_1.length c0_1] 32 (0, 0)) bkZ) : gb135 ≠ gb137)); have n6_ := amZ ((by rw [hg]; exact Nat.ne_of_gt (zlY (g := gb135) (o := .cells #[.slice (some ad136) l0_0.length c0_0, .slice A0_1 l0_1.length c0_1] 32 (0, 0)) bkZ) : gb137 ≠ gb135)); clear BK135; clear HB; have BK135 := n0_; have HB := n1_; have BK137 := n2_; have GW137 := n3_; have GE137 := n4_; have NB135_137 := n5_; have NB137_135 := n6_; clear n0_ n1_ n2_ n3_ n4_ n5_ n6_; clear hb hbox hg; have hnb36 := NB137_135.out; have hnc36 := NB135_137.out; have hcz37_0 : w35.cell? ⟨gb137, 0, none⟩ = some (.bool false) := (zaY BK137.out 0).trans rfl; have hcz37_1 : w35.cell? ⟨gb137, 1, none⟩ = some (.int .i64 0) := (zaY BK137.out 1).trans rfl; have hcz37_2 : w35.cell? ⟨gb137, 2, none⟩ = some (.slice none 0 0) := (zaY BK137.out 2).trans rfl; have hfz37_0 := zbY BK137.out 0; have hfz37_1 := zbY BK137.out 1; have hfz37_2 := zbY BK137.out 2))
           go_ret
           exact ⟨by first | rfl | (simp [zjY, ziY] <;> rfl) | (simp [*, zjY, ziY] <;> rfl), bwZ⟩
         ·
          replace c18 := Bool.eq_false_iff.mpr c18
          subst c18
          have H1 : (if (false = true) then (spec_Check.l0 k2 (wrap64 (x3_2 + 1)) l0_0 l0_1) else (if (((rd_T69 l0_0 x3_2).f2).length : Int) = 0 then (spec_Check.l0 k2 (wrap64 (x3_2 + 1)) l0_0 l0_1) else (some false))) = some r := by rw [if_neg (show ¬ (false = true) by decide)] at H; exact H
          clear H
          have H := H1
          clear H1
          by_cases c38 : (false = true)
          ·
           exact absurd c38 (by decide)
          ·
           clear c38
           have H1 : (if (((rd_T69 l0_0 x3_2).f2).length : Int) = 0 then (spec_Check.l0 k2 (wrap64 (x3_2 + 1)) l0_0 l0_1) else (some false)) = some r := by rw [if_neg (show ¬ (false = true) by decide)] at H; exact H
           clear H
           have H := H1
           clear H1
           by_cases c43 : (((rd_T69 l0_0 x3_2).f2).length : Int) = 0
           ·
            rw [if_pos c43] at H
            have c43b0 : ((((rd_T69 l0_0 x3_2).f2).length : Int) == 0) = true := beq_iff_eq.mpr c43
            have c43b1 : ((((rd_T69 l0_0 x3_2).f2).length : Int) != 0) = false := bne_eq_false_iff_eq.mpr c43
            clear c43
            have H' := amZ H
            clear H
            have hcz44_0 : wr.cell? ⟨gb135, 0, none⟩ = some (.slice A0_0 l0_0.length c0_0) := (zaY BK135.out 0).trans rfl
            have hcz44_1 : wr.cell? ⟨gb135, 1, none⟩ = some (.slice A0_1 l0_1.length c0_1) := (zaY BK135.out 1).trans rfl
            have hfz44_0 := zbY BK135.out 0
            have hfz44_1 := zbY BK135.out 1
            have p136 : 0 ≤ (x3_2 : Int) := odZ
            have q136 : x3_2 < (l0_0.length : Int) := odZ
            obtain ⟨ad136, A136_2, c136_2, e136, hx136_0, hx136_1, hx136_2, hl136_2, hi136_2⟩ := at_T69 HR0_0.out x3_2 p136 q136
            (try rw [← Nbq17.out] at hx136_0)
            cases e136
            replace hx136_0 := (HB.out.cell (World.block_lt_of_cell? w _ hx136_0)).trans hx136_0
            replace hx136_1 := (HB.out.cell (World.block_lt_of_cell? w _ hx136_1)).trans hx136_1
            replace hx136_2 := (HB.out.cell (World.block_lt_of_cell? w _ hx136_2)).trans hx136_2
            have HR136_2 := amZ hi136_2
            have HC136_2 := amZ hl136_2
            clear hi136_2 hl136_2
            replace p136 := eq_true p136
            replace q136 := eq_true q136
            go_wp2_with (first | ((with_reducible refine zmY (N := 4) rfl ?_); (try (refine gate_guard (by rfl) ?_; dsimp only)); refine znY ?hg (N := 4) ?hd (cs := #[.bool false, .int .i64 0, .slice none 0 0]) (t := 69) ?hr ?_; (case hd => rfl); (case hg => rfl); (case hr => first | (go_simp; done) | (go_simp; rfl)); intro gb137 hg w45 hbox hb; have n0_ := amZ (zkY (g := gb135) (o := .cells #[.slice (some ad136) l0_0.length c0_0, .slice A0_1 l0_1.length c0_1] 32 (0, 0)) bkZ hb); have n1_ := amZ (zcY bwZ hb); have n2_ := amZ (hbox); have n3_ := amZ ((by rw [hg]; exact (zgY bwZ) : w.heap.size ≤ gb137)); have n4_ := amZ ((by rw [hg]; exact (zgY bwZ) : w.heap.size ≤ gb137)); have n5_ := amZ ((by rw [hg]; exact Nat.ne_of_lt (zlY (g := gb135) (o := .cells #[.slice (some ad136) l0_0.length c0_0, .slice A0_1 l0_1.length c0_1] 32 (0, 0)) bkZ) : gb135 ≠ gb137)); have n6_ := amZ ((by rw [hg]; exact Nat.ne_of_gt (zlY (g := gb135) (o := .cells #[.slice (some ad136) l0_0.length c0_0, .slice A0_1 l0_1.length c0_1] 32 (0, 0)) bkZ) : gb137 ≠ gb135)); clear BK135; clear HB; have BK135 := n0_; have HB := n1_; have BK137 := n2_; have GW137 := n3_; have GE137 := n4_; have NB135_137 := n5_; have NB137_135 := n6_; clear n0_ n1_ n2_ n3_ n4_ n5_ n6_; clear hb hbox hg; have hnb46 := NB137_135.out; have hnc46 := NB135_137.out; have hcz47_0 : w45.cell? ⟨gb137, 0, none⟩ = some (.bool false) := (zaY BK137.out 0).trans rfl; have hcz47_1 : w45.cell? ⟨gb137, 1, none⟩ = some (.int .i64 0) := (zaY BK137.out 1).trans rfl; have hcz47_2 : w45.cell? ⟨gb137, 2, none⟩ = some (.slice none 0 0) := (zaY BK137.out 2).trans rfl; have hfz47_0 := zbY BK137.out 0; have hfz47_1 := zbY BK137.out 1; have hfz47_2 := zbY BK137.out 2))
            go_roundg k2
            case measure => have := HJ1.out; have := HK2.out; omega
            case rel => exact ⟨(wrap64 (x3_2 + 1)), (by first | rfl | (simp; done) | (simp [*]; done)), H', ⟨by have := HJ1.out; have := HK2.out; omega⟩, ⟨by (with_reducible repeat (first | refine zeY ?_ _ | refine zhY ?_ | refine zfY ?_ _)); refine blk_far ?_ NB135_137.out _; (with_reducible repeat (first | refine zeY ?_ _ | refine zhY ?_ | refine zfY ?_ _)); refine blk_far ?_ NB135_137.out _; (with_reducible repeat (first | refine zeY ?_ _ | refine zhY ?_ | refine zfY ?_ _)); refine blk_far ?_ NB135_137.out _; (with_reducible repeat (first | refine zeY ?_ _ | refine zhY ?_ | refine zfY ?_ _)); exact BK135.out⟩, ⟨bwZ⟩⟩
           ·
            rw [if_neg c43] at H
            have c43b0 : ((((rd_T69 l0_0 x3_2).f2).length : Int) == 0) = false := beq_eq_false_iff_ne.mpr c43
            have c43b1 : ((((rd_T69 l0_0 x3_2).f2).length : Int) != 0) = true := bne_iff_ne.mpr c43
            have c43b2 : ¬ (((rd_T69 l0_0 x3_2).f2) = []) := fun h_ => c43 (by rw [h_]; rfl)
            obtain rfl := Option.some.inj H
            have hcz48_0 : wr.cell? ⟨gb135, 0, none⟩ = some (.slice A0_0 l0_0.length c0_0) := (zaY BK135.out 0).trans rfl
            have hcz48_1 : wr.cell? ⟨gb135, 1, none⟩ = some (.slice A0_1 l0_1.length c0_1) := (zaY BK135.out 1).trans rfl
            have hfz48_0 := zbY BK135.out 0
            have hfz48_1 := zbY BK135.out 1
            have p136 : 0 ≤ (x3_2 : Int) := odZ
            have q136 : x3_2 < (l0_0.length : Int) := odZ
            obtain ⟨ad136, A136_2, c136_2, e136, hx136_0, hx136_1, hx136_2, hl136_2, hi136_2⟩ := at_T69 HR0_0.out x3_2 p136 q136
            (try rw [← Nbq17.out] at hx136_0)
            cases e136
            replace hx136_0 := (HB.out.cell (World.block_lt_of_cell? w _ hx136_0)).trans hx136_0
            replace hx136_1 := (HB.out.cell (World.block_lt_of_cell? w _ hx136_1)).trans hx136_1
            replace hx136_2 := (HB.out.cell (World.block_lt_of_cell? w _ hx136_2)).trans hx136_2
            have HR136_2 := amZ hi136_2
            have HC136_2 := amZ hl136_2
            clear hi136_2 hl136_2
            replace p136 := eq_true p136
            replace q136 := eq_true q136
            go_wp2_with (first | ((with_reducible refine zmY (N := 4) rfl ?_); (try (refine gate_guard (by rfl) ?_; dsimp only)); refine znY ?hg (N := 4) ?hd (cs := #[.bool false, .int .i64 0, .slice none 0 0]) (t := 69) ?hr ?_; (case hd => rfl); (case hg => rfl); (case hr => first | (go_simp; done) | (go_simp; rfl)); intro gb137 hg w49 hbox hb; have n0_ := amZ (zkY (g := gb135) (o := .cells #[.slice (some ad136) l0_0.length c0_0, .slice A0_1 l0_1.length c0_1] 32 (0, 0)) bkZ hb); have n1_ := amZ (zcY bwZ hb); have n2_ := amZ (hbox); have n3_ := amZ ((by rw [hg]; exact (zgY bwZ) : w.heap.size ≤ gb137)); have n4_ := amZ ((by rw [hg]; exact (zgY bwZ) : w.heap.size ≤ gb137)); have n5_ := amZ ((by rw [hg]; exact Nat.ne_of_lt (zlY (g := gb135) (o := .cells #[.slice (some ad136) l0_0.length c0_0, .slice A0_1 l0_1.length c0_1] 32 (0, 0)) bkZ) : gb135 ≠ gb137)); have n6_ := amZ ((by rw [hg]; exact Nat.ne_of_gt (zlY (g := gb135) (o := .cells #[.slice (some ad136) l0_0.length c0_0, .slice A0_1 l0_1.length c0_1] 32 (0, 0)) bkZ) : gb137 ≠ gb135)); clear BK135; clear HB; have BK135 := n0_; have HB := n1_; have BK137 := n2_; have GW137 := n3_; have GE137 := n4_; have NB135_137 := n5_; have NB137_135 := n6_; clear n0_ n1_ n2_ n3_ n4_ n5_ n6_; clear hb hbox hg; have hnb50 := NB137_135.out; have hnc50 := NB135_137.out; have hcz51_0 : w49.cell? ⟨gb137, 0, none⟩ = some (.bool false) := (zaY BK137.out 0).trans rfl; have hcz51_1 : w49.cell? ⟨gb137, 1, none⟩ = some (.int .i64 0) := (zaY BK137.out 1).trans rfl; have hcz51_2 : w49.cell? ⟨gb137, 2, none⟩ = some (.slice none 0 0) := (zaY BK137.out 2).trans rfl; have hfz51_0 := zbY BK137.out 0; have hfz51_1 := zbY BK137.out 1; have hfz51_2 := zbY BK137.out 2))
            go_ret
            exact ⟨by first | rfl | (simp [zjY, ziY] <;> rfl) | (simp [*, zjY, ziY] <;> rfl), bwZ⟩
       ·
        rw [if_neg c11] at H
        exact absurd H (by simp)
      ·
       rw [if_neg c10] at H
       have c10b0 : decide (x3_2 < (l0_0.length : Int)) = false := decide_eq_false c10
       clear c10
       have H' := amZ H
       clear H
       have hcz52_0 : wr.cell? ⟨gb135, 0, none⟩ = some (.slice A0_0 l0_0.length c0_0) := (zaY BK135.out 0).trans rfl
       have hcz52_1 : wr.cell? ⟨gb135, 1, none⟩ = some (.slice A0_1 l0_1.length c0_1) := (zaY BK135.out 1).trans rfl
       have hfz52_0 := zbY BK135.out 0
       have hfz52_1 := zbY BK135.out 1
       go_wp2
       go_loopg [5, 6] k2 (fun kq v5 v6 w' => ∃ (x5_3 : Int) (x6_3 : Int), v5 = .int .i64 x5_3 ∧ v6 = .int .i64 x6_3 ∧ Aside0 (spec_Check.l1 kq x5_3 x6_3 l0_0 l0_1 = some r) ∧ Aside0 (kq ≤ k2) ∧ Aside0 (w'.heap[gb135]? = some (.cells #[(.slice A0_0 l0_0.length c0_0), (.slice A0_1 l0_1.length c0_1)] 32 (0, 0))) ∧ Aside0 (Below w.heap.size w w'))
       case atStart => exact ⟨(0), (0), (by first | rfl | (simp; done) | (simp [*]; done)), (by first | rfl | (simp; done) | (simp [*]; done)), H', ⟨Nat.le_refl _⟩, ⟨by (with_reducible repeat (first | refine zeY ?_ _ | refine zhY ?_ | refine zfY ?_ _)); exact BK135.out⟩, ⟨bwZ⟩⟩
       case round =>
        clear H'
        try clear c1
        try clear p1
        try clear q1
        try clear hx1
        try clear c2
        try clear p2
        try clear c3
        try clear c4
        try clear c4b0
        try clear c4b1
        try clear c5
        try clear c6
        try clear c6b0
        try clear c6b1
        try clear p6
        try clear c9
        try clear c10
        try clear c10b0
        try clear c11
        try clear c11b0
        try clear c12
        try clear c12b0
        try clear c12b1
        try clear c13
        try clear p13
        try clear q13
        try clear hx13
        try clear c15
        try clear q17
        try clear c18
        try clear c19
        try clear c19b0
        try clear c19b1
        try clear c20
        try clear c23
        try clear c25
        try clear c25b0
        try clear c25b1
        try clear c25b2
        try clear c28
        try clear c32
        try clear c36
        try clear c38
        try clear c41
        try clear c43
        try clear c43b0
        try clear c43b1
        try clear c43b2
        try clear c46
        try clear c50
        try clear hcz13_0
        try clear hcz13_1
        try clear hcz16_0
        try clear hcz16_1
        try clear hcz16_2
        try clear hcz21_0
        try clear hcz21_1
        try clear hcz24_0
        try clear hcz24_1
        try clear hcz24_2
        try clear hcz26_0
        try clear hcz26_1
        try clear hcz29_0
        try clear hcz29_1
        try clear hcz29_2
        try clear hcz30_0
        try clear hcz30_1
        try clear hcz33_0
        try clear hcz33_1
        try clear hcz33_2
        try clear hcz34_0
        try clear hcz34_1
        try clear hcz37_0
        try clear hcz37_1
        try clear hcz37_2
        try clear hcz39_0
        try clear hcz39_1
        try clear hcz42_0
        try clear hcz42_1
        try clear hcz42_2
        try clear hcz44_0
        try clear hcz44_1
        try clear hcz47_0
        try clear hcz47_1
        try clear hcz47_2
        try clear hcz48_0
        try clear hcz48_1
        try clear hcz51_0
        try clear hcz51_1
        try clear hcz51_2
        try clear hcz52_0
        try clear hcz52_1
        try clear hcz5_0
        try clear hcz5_1
        try clear hcz7_0
        try clear hcz7_1
        try clear hcz8_0
        try clear hcz8_1
        try clear hfz13_0
        try clear hfz13_1
        try clear hfz16_0
        try clear hfz16_1
        try clear hfz16_2
        try clear hfz21_0
        try clear hfz21_1
        try clear hfz24_0
        try clear hfz24_1
        try clear hfz24_2
        try clear hfz26_0
        try clear hfz26_1
        try clear hfz29_0
        try clear hfz29_1
        try clear hfz29_2
        try clear hfz30_0
        try clear hfz30_1
        try clear hfz33_0
        try clear hfz33_1
        try clear hfz33_2
        try clear hfz34_0
        try clear hfz34_1
        try clear hfz37_0
        try clear hfz37_1
        try clear hfz37_2
        try clear hfz39_0
        try clear hfz39_1
        try clear hfz42_0
        try clear hfz42_1
        try clear hfz42_2
        try clear hfz44_0
        try clear hfz44_1
        try clear hfz47_0
        try clear hfz47_1
        try clear hfz47_2
        try clear hfz48_0
        try clear hfz48_1
        try clear hfz51_0
        try clear hfz51_1
        try clear hfz51_2
        try clear hfz52_0
        try clear hfz52_1
        try clear hfz5_0
        try clear hfz5_1
        try clear hfz7_0
        try clear hfz7_1
        try clear hfz8_0
        try clear hfz8_1
        try clear hx136_0
        try clear hx136_1
        try clear hx136_2
        try clear p136
        try clear p2
        try clear q136
        obtain ⟨x5_3, x6_3, rfl, rfl, HA, HK3, BK135, HB⟩ := hrel
        cases gk with
        | zero => exact absurd HA.out (by simp [spec_Check.l1])
        | succ k3 =>
         have H := HA.out
         clear HA
         simp only [spec_Check.l1] at H
         by_cases c53 : x6_3 < (l0_1.length : Int)
         ·
          rw [if_pos c53] at H
          have c53b0 : decide (x6_3 < (l0_1.length : Int)) = true := decide_eq_true c53
          clear c53
          by_cases c54 : 0 ≤ x6_3
          ·
           rw [if_pos c54] at H
           have c54b0 : decide (0 ≤ x6_3) = true := decide_eq_true c54
           clear c54
           have HC55 := amZ H
           clear H
           have hcz56_0 : wr.cell? ⟨gb135, 0, none⟩ = some (.slice A0_0 l0_0.length c0_0) := (zaY BK135.out 0).trans rfl
           have hcz56_1 : wr.cell? ⟨gb135, 1, none⟩ = some (.slice A0_1 l0_1.length c0_1) := (zaY BK135.out 1).trans rfl
           have hfz56_0 := zbY BK135.out 0
           have hfz56_1 := zbY BK135.out 1
           have p138 : 0 ≤ (x6_3 : Int) := odZ
           have q138 : x6_3 < (l0_1.length : Int) := odZ
           obtain ⟨ad138, A138_2, c138_2, A138_3, c138_3, e138, hx138_0, hx138_1, hx138_2, hx138_3, hl138_2, hi138_2, hl138_3, hi138_3⟩ := at_T45 HR0_1.out x6_3 p138 q138
           cases e138
           replace hx138_0 := (HB.out.cell (World.block_lt_of_cell? w _ hx138_0)).trans hx138_0
           replace hx138_1 := (HB.out.cell (World.block_lt_of_cell? w _ hx138_1)).trans hx138_1
           replace hx138_2 := (HB.out.cell (World.block_lt_of_cell? w _ hx138_2)).trans hx138_2
           replace hx138_3 := (HB.out.cell (World.block_lt_of_cell? w _ hx138_3)).trans hx138_3
           have HR138_2 := amZ hi138_2
           have HC138_2 := amZ hl138_2
           clear hi138_2 hl138_2
           have HR138_3 := amZ hi138_3
           have HC138_3 := amZ hl138_3
           clear hi138_3 hl138_3
           replace p138 := eq_true p138
           replace q138 := eq_true q138
           go_upto_region 15 with (first | ((with_reducible refine zmY (N := 7) rfl ?_); (try (refine gate_guard (by rfl) ?_; dsimp only)); refine znY ?hg (N := 7) ?hd (cs := #[.int .i64 0, .int .i64 0, .slice none 0 0, .slice none 0 0]) (t := 45) ?hr ?_; (case hd => rfl); (case hg => rfl); (case hr => first | (go_simp; done) | (go_simp; rfl)); intro gb139 hg w57 hbox hb; have n0_ := amZ (zkY (g := gb135) (o := .cells #[.slice A0_0 l0_0.length c0_0, .slice (some ad138) l0_1.length c0_1] 32 (0, 0)) bkZ hb); have n1_ := amZ (zcY bwZ hb); have n2_ := amZ (hbox); have n3_ := amZ ((by rw [hg]; exact (zgY bwZ) : w.heap.size ≤ gb139)); have n4_ := amZ ((by rw [hg]; exact (zgY bwZ) : w.heap.size ≤ gb139)); have n5_ := amZ ((by rw [hg]; exact Nat.ne_of_lt (zlY (g := gb135) (o := .cells #[.slice A0_0 l0_0.length c0_0, .slice (some ad138) l0_1.length c0_1] 32 (0, 0)) bkZ) : gb135 ≠ gb139)); have n6_ := amZ ((by rw [hg]; exact Nat.ne_of_gt (zlY (g := gb135) (o := .cells #[.slice A0_0 l0_0.length c0_0, .slice (some ad138) l0_1.length c0_1] 32 (0, 0)) bkZ) : gb139 ≠ gb135)); clear BK135; clear HB; have BK135 := n0_; have HB := n1_; have BK139 := n2_; have GW139 := n3_; have GE139 := n4_; have NB135_139 := n5_; have NB139_135 := n6_; clear n0_ n1_ n2_ n3_ n4_ n5_ n6_; clear hb hbox hg; have hnb58 := NB139_135.out; have hnc58 := NB135_139.out; have hcz59_0 : w57.cell? ⟨gb139, 0, none⟩ = some (.int .i64 0) := (zaY BK139.out 0).trans rfl; have hcz59_1 : w57.cell? ⟨gb139, 1, none⟩ = some (.int .i64 0) := (zaY BK139.out 1).trans rfl; have hcz59_2 : w57.cell? ⟨gb139, 2, none⟩ = some (.slice none 0 0) := (zaY BK139.out 2).trans rfl; have hcz59_3 : w57.cell? ⟨gb139, 3, none⟩ = some (.slice none 0 0) := (zaY BK139.out 3).trans rfl; have hfz59_0 := zbY BK139.out 0; have hfz59_1 := zbY BK139.out 1; have hfz59_2 := zbY BK139.out 2; have hfz59_3 := zbY BK139.out 3))
           (try simp only [Act.put, List.setIfInBounds_toArray, List.set_cons_zero, List.set_cons_succ])
           go_cut [107] (fun v107 wc => ∃ (kq : Nat) (x107_54 : Bool), v107 = .bool x107_54 ∧ Aside0 (spec_Check.j3 kq (wrap64 (x5_3 + (((rd_T45 l0_1 x6_3).f3).length : Int))) x6_3 x107_54 l0_0 l0_1 ((rd_T45 l0_1 x6_3).f0) ((rd_T45 l0_1 x6_3).f1) ((rd_T45 l0_1 x6_3).f2) ((rd_T45 l0_1 x6_3).f3) = some r) ∧ Aside0 (kq ≤ k3) ∧ Aside0 (wc.heap[gb135]? = some (.cells #[(.slice A0_0 l0_0.length c0_0), (.slice (some ad138) l0_1.length c0_1)] 32 (0, 0))) ∧ Aside0 (wc.heap[gb139]? = some (.cells #[.int .i64 ((rd_T45 l0_1 x6_3).f0), .int .i64 ((rd_T45 l0_1 x6_3).f1), (.slice A138_2 ((rd_T45 l0_1 x6_3).f2).length c138_2), (.slice A138_3 ((rd_T45 l0_1 x6_3).f3).length c138_3)] 45 (0, 0))) ∧ Aside0 (Below w.heap.size w wc))
           case first =>
            have H := HC55.out
            clear HC55
            by_cases c60 : ((rd_T45 l0_1 x6_3).f0) < 0
            ·
             rw [if_pos c60] at H
             have c60b0 : decide (((rd_T45 l0_1 x6_3).f0) < 0) = true := decide_eq_true c60
             clear c60
             (first | rw [c60b0] | (simp only [i64_w, i32_w]; rw [c60b0]) | skip)
             have H' := amZ H
             clear H
             have hnb61 := NB139_135.out
             have hnc61 := NB135_139.out
             have hcz62_0 : w57.cell? ⟨gb139, 0, none⟩ = some (.int .i64 0) := (zaY BK139.out 0).trans rfl
             have hcz62_1 : w57.cell? ⟨gb139, 1, none⟩ = some (.int .i64 0) := (zaY BK139.out 1).trans rfl
             have hcz62_2 : w57.cell? ⟨gb139, 2, none⟩ = some (.slice none 0 0) := (zaY BK139.out 2).trans rfl
             have hcz62_3 : w57.cell? ⟨gb139, 3, none⟩ = some (.slice none 0 0) := (zaY BK139.out 3).trans rfl
             have hfz62_0 := zbY BK139.out 0
             have hfz62_1 := zbY BK139.out 1
             have hfz62_2 := zbY BK139.out 2
             have hfz62_3 := zbY BK139.out 3
             go_wp2
             go_meet
             case rel => exact ⟨_, (true), (by first | rfl | (simp; done) | (simp [*]; done)), H', ⟨by have := HJ1.out; have := HK2.out; have := HK3.out; first | omega | exact Nat.le_refl _⟩, ⟨by (with_reducible repeat (first | refine zeY ?_ _ | refine zhY ?_ | refine zfY ?_ _)); refine blk_far ?_ NB135_139.out _; (with_reducible repeat (first | refine zeY ?_ _ | refine zhY ?_ | refine zfY ?_ _)); refine blk_far ?_ NB135_139.out _; (with_reducible repeat (first | refine zeY ?_ _ | refine zhY ?_ | refine zfY ?_ _)); refine blk_far ?_ NB135_139.out _; (with_reducible repeat (first | refine zeY ?_ _ | refine zhY ?_ | refine zfY ?_ _)); refine blk_far ?_ NB135_139.out _; (with_reducible repeat (first | refine zeY ?_ _ | refine zhY ?_ | refine zfY ?_ _)); exact BK135.out⟩, ⟨by (with_reducible repeat (first | refine zeY ?_ _ | refine zhY ?_ | refine zfY ?_ _)); refine blk_put (cs := #[.int .i64 ((rd_T45 l0_1 x6_3).f0), .int .i64 ((rd_T45 l0_1 x6_3).f1), .slice A138_2 ((rd_T45 l0_1 x6_3).f2).length c138_2, .slice none 0 0]) ?_ 3 _ rfl; (with_reducible repeat (first | refine zeY ?_ _ | refine zhY ?_ | refine zfY ?_ _)); refine blk_put (cs := #[.int .i64 ((rd_T45 l0_1 x6_3).f0), .int .i64 ((rd_T45 l0_1 x6_3).f1), .slice none 0 0, .slice none 0 0]) ?_ 2 _ rfl; (with_reducible repeat (first | refine zeY ?_ _ | refine zhY ?_ | refine zfY ?_ _)); refine blk_put (cs := #[.int .i64 ((rd_T45 l0_1 x6_3).f0), .int .i64 0, .slice none 0 0, .slice none 0 0]) ?_ 1 _ rfl; (with_reducible repeat (first | refine zeY ?_ _ | refine zhY ?_ | refine zfY ?_ _)); refine blk_put (cs := #[.int .i64 0, .int .i64 0, .slice none 0 0, .slice none 0 0]) ?_ 0 _ rfl; (with_reducible repeat (first | refine zeY ?_ _ | refine zhY ?_ | refine zfY ?_ _)); exact BK139.out⟩, ⟨bwZ⟩⟩
            ·
             rw [if_neg c60] at H
             have c60b0 : decide (((rd_T45 l0_1 x6_3).f0) < 0) = false := decide_eq_false c60
             clear c60
             (first | rw [c60b0] | (simp only [i64_w, i32_w]; rw [c60b0]) | skip)
             by_cases c63 : ((rd_T45 l0_1 x6_3).f0) > ((rd_T45 l0_1 x6_3).f1)
             ·
              rw [if_pos c63] at H
              have c63b0 : decide (((rd_T45 l0_1 x6_3).f1) < ((rd_T45 l0_1 x6_3).f0)) = true := decide_eq_true c63
              clear c63
              have H' := amZ H
              clear H
              have hnb64 := NB139_135.out
              have hnc64 := NB135_139.out
              have hcz65_0 : w57.cell? ⟨gb139, 0, none⟩ = some (.int .i64 0) := (zaY BK139.out 0).trans rfl
              have hcz65_1 : w57.cell? ⟨gb139, 1, none⟩ = some (.int .i64 0) := (zaY BK139.out 1).trans rfl
              have hcz65_2 : w57.cell? ⟨gb139, 2, none⟩ = some (.slice none 0 0) := (zaY BK139.out 2).trans rfl
              have hcz65_3 : w57.cell? ⟨gb139, 3, none⟩ = some (.slice none 0 0) := (zaY BK139.out 3).trans rfl
              have hfz65_0 := zbY BK139.out 0
              have hfz65_1 := zbY BK139.out 1
              have hfz65_2 := zbY BK139.out 2
              have hfz65_3 := zbY BK139.out 3
              go_wp2
              go_meet
              case rel => exact ⟨_, (true), (by first | rfl | (simp; done) | (simp [*]; done)), H', ⟨by have := HJ1.out; have := HK2.out; have := HK3.out; first | omega | exact Nat.le_refl _⟩, ⟨by (with_reducible repeat (first | refine zeY ?_ _ | refine zhY ?_ | refine zfY ?_ _)); refine blk_far ?_ NB135_139.out _; (with_reducible repeat (first | refine zeY ?_ _ | refine zhY ?_ | refine zfY ?_ _)); refine blk_far ?_ NB135_139.out _; (with_reducible repeat (first | refine zeY ?_ _ | refine zhY ?_ | refine zfY ?_ _)); refine blk_far ?_ NB135_139.out _; (with_reducible repeat (first | refine zeY ?_ _ | refine zhY ?_ | refine zfY ?_ _)); refine blk_far ?_ NB135_139.out _; (with_reducible repeat (first | refine zeY ?_ _ | refine zhY ?_ | refine zfY ?_ _)); exact BK135.out⟩, ⟨by (with_reducible repeat (first | refine zeY ?_ _ | refine zhY ?_ | refine zfY ?_ _)); refine blk_put (cs := #[.int .i64 ((rd_T45 l0_1 x6_3).f0), .int .i64 ((rd_T45 l0_1 x6_3).f1), .slice A138_2 ((rd_T45 l0_1 x6_3).f2).length c138_2, .slice none 0 0]) ?_ 3 _ rfl; (with_reducible repeat (first | refine zeY ?_ _ | refine zhY ?_ | refine zfY ?_ _)); refine blk_put (cs := #[.int .i64 ((rd_T45 l0_1 x6_3).f0), .int .i64 ((rd_T45 l0_1 x6_3).f1), .slice none 0 0, .slice none 0 0]) ?_ 2 _ rfl; (with_reducible repeat (first | refine zeY ?_ _ | refine zhY ?_ | refine zfY ?_ _)); refine blk_put (cs := #[.int .i64 ((rd_T45 l0_1 x6_3).f0), .int .i64 0, .slice none 0 0, .slice none 0 0]) ?_ 1 _ rfl; (with_reducible repeat (first | refine zeY ?_ _ | refine zhY ?_ | refine zfY ?_ _)); refine blk_put (cs := #[.int .i64 0, .int .i64 0, .slice none 0 0, .slice none 0 0]) ?_ 0 _ rfl; (with_reducible repeat (first | refine zeY ?_ _ | refine zhY ?_ | refine zfY ?_ _)); exact BK139.out⟩, ⟨bwZ⟩⟩
             ·
              rw [if_neg c63] at H
              have c63b0 : decide (((rd_T45 l0_1 x6_3).f1) < ((rd_T45 l0_1 x6_3).f0)) = false := decide_eq_false c63
              clear c63
              by_cases c66 : ((rd_T45 l0_1 x6_3).f1) > 200
              ·
               rw [if_pos c66] at H
               have c66b0 : decide (200 < ((rd_T45 l0_1 x6_3).f1)) = true := decide_eq_true c66
               clear c66
               have H' := amZ H
               clear H
               have hnb67 := NB139_135.out
               have hnc67 := NB135_139.out
               have hcz68_0 : w57.cell? ⟨gb139, 0, none⟩ = some (.int .i64 0) := (zaY BK139.out 0).trans rfl
               have hcz68_1 : w57.cell? ⟨gb139, 1, none⟩ = some (.int .i64 0) := (zaY BK139.out 1).trans rfl
               have hcz68_2 : w57.cell? ⟨gb139, 2, none⟩ = some (.slice none 0 0) := (zaY BK139.out 2).trans rfl
               have hcz68_3 : w57.cell? ⟨gb139, 3, none⟩ = some (.slice none 0 0) := (zaY BK139.out 3).trans rfl
               have hfz68_0 := zbY BK139.out 0
               have hfz68_1 := zbY BK139.out 1
               have hfz68_2 := zbY BK139.out 2
               have hfz68_3 := zbY BK139.out 3
               go_wp2
               go_meet
               case rel => exact ⟨_, (true), (by first | rfl | (simp; done) | (simp [*]; done)), H', ⟨by have := HJ1.out; have := HK2.out; have := HK3.out; first | omega | exact Nat.le_refl _⟩, ⟨by (with_reducible repeat (first | refine zeY ?_ _ | refine zhY ?_ | refine zfY ?_ _)); refine blk_far ?_ NB135_139.out _; (with_reducible repeat (first | refine zeY ?_ _ | refine zhY ?_ | refine zfY ?_ _)); refine blk_far ?_ NB135_139.out _; (with_reducible repeat (first | refine zeY ?_ _ | refine zhY ?_ | refine zfY ?_ _)); refine blk_far ?_ NB135_139.out _; (with_reducible repeat (first | refine zeY ?_ _ | refine zhY ?_ | refine zfY ?_ _)); refine blk_far ?_ NB135_139.out _; (with_reducible repeat (first | refine zeY ?_ _ | refine zhY ?_ | refine zfY ?_ _)); exact BK135.out⟩, ⟨by (with_reducible repeat (first | refine zeY ?_ _ | refine zhY ?_ | refine zfY ?_ _)); refine blk_put (cs := #[.int .i64 ((rd_T45 l0_1 x6_3).f0), .int .i64 ((rd_T45 l0_1 x6_3).f1), .slice A138_2 ((rd_T45 l0_1 x6_3).f2).length c138_2, .slice none 0 0]) ?_ 3 _ rfl; (with_reducible repeat (first | refine zeY ?_ _ | refine zhY ?_ | refine zfY ?_ _)); refine blk_put (cs := #[.int .i64 ((rd_T45 l0_1 x6_3).f0), .int .i64 ((rd_T45 l0_1 x6_3).f1), .slice none 0 0, .slice none 0 0]) ?_ 2 _ rfl; (with_reducible repeat (first | refine zeY ?_ _ | refine zhY ?_ | refine zfY ?_ _)); refine blk_put (cs := #[.int .i64 ((rd_T45 l0_1 x6_3).f0), .int .i64 0, .slice none 0 0, .slice none 0 0]) ?_ 1 _ rfl; (with_reducible repeat (first | refine zeY ?_ _ | refine zhY ?_ | refine zfY ?_ _)); refine blk_put (cs := #[.int .i64 0, .int .i64 0, .slice none 0 0, .slice none 0 0]) ?_ 0 _ rfl; (with_reducible repeat (first | refine zeY ?_ _ | refine zhY ?_ | refine zfY ?_ _)); exact BK139.out⟩, ⟨bwZ⟩⟩
              ·
               rw [if_neg c66] at H
               have c66b0 : decide (200 < ((rd_T45 l0_1 x6_3).f1)) = false := decide_eq_false c66
               clear c66
               by_cases c69 : (((rd_T45 l0_1 x6_3).f2).length : Int) > 100
               ·
                rw [if_pos c69] at H
                have c69b0 : decide (100 < (((rd_T45 l0_1 x6_3).f2).length : Int)) = true := decide_eq_true c69
                have c69b1 : decide (100 < ((rd_T45 l0_1 x6_3).f2).length) = true := decide_eq_true (by omega)
                clear c69
                have H' := amZ H
                clear H
                have hnb70 := NB139_135.out
                have hnc70 := NB135_139.out
                have hcz71_0 : w57.cell? ⟨gb139, 0, none⟩ = some (.int .i64 0) := (zaY BK139.out 0).trans rfl
                have hcz71_1 : w57.cell? ⟨gb139, 1, none⟩ = some (.int .i64 0) := (zaY BK139.out 1).trans rfl
                have hcz71_2 : w57.cell? ⟨gb139, 2, none⟩ = some (.slice none 0 0) := (zaY BK139.out 2).trans rfl
                have hcz71_3 : w57.cell? ⟨gb139, 3, none⟩ = some (.slice none 0 0) := (zaY BK139.out 3).trans rfl
                have hfz71_0 := zbY BK139.out 0
                have hfz71_1 := zbY BK139.out 1
                have hfz71_2 := zbY BK139.out 2
                have hfz71_3 := zbY BK139.out 3
                go_wp2
                go_meet
                case rel => exact ⟨_, (true), (by first | rfl | (simp; done) | (simp [*]; done)), H', ⟨by have := HJ1.out; have := HK2.out; have := HK3.out; first | omega | exact Nat.le_refl _⟩, ⟨by (with_reducible repeat (first | refine zeY ?_ _ | refine zhY ?_ | refine zfY ?_ _)); refine blk_far ?_ NB135_139.out _; (with_reducible repeat (first | refine zeY ?_ _ | refine zhY ?_ | refine zfY ?_ _)); refine blk_far ?_ NB135_139.out _; (with_reducible repeat (first | refine zeY ?_ _ | refine zhY ?_ | refine zfY ?_ _)); refine blk_far ?_ NB135_139.out _; (with_reducible repeat (first | refine zeY ?_ _ | refine zhY ?_ | refine zfY ?_ _)); refine blk_far ?_ NB135_139.out _; (with_reducible repeat (first | refine zeY ?_ _ | refine zhY ?_ | refine zfY ?_ _)); exact BK135.out⟩, ⟨by (with_reducible repeat (first | refine zeY ?_ _ | refine zhY ?_ | refine zfY ?_ _)); refine blk_put (cs := #[.int .i64 ((rd_T45 l0_1 x6_3).f0), .int .i64 ((rd_T45 l0_1 x6_3).f1), .slice A138_2 ((rd_T45 l0_1 x6_3).f2).length c138_2, .slice none 0 0]) ?_ 3 _ rfl; (with_reducible repeat (first | refine zeY ?_ _ | refine zhY ?_ | refine zfY ?_ _)); refine blk_put (cs := #[.int .i64 ((rd_T45 l0_1 x6_3).f0), .int .i64 ((rd_T45 l0_1 x6_3).f1), .slice none 0 0, .slice none 0 0]) ?_ 2 _ rfl; (with_reducible repeat (first | refine zeY ?_ _ | refine zhY ?_ | refine zfY ?_ _)); refine blk_put (cs := #[.int .i64 ((rd_T45 l0_1 x6_3).f0), .int .i64 0, .slice none 0 0, .slice none 0 0]) ?_ 1 _ rfl; (with_reducible repeat (first | refine zeY ?_ _ | refine zhY ?_ | refine zfY ?_ _)); refine blk_put (cs := #[.int .i64 0, .int .i64 0, .slice none 0 0, .slice none 0 0]) ?_ 0 _ rfl; (with_reducible repeat (first | refine zeY ?_ _ | refine zhY ?_ | refine zfY ?_ _)); exact BK139.out⟩, ⟨bwZ⟩⟩
               ·
                rw [if_neg c69] at H
                have c69b0 : decide (100 < (((rd_T45 l0_1 x6_3).f2).length : Int)) = false := decide_eq_false c69
                have c69b1 : decide (100 < ((rd_T45 l0_1 x6_3).f2).length) = false := decide_eq_false (by omega)
                clear c69
                have H' := amZ H
                clear H
                have hnb72 := NB139_135.out
                have hnc72 := NB135_139.out
                have hcz73_0 : w57.cell? ⟨gb139, 0, none⟩ = some (.int .i64 0) := (zaY BK139.out 0).trans rfl
                have hcz73_1 : w57.cell? ⟨gb139, 1, none⟩ = some (.int .i64 0) := (zaY BK139.out 1).trans rfl
                have hcz73_2 : w57.cell? ⟨gb139, 2, none⟩ = some (.slice none 0 0) := (zaY BK139.out 2).trans rfl
                have hcz73_3 : w57.cell? ⟨gb139, 3, none⟩ = some (.slice none 0 0) := (zaY BK139.out 3).trans rfl
                have hfz73_0 := zbY BK139.out 0
                have hfz73_1 := zbY BK139.out 1
                have hfz73_2 := zbY BK139.out 2
                have hfz73_3 := zbY BK139.out 3
                go_wp2
                go_meet
                case rel => exact ⟨_, (((((rd_T45 l0_1 x6_3).f3).length : Int) == 0)), (by first | rfl | (simp; done) | (simp [*]; done)), H', ⟨by have := HJ1.out; have := HK2.out; have := HK3.out; first | omega | exact Nat.le_refl _⟩, ⟨by (with_reducible repeat (first | refine zeY ?_ _ | refine zhY ?_ | refine zfY ?_ _)); refine blk_far ?_ NB135_139.out _; (with_reducible repeat (first | refine zeY ?_ _ | refine zhY ?_ | refine zfY ?_ _)); refine blk_far ?_ NB135_139.out _; (with_reducible repeat (first | refine zeY ?_ _ | refine zhY ?_ | refine zfY ?_ _)); refine blk_far ?_ NB135_139.out _; (with_reducible repeat (first | refine zeY ?_ _ | refine zhY ?_ | refine zfY ?_ _)); refine blk_far ?_ NB135_139.out _; (with_reducible repeat (first | refine zeY ?_ _ | refine zhY ?_ | refine zfY ?_ _)); exact BK135.out⟩, ⟨by (with_reducible repeat (first | refine zeY ?_ _ | refine zhY ?_ | refine zfY ?_ _)); refine blk_put (cs := #[.int .i64 ((rd_T45 l0_1 x6_3).f0), .int .i64 ((rd_T45 l0_1 x6_3).f1), .slice A138_2 ((rd_T45 l0_1 x6_3).f2).length c138_2, .slice none 0 0]) ?_ 3 _ rfl; (with_reducible repeat (first | refine zeY ?_ _ | refine zhY ?_ | refine zfY ?_ _)); refine blk_put (cs := #[.int .i64 ((rd_T45 l0_1 x6_3).f0), .int .i64 ((rd_T45 l0_1 x6_3).f1), .slice none 0 0, .slice none 0 0]) ?_ 2 _ rfl; (with_reducible repeat (first | refine zeY ?_ _ | refine zhY ?_ | refine zfY ?_ _)); refine blk_put (cs := #[.int .i64 ((rd_T45 l0_1 x6_3).f0), .int .i64 0, .slice none 0 0, .slice none 0 0]) ?_ 1 _ rfl; (with_reducible repeat (first | refine zeY ?_ _ | refine zhY ?_ | refine zfY ?_ _)); refine blk_put (cs := #[.int .i64 0, .int .i64 0, .slice none 0 0, .slice none 0 0]) ?_ 0 _ rfl; (with_reducible repeat (first | refine zeY ?_ _ | refine zhY ?_ | refine zfY ?_ _)); exact BK139.out⟩, ⟨bwZ⟩⟩
           case rest =>
            clear HC55
            try clear c1
            try clear p1
            try clear q1
            try clear hx1
            try clear c2
            try clear p2
            try clear c3
            try clear c4
            try clear c4b0
            try clear c4b1
            try clear c5
            try clear c6
            try clear c6b0
            try clear c6b1
            try clear p6
            try clear c7
            try clear c9
            try clear c10
            try clear c10b0
            try clear c11
            try clear c11b0
            try clear c12
            try clear c12b0
            try clear c12b1
            try clear c13
            try clear p13
            try clear q13
            try clear hx13
            try clear c15
            try clear q17
            try clear c18
            try clear c19
            try clear c19b0
            try clear c19b1
            try clear c20
            try clear c23
            try clear c25
            try clear c25b0
            try clear c25b1
            try clear c25b2
            try clear c28
            try clear c32
            try clear c36
            try clear c38
            try clear c41
            try clear c43
            try clear c43b0
            try clear c43b1
            try clear c43b2
            try clear c46
            try clear c50
            try clear c53
            try clear c53b0
            try clear c54
            try clear c54b0
            try clear c58
            try clear c60
            try clear c60b0
            try clear c61
            try clear c63
            try clear c63b0
            try clear c64
            try clear p64
            try clear c66
            try clear c66b0
            try clear c67
            try clear c69
            try clear c69b0
            try clear c69b1
            try clear c70
            try clear c72
            try clear hcz13_0
            try clear hcz13_1
            try clear hcz16_0
            try clear hcz16_1
            try clear hcz16_2
            try clear hcz21_0
            try clear hcz21_1
            try clear hcz24_0
            try clear hcz24_1
            try clear hcz24_2
            try clear hcz26_0
            try clear hcz26_1
            try clear hcz29_0
            try clear hcz29_1
            try clear hcz29_2
            try clear hcz30_0
            try clear hcz30_1
            try clear hcz33_0
            try clear hcz33_1
            try clear hcz33_2
            try clear hcz34_0
            try clear hcz34_1
            try clear hcz37_0
            try clear hcz37_1
            try clear hcz37_2
            try clear hcz39_0
            try clear hcz39_1
            try clear hcz42_0
            try clear hcz42_1
            try clear hcz42_2
            try clear hcz44_0
            try clear hcz44_1
            try clear hcz47_0
            try clear hcz47_1
            try clear hcz47_2
            try clear hcz48_0
            try clear hcz48_1
            try clear hcz51_0
            try clear hcz51_1
            try clear hcz51_2
            try clear hcz52_0
            try clear hcz52_1
            try clear hcz56_0
            try clear hcz56_1
            try clear hcz59_0
            try clear hcz59_1
            try clear hcz59_2
            try clear hcz59_3
            try clear hcz5_0
            try clear hcz5_1
            try clear hcz62_0
            try clear hcz62_1
            try clear hcz62_2
            try clear hcz62_3
            try clear hcz65_0
            try clear hcz65_1
            try clear hcz65_2
            try clear hcz65_3
            try clear hcz68_0
            try clear hcz68_1
            try clear hcz68_2
            try clear hcz68_3
            try clear hcz71_0
            try clear hcz71_1
            try clear hcz71_2
            try clear hcz71_3
            try clear hcz73_0
            try clear hcz73_1
            try clear hcz73_2
            try clear hcz73_3
            try clear hcz7_0
            try clear hcz7_1
            try clear hcz8_0
            try clear hcz8_1
            try clear hfz13_0
            try clear hfz13_1
            try clear hfz16_0
            try clear hfz16_1
            try clear hfz16_2
            try clear hfz21_0
            try clear hfz21_1
            try clear hfz24_0
            try clear hfz24_1
            try clear hfz24_2
            try clear hfz26_0
            try clear hfz26_1
            try clear hfz29_0
            try clear hfz29_1
            try clear hfz29_2
            try clear hfz30_0
            try clear hfz30_1
            try clear hfz33_0
            try clear hfz33_1
            try clear hfz33_2
            try clear hfz34_0
            try clear hfz34_1
            try clear hfz37_0
            try clear hfz37_1
            try clear hfz37_2
            try clear hfz39_0
            try clear hfz39_1
            try clear hfz42_0
            try clear hfz42_1
            try clear hfz42_2
            try clear hfz44_0
            try clear hfz44_1
            try clear hfz47_0
            try clear hfz47_1
            try clear hfz47_2
            try clear hfz48_0
            try clear hfz48_1
            try clear hfz51_0
            try clear hfz51_1
            try clear hfz51_2
            try clear hfz52_0
            try clear hfz52_1
            try clear hfz56_0
            try clear hfz56_1
            try clear hfz59_0
            try clear hfz59_1
            try clear hfz59_2
            try clear hfz59_3
            try clear hfz5_0
            try clear hfz5_1
            try clear hfz62_0
            try clear hfz62_1
            try clear hfz62_2
            try clear hfz62_3
            try clear hfz65_0
            try clear hfz65_1
            try clear hfz65_2
            try clear hfz65_3
            try clear hfz68_0
            try clear hfz68_1
            try clear hfz68_2
            try clear hfz68_3
            try clear hfz71_0
            try clear hfz71_1
            try clear hfz71_2
            try clear hfz71_3
            try clear hfz73_0
            try clear hfz73_1
            try clear hfz73_2
            try clear hfz73_3
            try clear hfz7_0
            try clear hfz7_1
            try clear hfz8_0
            try clear hfz8_1
            try clear hx136_0
            try clear hx136_1
            try clear hx136_2
            try clear hx138_0
            try clear hx138_1
            try clear hx138_2
            try clear hx138_3
            try clear p1
            try clear p13
            try clear p136
            try clear p138
            try clear p2
            try clear p6
            try clear q1
            try clear q13
            try clear q136
            try clear q138
            try clear q17
            obtain ⟨kq, x107_54, rfl, HA, HJ54, BK135, BK139, HB⟩ := hcut
            cases kq with
            | zero => exact absurd HA.out (by simp [spec_Check.j3])
            | succ kj54 =>
             have H := HA.out
             clear HA
             simp only [spec_Check.j3] at H
             by_cases c74 : x107_54 = true
             ·
              subst c74
              have H1 : (some false) = some r := by rw [if_pos rfl] at H; exact H
              clear H
              have H := H1
              clear H1
              obtain rfl := Option.some.inj H
              go_wp2
              go_ret
              exact ⟨by first | rfl | (simp [zjY, ziY] <;> rfl) | (simp [*, zjY, ziY] <;> rfl), bwZ⟩
             ·
              replace c74 := Bool.eq_false_iff.mpr c74
              subst c74
              have H1 : (if x6_3 = 0 then (if ((rd_T45 l0_1 x6_3).f0) = 0 then (spec_Check.j4 kj54 (wrap64 (x5_3 + (((rd_T45 l0_1 x6_3).f3).length : Int))) x6_3 ((((rd_T45 l0_1 x6_3).f2).length : Int) != 0) l0_0 l0_1 ((rd_T45 l0_1 x6_3).f0) ((rd_T45 l0_1 x6_3).f1) ((rd_T45 l0_1 x6_3).f2) ((rd_T45 l0_1 x6_3).f3)) else (spec_Check.j4 kj54 (wrap64 (x5_3 + (((rd_T45 l0_1 x6_3).f3).length : Int))) x6_3 true l0_0 l0_1 ((rd_T45 l0_1 x6_3).f0) ((rd_T45 l0_1 x6_3).f1) ((rd_T45 l0_1 x6_3).f2) ((rd_T45 l0_1 x6_3).f3))) else (spec_Check.j4 kj54 (wrap64 (x5_3 + (((rd_T45 l0_1 x6_3).f3).length : Int))) x6_3 false l0_0 l0_1 ((rd_T45 l0_1 x6_3).f0) ((rd_T45 l0_1 x6_3).f1) ((rd_T45 l0_1 x6_3).f2) ((rd_T45 l0_1 x6_3).f3))) = some r := by rw [if_neg (show ¬ (false = true) by decide)] at H; exact H
              clear H
              have H := H1
              clear H1
              have HC75 := amZ H
              clear H
              go_upto_region 17 with (fail)
              go_cut [120] (fun v120 wc => ∃ (kq : Nat) (x120_74 : Bool), v120 = .bool x120_74 ∧ Aside0 (spec_Check.j4 kq (wrap64 (x5_3 + (((rd_T45 l0_1 x6_3).f3).length : Int))) x6_3 x120_74 l0_0 l0_1 ((rd_T45 l0_1 x6_3).f0) ((rd_T45 l0_1 x6_3).f1) ((rd_T45 l0_1 x6_3).f2) ((rd_T45 l0_1 x6_3).f3) = some r) ∧ Aside0 (kq ≤ kj54) ∧ Aside0 (wc.heap[gb135]? = some (.cells #[(.slice A0_0 l0_0.length c0_0), (.slice (some ad138) l0_1.length c0_1)] 32 (0, 0))) ∧ Aside0 (wc.heap[gb139]? = some (.cells #[.int .i64 ((rd_T45 l0_1 x6_3).f0), .int .i64 ((rd_T45 l0_1 x6_3).f1), (.slice A138_2 ((rd_T45 l0_1 x6_3).f2).length c138_2), (.slice A138_3 ((rd_T45 l0_1 x6_3).f3).length c138_3)] 45 (0, 0))) ∧ Aside0 (Below w.heap.size w wc))
              case first =>
               have H := HC75.out
               clear HC75
               by_cases c76 : x6_3 = 0
               ·
                rw [if_pos c76] at H
                have c76b0 : (x6_3 == 0) = true := beq_iff_eq.mpr c76
                have c76b1 : (x6_3 != 0) = false := bne_eq_false_iff_eq.mpr c76
                clear c76
                (first | rw [c76b0] | (simp only [i64_w, i32_w]; rw [c76b0]) | skip)
                by_cases c77 : ((rd_T45 l0_1 x6_3).f0) = 0
                ·
                 rw [if_pos c77] at H
                 have c77b0 : (((rd_T45 l0_1 x6_3).f0) == 0) = true := beq_iff_eq.mpr c77
                 have c77b1 : (((rd_T45 l0_1 x6_3).f0) != 0) = false := bne_eq_false_iff_eq.mpr c77
                 clear c77
                 have H' := amZ H
                 clear H
                 have hnb78 := NB139_135.out
                 have hnc78 := NB135_139.out
                 have hcz79_0 : wc.cell? ⟨gb139, 0, none⟩ = some (.int .i64 ((rd_T45 l0_1 x6_3).f0)) := (zaY BK139.out 0).trans rfl
                 have hcz79_1 : wc.cell? ⟨gb139, 1, none⟩ = some (.int .i64 ((rd_T45 l0_1 x6_3).f1)) := (zaY BK139.out 1).trans rfl
                 have hcz79_2 : wc.cell? ⟨gb139, 2, none⟩ = some (.slice A138_2 ((rd_T45 l0_1 x6_3).f2).length c138_2) := (zaY BK139.out 2).trans rfl
                 have hcz79_3 : wc.cell? ⟨gb139, 3, none⟩ = some (.slice A138_3 ((rd_T45 l0_1 x6_3).f3).length c138_3) := (zaY BK139.out 3).trans rfl
                 have hfz79_0 := zbY BK139.out 0
                 have hfz79_1 := zbY BK139.out 1
                 have hfz79_2 := zbY BK139.out 2
                 have hfz79_3 := zbY BK139.out 3
                 go_wp2
                 go_meet
                 case rel => exact ⟨_, (((((rd_T45 l0_1 x6_3).f2).length : Int) != 0)), (by first | rfl | (simp; done) | (simp [*]; done)), H', ⟨by have := HJ1.out; have := HK2.out; have := HK3.out; have := HJ54.out; first | omega | exact Nat.le_refl _⟩, ⟨by (with_reducible repeat (first | refine zeY ?_ _ | refine zhY ?_ | refine zfY ?_ _)); exact BK135.out⟩, ⟨by (with_reducible repeat (first | refine zeY ?_ _ | refine zhY ?_ | refine zfY ?_ _)); exact BK139.out⟩, ⟨bwZ⟩⟩
                ·
                 rw [if_neg c77] at H
                 have c77b0 : (((rd_T45 l0_1 x6_3).f0) == 0) = false := beq_eq_false_iff_ne.mpr c77
                 have c77b1 : (((rd_T45 l0_1 x6_3).f0) != 0) = true := bne_iff_ne.mpr c77
                 have H' := amZ H
                 clear H
                 have hnb80 := NB139_135.out
                 have hnc80 := NB135_139.out
                 have hcz81_0 : wc.cell? ⟨gb139, 0, none⟩ = some (.int .i64 ((rd_T45 l0_1 x6_3).f0)) := (zaY BK139.out 0).trans rfl
                 have hcz81_1 : wc.cell? ⟨gb139, 1, none⟩ = some (.int .i64 ((rd_T45 l0_1 x6_3).f1)) := (zaY BK139.out 1).trans rfl
                 have hcz81_2 : wc.cell? ⟨gb139, 2, none⟩ = some (.slice A138_2 ((rd_T45 l0_1 x6_3).f2).length c138_2) := (zaY BK139.out 2).trans rfl
                 have hcz81_3 : wc.cell? ⟨gb139, 3, none⟩ = some (.slice A138_3 ((rd_T45 l0_1 x6_3).f3).length c138_3) := (zaY BK139.out 3).trans rfl
                 have hfz81_0 := zbY BK139.out 0
                 have hfz81_1 := zbY BK139.out 1
                 have hfz81_2 := zbY BK139.out 2
                 have hfz81_3 := zbY BK139.out 3
                 go_wp2
                 go_meet
                 case rel => exact ⟨_, (true), (by first | rfl | (simp; done) | (simp [*]; done)), H', ⟨by have := HJ1.out; have := HK2.out; have := HK3.out; have := HJ54.out; first | omega | exact Nat.le_refl _⟩, ⟨by (with_reducible repeat (first | refine zeY ?_ _ | refine zhY ?_ | refine zfY ?_ _)); exact BK135.out⟩, ⟨by (with_reducible repeat (first | refine zeY ?_ _ | refine zhY ?_ | refine zfY ?_ _)); exact BK139.out⟩, ⟨bwZ⟩⟩
               ·
                rw [if_neg c76] at H
                have c76b0 : (x6_3 == 0) = false := beq_eq_false_iff_ne.mpr c76
                have c76b1 : (x6_3 != 0) = true := bne_iff_ne.mpr c76
                (first | rw [c76b0] | (simp only [i64_w, i32_w]; rw [c76b0]) | skip)
                have H' := amZ H
                clear H
                go_wp2
                go_meet
                case rel => exact ⟨_, (false), (by first | rfl | (simp; done) | (simp [*]; done)), H', ⟨by have := HJ1.out; have := HK2.out; have := HK3.out; have := HJ54.out; first | omega | exact Nat.le_refl _⟩, ⟨by (with_reducible repeat (first | refine zeY ?_ _ | refine zhY ?_ | refine zfY ?_ _)); exact BK135.out⟩, ⟨by (with_reducible repeat (first | refine zeY ?_ _ | refine zhY ?_ | refine zfY ?_ _)); exact BK139.out⟩, ⟨bwZ⟩⟩
              case rest =>
               clear HC75
               try clear c1
               try clear p1
               try clear q1
               try clear hx1
               try clear c2
               try clear p2
               try clear c3
               try clear c4
               try clear c4b0
               try clear c4b1
               try clear c5
               try clear c6
               try clear c6b0
               try clear c6b1
               try clear p6
               try clear c7
               try clear c8
               try clear c9
               try clear c10
               try clear c10b0
               try clear c11
               try clear c11b0
               try clear c12
               try clear c12b0
               try clear c12b1
               try clear c13
               try clear p13
               try clear q13
               try clear hx13
               try clear c15
               try clear q17
               try clear c18
               try clear c19
               try clear c19b0
               try clear c19b1
               try clear c20
               try clear c23
               try clear c25
               try clear c25b0
               try clear c25b1
               try clear c25b2
               try clear c28
               try clear c32
               try clear c36
               try clear c38
               try clear c41
               try clear c43
               try clear c43b0
               try clear c43b1
               try clear c43b2
               try clear c46
               try clear c50
               try clear c53
               try clear c53b0
               try clear c54
               try clear c54b0
               try clear c58
               try clear c60
               try clear c60b0
               try clear c61
               try clear c63
               try clear c63b0
               try clear c64
               try clear p64
               try clear c66
               try clear c66b0
               try clear c67
               try clear c69
               try clear c69b0
               try clear c69b1
               try clear c70
               try clear c72
               try clear c74
               try clear c76
               try clear c76b0
               try clear c76b1
               try clear c77
               try clear c77b0
               try clear c77b1
               try clear c78
               try clear c80
               try clear hcz13_0
               try clear hcz13_1
               try clear hcz16_0
               try clear hcz16_1
               try clear hcz16_2
               try clear hcz21_0
               try clear hcz21_1
               try clear hcz24_0
               try clear hcz24_1
               try clear hcz24_2
               try clear hcz26_0
               try clear hcz26_1
               try clear hcz29_0
               try clear hcz29_1
               try clear hcz29_2
               try clear hcz30_0
               try clear hcz30_1
               try clear hcz33_0
               try clear hcz33_1
               try clear hcz33_2
               try clear hcz34_0
               try clear hcz34_1
               try clear hcz37_0
               try clear hcz37_1
               try clear hcz37_2
               try clear hcz39_0
               try clear hcz39_1
               try clear hcz42_0
               try clear hcz42_1
               try clear hcz42_2
               try clear hcz44_0
               try clear hcz44_1
               try clear hcz47_0
               try clear hcz47_1
               try clear hcz47_2
               try clear hcz48_0
               try clear hcz48_1
               try clear hcz51_0
               try clear hcz51_1
               try clear hcz51_2
               try clear hcz52_0
               try clear hcz52_1
               try clear hcz56_0
               try clear hcz56_1
               try clear hcz59_0
               try clear hcz59_1
               try clear hcz59_2
               try clear hcz59_3
               try clear hcz5_0
               try clear hcz5_1
               try clear hcz62_0
               try clear hcz62_1
               try clear hcz62_2
               try clear hcz62_3
               try clear hcz65_0
               try clear hcz65_1
               try clear hcz65_2
               try clear hcz65_3
               try clear hcz68_0
               try clear hcz68_1
               try clear hcz68_2
               try clear hcz68_3
               try clear hcz71_0
               try clear hcz71_1
               try clear hcz71_2
               try clear hcz71_3
               try clear hcz73_0
               try clear hcz73_1
               try clear hcz73_2
               try clear hcz73_3
               try clear hcz79_0
               try clear hcz79_1
               try clear hcz79_2
               try clear hcz79_3
               try clear hcz7_0
               try clear hcz7_1
               try clear hcz81_0
               try clear hcz81_1
               try clear hcz81_2
               try clear hcz81_3
               try clear hcz8_0
               try clear hcz8_1
               try clear hfz13_0
               try clear hfz13_1
               try clear hfz16_0
               try clear hfz16_1
               try clear hfz16_2
               try clear hfz21_0
               try clear hfz21_1
               try clear hfz24_0
               try clear hfz24_1
               try clear hfz24_2
               try clear hfz26_0
               try clear hfz26_1
               try clear hfz29_0
               try clear hfz29_1
               try clear hfz29_2
               try clear hfz30_0
               try clear hfz30_1
               try clear hfz33_0
               try clear hfz33_1
               try clear hfz33_2
               try clear hfz34_0
               try clear hfz34_1
               try clear hfz37_0
               try clear hfz37_1
               try clear hfz37_2
               try clear hfz39_0
               try clear hfz39_1
               try clear hfz42_0
               try clear hfz42_1
               try clear hfz42_2
               try clear hfz44_0
               try clear hfz44_1
               try clear hfz47_0
               try clear hfz47_1
               try clear hfz47_2
               try clear hfz48_0
               try clear hfz48_1
               try clear hfz51_0
               try clear hfz51_1
               try clear hfz51_2
               try clear hfz52_0
               try clear hfz52_1
               try clear hfz56_0
               try clear hfz56_1
               try clear hfz59_0
               try clear hfz59_1
               try clear hfz59_2
               try clear hfz59_3
               try clear hfz5_0
               try clear hfz5_1
               try clear hfz62_0
               try clear hfz62_1
               try clear hfz62_2
               try clear hfz62_3
               try clear hfz65_0
               try clear hfz65_1
               try clear hfz65_2
               try clear hfz65_3
               try clear hfz68_0
               try clear hfz68_1
               try clear hfz68_2
               try clear hfz68_3
               try clear hfz71_0
               try clear hfz71_1
               try clear hfz71_2
               try clear hfz71_3
               try clear hfz73_0
               try clear hfz73_1
               try clear hfz73_2
               try clear hfz73_3
               try clear hfz79_0
               try clear hfz79_1
               try clear hfz79_2
               try clear hfz79_3
               try clear hfz7_0
               try clear hfz7_1
               try clear hfz81_0
               try clear hfz81_1
               try clear hfz81_2
               try clear hfz81_3
               try clear hfz8_0
               try clear hfz8_1
               try clear hx136_0
               try clear hx136_1
               try clear hx136_2
               try clear hx138_0
               try clear hx138_1
               try clear hx138_2
               try clear hx138_3
               try clear p1
               try clear p13
               try clear p136
               try clear p138
               try clear p2
               try clear p6
               try clear p64
               try clear q1
               try clear q13
               try clear q136
               try clear q138
               try clear q17
               obtain ⟨kq, x120_74, rfl, HA, HJ74, BK135, BK139, HB⟩ := hcut
               cases kq with
               | zero => exact absurd HA.out (by simp [spec_Check.j4])
               | succ kj74 =>
                have H := HA.out
                clear HA
                simp only [spec_Check.j4] at H
                by_cases c82 : x120_74 = true
                ·
                 subst c82
                 have H1 : (some false) = some r := by rw [if_pos rfl] at H; exact H
                 clear H
                 have H := H1
                 clear H1
                 obtain rfl := Option.some.inj H
                 go_wp2
                 go_ret
                 exact ⟨by first | rfl | (simp [zjY, ziY] <;> rfl) | (simp [*, zjY, ziY] <;> rfl), bwZ⟩
                ·
                 replace c82 := Bool.eq_false_iff.mpr c82
                 subst c82
                 have H1 : (spec_Check.l2 kj74 (wrap64 (x5_3 + (((rd_T45 l0_1 x6_3).f3).length : Int))) x6_3 0 l0_0 l0_1 ((rd_T45 l0_1 x6_3).f0) ((rd_T45 l0_1 x6_3).f1) ((rd_T45 l0_1 x6_3).f2) ((rd_T45 l0_1 x6_3).f3)) = some r := by rw [if_neg (show ¬ (false = true) by decide)] at H; exact H
                 clear H
                 have H := H1
                 clear H1
                 have H' := amZ H
                 clear H
                 go_wp2
                 go_loopg [8] kj74 (fun kq v8 w' => ∃ (x8_6 : Int), v8 = .int .i64 x8_6 ∧ Aside0 (spec_Check.l2 kq (wrap64 (x5_3 + (((rd_T45 l0_1 x6_3).f3).length : Int))) x6_3 x8_6 l0_0 l0_1 ((rd_T45 l0_1 x6_3).f0) ((rd_T45 l0_1 x6_3).f1) ((rd_T45 l0_1 x6_3).f2) ((rd_T45 l0_1 x6_3).f3) = some r) ∧ Aside0 (kq ≤ kj74) ∧ Aside0 (w'.heap[gb135]? = some (.cells #[(.slice A0_0 l0_0.length c0_0), (.slice (some ad138) l0_1.length c0_1)] 32 (0, 0))) ∧ Aside0 (w'.heap[gb139]? = some (.cells #[.int .i64 ((rd_T45 l0_1 x6_3).f0), .int .i64 ((rd_T45 l0_1 x6_3).f1), (.slice A138_2 ((rd_T45 l0_1 x6_3).f2).length c138_2), (.slice A138_3 ((rd_T45 l0_1 x6_3).f3).length c138_3)] 45 (0, 0))) ∧ Aside0 (Below w.heap.size w w'))
                 case atStart => exact ⟨(0), (by first | rfl | (simp; done) | (simp [*]; done)), H', ⟨Nat.le_refl _⟩, ⟨by (with_reducible repeat (first | refine zeY ?_ _ | refine zhY ?_ | refine zfY ?_ _)); exact BK135.out⟩, ⟨by (with_reducible repeat (first | refine zeY ?_ _ | refine zhY ?_ | refine zfY ?_ _)); exact BK139.out⟩, ⟨bwZ⟩⟩
                 case round =>
                  clear H'
                  try clear c1
                  try clear p1
                  try clear q1
                  try clear hx1
                  try clear c2
                  try clear p2
                  try clear c3
                  try clear c4
                  try clear c4b0
                  try clear c4b1
                  try clear c5
                  try clear c6
                  try clear c6b0
                  try clear c6b1
                  try clear p6
                  try clear c7
                  try clear c8
                  try clear c9
                  try clear c10
                  try clear c10b0
                  try clear c11
                  try clear c11b0
                  try clear c12
                  try clear c12b0
                  try clear c12b1
                  try clear c13
                  try clear p13
                  try clear q13
                  try clear hx13
                  try clear c15
                  try clear q17
                  try clear c18
                  try clear c19
                  try clear c19b0
                  try clear c19b1
                  try clear c20
                  try clear c23
                  try clear c25
                  try clear c25b0
                  try clear c25b1
                  try clear c25b2
                  try clear c28
                  try clear c32
                  try clear c36
                  try clear c38
                  try clear c41
                  try clear c43
                  try clear c43b0
                  try clear c43b1
                  try clear c43b2
                  try clear c46
                  try clear c50
                  try clear c53
                  try clear c53b0
                  try clear c54
                  try clear c54b0
                  try clear c58
                  try clear c60
                  try clear c60b0
                  try clear c61
                  try clear c63
                  try clear c63b0
                  try clear c64
                  try clear p64
                  try clear c66
                  try clear c66b0
                  try clear c67
                  try clear c69
                  try clear c69b0
                  try clear c69b1
                  try clear c70
                  try clear c72
                  try clear c74
                  try clear c76
                  try clear c76b0
                  try clear c76b1
                  try clear c77
                  try clear c77b0
                  try clear c77b1
                  try clear c78
                  try clear c80
                  try clear c82
                  try clear hcz13_0
                  try clear hcz13_1
                  try clear hcz16_0
                  try clear hcz16_1
                  try clear hcz16_2
                  try clear hcz21_0
                  try clear hcz21_1
                  try clear hcz24_0
                  try clear hcz24_1
                  try clear hcz24_2
                  try clear hcz26_0
                  try clear hcz26_1
                  try clear hcz29_0
                  try clear hcz29_1
                  try clear hcz29_2
                  try clear hcz30_0
                  try clear hcz30_1
                  try clear hcz33_0
                  try clear hcz33_1
                  try clear hcz33_2
                  try clear hcz34_0
                  try clear hcz34_1
                  try clear hcz37_0
                  try clear hcz37_1
                  try clear hcz37_2
                  try clear hcz39_0
                  try clear hcz39_1
                  try clear hcz42_0
                  try clear hcz42_1
                  try clear hcz42_2
                  try clear hcz44_0
                  try clear hcz44_1
                  try clear hcz47_0
                  try clear hcz47_1
                  try clear hcz47_2
                  try clear hcz48_0
                  try clear hcz48_1
                  try clear hcz51_0
                  try clear hcz51_1
                  try clear hcz51_2
                  try clear hcz52_0
                  try clear hcz52_1
                  try clear hcz56_0
                  try clear hcz56_1
                  try clear hcz59_0
                  try clear hcz59_1
                  try clear hcz59_2
                  try clear hcz59_3
                  try clear hcz5_0
                  try clear hcz5_1
                  try clear hcz62_0
                  try clear hcz62_1
                  try clear hcz62_2
                  try clear hcz62_3
                  try clear hcz65_0
                  try clear hcz65_1
                  try clear hcz65_2
                  try clear hcz65_3
                  try clear hcz68_0
                  try clear hcz68_1
                  try clear hcz68_2
                  try clear hcz68_3
                  try clear hcz71_0
                  try clear hcz71_1
                  try clear hcz71_2
                  try clear hcz71_3
                  try clear hcz73_0
                  try clear hcz73_1
                  try clear hcz73_2
                  try clear hcz73_3
                  try clear hcz79_0
                  try clear hcz79_1
                  try clear hcz79_2
                  try clear hcz79_3
                  try clear hcz7_0
                  try clear hcz7_1
                  try clear hcz81_0
                  try clear hcz81_1
                  try clear hcz81_2
                  try clear hcz81_3
                  try clear hcz8_0
                  try clear hcz8_1
                  try clear hfz13_0
                  try clear hfz13_1
                  try clear hfz16_0
                  try clear hfz16_1
                  try clear hfz16_2
                  try clear hfz21_0
                  try clear hfz21_1
                  try clear hfz24_0
                  try clear hfz24_1
                  try clear hfz24_2
                  try clear hfz26_0
                  try clear hfz26_1
                  try clear hfz29_0
                  try clear hfz29_1
                  try clear hfz29_2
                  try clear hfz30_0
                  try clear hfz30_1
                  try clear hfz33_0
                  try clear hfz33_1
                  try clear hfz33_2
                  try clear hfz34_0
                  try clear hfz34_1
                  try clear hfz37_0
                  try clear hfz37_1
                  try clear hfz37_2
                  try clear hfz39_0
                  try clear hfz39_1
                  try clear hfz42_0
                  try clear hfz42_1
                  try clear hfz42_2
                  try clear hfz44_0
                  try clear hfz44_1
                  try clear hfz47_0
                  try clear hfz47_1
                  try clear hfz47_2
                  try clear hfz48_0
                  try clear hfz48_1
                  try clear hfz51_0
                  try clear hfz51_1
                  try clear hfz51_2
                  try clear hfz52_0
                  try clear hfz52_1
                  try clear hfz56_0
                  try clear hfz56_1
                  try clear hfz59_0
                  try clear hfz59_1
                  try clear hfz59_2
                  try clear hfz59_3
                  try clear hfz5_0
                  try clear hfz5_1
                  try clear hfz62_0
                  try clear hfz62_1
                  try clear hfz62_2
                  try clear hfz62_3
                  try clear hfz65_0
                  try clear hfz65_1
                  try clear hfz65_2
                  try clear hfz65_3
                  try clear hfz68_0
                  try clear hfz68_1
                  try clear hfz68_2
                  try clear hfz68_3
                  try clear hfz71_0
                  try clear hfz71_1
                  try clear hfz71_2
                  try clear hfz71_3
                  try clear hfz73_0
                  try clear hfz73_1
                  try clear hfz73_2
                  try clear hfz73_3
                  try clear hfz79_0
                  try clear hfz79_1
                  try clear hfz79_2
                  try clear hfz79_3
                  try clear hfz7_0
                  try clear hfz7_1
                  try clear hfz81_0
                  try clear hfz81_1
                  try clear hfz81_2
                  try clear hfz81_3
                  try clear hfz8_0
                  try clear hfz8_1
                  try clear hx136_0
                  try clear hx136_1
                  try clear hx136_2
                  try clear hx138_0
                  try clear hx138_1
                  try clear hx138_2
                  try clear hx138_3
                  try clear p1
                  try clear p13
                  try clear p136
                  try clear p138
                  try clear p2
                  try clear p6
                  try clear p64
                  try clear q1
                  try clear q13
                  try clear q136
                  try clear q138
                  try clear q17
                  obtain ⟨x8_6, rfl, HA, HK6, BK135, BK139, HB⟩ := hrel
                  cases gk with
                  | zero => exact absurd HA.out (by simp [spec_Check.l2])
                  | succ k6 =>
                   have H := HA.out
                   clear HA
                   simp only [spec_Check.l2] at H
                   by_cases c83 : x8_6 < (((rd_T45 l0_1 x6_3).f2).length : Int)
                   ·
                    rw [if_pos c83] at H
                    have c83b0 : decide (x8_6 < (((rd_T45 l0_1 x6_3).f2).length : Int)) = true := decide_eq_true c83
                    clear c83
                    by_cases c84 : 0 ≤ x8_6
                    ·
                     rw [if_pos c84] at H
                     have c84b0 : decide (0 ≤ x8_6) = true := decide_eq_true c84
                     clear c84
                     by_cases c85 : ((rd_T48 ((rd_T45 l0_1 x6_3).f2) x8_6).f1) < 0
                     ·
                      rw [if_pos c85] at H
                      have c85b0 : decide (((rd_T48 ((rd_T45 l0_1 x6_3).f2) x8_6).f1) < 0) = true := decide_eq_true c85
                      clear c85
                      obtain rfl := Option.some.inj H
                      have hnb86 := NB139_135.out
                      have hnc86 := NB135_139.out
                      have hcz87_0 : wr.cell? ⟨gb139, 0, none⟩ = some (.int .i64 ((rd_T45 l0_1 x6_3).f0)) := (zaY BK139.out 0).trans rfl
                      have hcz87_1 : wr.cell? ⟨gb139, 1, none⟩ = some (.int .i64 ((rd_T45 l0_1 x6_3).f1)) := (zaY BK139.out 1).trans rfl
                      have hcz87_2 : wr.cell? ⟨gb139, 2, none⟩ = some (.slice A138_2 ((rd_T45 l0_1 x6_3).f2).length c138_2) := (zaY BK139.out 2).trans rfl
                      have hcz87_3 : wr.cell? ⟨gb139, 3, none⟩ = some (.slice A138_3 ((rd_T45 l0_1 x6_3).f3).length c138_3) := (zaY BK139.out 3).trans rfl
                      have hfz87_0 := zbY BK139.out 0
                      have hfz87_1 := zbY BK139.out 1
                      have hfz87_2 := zbY BK139.out 2
                      have hfz87_3 := zbY BK139.out 3
                      have p140 : 0 ≤ (x8_6 : Int) := odZ
                      have q140 : x8_6 < (((rd_T45 l0_1 x6_3).f2).length : Int) := odZ
                      obtain ⟨ad140, e140, hx140_0, hx140_1⟩ := at_T48 HR138_2.out x8_6 p140 q140
                      cases e140
                      replace hx140_0 := (HB.out.cell (World.block_lt_of_cell? w _ hx140_0)).trans hx140_0
                      replace hx140_1 := (HB.out.cell (World.block_lt_of_cell? w _ hx140_1)).trans hx140_1
                      replace p140 := eq_true p140
                      replace q140 := eq_true q140
                      go_wp2
                      go_ret
                      exact ⟨by first | rfl | (simp [zjY, ziY] <;> rfl) | (simp [*, zjY, ziY] <;> rfl), bwZ⟩
                     ·
                      rw [if_neg c85] at H
                      have c85b0 : decide (((rd_T48 ((rd_T45 l0_1 x6_3).f2) x8_6).f1) < 0) = false := decide_eq_false c85
                      clear c85
                      by_cases c88 : ((rd_T48 ((rd_T45 l0_1 x6_3).f2) x8_6).f1) ≥ 200
                      ·
                       rw [if_pos c88] at H
                       have c88b0 : decide (200 ≤ ((rd_T48 ((rd_T45 l0_1 x6_3).f2) x8_6).f1)) = true := decide_eq_true c88
                       clear c88
                       obtain rfl := Option.some.inj H
                       have hnb89 := NB139_135.out
                       have hnc89 := NB135_139.out
                       have hcz90_0 : wr.cell? ⟨gb139, 0, none⟩ = some (.int .i64 ((rd_T45 l0_1 x6_3).f0)) := (zaY BK139.out 0).trans rfl
                       have hcz90_1 : wr.cell? ⟨gb139, 1, none⟩ = some (.int .i64 ((rd_T45 l0_1 x6_3).f1)) := (zaY BK139.out 1).trans rfl
                       have hcz90_2 : wr.cell? ⟨gb139, 2, none⟩ = some (.slice A138_2 ((rd_T45 l0_1 x6_3).f2).length c138_2) := (zaY BK139.out 2).trans rfl
                       have hcz90_3 : wr.cell? ⟨gb139, 3, none⟩ = some (.slice A138_3 ((rd_T45 l0_1 x6_3).f3).length c138_3) := (zaY BK139.out 3).trans rfl
                       have hfz90_0 := zbY BK139.out 0
                       have hfz90_1 := zbY BK139.out 1
                       have hfz90_2 := zbY BK139.out 2
                       have hfz90_3 := zbY BK139.out 3
                       have p140 : 0 ≤ (x8_6 : Int) := odZ
                       have q140 : x8_6 < (((rd_T45 l0_1 x6_3).f2).length : Int) := odZ
                       obtain ⟨ad140, e140, hx140_0, hx140_1⟩ := at_T48 HR138_2.out x8_6 p140 q140
                       cases e140
                       replace hx140_0 := (HB.out.cell (World.block_lt_of_cell? w _ hx140_0)).trans hx140_0
                       replace hx140_1 := (HB.out.cell (World.block_lt_of_cell? w _ hx140_1)).trans hx140_1
                       replace p140 := eq_true p140
                       replace q140 := eq_true q140
                       have p141 : 0 ≤ (x8_6 : Int) := odZ
                       have q141 : x8_6 < (((rd_T45 l0_1 x6_3).f2).length : Int) := odZ
                       obtain ⟨ad141, e141, hx141_0, hx141_1⟩ := at_T48 HR138_2.out x8_6 p141 q141
                       obtain rfl : ad140 = ad141 := (by injection e141)
                       replace hx141_0 := (HB.out.cell (World.block_lt_of_cell? w _ hx141_0)).trans hx141_0
                       replace hx141_1 := (HB.out.cell (World.block_lt_of_cell? w _ hx141_1)).trans hx141_1
                       replace p141 := eq_true p141
                       replace q141 := eq_true q141
                       go_wp2
                       go_ret
                       exact ⟨by first | rfl | (simp [zjY, ziY] <;> rfl) | (simp [*, zjY, ziY] <;> rfl), bwZ⟩
                      ·
                       rw [if_neg c88] at H
                       have c88b0 : decide (200 ≤ ((rd_T48 ((rd_T45 l0_1 x6_3).f2) x8_6).f1)) = false := decide_eq_false c88
                       clear c88
                       have H' := amZ H
                       clear H
                       have hnb91 := NB139_135.out
                       have hnc91 := NB135_139.out
                       have hcz92_0 : wr.cell? ⟨gb139, 0, none⟩ = some (.int .i64 ((rd_T45 l0_1 x6_3).f0)) := (zaY BK139.out 0).trans rfl
                       have hcz92_1 : wr.cell? ⟨gb139, 1, none⟩ = some (.int .i64 ((rd_T45 l0_1 x6_3).f1)) := (zaY BK139.out 1).trans rfl
                       have hcz92_2 : wr.cell? ⟨gb139, 2, none⟩ = some (.slice A138_2 ((rd_T45 l0_1 x6_3).f2).length c138_2) := (zaY BK139.out 2).trans rfl
                       have hcz92_3 : wr.cell? ⟨gb139, 3, none⟩ = some (.slice A138_3 ((rd_T45 l0_1 x6_3).f3).length c138_3) := (zaY BK139.out 3).trans rfl
                       have hfz92_0 := zbY BK139.out 0
                       have hfz92_1 := zbY BK139.out 1
                       have hfz92_2 := zbY BK139.out 2
                       have hfz92_3 := zbY BK139.out 3
                       have p140 : 0 ≤ (x8_6 : Int) := odZ
                       have q140 : x8_6 < (((rd_T45 l0_1 x6_3).f2).length : Int) := odZ
                       obtain ⟨ad140, e140, hx140_0, hx140_1⟩ := at_T48 HR138_2.out x8_6 p140 q140
                       cases e140
                       replace hx140_0 := (HB.out.cell (World.block_lt_of_cell? w _ hx140_0)).trans hx140_0
                       replace hx140_1 := (HB.out.cell (World.block_lt_of_cell? w _ hx140_1)).trans hx140_1
                       replace p140 := eq_true p140
                       replace q140 := eq_true q140
                       have p141 : 0 ≤ (x8_6 : Int) := odZ
                       have q141 : x8_6 < (((rd_T45 l0_1 x6_3).f2).length : Int) := odZ
                       obtain ⟨ad141, e141, hx141_0, hx141_1⟩ := at_T48 HR138_2.out x8_6 p141 q141
                       obtain rfl : ad140 = ad141 := (by injection e141)
                       replace hx141_0 := (HB.out.cell (World.block_lt_of_cell? w _ hx141_0)).trans hx141_0
                       replace hx141_1 := (HB.out.cell (World.block_lt_of_cell? w _ hx141_1)).trans hx141_1
                       replace p141 := eq_true p141
                       replace q141 := eq_true q141
                       go_wp2
                       go_roundg k6
                       case measure => have := HJ1.out; have := HK2.out; have := HK3.out; have := HJ54.out; have := HJ74.out; have := HK6.out; omega
                       case rel => exact ⟨(wrap64 (x8_6 + 1)), (by first | rfl | (simp; done) | (simp [*]; done)), H', ⟨by have := HJ1.out; have := HK2.out; have := HK3.out; have := HJ54.out; have := HJ74.out; have := HK6.out; omega⟩, ⟨by (with_reducible repeat (first | refine zeY ?_ _ | refine zhY ?_ | refine zfY ?_ _)); exact BK135.out⟩, ⟨by (with_reducible repeat (first | refine zeY ?_ _ | refine zhY ?_ | refine zfY ?_ _)); exact BK139.out⟩, ⟨bwZ⟩⟩
                    ·
                     rw [if_neg c84] at H
                     exact absurd H (by simp)
                   ·
                    rw [if_neg c83] at H
                    have c83b0 : decide (x8_6 < (((rd_T45 l0_1 x6_3).f2).length : Int)) = false := decide_eq_false c83
                    clear c83
                    have H' := amZ H
                    clear H
                    have hnb93 := NB139_135.out
                    have hnc93 := NB135_139.out
                    have hcz94_0 : wr.cell? ⟨gb139, 0, none⟩ = some (.int .i64 ((rd_T45 l0_1 x6_3).f0)) := (zaY BK139.out 0).trans rfl
                    have hcz94_1 : wr.cell? ⟨gb139, 1, none⟩ = some (.int .i64 ((rd_T45 l0_1 x6_3).f1)) := (zaY BK139.out 1).trans rfl
                    have hcz94_2 : wr.cell? ⟨gb139, 2, none⟩ = some (.slice A138_2 ((rd_T45 l0_1 x6_3).f2).length c138_2) := (zaY BK139.out 2).trans rfl
                    have hcz94_3 : wr.cell? ⟨gb139, 3, none⟩ = some (.slice A138_3 ((rd_T45 l0_1 x6_3).f3).length c138_3) := (zaY BK139.out 3).trans rfl
                    have hfz94_0 := zbY BK139.out 0
                    have hfz94_1 := zbY BK139.out 1
                    have hfz94_2 := zbY BK139.out 2
                    have hfz94_3 := zbY BK139.out 3
                    go_wp2
                    go_roundg k6
                    case measure => have := HJ1.out; have := HK2.out; have := HK3.out; have := HJ54.out; have := HJ74.out; have := HK6.out; omega
                    case rel => exact ⟨((wrap64 (x5_3 + (((rd_T45 l0_1 x6_3).f3).length : Int)))), (wrap64 (x6_3 + 1)), (by first | rfl | (simp; done) | (simp [*]; done)), (by first | rfl | (simp; done) | (simp [*]; done)), H', ⟨by have := HJ1.out; have := HK2.out; have := HK3.out; have := HJ54.out; have := HJ74.out; have := HK6.out; omega⟩, ⟨by (with_reducible repeat (first | refine zeY ?_ _ | refine zhY ?_ | refine zfY ?_ _)); exact BK135.out⟩, ⟨bwZ⟩⟩
          ·
           rw [if_neg c54] at H
           exact absurd H (by simp)
         ·
          rw [if_neg c53] at H
          have c53b0 : decide (x6_3 < (l0_1.length : Int)) = false := decide_eq_false c53
          clear c53
          by_cases c95 : x5_3 > 20000
          ·
           rw [if_pos c95] at H
           have c95b0 : decide (20000 < x5_3) = true := decide_eq_true c95
           clear c95
           obtain rfl := Option.some.inj H
           have hcz96_0 : wr.cell? ⟨gb135, 0, none⟩ = some (.slice A0_0 l0_0.length c0_0) := (zaY BK135.out 0).trans rfl
           have hcz96_1 : wr.cell? ⟨gb135, 1, none⟩ = some (.slice A0_1 l0_1.length c0_1) := (zaY BK135.out 1).trans rfl
           have hfz96_0 := zbY BK135.out 0
           have hfz96_1 := zbY BK135.out 1
           go_wp2
           go_ret
           exact ⟨by first | rfl | (simp [zjY, ziY] <;> rfl) | (simp [*, zjY, ziY] <;> rfl), bwZ⟩
          ·
           rw [if_neg c95] at H
           have c95b0 : decide (20000 < x5_3) = false := decide_eq_false c95
           clear c95
           have H' := amZ H
           clear H
           have hcz97_0 : wr.cell? ⟨gb135, 0, none⟩ = some (.slice A0_0 l0_0.length c0_0) := (zaY BK135.out 0).trans rfl
           have hcz97_1 : wr.cell? ⟨gb135, 1, none⟩ = some (.slice A0_1 l0_1.length c0_1) := (zaY BK135.out 1).trans rfl
           have hfz97_0 := zbY BK135.out 0
           have hfz97_1 := zbY BK135.out 1
           go_wp2
           go_loopg [9] k3 (fun kq v9 w' => ∃ (x9_4 : Int), v9 = .int .i64 x9_4 ∧ Aside0 (spec_Check.l3 kq x9_4 l0_0 l0_1 = some r) ∧ Aside0 (kq ≤ k3) ∧ Aside0 (w'.heap[gb135]? = some (.cells #[(.slice A0_0 l0_0.length c0_0), (.slice A0_1 l0_1.length c0_1)] 32 (0, 0))) ∧ Aside0 (Below w.heap.size w w'))
           case atStart => exact ⟨(0), (by first | rfl | (simp; done) | (simp [*]; done)), H', ⟨Nat.le_refl _⟩, ⟨by (with_reducible repeat (first | refine zeY ?_ _ | refine zhY ?_ | refine zfY ?_ _)); exact BK135.out⟩, ⟨bwZ⟩⟩
           case round =>
            clear H'
            try clear c1
            try clear p1
            try clear q1
            try clear hx1
            try clear c2
            try clear p2
            try clear c3
            try clear c4
            try clear c4b0
            try clear c4b1
            try clear c5
            try clear c6
            try clear c6b0
            try clear c6b1
            try clear p6
            try clear c7
            try clear c8
            try clear c9
            try clear c10
            try clear c10b0
            try clear c11
            try clear c11b0
            try clear c12
            try clear c12b0
            try clear c12b1
            try clear c13
            try clear p13
            try clear q13
            try clear hx13
            try clear p14
            try clear q14
            try clear hx14
            try clear c15
            try clear q17
            try clear c18
            try clear c19
            try clear c19b0
            try clear c19b1
            try clear c20
            try clear c23
            try clear c25
            try clear c25b0
            try clear c25b1
            try clear c25b2
            try clear c28
            try clear c32
            try clear c36
            try clear c38
            try clear c41
            try clear c43
            try clear c43b0
            try clear c43b1
            try clear c43b2
            try clear c46
            try clear c50
            try clear c53
            try clear c53b0
            try clear c54
            try clear c54b0
            try clear c58
            try clear c60
            try clear c60b0
            try clear c61
            try clear c63
            try clear c63b0
            try clear c64
            try clear p64
            try clear c66
            try clear c66b0
            try clear c67
            try clear c69
            try clear c69b0
            try clear c69b1
            try clear c70
            try clear c72
            try clear c74
            try clear c76
            try clear c76b0
            try clear c76b1
            try clear c77
            try clear c77b0
            try clear c77b1
            try clear c78
            try clear c80
            try clear c82
            try clear c83
            try clear c83b0
            try clear c84
            try clear c84b0
            try clear c85
            try clear c85b0
            try clear c86
            try clear c88
            try clear c88b0
            try clear c89
            try clear c91
            try clear c93
            try clear c95
            try clear c95b0
            try clear hcz13_0
            try clear hcz13_1
            try clear hcz16_0
            try clear hcz16_1
            try clear hcz16_2
            try clear hcz21_0
            try clear hcz21_1
            try clear hcz24_0
            try clear hcz24_1
            try clear hcz24_2
            try clear hcz26_0
            try clear hcz26_1
            try clear hcz29_0
            try clear hcz29_1
            try clear hcz29_2
            try clear hcz30_0
            try clear hcz30_1
            try clear hcz33_0
            try clear hcz33_1
            try clear hcz33_2
            try clear hcz34_0
            try clear hcz34_1
            try clear hcz37_0
            try clear hcz37_1
            try clear hcz37_2
            try clear hcz39_0
            try clear hcz39_1
            try clear hcz42_0
            try clear hcz42_1
            try clear hcz42_2
            try clear hcz44_0
            try clear hcz44_1
            try clear hcz47_0
            try clear hcz47_1
            try clear hcz47_2
            try clear hcz48_0
            try clear hcz48_1
            try clear hcz51_0
            try clear hcz51_1
            try clear hcz51_2
            try clear hcz52_0
            try clear hcz52_1
            try clear hcz56_0
            try clear hcz56_1
            try clear hcz59_0
            try clear hcz59_1
            try clear hcz59_2
            try clear hcz59_3
            try clear hcz5_0
            try clear hcz5_1
            try clear hcz62_0
            try clear hcz62_1
            try clear hcz62_2
            try clear hcz62_3
            try clear hcz65_0
            try clear hcz65_1
            try clear hcz65_2
            try clear hcz65_3
            try clear hcz68_0
            try clear hcz68_1
            try clear hcz68_2
            try clear hcz68_3
            try clear hcz71_0
            try clear hcz71_1
            try clear hcz71_2
            try clear hcz71_3
            try clear hcz73_0
            try clear hcz73_1
            try clear hcz73_2
            try clear hcz73_3
            try clear hcz79_0
            try clear hcz79_1
            try clear hcz79_2
            try clear hcz79_3
            try clear hcz7_0
            try clear hcz7_1
            try clear hcz81_0
            try clear hcz81_1
            try clear hcz81_2
            try clear hcz81_3
            try clear hcz87_0
            try clear hcz87_1
            try clear hcz87_2
            try clear hcz87_3
            try clear hcz8_0
            try clear hcz8_1
            try clear hcz90_0
            try clear hcz90_1
            try clear hcz90_2
            try clear hcz90_3
            try clear hcz92_0
            try clear hcz92_1
            try clear hcz92_2
            try clear hcz92_3
            try clear hcz94_0
            try clear hcz94_1
            try clear hcz94_2
            try clear hcz94_3
            try clear hcz96_0
            try clear hcz96_1
            try clear hcz97_0
            try clear hcz97_1
            try clear hfz13_0
            try clear hfz13_1
            try clear hfz16_0
            try clear hfz16_1
            try clear hfz16_2
            try clear hfz21_0
            try clear hfz21_1
            try clear hfz24_0
            try clear hfz24_1
            try clear hfz24_2
            try clear hfz26_0
            try clear hfz26_1
            try clear hfz29_0
            try clear hfz29_1
            try clear hfz29_2
            try clear hfz30_0
            try clear hfz30_1
            try clear hfz33_0
            try clear hfz33_1
            try clear hfz33_2
            try clear hfz34_0
            try clear hfz34_1
            try clear hfz37_0
            try clear hfz37_1
            try clear hfz37_2
            try clear hfz39_0
            try clear hfz39_1
            try clear hfz42_0
            try clear hfz42_1
            try clear hfz42_2
            try clear hfz44_0
            try clear hfz44_1
            try clear hfz47_0
            try clear hfz47_1
            try clear hfz47_2
            try clear hfz48_0
            try clear hfz48_1
            try clear hfz51_0
            try clear hfz51_1
            try clear hfz51_2
            try clear hfz52_0
            try clear hfz52_1
            try clear hfz56_0
            try clear hfz56_1
            try clear hfz59_0
            try clear hfz59_1
            try clear hfz59_2
            try clear hfz59_3
            try clear hfz5_0
            try clear hfz5_1
            try clear hfz62_0
            try clear hfz62_1
            try clear hfz62_2
            try clear hfz62_3
            try clear hfz65_0
            try clear hfz65_1
            try clear hfz65_2
            try clear hfz65_3
            try clear hfz68_0
            try clear hfz68_1
            try clear hfz68_2
            try clear hfz68_3
            try clear hfz71_0
            try clear hfz71_1
            try clear hfz71_2
            try clear hfz71_3
            try clear hfz73_0
            try clear hfz73_1
            try clear hfz73_2
            try clear hfz73_3
            try clear hfz79_0
            try clear hfz79_1
            try clear hfz79_2
            try clear hfz79_3
            try clear hfz7_0
            try clear hfz7_1
            try clear hfz81_0
            try clear hfz81_1
            try clear hfz81_2
            try clear hfz81_3
            try clear hfz87_0
            try clear hfz87_1
            try clear hfz87_2
            try clear hfz87_3
            try clear hfz8_0
            try clear hfz8_1
            try clear hfz90_0
            try clear hfz90_1
            try clear hfz90_2
            try clear hfz90_3
            try clear hfz92_0
            try clear hfz92_1
            try clear hfz92_2
            try clear hfz92_3
            try clear hfz94_0
            try clear hfz94_1
            try clear hfz94_2
            try clear hfz94_3
            try clear hfz96_0
            try clear hfz96_1
            try clear hfz97_0
            try clear hfz97_1
            try clear hx136_0
            try clear hx136_1
            try clear hx136_2
            try clear hx138_0
            try clear hx138_1
            try clear hx138_2
            try clear hx138_3
            try clear hx140_0
            try clear hx140_1
            try clear hx141_0
            try clear hx141_1
            try clear p1
            try clear p13
            try clear p136
            try clear p138
            try clear p140
            try clear p141
            try clear p2
            try clear p6
            try clear p64
            try clear q1
            try clear q13
            try clear q136
            try clear q138
            try clear q140
            try clear q141
            try clear q17
            obtain ⟨x9_4, rfl, HA, HK4, BK135, HB⟩ := hrel
            cases gk with
            | zero => exact absurd HA.out (by simp [spec_Check.l3])
            | succ k4 =>
             have H := HA.out
             clear HA
             simp only [spec_Check.l3] at H
             by_cases c98 : x9_4 < (l0_1.length : Int)
             ·
              rw [if_pos c98] at H
              have c98b0 : decide (x9_4 < (l0_1.length : Int)) = true := decide_eq_true c98
              clear c98
              by_cases c99 : 0 ≤ x9_4
              ·
               rw [if_pos c99] at H
               have c99b0 : decide (0 ≤ x9_4) = true := decide_eq_true c99
               clear c99
               have H' := amZ H
               clear H
               have hcz100_0 : wr.cell? ⟨gb135, 0, none⟩ = some (.slice A0_0 l0_0.length c0_0) := (zaY BK135.out 0).trans rfl
               have hcz100_1 : wr.cell? ⟨gb135, 1, none⟩ = some (.slice A0_1 l0_1.length c0_1) := (zaY BK135.out 1).trans rfl
               have hfz100_0 := zbY BK135.out 0
               have hfz100_1 := zbY BK135.out 1
               have p142 : 0 ≤ (x9_4 : Int) := odZ
               have q142 : x9_4 < (l0_1.length : Int) := odZ
               obtain ⟨ad142, A142_2, c142_2, A142_3, c142_3, e142, hx142_0, hx142_1, hx142_2, hx142_3, hl142_2, hi142_2, hl142_3, hi142_3⟩ := at_T45 HR0_1.out x9_4 p142 q142
               cases e142
               replace hx142_0 := (HB.out.cell (World.block_lt_of_cell? w _ hx142_0)).trans hx142_0
               replace hx142_1 := (HB.out.cell (World.block_lt_of_cell? w _ hx142_1)).trans hx142_1
               replace hx142_2 := (HB.out.cell (World.block_lt_of_cell? w _ hx142_2)).trans hx142_2
               replace hx142_3 := (HB.out.cell (World.block_lt_of_cell? w _ hx142_3)).trans hx142_3
               have HR142_2 := amZ hi142_2
               have HC142_2 := amZ hl142_2
               clear hi142_2 hl142_2
               have HR142_3 := amZ hi142_3
               have HC142_3 := amZ hl142_3
               clear hi142_3 hl142_3
               replace p142 := eq_true p142
               replace q142 := eq_true q142
               go_wp2_with (first | ((with_reducible refine zmY (N := 10) rfl ?_); (try (refine gate_guard (by rfl) ?_; dsimp only)); refine znY ?hg (N := 10) ?hd (cs := #[.int .i64 0, .int .i64 0, .slice none 0 0, .slice none 0 0]) (t := 45) ?hr ?_; (case hd => rfl); (case hg => rfl); (case hr => first | (go_simp; done) | (go_simp; rfl)); intro gb143 hg w101 hbox hb; have n0_ := amZ (zkY (g := gb135) (o := .cells #[.slice A0_0 l0_0.length c0_0, .slice (some ad142) l0_1.length c0_1] 32 (0, 0)) bkZ hb); have n1_ := amZ (zcY bwZ hb); have n2_ := amZ (hbox); have n3_ := amZ ((by rw [hg]; exact (zgY bwZ) : w.heap.size ≤ gb143)); have n4_ := amZ ((by rw [hg]; exact (zgY bwZ) : w.heap.size ≤ gb143)); have n5_ := amZ ((by rw [hg]; exact Nat.ne_of_lt (zlY (g := gb135) (o := .cells #[.slice A0_0 l0_0.length c0_0, .slice (some ad142) l0_1.length c0_1] 32 (0, 0)) bkZ) : gb135 ≠ gb143)); have n6_ := amZ ((by rw [hg]; exact Nat.ne_of_gt (zlY (g := gb135) (o := .cells #[.slice A0_0 l0_0.length c0_0, .slice (some ad142) l0_1.length c0_1] 32 (0, 0)) bkZ) : gb143 ≠ gb135)); clear BK135; clear HB; have BK135 := n0_; have HB := n1_; have BK143 := n2_; have GW143 := n3_; have GE143 := n4_; have NB135_143 := n5_; have NB143_135 := n6_; clear n0_ n1_ n2_ n3_ n4_ n5_ n6_; clear hb hbox hg; have hnb102 := NB143_135.out; have hnc102 := NB135_143.out; have hcz103_0 : w101.cell? ⟨gb143, 0, none⟩ = some (.int .i64 0) := (zaY BK143.out 0).trans rfl; have hcz103_1 : w101.cell? ⟨gb143, 1, none⟩ = some (.int .i64 0) := (zaY BK143.out 1).trans rfl; have hcz103_2 : w101.cell? ⟨gb143, 2, none⟩ = some (.slice none 0 0) := (zaY BK143.out 2).trans rfl; have hcz103_3 : w101.cell? ⟨gb143, 3, none⟩ = some (.slice none 0 0) := (zaY BK143.out 3).trans rfl; have hfz103_0 := zbY BK143.out 0; have hfz103_1 := zbY BK143.out 1; have hfz103_2 := zbY BK143.out 2; have hfz103_3 := zbY BK143.out 3))
               go_loopg [11] k4 (fun kq v11 w' => ∃ (x11_5 : Int), v11 = .int .i64 x11_5 ∧ Aside0 (spec_Check.l4 kq x9_4 x11_5 l0_0 l0_1 ((rd_T45 l0_1 x9_4).f0) ((rd_T45 l0_1 x9_4).f1) ((rd_T45 l0_1 x9_4).f2) ((rd_T45 l0_1 x9_4).f3) = some r) ∧ Aside0 (kq ≤ k4) ∧ Aside0 (w'.heap[gb135]? = some (.cells #[(.slice A0_0 l0_0.length c0_0), (.slice (some ad142) l0_1.length c0_1)] 32 (0, 0))) ∧ Aside0 (w'.heap[gb143]? = some (.cells #[.int .i64 ((rd_T45 l0_1 x9_4).f0), .int .i64 ((rd_T45 l0_1 x9_4).f1), (.slice A142_2 ((rd_T45 l0_1 x9_4).f2).length c142_2), (.slice A142_3 ((rd_T45 l0_1 x9_4).f3).length c142_3)] 45 (0, 0))) ∧ Aside0 (Below w.heap.size w w'))
               case atStart => exact ⟨(0), (by first | rfl | (simp; done) | (simp [*]; done)), H', ⟨Nat.le_refl _⟩, ⟨by (with_reducible repeat (first | refine zeY ?_ _ | refine zhY ?_ | refine zfY ?_ _)); refine blk_far ?_ NB135_143.out _; (with_reducible repeat (first | refine zeY ?_ _ | refine zhY ?_ | refine zfY ?_ _)); refine blk_far ?_ NB135_143.out _; (with_reducible repeat (first | refine zeY ?_ _ | refine zhY ?_ | refine zfY ?_ _)); refine blk_far ?_ NB135_143.out _; (with_reducible repeat (first | refine zeY ?_ _ | refine zhY ?_ | refine zfY ?_ _)); refine blk_far ?_ NB135_143.out _; (with_reducible repeat (first | refine zeY ?_ _ | refine zhY ?_ | refine zfY ?_ _)); exact BK135.out⟩, ⟨by (with_reducible repeat (first | refine zeY ?_ _ | refine zhY ?_ | refine zfY ?_ _)); refine blk_put (cs := #[.int .i64 ((rd_T45 l0_1 x9_4).f0), .int .i64 ((rd_T45 l0_1 x9_4).f1), .slice A142_2 ((rd_T45 l0_1 x9_4).f2).length c142_2, .slice none 0 0]) ?_ 3 _ rfl; (with_reducible repeat (first | refine zeY ?_ _ | refine zhY ?_ | refine zfY ?_ _)); refine blk_put (cs := #[.int .i64 ((rd_T45 l0_1 x9_4).f0), .int .i64 ((rd_T45 l0_1 x9_4).f1), .slice none 0 0, .slice none 0 0]) ?_ 2 _ rfl; (with_reducible repeat (first | refine zeY ?_ _ | refine zhY ?_ | refine zfY ?_ _)); refine blk_put (cs := #[.int .i64 ((rd_T45 l0_1 x9_4).f0), .int .i64 0, .slice none 0 0, .slice none 0 0]) ?_ 1 _ rfl; (with_reducible repeat (first | refine zeY ?_ _ | refine zhY ?_ | refine zfY ?_ _)); refine blk_put (cs := #[.int .i64 0, .int .i64 0, .slice none 0 0, .slice none 0 0]) ?_ 0 _ rfl; (with_reducible repeat (first | refine zeY ?_ _ | refine zhY ?_ | refine zfY ?_ _)); exact BK143.out⟩, ⟨bwZ⟩⟩
               case round =>
                clear H'
                try clear c1
                try clear p1
                try clear q1
                try clear hx1
                try clear c2
                try clear p2
                try clear c3
                try clear c4
                try clear c4b0
                try clear c4b1
                try clear c5
                try clear c6
                try clear c6b0
                try clear c6b1
                try clear p6
                try clear c7
                try clear c8
                try clear c9
                try clear c10
                try clear c10b0
                try clear c11
                try clear c11b0
                try clear c12
                try clear c12b0
                try clear c12b1
                try clear c13
                try clear p13
                try clear q13
                try clear hx13
                try clear c14
                try clear p14
                try clear q14
                try clear hx14
                try clear c15
                try clear q17
                try clear c18
                try clear c19
                try clear c19b0
                try clear c19b1
                try clear c20
                try clear c23
                try clear c25
                try clear c25b0
                try clear c25b1
                try clear c25b2
                try clear c28
                try clear c32
                try clear c36
                try clear c38
                try clear c41
                try clear c43
                try clear c43b0
                try clear c43b1
                try clear c43b2
                try clear c46
                try clear c50
                try clear c53
                try clear c53b0
                try clear c54
                try clear c54b0
                try clear c58
                try clear c60
                try clear c60b0
                try clear c61
                try clear c63
                try clear c63b0
                try clear c64
                try clear p64
                try clear c66
                try clear c66b0
                try clear c67
                try clear c69
                try clear c69b0
                try clear c69b1
                try clear c70
                try clear c72
                try clear c74
                try clear c76
                try clear c76b0
                try clear c76b1
                try clear c77
                try clear c77b0
                try clear c77b1
                try clear c78
                try clear c80
                try clear c82
                try clear c83
                try clear c83b0
                try clear c84
                try clear c84b0
                try clear c85
                try clear c85b0
                try clear c86
                try clear c88
                try clear c88b0
                try clear c89
                try clear c91
                try clear c93
                try clear c95
                try clear c95b0
                try clear c98
                try clear c98b0
                try clear c99
                try clear c99b0
                try clear c102
                try clear hcz100_0
                try clear hcz100_1
                try clear hcz103_0
                try clear hcz103_1
                try clear hcz103_2
                try clear hcz103_3
                try clear hcz13_0
                try clear hcz13_1
                try clear hcz16_0
                try clear hcz16_1
                try clear hcz16_2
                try clear hcz21_0
                try clear hcz21_1
                try clear hcz24_0
                try clear hcz24_1
                try clear hcz24_2
                try clear hcz26_0
                try clear hcz26_1
                try clear hcz29_0
                try clear hcz29_1
                try clear hcz29_2
                try clear hcz30_0
                try clear hcz30_1
                try clear hcz33_0
                try clear hcz33_1
                try clear hcz33_2
                try clear hcz34_0
                try clear hcz34_1
                try clear hcz37_0
                try clear hcz37_1
                try clear hcz37_2
                try clear hcz39_0
                try clear hcz39_1
                try clear hcz42_0
                try clear hcz42_1
                try clear hcz42_2
                try clear hcz44_0
                try clear hcz44_1
                try clear hcz47_0
                try clear hcz47_1
                try clear hcz47_2
                try clear hcz48_0
                try clear hcz48_1
                try clear hcz51_0
                try clear hcz51_1
                try clear hcz51_2
                try clear hcz52_0
                try clear hcz52_1
                try clear hcz56_0
                try clear hcz56_1
                try clear hcz59_0
                try clear hcz59_1
                try clear hcz59_2
                try clear hcz59_3
                try clear hcz5_0
                try clear hcz5_1
                try clear hcz62_0
                try clear hcz62_1
                try clear hcz62_2
                try clear hcz62_3
                try clear hcz65_0
                try clear hcz65_1
                try clear hcz65_2
                try clear hcz65_3
                try clear hcz68_0
                try clear hcz68_1
                try clear hcz68_2
                try clear hcz68_3
                try clear hcz71_0
                try clear hcz71_1
                try clear hcz71_2
                try clear hcz71_3
                try clear hcz73_0
                try clear hcz73_1
                try clear hcz73_2
                try clear hcz73_3
                try clear hcz79_0
                try clear hcz79_1
                try clear hcz79_2
                try clear hcz79_3
                try clear hcz7_0
                try clear hcz7_1
                try clear hcz81_0
                try clear hcz81_1
                try clear hcz81_2
                try clear hcz81_3
                try clear hcz87_0
                try clear hcz87_1
                try clear hcz87_2
                try clear hcz87_3
                try clear hcz8_0
                try clear hcz8_1
                try clear hcz90_0
                try clear hcz90_1
                try clear hcz90_2
                try clear hcz90_3
                try clear hcz92_0
                try clear hcz92_1
                try clear hcz92_2
                try clear hcz92_3
                try clear hcz94_0
                try clear hcz94_1
                try clear hcz94_2
                try clear hcz94_3
                try clear hcz96_0
                try clear hcz96_1
                try clear hcz97_0
                try clear hcz97_1
                try clear hfz100_0
                try clear hfz100_1
                try clear hfz103_0
                try clear hfz103_1
                try clear hfz103_2
                try clear hfz103_3
                try clear hfz13_0
                try clear hfz13_1
                try clear hfz16_0
                try clear hfz16_1
                try clear hfz16_2
                try clear hfz21_0
                try clear hfz21_1
                try clear hfz24_0
                try clear hfz24_1
                try clear hfz24_2
                try clear hfz26_0
                try clear hfz26_1
                try clear hfz29_0
                try clear hfz29_1
                try clear hfz29_2
                try clear hfz30_0
                try clear hfz30_1
                try clear hfz33_0
                try clear hfz33_1
                try clear hfz33_2
                try clear hfz34_0
                try clear hfz34_1
                try clear hfz37_0
                try clear hfz37_1
                try clear hfz37_2
                try clear hfz39_0
                try clear hfz39_1
                try clear hfz42_0
                try clear hfz42_1
                try clear hfz42_2
                try clear hfz44_0
                try clear hfz44_1
                try clear hfz47_0
                try clear hfz47_1
                try clear hfz47_2
                try clear hfz48_0
                try clear hfz48_1
                try clear hfz51_0
                try clear hfz51_1
                try clear hfz51_2
                try clear hfz52_0
                try clear hfz52_1
                try clear hfz56_0
                try clear hfz56_1
                try clear hfz59_0
                try clear hfz59_1
                try clear hfz59_2
                try clear hfz59_3
                try clear hfz5_0
                try clear hfz5_1
                try clear hfz62_0
                try clear hfz62_1
                try clear hfz62_2
                try clear hfz62_3
                try clear hfz65_0
                try clear hfz65_1
                try clear hfz65_2
                try clear hfz65_3
                try clear hfz68_0
                try clear hfz68_1
                try clear hfz68_2
                try clear hfz68_3
                try clear hfz71_0
                try clear hfz71_1
                try clear hfz71_2
                try clear hfz71_3
                try clear hfz73_0
                try clear hfz73_1
                try clear hfz73_2
                try clear hfz73_3
                try clear hfz79_0
                try clear hfz79_1
                try clear hfz79_2
                try clear hfz79_3
                try clear hfz7_0
                try clear hfz7_1
                try clear hfz81_0
                try clear hfz81_1
                try clear hfz81_2
                try clear hfz81_3
                try clear hfz87_0
                try clear hfz87_1
                try clear hfz87_2
                try clear hfz87_3
                try clear hfz8_0
                try clear hfz8_1
                try clear hfz90_0
                try clear hfz90_1
                try clear hfz90_2
                try clear hfz90_3
                try clear hfz92_0
                try clear hfz92_1
                try clear hfz92_2
                try clear hfz92_3
                try clear hfz94_0
                try clear hfz94_1
                try clear hfz94_2
                try clear hfz94_3
                try clear hfz96_0
                try clear hfz96_1
                try clear hfz97_0
                try clear hfz97_1
                try clear hx136_0
                try clear hx136_1
                try clear hx136_2
                try clear hx138_0
                try clear hx138_1
                try clear hx138_2
                try clear hx138_3
                try clear hx140_0
                try clear hx140_1
                try clear hx141_0
                try clear hx141_1
                try clear hx142_0
                try clear hx142_1
                try clear hx142_2
                try clear hx142_3
                try clear p1
                try clear p13
                try clear p136
                try clear p138
                try clear p14
                try clear p140
                try clear p141
                try clear p142
                try clear p2
                try clear p6
                try clear p64
                try clear q1
                try clear q13
                try clear q136
                try clear q138
                try clear q14
                try clear q140
                try clear q141
                try clear q142
                try clear q17
                obtain ⟨x11_5, rfl, HA, HK5, BK135, BK143, HB⟩ := hrel
                cases gk with
                | zero => exact absurd HA.out (by simp [spec_Check.l4])
                | succ k5 =>
                 have H := HA.out
                 clear HA
                 simp only [spec_Check.l4] at H
                 by_cases c104 : x11_5 < (((rd_T45 l0_1 x9_4).f3).length : Int)
                 ·
                  rw [if_pos c104] at H
                  have c104b0 : decide (x11_5 < (((rd_T45 l0_1 x9_4).f3).length : Int)) = true := decide_eq_true c104
                  clear c104
                  by_cases c105 : 0 ≤ x11_5
                  ·
                   rw [if_pos c105] at H
                   have c105b0 : decide (0 ≤ x11_5) = true := decide_eq_true c105
                   clear c105
                   replace H := Option.bind_eq_some_iff.mp H
                   obtain ⟨t145, A1060, H⟩ := H
                   replace H : (if t145 = true then (spec_Check.l4 k5 x9_4 (wrap64 (x11_5 + 1)) l0_0 l0_1 ((rd_T45 l0_1 x9_4).f0) ((rd_T45 l0_1 x9_4).f1) ((rd_T45 l0_1 x9_4).f2) ((rd_T45 l0_1 x9_4).f3)) else (some false)) = some r := H
                   have A106 := amZ A1060
                   clear A1060
                   by_cases c107 : t145 = true
                   ·
                    subst c107
                    have H1 : (spec_Check.l4 k5 x9_4 (wrap64 (x11_5 + 1)) l0_0 l0_1 ((rd_T45 l0_1 x9_4).f0) ((rd_T45 l0_1 x9_4).f1) ((rd_T45 l0_1 x9_4).f2) ((rd_T45 l0_1 x9_4).f3)) = some r := by rw [if_pos rfl] at H; exact H
                    clear H
                    have H := H1
                    clear H1
                    have H' := amZ H
                    clear H
                    have hnb108 := NB143_135.out
                    have hnc108 := NB135_143.out
                    have hcz109_0 : wr.cell? ⟨gb143, 0, none⟩ = some (.int .i64 ((rd_T45 l0_1 x9_4).f0)) := (zaY BK143.out 0).trans rfl
                    have hcz109_1 : wr.cell? ⟨gb143, 1, none⟩ = some (.int .i64 ((rd_T45 l0_1 x9_4).f1)) := (zaY BK143.out 1).trans rfl
                    have hcz109_2 : wr.cell? ⟨gb143, 2, none⟩ = some (.slice A142_2 ((rd_T45 l0_1 x9_4).f2).length c142_2) := (zaY BK143.out 2).trans rfl
                    have hcz109_3 : wr.cell? ⟨gb143, 3, none⟩ = some (.slice A142_3 ((rd_T45 l0_1 x9_4).f3).length c142_3) := (zaY BK143.out 3).trans rfl
                    have hfz109_0 := zbY BK143.out 0
                    have hfz109_1 := zbY BK143.out 1
                    have hfz109_2 := zbY BK143.out 2
                    have hfz109_3 := zbY BK143.out 3
                    try go_wp2
                    have n0_ := amZ (zhY BK135.out)
                    have n1_ := amZ (zhY BK143.out)
                    have n2_ := amZ (below_drew1 HB.out)
                    clear BK135
                    clear BK143
                    clear HB
                    have BK135 := n0_
                    have BK143 := n1_
                    have HB := n2_
                    clear n0_ n1_ n2_
                    have p144 : 0 ≤ (x11_5 : Int) := odZ
                    have q144 : x11_5 < (((rd_T45 l0_1 x9_4).f3).length : Int) := odZ
                    obtain ⟨ad144, e144, hx144_0, hx144_1, hx144_2⟩ := at_T51 HR142_3.out x11_5 p144 q144
                    have hw144_2 := hx144_2
                    have hw144_1 := hx144_1
                    have hw144_0 := hx144_0
                    cases e144
                    replace hx144_0 := (HB.out.cell (World.block_lt_of_cell? w _ hx144_0)).trans hx144_0
                    replace hx144_1 := (HB.out.cell (World.block_lt_of_cell? w _ hx144_1)).trans hx144_1
                    replace hx144_2 := (HB.out.cell (World.block_lt_of_cell? w _ hx144_2)).trans hx144_2
                    replace p144 := eq_true p144
                    replace q144 := eq_true q144
                    refine start_ (n := 9) (S := fun w' => w'.cell? ⟨gb135, 0, none⟩ = some (.slice A0_0 l0_0.length c0_0) ∧ w'.cell? ⟨gb135, 1, none⟩ = some (.slice (some ad142) l0_1.length c0_1) ∧ w'.cell? ⟨gb143, 0, none⟩ = some (.int .i64 ((rd_T45 l0_1 x9_4).f0)) ∧ w'.cell? ⟨gb143, 1, none⟩ = some (.int .i64 ((rd_T45 l0_1 x9_4).f1)) ∧ w'.cell? ⟨gb143, 2, none⟩ = some (.slice A142_2 ((rd_T45 l0_1 x9_4).f2).length c142_2) ∧ w'.cell? ⟨gb143, 3, none⟩ = some (.slice (some ad144) ((rd_T45 l0_1 x9_4).f3).length c142_3) ∧ w'.cell? (ad144.add ((x11_5).toNat * 3)) = some (.int .i64 ((rd_T51 ((rd_T45 l0_1 x9_4).f3) x11_5).f0)) ∧ w'.cell? ⟨(ad144.add ((x11_5).toNat * 3)).block, (ad144.add ((x11_5).toNat * 3)).off + 1, none⟩ = some (.int .i64 ((rd_T51 ((rd_T45 l0_1 x9_4).f3) x11_5).f1)) ∧ w'.cell? ⟨(ad144.add ((x11_5).toNat * 3)).block, (ad144.add ((x11_5).toNat * 3)).off + 2, none⟩ = some (.int .i64 ((rd_T51 ((rd_T45 l0_1 x9_4).f3) x11_5).f2))) (ds := []) #[false, false, false, false, false, false, false, false, false] (by kernel_rfl) rfl rfl ⟨(zaY BK135.out 0).trans rfl, (zaY BK135.out 1).trans rfl, (zaY BK143.out 0).trans rfl, (zaY BK143.out 1).trans rfl, (zaY BK143.out 2).trans rfl, (zaY BK143.out 3).trans rfl, ((HB.out.cell (World.block_lt_of_cell? w _ hw144_0)).trans hw144_0), ((HB.out.cell (World.block_lt_of_cell? w _ hw144_1)).trans hw144_1), ((HB.out.cell (World.block_lt_of_cell? w _ hw144_2)).trans hw144_2)⟩ (fun hHeld => ?_); refine with_tabW spec_Check.tab33 spec_Check.bits33 (fun HT_ HW_ => ?_)
                    generalize wr.drew = w110 at BK135 BK143 HB hx144_0 hx144_1 hx144_2 hHeld ⊢
                    refine pure_ (i := 2) (N := some 167) (v := ?_) (a' := ?_) #[false, false, true, false, false, false, false, false, false] rfl rfl (any_of HT_.out (by kernel_rfl)) (fun _ _ _ h => h) (Or.inl ⟨by rfl, ?_⟩) ?_ ?_
                    rotate_left
                    ·
                     intro w'
                     go_simp
                     with_reducible rfl
                    rotate_left
                    ·
                     simp only [Act.put, List.setIfInBounds_toArray, List.set_cons_zero, List.set_cons_succ, i64_w, i32_w]
                     rfl
                    refine pure_ (i := 4) (N := some 169) (v := ?_) (a' := ?_) #[false, false, true, false, true, false, false, false, false] rfl rfl (any_of HT_.out (by kernel_rfl)) (fun _ _ _ h => h) (Or.inl ⟨by rfl, ?_⟩) ?_ ?_
                    rotate_left
                    ·
                     intro w'
                     go_simp
                     with_reducible rfl
                    rotate_left
                    ·
                     simp only [Act.put, List.setIfInBounds_toArray, List.set_cons_zero, List.set_cons_succ, i64_w, i32_w]
                     rfl
                    refine take_ (i := 0) (N := some 165) (v := ?_) (a' := ?_) #[true, false, true, false, true, false, false, false, false] rfl rfl (take_ofW HT_.out HW_.out (by kernel_rfl)) (fun _ _ _ h => h) (Or.inl ⟨by rfl, ?_⟩) hHeld ?_ ?_
                    rotate_left
                    ·
                     rintro w' ⟨s0, s1, s2, s3, s4, s5, s6, s7, s8⟩
                     go_simp
                     with_reducible rfl
                    rotate_left
                    ·
                     simp only [Act.put, List.setIfInBounds_toArray, List.set_cons_zero, List.set_cons_succ, i64_w, i32_w]
                     rfl
                    refine take_ (i := 1) (N := some 166) (v := ?_) (a' := ?_) #[true, true, true, false, true, false, false, false, false] rfl rfl (take_ofW HT_.out HW_.out (by kernel_rfl)) (fun _ _ _ h => h) (Or.inl ⟨by rfl, ?_⟩) hHeld ?_ ?_
                    rotate_left
                    ·
                     rintro w' ⟨s0, s1, s2, s3, s4, s5, s6, s7, s8⟩
                     go_simp
                     with_reducible rfl
                    rotate_left
                    ·
                     simp only [Act.put, List.setIfInBounds_toArray, List.set_cons_zero, List.set_cons_succ, i64_w, i32_w]
                     rfl
                    refine take_ (i := 3) (N := some 168) (v := ?_) (a' := ?_) #[true, true, true, true, true, false, false, false, false] rfl rfl (take_ofW HT_.out HW_.out (by kernel_rfl)) (fun _ _ _ h => h) (Or.inl ⟨by rfl, ?_⟩) hHeld ?_ ?_
                    rotate_left
                    ·
                     rintro w' ⟨s0, s1, s2, s3, s4, s5, s6, s7, s8⟩
                     go_simp
                     with_reducible rfl
                    rotate_left
                    ·
                     simp only [Act.put, List.setIfInBounds_toArray, List.set_cons_zero, List.set_cons_succ, i64_w, i32_w]
                     rfl
                    refine pure_ (i := 5) (N := some 170) (v := ?_) (a' := ?_) #[true, true, true, true, true, true, false, false, false] rfl rfl (any_of HT_.out (by kernel_rfl)) (fun _ _ _ h => h) (Or.inl ⟨by rfl, ?_⟩) ?_ ?_
                    rotate_left
                    ·
                     intro w'
                     go_simp
                     with_reducible rfl
                    rotate_left
                    ·
                     simp only [Act.put, List.setIfInBounds_toArray, List.set_cons_zero, List.set_cons_succ, i64_w, i32_w]
                     rfl
                    refine take_ (i := 6) (N := some 171) (v := ?_) (a' := ?_) #[true, true, true, true, true, true, true, false, false] rfl rfl (take_ofW HT_.out HW_.out (by kernel_rfl)) (fun _ _ _ h => h) (Or.inl ⟨by rfl, ?_⟩) hHeld ?_ ?_
                    rotate_left
                    ·
                     rintro w' ⟨s0, s1, s2, s3, s4, s5, s6, s7, s8⟩
                     go_simp
                     with_reducible rfl
                    rotate_left
                    ·
                     simp only [Act.put, List.setIfInBounds_toArray, List.set_cons_zero, List.set_cons_succ, i64_w, i32_w]
                     rfl
                    refine one_ (i := 7) (N := some 172) #[true, true, true, true, true, true, true, true, false] rfl rfl (one_of HT_.out (by kernel_rfl)) (by decide) (fun K hK => ?_)
                    refine goes_ Tryd.func34 (by kernel_rfl) rfl #[.agg #[.slice A0_0 l0_0.length c0_0, .slice (some ad142) l0_1.length c0_1], .agg #[.int .i64 ((rd_T45 l0_1 x9_4).f0), .int .i64 ((rd_T45 l0_1 x9_4).f1), .slice A142_2 ((rd_T45 l0_1 x9_4).f2).length c142_2, .slice (some ad144) ((rd_T45 l0_1 x9_4).f3).length c142_3], .agg #[.int .i64 ((rd_T51 ((rd_T45 l0_1 x9_4).f3) x11_5).f0), .int .i64 ((rd_T51 ((rd_T45 l0_1 x9_4).f3) x11_5).f1), .int .i64 ((rd_T51 ((rd_T45 l0_1 x9_4).f3) x11_5).f2)]] (by rfl) rfl rfl (by (try simp only [List.map_toArray, List.map_cons, List.map_nil]); first | done | rfl | (simp only [List.length_drop, List.length_take]; rfl)) ?_
                    with_reducible refine (spec_l4insOK.calls k5 _ _ l0_0 _ _ l0_1 ((rd_T45 l0_1 x9_4).f0) ((rd_T45 l0_1 x9_4).f1) _ _ ((rd_T45 l0_1 x9_4).f2) _ _ ((rd_T45 l0_1 x9_4).f3) ((rd_T51 ((rd_T45 l0_1 x9_4).f3) x11_5).f0) ((rd_T51 ((rd_T45 l0_1 x9_4).f3) x11_5).f1) ((rd_T51 ((rd_T45 l0_1 x9_4).f3) x11_5).f2) true _ ?side1 ?side2 ?side3 ?side4 ?side5 ?side6 ?side7 ?side8 A106.out).mono ?_
                    (case side1 => repeat (first | exact (Kd.C_below HR0_0.out HB.out) | (with_reducible refine Kd.C_alloc ?_ _) | (with_reducible refine Kd.C_drewN ?_ _) | (with_reducible refine Kd.C_drew ?_)))
                    (case side2 => exact HC0_0.out)
                    (case side3 => repeat (first | exact (Kd.C_below HR0_1.out HB.out) | (with_reducible refine Kd.C_alloc ?_ _) | (with_reducible refine Kd.C_drewN ?_ _) | (with_reducible refine Kd.C_drew ?_)))
                    (case side4 => exact HC0_1.out)
                    (case side5 => repeat (first | exact (Kd.C_below HR142_2.out HB.out) | (with_reducible refine Kd.C_alloc ?_ _) | (with_reducible refine Kd.C_drewN ?_ _) | (with_reducible refine Kd.C_drew ?_)))
                    (case side6 => exact HC142_2.out)
                    (case side7 => repeat (first | exact (Kd.C_below HR142_3.out HB.out) | (with_reducible refine Kd.C_alloc ?_ _) | (with_reducible refine Kd.C_drewN ?_ _) | (with_reducible refine Kd.C_drew ?_)))
                    (case side8 => exact HC142_3.out)
                    rintro e w111 ⟨rfl, hb⟩
                    refine ⟨_, rfl, ?_⟩
                    have n0_ := amZ (zkY (g := gb135) (o := .cells #[.slice A0_0 l0_0.length c0_0, .slice (some ad142) l0_1.length c0_1] 32 (0, 0)) bkZ hb)
                    have n1_ := amZ (zkY (g := gb143) (o := .cells #[.int .i64 ((rd_T45 l0_1 x9_4).f0), .int .i64 ((rd_T45 l0_1 x9_4).f1), .slice A142_2 ((rd_T45 l0_1 x9_4).f2).length c142_2, .slice (some ad144) ((rd_T45 l0_1 x9_4).f3).length c142_3] 45 (0, 0)) bkZ hb)
                    have n2_ := amZ (zcY bwZ hb)
                    clear BK135
                    clear BK143
                    clear HB
                    have BK135 := n0_
                    have BK143 := n1_
                    have HB := n2_
                    clear n0_ n1_ n2_
                    (try clear hb)
                    (try clear hb2)
                    (try clear hk)
                    (try clear hi)
                    refine hK.out _ _ ⟨(zaY BK135.out 0).trans rfl, (zaY BK135.out 1).trans rfl, (zaY BK143.out 0).trans rfl, (zaY BK143.out 1).trans rfl, (zaY BK143.out 2).trans rfl, (zaY BK143.out 3).trans rfl, ((HB.out.cell (World.block_lt_of_cell? w _ hw144_0)).trans hw144_0), ((HB.out.cell (World.block_lt_of_cell? w _ hw144_1)).trans hw144_1), ((HB.out.cell (World.block_lt_of_cell? w _ hw144_2)).trans hw144_2)⟩ (fun hHeld => ?_)
                    clear hK K
                    refine norm_ (a' := ?_) ?_ ?_
                    rotate_left
                    ·
                     show Act.put _ (some 172) _ = _
                     simp only [Act.put, List.setIfInBounds_toArray, List.set_cons_zero, List.set_cons_succ, i64_w, i32_w]
                     rfl
                    refine pure_ (i := 8) (N := some 173) (v := ?_) (a' := ?_) #[true, true, true, true, true, true, true, true, true] rfl rfl (any_of HT_.out (by kernel_rfl)) (fun _ _ _ h => h) (Or.inl ⟨by rfl, ?_⟩) ?_ ?_
                    rotate_left
                    ·
                     intro w'
                     go_simp
                     with_reducible rfl
                    rotate_left
                    ·
                     simp only [Act.put, List.setIfInBounds_toArray, List.set_cons_zero, List.set_cons_succ, i64_w, i32_w]
                     rfl
                    refine done_ (done_of HT_.out (by kernel_rfl)) ?_
                    try go_wp2
                    go_roundg k5
                    case measure => have := HJ1.out; have := HK2.out; have := HK3.out; have := HK4.out; have := HK5.out; omega
                    case rel => exact ⟨(wrap64 (x11_5 + 1)), (by first | rfl | (simp; done) | (simp [*]; done)), H', ⟨by have := HJ1.out; have := HK2.out; have := HK3.out; have := HK4.out; have := HK5.out; omega⟩, ⟨by (with_reducible repeat (first | refine zeY ?_ _ | refine zhY ?_ | refine zfY ?_ _)); exact BK135.out⟩, ⟨by (with_reducible repeat (first | refine zeY ?_ _ | refine zhY ?_ | refine zfY ?_ _)); exact BK143.out⟩, ⟨bwZ⟩⟩
                   ·
                    replace c107 := Bool.eq_false_iff.mpr c107
                    subst c107
                    have H1 : (some false) = some r := by rw [if_neg (show ¬ (false = true) by decide)] at H; exact H
                    clear H
                    have H := H1
                    clear H1
                    obtain rfl := Option.some.inj H
                    have hnb112 := NB143_135.out
                    have hnc112 := NB135_143.out
                    have hcz113_0 : wr.cell? ⟨gb143, 0, none⟩ = some (.int .i64 ((rd_T45 l0_1 x9_4).f0)) := (zaY BK143.out 0).trans rfl
                    have hcz113_1 : wr.cell? ⟨gb143, 1, none⟩ = some (.int .i64 ((rd_T45 l0_1 x9_4).f1)) := (zaY BK143.out 1).trans rfl
                    have hcz113_2 : wr.cell? ⟨gb143, 2, none⟩ = some (.slice A142_2 ((rd_T45 l0_1 x9_4).f2).length c142_2) := (zaY BK143.out 2).trans rfl
                    have hcz113_3 : wr.cell? ⟨gb143, 3, none⟩ = some (.slice A142_3 ((rd_T45 l0_1 x9_4).f3).length c142_3) := (zaY BK143.out 3).trans rfl
                    have hfz113_0 := zbY BK143.out 0
                    have hfz113_1 := zbY BK143.out 1
                    have hfz113_2 := zbY BK143.out 2
                    have hfz113_3 := zbY BK143.out 3
                    try go_wp2
                    have n0_ := amZ (zhY BK135.out)
                    have n1_ := amZ (zhY BK143.out)
                    have n2_ := amZ (below_drew1 HB.out)
                    clear BK135
                    clear BK143
                    clear HB
                    have BK135 := n0_
                    have BK143 := n1_
                    have HB := n2_
                    clear n0_ n1_ n2_
                    have p144 : 0 ≤ (x11_5 : Int) := odZ
                    have q144 : x11_5 < (((rd_T45 l0_1 x9_4).f3).length : Int) := odZ
                    obtain ⟨ad144, e144, hx144_0, hx144_1, hx144_2⟩ := at_T51 HR142_3.out x11_5 p144 q144
                    have hw144_2 := hx144_2
                    have hw144_1 := hx144_1
                    have hw144_0 := hx144_0
                    cases e144
                    replace hx144_0 := (HB.out.cell (World.block_lt_of_cell? w _ hx144_0)).trans hx144_0
                    replace hx144_1 := (HB.out.cell (World.block_lt_of_cell? w _ hx144_1)).trans hx144_1
                    replace hx144_2 := (HB.out.cell (World.block_lt_of_cell? w _ hx144_2)).trans hx144_2
                    replace p144 := eq_true p144
                    replace q144 := eq_true q144
                    refine start_ (n := 9) (S := fun w' => w'.cell? ⟨gb135, 0, none⟩ = some (.slice A0_0 l0_0.length c0_0) ∧ w'.cell? ⟨gb135, 1, none⟩ = some (.slice (some ad142) l0_1.length c0_1) ∧ w'.cell? ⟨gb143, 0, none⟩ = some (.int .i64 ((rd_T45 l0_1 x9_4).f0)) ∧ w'.cell? ⟨gb143, 1, none⟩ = some (.int .i64 ((rd_T45 l0_1 x9_4).f1)) ∧ w'.cell? ⟨gb143, 2, none⟩ = some (.slice A142_2 ((rd_T45 l0_1 x9_4).f2).length c142_2) ∧ w'.cell? ⟨gb143, 3, none⟩ = some (.slice (some ad144) ((rd_T45 l0_1 x9_4).f3).length c142_3) ∧ w'.cell? (ad144.add ((x11_5).toNat * 3)) = some (.int .i64 ((rd_T51 ((rd_T45 l0_1 x9_4).f3) x11_5).f0)) ∧ w'.cell? ⟨(ad144.add ((x11_5).toNat * 3)).block, (ad144.add ((x11_5).toNat * 3)).off + 1, none⟩ = some (.int .i64 ((rd_T51 ((rd_T45 l0_1 x9_4).f3) x11_5).f1)) ∧ w'.cell? ⟨(ad144.add ((x11_5).toNat * 3)).block, (ad144.add ((x11_5).toNat * 3)).off + 2, none⟩ = some (.int .i64 ((rd_T51 ((rd_T45 l0_1 x9_4).f3) x11_5).f2))) (ds := []) #[false, false, false, false, false, false, false, false, false] (by kernel_rfl) rfl rfl ⟨(zaY BK135.out 0).trans rfl, (zaY BK135.out 1).trans rfl, (zaY BK143.out 0).trans rfl, (zaY BK143.out 1).trans rfl, (zaY BK143.out 2).trans rfl, (zaY BK143.out 3).trans rfl, ((HB.out.cell (World.block_lt_of_cell? w _ hw144_0)).trans hw144_0), ((HB.out.cell (World.block_lt_of_cell? w _ hw144_1)).trans hw144_1), ((HB.out.cell (World.block_lt_of_cell? w _ hw144_2)).trans hw144_2)⟩ (fun hHeld => ?_); refine with_tabW spec_Check.tab33 spec_Check.bits33 (fun HT_ HW_ => ?_)
                    generalize wr.drew = w114 at BK135 BK143 HB hx144_0 hx144_1 hx144_2 hHeld ⊢
                    refine pure_ (i := 2) (N := some 167) (v := ?_) (a' := ?_) #[false, false, true, false, false, false, false, false, false] rfl rfl (any_of HT_.out (by kernel_rfl)) (fun _ _ _ h => h) (Or.inl ⟨by rfl, ?_⟩) ?_ ?_
                    rotate_left
                    ·
                     intro w'
                     go_simp
                     with_reducible rfl
                    rotate_left
                    ·
                     simp only [Act.put, List.setIfInBounds_toArray, List.set_cons_zero, List.set_cons_succ, i64_w, i32_w]
                     rfl
                    refine pure_ (i := 4) (N := some 169) (v := ?_) (a' := ?_) #[false, false, true, false, true, false, false, false, false] rfl rfl (any_of HT_.out (by kernel_rfl)) (fun _ _ _ h => h) (Or.inl ⟨by rfl, ?_⟩) ?_ ?_
                    rotate_left
                    ·
                     intro w'
                     go_simp
                     with_reducible rfl
                    rotate_left
                    ·
                     simp only [Act.put, List.setIfInBounds_toArray, List.set_cons_zero, List.set_cons_succ, i64_w, i32_w]
                     rfl
                    refine take_ (i := 0) (N := some 165) (v := ?_) (a' := ?_) #[true, false, true, false, true, false, false, false, false] rfl rfl (take_ofW HT_.out HW_.out (by kernel_rfl)) (fun _ _ _ h => h) (Or.inl ⟨by rfl, ?_⟩) hHeld ?_ ?_
                    rotate_left
                    ·
                     rintro w' ⟨s0, s1, s2, s3, s4, s5, s6, s7, s8⟩
                     go_simp
                     with_reducible rfl
                    rotate_left
                    ·
                     simp only [Act.put, List.setIfInBounds_toArray, List.set_cons_zero, List.set_cons_succ, i64_w, i32_w]
                     rfl
                    refine take_ (i := 1) (N := some 166) (v := ?_) (a' := ?_) #[true, true, true, false, true, false, false, false, false] rfl rfl (take_ofW HT_.out HW_.out (by kernel_rfl)) (fun _ _ _ h => h) (Or.inl ⟨by rfl, ?_⟩) hHeld ?_ ?_
                    rotate_left
                    ·
                     rintro w' ⟨s0, s1, s2, s3, s4, s5, s6, s7, s8⟩
                     go_simp
                     with_reducible rfl
                    rotate_left
                    ·
                     simp only [Act.put, List.setIfInBounds_toArray, List.set_cons_zero, List.set_cons_succ, i64_w, i32_w]
                     rfl
                    refine take_ (i := 3) (N := some 168) (v := ?_) (a' := ?_) #[true, true, true, true, true, false, false, false, false] rfl rfl (take_ofW HT_.out HW_.out (by kernel_rfl)) (fun _ _ _ h => h) (Or.inl ⟨by rfl, ?_⟩) hHeld ?_ ?_
                    rotate_left
                    ·
                     rintro w' ⟨s0, s1, s2, s3, s4, s5, s6, s7, s8⟩
                     go_simp
                     with_reducible rfl
                    rotate_left
                    ·
                     simp only [Act.put, List.setIfInBounds_toArray, List.set_cons_zero, List.set_cons_succ, i64_w, i32_w]
                     rfl
                    refine pure_ (i := 5) (N := some 170) (v := ?_) (a' := ?_) #[true, true, true, true, true, true, false, false, false] rfl rfl (any_of HT_.out (by kernel_rfl)) (fun _ _ _ h => h) (Or.inl ⟨by rfl, ?_⟩) ?_ ?_
                    rotate_left
                    ·
                     intro w'
                     go_simp
                     with_reducible rfl
                    rotate_left
                    ·
                     simp only [Act.put, List.setIfInBounds_toArray, List.set_cons_zero, List.set_cons_succ, i64_w, i32_w]
                     rfl
                    refine take_ (i := 6) (N := some 171) (v := ?_) (a' := ?_) #[true, true, true, true, true, true, true, false, false] rfl rfl (take_ofW HT_.out HW_.out (by kernel_rfl)) (fun _ _ _ h => h) (Or.inl ⟨by rfl, ?_⟩) hHeld ?_ ?_
                    rotate_left
                    ·
                     rintro w' ⟨s0, s1, s2, s3, s4, s5, s6, s7, s8⟩
                     go_simp
                     with_reducible rfl
                    rotate_left
                    ·
                     simp only [Act.put, List.setIfInBounds_toArray, List.set_cons_zero, List.set_cons_succ, i64_w, i32_w]
                     rfl
                    refine one_ (i := 7) (N := some 172) #[true, true, true, true, true, true, true, true, false] rfl rfl (one_of HT_.out (by kernel_rfl)) (by decide) (fun K hK => ?_)
                    refine goes_ Tryd.func34 (by kernel_rfl) rfl #[.agg #[.slice A0_0 l0_0.length c0_0, .slice (some ad142) l0_1.length c0_1], .agg #[.int .i64 ((rd_T45 l0_1 x9_4).f0), .int .i64 ((rd_T45 l0_1 x9_4).f1), .slice A142_2 ((rd_T45 l0_1 x9_4).f2).length c142_2, .slice (some ad144) ((rd_T45 l0_1 x9_4).f3).length c142_3], .agg #[.int .i64 ((rd_T51 ((rd_T45 l0_1 x9_4).f3) x11_5).f0), .int .i64 ((rd_T51 ((rd_T45 l0_1 x9_4).f3) x11_5).f1), .int .i64 ((rd_T51 ((rd_T45 l0_1 x9_4).f3) x11_5).f2)]] (by rfl) rfl rfl (by (try simp only [List.map_toArray, List.map_cons, List.map_nil]); first | done | rfl | (simp only [List.length_drop, List.length_take]; rfl)) ?_
                    with_reducible refine (spec_l4insOK.calls k5 _ _ l0_0 _ _ l0_1 ((rd_T45 l0_1 x9_4).f0) ((rd_T45 l0_1 x9_4).f1) _ _ ((rd_T45 l0_1 x9_4).f2) _ _ ((rd_T45 l0_1 x9_4).f3) ((rd_T51 ((rd_T45 l0_1 x9_4).f3) x11_5).f0) ((rd_T51 ((rd_T45 l0_1 x9_4).f3) x11_5).f1) ((rd_T51 ((rd_T45 l0_1 x9_4).f3) x11_5).f2) false _ ?side1 ?side2 ?side3 ?side4 ?side5 ?side6 ?side7 ?side8 A106.out).mono ?_
                    (case side1 => repeat (first | exact (Kd.C_below HR0_0.out HB.out) | (with_reducible refine Kd.C_alloc ?_ _) | (with_reducible refine Kd.C_drewN ?_ _) | (with_reducible refine Kd.C_drew ?_)))
                    (case side2 => exact HC0_0.out)
                    (case side3 => repeat (first | exact (Kd.C_below HR0_1.out HB.out) | (with_reducible refine Kd.C_alloc ?_ _) | (with_reducible refine Kd.C_drewN ?_ _) | (with_reducible refine Kd.C_drew ?_)))
                    (case side4 => exact HC0_1.out)
                    (case side5 => repeat (first | exact (Kd.C_below HR142_2.out HB.out) | (with_reducible refine Kd.C_alloc ?_ _) | (with_reducible refine Kd.C_drewN ?_ _) | (with_reducible refine Kd.C_drew ?_)))
                    (case side6 => exact HC142_2.out)
                    (case side7 => repeat (first | exact (Kd.C_below HR142_3.out HB.out) | (with_reducible refine Kd.C_alloc ?_ _) | (with_reducible refine Kd.C_drewN ?_ _) | (with_reducible refine Kd.C_drew ?_)))
                    (case side8 => exact HC142_3.out)
                    rintro e w115 ⟨rfl, hb⟩
                    refine ⟨_, rfl, ?_⟩
                    have n0_ := amZ (zkY (g := gb135) (o := .cells #[.slice A0_0 l0_0.length c0_0, .slice (some ad142) l0_1.length c0_1] 32 (0, 0)) bkZ hb)
                    have n1_ := amZ (zkY (g := gb143) (o := .cells #[.int .i64 ((rd_T45 l0_1 x9_4).f0), .int .i64 ((rd_T45 l0_1 x9_4).f1), .slice A142_2 ((rd_T45 l0_1 x9_4).f2).length c142_2, .slice (some ad144) ((rd_T45 l0_1 x9_4).f3).length c142_3] 45 (0, 0)) bkZ hb)
                    have n2_ := amZ (zcY bwZ hb)
                    clear BK135
                    clear BK143
                    clear HB
                    have BK135 := n0_
                    have BK143 := n1_
                    have HB := n2_
                    clear n0_ n1_ n2_
                    (try clear hb)
                    (try clear hb2)
                    (try clear hk)
                    (try clear hi)
                    refine hK.out _ _ ⟨(zaY BK135.out 0).trans rfl, (zaY BK135.out 1).trans rfl, (zaY BK143.out 0).trans rfl, (zaY BK143.out 1).trans rfl, (zaY BK143.out 2).trans rfl, (zaY BK143.out 3).trans rfl, ((HB.out.cell (World.block_lt_of_cell? w _ hw144_0)).trans hw144_0), ((HB.out.cell (World.block_lt_of_cell? w _ hw144_1)).trans hw144_1), ((HB.out.cell (World.block_lt_of_cell? w _ hw144_2)).trans hw144_2)⟩ (fun hHeld => ?_)
                    clear hK K
                    refine norm_ (a' := ?_) ?_ ?_
                    rotate_left
                    ·
                     show Act.put _ (some 172) _ = _
                     simp only [Act.put, List.setIfInBounds_toArray, List.set_cons_zero, List.set_cons_succ, i64_w, i32_w]
                     rfl
                    refine pure_ (i := 8) (N := some 173) (v := ?_) (a' := ?_) #[true, true, true, true, true, true, true, true, true] rfl rfl (any_of HT_.out (by kernel_rfl)) (fun _ _ _ h => h) (Or.inl ⟨by rfl, ?_⟩) ?_ ?_
                    rotate_left
                    ·
                     intro w'
                     go_simp
                     with_reducible rfl
                    rotate_left
                    ·
                     simp only [Act.put, List.setIfInBounds_toArray, List.set_cons_zero, List.set_cons_succ, i64_w, i32_w]
                     rfl
                    refine done_ (done_of HT_.out (by kernel_rfl)) ?_
                    try go_wp2
                    go_ret
                    exact ⟨by first | rfl | (simp [zjY, ziY] <;> rfl) | (simp [*, zjY, ziY] <;> rfl), bwZ⟩
                  ·
                   rw [if_neg c105] at H
                   exact absurd H (by simp)
                 ·
                  rw [if_neg c104] at H
                  have c104b0 : decide (x11_5 < (((rd_T45 l0_1 x9_4).f3).length : Int)) = false := decide_eq_false c104
                  clear c104
                  replace H := Option.bind_eq_some_iff.mp H
                  obtain ⟨t146, A1160, H⟩ := H
                  replace H : (if t146 = true then (spec_Check.l3 k5 (wrap64 (x9_4 + 1)) l0_0 l0_1) else (some false)) = some r := H
                  have A116 := amZ A1160
                  clear A1160
                  by_cases c117 : t146 = true
                  ·
                   subst c117
                   have H1 : (spec_Check.l3 k5 (wrap64 (x9_4 + 1)) l0_0 l0_1) = some r := by rw [if_pos rfl] at H; exact H
                   clear H
                   have H := H1
                   clear H1
                   have H' := amZ H
                   clear H
                   have hnb118 := NB143_135.out
                   have hnc118 := NB135_143.out
                   have hcz119_0 : wr.cell? ⟨gb143, 0, none⟩ = some (.int .i64 ((rd_T45 l0_1 x9_4).f0)) := (zaY BK143.out 0).trans rfl
                   have hcz119_1 : wr.cell? ⟨gb143, 1, none⟩ = some (.int .i64 ((rd_T45 l0_1 x9_4).f1)) := (zaY BK143.out 1).trans rfl
                   have hcz119_2 : wr.cell? ⟨gb143, 2, none⟩ = some (.slice A142_2 ((rd_T45 l0_1 x9_4).f2).length c142_2) := (zaY BK143.out 2).trans rfl
                   have hcz119_3 : wr.cell? ⟨gb143, 3, none⟩ = some (.slice A142_3 ((rd_T45 l0_1 x9_4).f3).length c142_3) := (zaY BK143.out 3).trans rfl
                   have hfz119_0 := zbY BK143.out 0
                   have hfz119_1 := zbY BK143.out 1
                   have hfz119_2 := zbY BK143.out 2
                   have hfz119_3 := zbY BK143.out 3
                   go_wp2_with (first | ((with_reducible refine gate_callee (f := 35) rfl ?_); refine goesL_ (some 175) rfl rfl Tryd.func35 (by kernel_rfl) rfl #[.agg #[.int .i64 ((rd_T45 l0_1 x9_4).f0), .int .i64 ((rd_T45 l0_1 x9_4).f1), .slice A142_2 ((rd_T45 l0_1 x9_4).f2).length c142_2, .slice A142_3 ((rd_T45 l0_1 x9_4).f3).length c142_3]] rfl (by (try simp only [List.map_toArray, List.map_cons, List.map_nil]); first | done | rfl | (simp only [List.length_drop, List.length_take]; rfl)) ?_; (with_reducible refine (spec_l4heights.calls ((rd_T45 l0_1 x9_4).f0) ((rd_T45 l0_1 x9_4).f1) _ _ ((rd_T45 l0_1 x9_4).f2) _ _ ((rd_T45 l0_1 x9_4).f3) true _ ?side1 ?side2 ?side3 ?side4 A116.out).mono ?_); (case side1 => repeat (first | exact (Kd.C_below HR142_2.out HB.out) | (with_reducible refine Kd.C_alloc ?_ _) | (with_reducible refine Kd.C_drewN ?_ _) | (with_reducible refine Kd.C_drew ?_))); (case side2 => exact HC142_2.out); (case side3 => repeat (first | exact (Kd.C_below HR142_3.out HB.out) | (with_reducible refine Kd.C_alloc ?_ _) | (with_reducible refine Kd.C_drewN ?_ _) | (with_reducible refine Kd.C_drew ?_))); (case side4 => exact HC142_3.out); rintro e w120 ⟨rfl, hb⟩; refine ⟨_, rfl, ?_⟩; have n0_ := amZ (zkY (g := gb135) (o := .cells #[.slice A0_0 l0_0.length c0_0, .slice (some ad142) l0_1.length c0_1] 32 (0, 0)) bkZ hb); have n1_ := amZ (zkY (g := gb143) (o := .cells #[.int .i64 ((rd_T45 l0_1 x9_4).f0), .int .i64 ((rd_T45 l0_1 x9_4).f1), .slice A142_2 ((rd_T45 l0_1 x9_4).f2).length c142_2, .slice A142_3 ((rd_T45 l0_1 x9_4).f3).length c142_3] 45 (0, 0)) bkZ hb); have n2_ := amZ (zcY bwZ hb); clear BK135; clear BK143; clear HB; have BK135 := n0_; have BK143 := n1_; have HB := n2_; clear n0_ n1_ n2_; (try clear hb); (try clear hb2); (try clear hk); (try clear hi)))
                   go_roundg k5
                   case measure => have := HJ1.out; have := HK2.out; have := HK3.out; have := HK4.out; have := HK5.out; omega
                   case rel => exact ⟨(wrap64 (x9_4 + 1)), (by first | rfl | (simp; done) | (simp [*]; done)), H', ⟨by have := HJ1.out; have := HK2.out; have := HK3.out; have := HK4.out; have := HK5.out; omega⟩, ⟨by (with_reducible repeat (first | refine zeY ?_ _ | refine zhY ?_ | refine zfY ?_ _)); exact BK135.out⟩, ⟨bwZ⟩⟩
                  ·
                   replace c117 := Bool.eq_false_iff.mpr c117
                   subst c117
                   have H1 : (some false) = some r := by rw [if_neg (show ¬ (false = true) by decide)] at H; exact H
                   clear H
                   have H := H1
                   clear H1
                   obtain rfl := Option.some.inj H
                   have hnb121 := NB143_135.out
                   have hnc121 := NB135_143.out
                   have hcz122_0 : wr.cell? ⟨gb143, 0, none⟩ = some (.int .i64 ((rd_T45 l0_1 x9_4).f0)) := (zaY BK143.out 0).trans rfl
                   have hcz122_1 : wr.cell? ⟨gb143, 1, none⟩ = some (.int .i64 ((rd_T45 l0_1 x9_4).f1)) := (zaY BK143.out 1).trans rfl
                   have hcz122_2 : wr.cell? ⟨gb143, 2, none⟩ = some (.slice A142_2 ((rd_T45 l0_1 x9_4).f2).length c142_2) := (zaY BK143.out 2).trans rfl
                   have hcz122_3 : wr.cell? ⟨gb143, 3, none⟩ = some (.slice A142_3 ((rd_T45 l0_1 x9_4).f3).length c142_3) := (zaY BK143.out 3).trans rfl
                   have hfz122_0 := zbY BK143.out 0
                   have hfz122_1 := zbY BK143.out 1
                   have hfz122_2 := zbY BK143.out 2
                   have hfz122_3 := zbY BK143.out 3
                   go_wp2_with (first | ((with_reducible refine gate_callee (f := 35) rfl ?_); refine goesL_ (some 175) rfl rfl Tryd.func35 (by kernel_rfl) rfl #[.agg #[.int .i64 ((rd_T45 l0_1 x9_4).f0), .int .i64 ((rd_T45 l0_1 x9_4).f1), .slice A142_2 ((rd_T45 l0_1 x9_4).f2).length c142_2, .slice A142_3 ((rd_T45 l0_1 x9_4).f3).length c142_3]] rfl (by (try simp only [List.map_toArray, List.map_cons, List.map_nil]); first | done | rfl | (simp only [List.length_drop, List.length_take]; rfl)) ?_; (with_reducible refine (spec_l4heights.calls ((rd_T45 l0_1 x9_4).f0) ((rd_T45 l0_1 x9_4).f1) _ _ ((rd_T45 l0_1 x9_4).f2) _ _ ((rd_T45 l0_1 x9_4).f3) false _ ?side1 ?side2 ?side3 ?side4 A116.out).mono ?_); (case side1 => repeat (first | exact (Kd.C_below HR142_2.out HB.out) | (with_reducible refine Kd.C_alloc ?_ _) | (with_reducible refine Kd.C_drewN ?_ _) | (with_reducible refine Kd.C_drew ?_))); (case side2 => exact HC142_2.out); (case side3 => repeat (first | exact (Kd.C_below HR142_3.out HB.out) | (with_reducible refine Kd.C_alloc ?_ _) | (with_reducible refine Kd.C_drewN ?_ _) | (with_reducible refine Kd.C_drew ?_))); (case side4 => exact HC142_3.out); rintro e w123 ⟨rfl, hb⟩; refine ⟨_, rfl, ?_⟩; have n0_ := amZ (zkY (g := gb135) (o := .cells #[.slice A0_0 l0_0.length c0_0, .slice (some ad142) l0_1.length c0_1] 32 (0, 0)) bkZ hb); have n1_ := amZ (zkY (g := gb143) (o := .cells #[.int .i64 ((rd_T45 l0_1 x9_4).f0), .int .i64 ((rd_T45 l0_1 x9_4).f1), .slice A142_2 ((rd_T45 l0_1 x9_4).f2).length c142_2, .slice A142_3 ((rd_T45 l0_1 x9_4).f3).length c142_3] 45 (0, 0)) bkZ hb); have n2_ := amZ (zcY bwZ hb); clear BK135; clear BK143; clear HB; have BK135 := n0_; have BK143 := n1_; have HB := n2_; clear n0_ n1_ n2_; (try clear hb); (try clear hb2); (try clear hk); (try clear hi)))
                   go_ret
                   exact ⟨by first | rfl | (simp [zjY, ziY] <;> rfl) | (simp [*, zjY, ziY] <;> rfl), bwZ⟩
              ·
               rw [if_neg c99] at H
               exact absurd H (by simp)
             ·
              rw [if_neg c98] at H
              have c98b0 : decide (x9_4 < (l0_1.length : Int)) = false := decide_eq_false c98
              clear c98
              obtain rfl := Option.some.inj H
              have hcz124_0 : wr.cell? ⟨gb135, 0, none⟩ = some (.slice A0_0 l0_0.length c0_0) := (zaY BK135.out 0).trans rfl
              have hcz124_1 : wr.cell? ⟨gb135, 1, none⟩ = some (.slice A0_1 l0_1.length c0_1) := (zaY BK135.out 1).trans rfl
              have hfz124_0 := zbY BK135.out 0
              have hfz124_1 := zbY BK135.out 1
              go_wp2
              go_ret
              exact ⟨by first | rfl | (simp [zjY, ziY] <;> rfl) | (simp [*, zjY, ziY] <;> rfl), bwZ⟩
end Go.Proofs.YtmmpiojekgfdjaaDoor.C
