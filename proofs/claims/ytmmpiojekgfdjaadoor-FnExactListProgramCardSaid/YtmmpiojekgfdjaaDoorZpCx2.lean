/- A part of the proof. -/
import Derived.Test.YtmmpiojekgfdjaaDoorZpCx0
import Derived.Test.YtmmpiojekgfdjaaDoorZpCx1
import Derived.Test.YtmmpiojekgfdjaaDoorZpK
namespace Go.Proofs.YtmmpiojekgfdjaaDoor.C
open Go.RowKit YtmmpiojekgfdjaaDoorW.PrintWords YtmmpiojekgfdjaaDoorW.PrintLast
set_option linter.unusedVariables false
set_option linter.unusedSimpArgs false
mutual
def spec_l4insOK.j0 : Nat → Bool → List (S69) → List (S45) → Int → Int → List (S48) → List (S51) → Int → Int → Int → Option (Bool)
 | 0, _, _, _, _, _, _, _, _, _, _ => none
 | k + 1, x20, x120000, x120001, x121000, x121001, x121002, x121003, x122000, x122001, x122002 => if x20 = true then (some false) else ((spec_l4row.f x122000).bind fun bt122 => (if 0 < (bt122.1.size : Int) then ((spec_l4operand.f x120000 x120001 x121000 x121001 x121002 x121003 (bt bt122.1 0) x122001).bind fun t125 => (if t125 = true then (if 1 < (bt122.1.size : Int) then ((spec_l4operand.f x120000 x120001 x121000 x121001 x121002 x121003 (bt bt122.1 1) x122002).bind fun t126 => (spec_l4insOK.j1 k (!t126) x120000 x120001 x121000 x121001 x121002 x121003 x122000 x122001 x122002)) else (none)) else (spec_l4insOK.j1 k true x120000 x120001 x121000 x121001 x121002 x121003 x122000 x122001 x122002))) else (none)))
def spec_l4insOK.j1 : Nat → Bool → List (S69) → List (S45) → Int → Int → List (S48) → List (S51) → Int → Int → Int → Option (Bool)
 | 0, _, _, _, _, _, _, _, _, _, _ => none
 | k + 1, x45, x120000, x120001, x121000, x121001, x121002, x121003, x122000, x122001, x122002 => if x45 = true then (some false) else (if x122000 = 10 then (if 0 ≤ x122001 then (if x122001 < (x120001.length : Int) then (spec_l4insOK.l0 k 0 x121000 x121001 x121002 x121003 ((rd_T45 x120001 x122001).f0) ((rd_T45 x120001 x122001).f1) ((rd_T45 x120001 x122001).f2) ((rd_T45 x120001 x122001).f3)) else (none)) else (none)) else (some true))
def spec_l4insOK.l0 : Nat → Int → Int → Int → List (S48) → List (S51) → Int → Int → List (S48) → List (S51) → Option (Bool)
 | 0, _, _, _, _, _, _, _, _, _ => none
 | k + 1, x11, x121000, x121001, x121002, x121003, x129000, x129001, x129002, x129003 => if x11 < (x129002.length : Int) then (if 0 ≤ x11 then (if (rd_T48 x129002 x11).f0 = true then (if ((rd_T48 x129002 x11).f1) ≥ (x121002.length : Int) then (some false) else (if ((rd_T48 x129002 x11).f0 = true) then (spec_l4insOK.l0 k (wrap64 (x11 + 1)) x121000 x121001 x121002 x121003 x129000 x129001 x129002 x129003) else (if ((rd_T48 x129002 x11).f1) ≥ x121001 then (some false) else (spec_l4insOK.l0 k (wrap64 (x11 + 1)) x121000 x121001 x121002 x121003 x129000 x129001 x129002 x129003)))) else (if ((rd_T48 x129002 x11).f0 = true) then (spec_l4insOK.l0 k (wrap64 (x11 + 1)) x121000 x121001 x121002 x121003 x129000 x129001 x129002 x129003) else (if ((rd_T48 x129002 x11).f1) ≥ x121001 then (some false) else (spec_l4insOK.l0 k (wrap64 (x11 + 1)) x121000 x121001 x121002 x121003 x129000 x129001 x129002 x129003)))) else (none)) else (some true)
end
def spec_l4insOK.f (k : Nat) (l0_0 : List (S69)) (l0_1 : List (S45)) (a1_0 : Int) (a1_1 : Int) (l1_2 : List (S48)) (l1_3 : List (S51)) (a2_0 : Int) (a2_1 : Int) (a2_2 : Int) : Option (Bool) := if a2_0 < 0 then (spec_l4insOK.j0 k true l0_0 l0_1 a1_0 a1_1 l1_2 l1_3 a2_0 a2_1 a2_2) else (spec_l4insOK.j0 k (decide (a2_0 > 27)) l0_0 l0_1 a1_0 a1_1 l1_2 l1_3 a2_0 a2_1 a2_2)
def spec_l4insOK.T4 : Bool × List (List Nat × List Nat) := (true, [([], []), ([], []), ([], []), ([2], [2]), ([], []), ([4], [4]), ([0, 1, 3, 5], [0, 1, 3, 5]), ([6], [6]), ([7, 6], [7]), ([8], [8]), ([8], [8]), ([8], [8]), ([11, 8], [8, 11]), ([8], [8]), ([13, 8], [8, 13]), ([9, 10, 12, 14, 8, 8], [8, 9, 10, 12, 14]), ([15, 8], [8, 15]), ([8, 16], [8, 16])])
def spec_l4insOK.B4 : List Nat := [0, 0, 0, 4, 0, 16, 63, 127, 255, 511, 511, 511, 2559, 511, 8703, 32767, 65535, 131071]
theorem spec_l4insOK.tab4 : rtab .any (opsOf Tryd.f34 4) = spec_l4insOK.T4 := by kernel_rfl
theorem spec_l4insOK.bits4 : waitsOk spec_l4insOK.T4.2 spec_l4insOK.B4 = true := by kernel_rfl
set_option maxHeartbeats 8000000 in
set_option maxRecDepth 100000 in
theorem spec_l4insOK.calls (k : Nat) (A0_0 : Option Addr) (c0_0 : Nat) (l0_0 : List (S69)) (A0_1 : Option Addr) (c0_1 : Nat) (l0_1 : List (S45)) (a1_0 : Int) (a1_1 : Int) (A1_2 : Option Addr) (c1_2 : Nat) (l1_2 : List (S48)) (A1_3 : Option Addr) (c1_3 : Nat) (l1_3 : List (S51)) (a2_0 : Int) (a2_1 : Int) (a2_2 : Int) (r : Bool) (w : World) (hr0_0 : Kd.C k69 w A0_0 l0_0.length l0_0) (hc0_0 : l0_0.length ≤ c0_0) (hr0_1 : Kd.C k45 w A0_1 l0_1.length l0_1) (hc0_1 : l0_1.length ≤ c0_1) (hr1_2 : Kd.C k48 w A1_2 l1_2.length l1_2) (hc1_2 : l1_2.length ≤ c1_2) (hr1_3 : Kd.C k51 w A1_3 l1_3.length l1_3) (hc1_3 : l1_3.length ≤ c1_3) (h : spec_l4insOK.f k l0_0 l0_1 a1_0 a1_1 l1_2 l1_3 a2_0 a2_1 a2_2 = some r) :
  Calls Tryd.prog 34 #[.agg #[.slice A0_0 l0_0.length c0_0, .slice A0_1 l0_1.length c0_1], .agg #[.int .i64 a1_0, .int .i64 a1_1, .slice A1_2 l1_2.length c1_2, .slice A1_3 l1_3.length c1_3], .agg #[.int .i64 a2_0, .int .i64 a2_1, .int .i64 a2_2]] w fun e w' => e = .returned (.bool r) ∧ Below w.heap.size w w' := by
 have hu32 := Tryd.underlying32
 have hu45 := Tryd.underlying45
 have hu51 := Tryd.underlying51
 have hu48 := Tryd.underlying48
 have HR0_0 := amZ hr0_0
 have HC0_0 := amZ hc0_0
 clear hr0_0 hc0_0
 have HR0_1 := amZ hr0_1
 have HC0_1 := amZ hc0_1
 clear hr0_1 hc0_1
 have HR1_2 := amZ hr1_2
 have HC1_2 := amZ hc1_2
 clear hr1_2 hc1_2
 have HR1_3 := amZ hr1_3
 have HC1_3 := amZ hc1_3
 clear hr1_3 hc1_3
 have HB := amZ (Below.refl w.heap.size w)
 have H : (if a2_0 < 0 then (spec_l4insOK.j0 k true l0_0 l0_1 a1_0 a1_1 l1_2 l1_3 a2_0 a2_1 a2_2) else (spec_l4insOK.j0 k (decide (a2_0 > 27)) l0_0 l0_1 a1_0 a1_1 l1_2 l1_3 a2_0 a2_1 a2_2)) = some r := h
 clear h
 have HC4 := amZ H
 clear H
 go_enter Tryd.func34, Tryd.ntmps34
 go_upto_region 1 with (first | ((with_reducible refine zmY (N := 3) rfl ?_); (try (refine gate_guard (by rfl) ?_; dsimp only)); refine znY ?hg (N := 3) ?hd (cs := #[.slice A0_0 l0_0.length c0_0, .slice A0_1 l0_1.length c0_1]) (t := 32) ?hr ?_; (case hd => rfl); (case hg => rfl); (case hr => first | (go_simp; done) | (go_simp; rfl)); intro gb119 hg w5 hbox hb; have n0_ := amZ (zcY bwZ hb); have n1_ := amZ (hbox); have n2_ := amZ ((by rw [hg]; exact (zgY bwZ) : w.heap.size ≤ gb119)); have n3_ := amZ ((by rw [hg]; exact (zgY bwZ) : w.heap.size ≤ gb119)); clear HB; have HB := n0_; have BK119 := n1_; have GW119 := n2_; have GE119 := n3_; clear n0_ n1_ n2_ n3_; clear hb hbox hg) | ((with_reducible refine zmY (N := 4) rfl ?_); (try (refine gate_guard (by rfl) ?_; dsimp only)); refine znY ?hg (N := 4) ?hd (cs := #[.int .i64 a1_0, .int .i64 a1_1, .slice A1_2 l1_2.length c1_2, .slice A1_3 l1_3.length c1_3]) (t := 45) ?hr ?_; (case hd => rfl); (case hg => rfl); (case hr => first | (go_simp; done) | (go_simp; rfl)); intro gb120 hg w6 hbox hb; have n0_ := amZ (zkY (g := gb119) (o := .cells #[.slice A0_0 l0_0.length c0_0, .slice A0_1 l0_1.length c0_1] 32 (0, 0)) bkZ hb); have n1_ := amZ (zcY bwZ hb); have n2_ := amZ (hbox); have n3_ := amZ ((by rw [hg]; exact (zgY bwZ) : w.heap.size ≤ gb120)); have n4_ := amZ ((by rw [hg]; exact (zgY bwZ) : w.heap.size ≤ gb120)); have n5_ := amZ ((by rw [hg]; exact Nat.ne_of_lt (zlY (g := gb119) (o := .cells #[.slice A0_0 l0_0.length c0_0, .slice A0_1 l0_1.length c0_1] 32 (0, 0)) bkZ) : gb119 ≠ gb120)); have n6_ := amZ ((by rw [hg]; exact Nat.ne_of_gt (zlY (g := gb119) (o := .cells #[.slice A0_0 l0_0.length c0_0, .slice A0_1 l0_1.length c0_1] 32 (0, 0)) bkZ) : gb120 ≠ gb119)); clear BK119; clear HB; have BK119 := n0_; have HB := n1_; have BK120 := n2_; have GW120 := n3_; have GE120 := n4_; have NB119_120 := n5_; have NB120_119 := n6_; clear n0_ n1_ n2_ n3_ n4_ n5_ n6_; clear hb hbox hg) | ((with_reducible refine zmY (N := 5) rfl ?_); (try (refine gate_guard (by rfl) ?_; dsimp only)); refine znY ?hg (N := 5) ?hd (cs := #[.int .i64 a2_0, .int .i64 a2_1, .int .i64 a2_2]) (t := 51) ?hr ?_; (case hd => rfl); (case hg => rfl); (case hr => first | (go_simp; done) | (go_simp; rfl)); intro gb121 hg w7 hbox hb; have n0_ := amZ (zkY (g := gb119) (o := .cells #[.slice A0_0 l0_0.length c0_0, .slice A0_1 l0_1.length c0_1] 32 (0, 0)) bkZ hb); have n1_ := amZ (zkY (g := gb120) (o := .cells #[.int .i64 a1_0, .int .i64 a1_1, .slice A1_2 l1_2.length c1_2, .slice A1_3 l1_3.length c1_3] 45 (0, 0)) bkZ hb); have n2_ := amZ (zcY bwZ hb); have n3_ := amZ (hbox); have n4_ := amZ ((by rw [hg]; exact (zgY bwZ) : w.heap.size ≤ gb121)); have n5_ := amZ ((by rw [hg]; exact (zgY bwZ) : w.heap.size ≤ gb121)); have n6_ := amZ ((by rw [hg]; exact Nat.ne_of_lt (zlY (g := gb119) (o := .cells #[.slice A0_0 l0_0.length c0_0, .slice A0_1 l0_1.length c0_1] 32 (0, 0)) bkZ) : gb119 ≠ gb121)); have n7_ := amZ ((by rw [hg]; exact Nat.ne_of_gt (zlY (g := gb119) (o := .cells #[.slice A0_0 l0_0.length c0_0, .slice A0_1 l0_1.length c0_1] 32 (0, 0)) bkZ) : gb121 ≠ gb119)); have n8_ := amZ ((by rw [hg]; exact Nat.ne_of_lt (zlY (g := gb120) (o := .cells #[.int .i64 a1_0, .int .i64 a1_1, .slice A1_2 l1_2.length c1_2, .slice A1_3 l1_3.length c1_3] 45 (0, 0)) bkZ) : gb120 ≠ gb121)); have n9_ := amZ ((by rw [hg]; exact Nat.ne_of_gt (zlY (g := gb120) (o := .cells #[.int .i64 a1_0, .int .i64 a1_1, .slice A1_2 l1_2.length c1_2, .slice A1_3 l1_3.length c1_3] 45 (0, 0)) bkZ) : gb121 ≠ gb120)); clear BK119; clear BK120; clear HB; have BK119 := n0_; have BK120 := n1_; have HB := n2_; have BK121 := n3_; have GW121 := n4_; have GE121 := n5_; have NB119_121 := n6_; have NB121_119 := n7_; have NB120_121 := n8_; have NB121_120 := n9_; clear n0_ n1_ n2_ n3_ n4_ n5_ n6_ n7_ n8_ n9_; clear hb hbox hg))
 (try simp only [Act.put, List.setIfInBounds_toArray, List.set_cons_zero, List.set_cons_succ])
 go_cut [20] (fun v20 wc => ∃ (kq : Nat) (x20_3 : Bool), v20 = .bool x20_3 ∧ Aside0 (spec_l4insOK.j0 kq x20_3 l0_0 l0_1 a1_0 a1_1 l1_2 l1_3 a2_0 a2_1 a2_2 = some r) ∧ Aside0 (kq ≤ k) ∧ Aside0 (wc.heap[gb119]? = some (.cells #[(.slice A0_0 l0_0.length c0_0), (.slice A0_1 l0_1.length c0_1)] 32 (0, 0))) ∧ Aside0 (wc.heap[gb120]? = some (.cells #[.int .i64 a1_0, .int .i64 a1_1, (.slice A1_2 l1_2.length c1_2), (.slice A1_3 l1_3.length c1_3)] 45 (0, 0))) ∧ Aside0 (wc.heap[gb121]? = some (.cells #[.int .i64 a2_0, .int .i64 a2_1, .int .i64 a2_2] 51 (0, 0))) ∧ Aside0 (Below w.heap.size w wc))
 case first =>
  have H := HC4.out
  clear HC4
  by_cases c8 : a2_0 < 0
  ·
   rw [if_pos c8] at H
   have c8b0 : decide (a2_0 < 0) = true := decide_eq_true c8
   clear c8
   (first | rw [c8b0] | (simp only [i64_w, i32_w]; rw [c8b0]) | skip)
   have H' := amZ H
   clear H
   have hnb9 := NB121_119.out
   have hnc9 := NB119_121.out
   have hnb10 := NB121_120.out
   have hnc10 := NB120_121.out
   have hcz11_0 : w7.cell? ⟨gb121, 0, none⟩ = some (.int .i64 a2_0) := (zaY BK121.out 0).trans rfl
   have hcz11_1 : w7.cell? ⟨gb121, 1, none⟩ = some (.int .i64 a2_1) := (zaY BK121.out 1).trans rfl
   have hcz11_2 : w7.cell? ⟨gb121, 2, none⟩ = some (.int .i64 a2_2) := (zaY BK121.out 2).trans rfl
   have hfz11_0 := zbY BK121.out 0
   have hfz11_1 := zbY BK121.out 1
   have hfz11_2 := zbY BK121.out 2
   go_wp2
   go_meet
   case rel => exact ⟨_, (true), (by first | rfl | (simp; done) | (simp [*]; done)), H', ⟨by first | omega | exact Nat.le_refl _⟩, ⟨by (with_reducible repeat (first | refine zeY ?_ _ | refine zhY ?_ | refine zfY ?_ _)); exact BK119.out⟩, ⟨by (with_reducible repeat (first | refine zeY ?_ _ | refine zhY ?_ | refine zfY ?_ _)); exact BK120.out⟩, ⟨by (with_reducible repeat (first | refine zeY ?_ _ | refine zhY ?_ | refine zfY ?_ _)); exact BK121.out⟩, ⟨bwZ⟩⟩
  ·
   rw [if_neg c8] at H
   have c8b0 : decide (a2_0 < 0) = false := decide_eq_false c8
   clear c8
   (first | rw [c8b0] | (simp only [i64_w, i32_w]; rw [c8b0]) | skip)
   have H' := amZ H
   clear H
   have hnb12 := NB121_119.out
   have hnc12 := NB119_121.out
   have hnb13 := NB121_120.out
   have hnc13 := NB120_121.out
   have hcz14_0 : w7.cell? ⟨gb121, 0, none⟩ = some (.int .i64 a2_0) := (zaY BK121.out 0).trans rfl
   have hcz14_1 : w7.cell? ⟨gb121, 1, none⟩ = some (.int .i64 a2_1) := (zaY BK121.out 1).trans rfl
   have hcz14_2 : w7.cell? ⟨gb121, 2, none⟩ = some (.int .i64 a2_2) := (zaY BK121.out 2).trans rfl
   have hfz14_0 := zbY BK121.out 0
   have hfz14_1 := zbY BK121.out 1
   have hfz14_2 := zbY BK121.out 2
   go_wp2
   go_meet
   case rel => exact ⟨_, (decide (a2_0 > 27)), (by first | rfl | (simp; done) | (simp [*]; done)), H', ⟨by first | omega | exact Nat.le_refl _⟩, ⟨by (with_reducible repeat (first | refine zeY ?_ _ | refine zhY ?_ | refine zfY ?_ _)); exact BK119.out⟩, ⟨by (with_reducible repeat (first | refine zeY ?_ _ | refine zhY ?_ | refine zfY ?_ _)); exact BK120.out⟩, ⟨by (with_reducible repeat (first | refine zeY ?_ _ | refine zhY ?_ | refine zfY ?_ _)); exact BK121.out⟩, ⟨bwZ⟩⟩
 case rest =>
  clear HC4
  try clear c1
  try clear p2
  try clear c3
  try clear c8
  try clear c8b0
  try clear c9
  try clear c10
  try clear c12
  try clear c13
  try clear hcz11_0
  try clear hcz11_1
  try clear hcz11_2
  try clear hcz14_0
  try clear hcz14_1
  try clear hcz14_2
  try clear hfz11_0
  try clear hfz11_1
  try clear hfz11_2
  try clear hfz14_0
  try clear hfz14_1
  try clear hfz14_2
  obtain ⟨kq, x20_3, rfl, HA, HJ3, BK119, BK120, BK121, HB⟩ := hcut
  cases kq with
  | zero => exact absurd HA.out (by simp [spec_l4insOK.j0])
  | succ kj3 =>
   have H := HA.out
   clear HA
   simp only [spec_l4insOK.j0] at H
   by_cases c15 : x20_3 = true
   ·
    subst c15
    have H1 : (some false) = some r := by rw [if_pos rfl] at H; exact H
    clear H
    have H := H1
    clear H1
    obtain rfl := Option.some.inj H
    go_wp2
    go_ret
    exact ⟨by first | rfl | (simp [zjY, ziY] <;> rfl) | (simp [*, zjY, ziY] <;> rfl), bwZ⟩
   ·
    replace c15 := Bool.eq_false_iff.mpr c15
    subst c15
    have H1 : ((spec_l4row.f a2_0).bind fun bt122 => (if 0 < (bt122.1.size : Int) then ((spec_l4operand.f l0_0 l0_1 a1_0 a1_1 l1_2 l1_3 (bt bt122.1 0) a2_1).bind fun t125 => (if t125 = true then (if 1 < (bt122.1.size : Int) then ((spec_l4operand.f l0_0 l0_1 a1_0 a1_1 l1_2 l1_3 (bt bt122.1 1) a2_2).bind fun t126 => (spec_l4insOK.j1 kj3 (!t126) l0_0 l0_1 a1_0 a1_1 l1_2 l1_3 a2_0 a2_1 a2_2)) else (none)) else (spec_l4insOK.j1 kj3 true l0_0 l0_1 a1_0 a1_1 l1_2 l1_3 a2_0 a2_1 a2_2))) else (none))) = some r := by rw [if_neg (show ¬ (false = true) by decide)] at H; exact H
    clear H
    have H := H1
    clear H1
    replace H := Option.bind_eq_some_iff.mp H
    obtain ⟨⟨t122, t123, t124⟩, A160, H⟩ := H
    replace H : (if 0 < (t122.size : Int) then ((spec_l4operand.f l0_0 l0_1 a1_0 a1_1 l1_2 l1_3 (bt t122 0) a2_1).bind fun t125 => (if t125 = true then (if 1 < (t122.size : Int) then ((spec_l4operand.f l0_0 l0_1 a1_0 a1_1 l1_2 l1_3 (bt t122 1) a2_2).bind fun t126 => (spec_l4insOK.j1 kj3 (!t126) l0_0 l0_1 a1_0 a1_1 l1_2 l1_3 a2_0 a2_1 a2_2)) else (none)) else (spec_l4insOK.j1 kj3 true l0_0 l0_1 a1_0 a1_1 l1_2 l1_3 a2_0 a2_1 a2_2))) else (none)) = some r := H
    have A16 := amZ A160
    clear A160
    have HC17 := amZ H
    clear H
    have hnb18 := NB121_119.out
    have hnc18 := NB119_121.out
    have hnb19 := NB121_120.out
    have hnc19 := NB120_121.out
    have hcz20_0 : wc.cell? ⟨gb121, 0, none⟩ = some (.int .i64 a2_0) := (zaY BK121.out 0).trans rfl
    have hcz20_1 : wc.cell? ⟨gb121, 1, none⟩ = some (.int .i64 a2_1) := (zaY BK121.out 1).trans rfl
    have hcz20_2 : wc.cell? ⟨gb121, 2, none⟩ = some (.int .i64 a2_2) := (zaY BK121.out 2).trans rfl
    have hfz20_0 := zbY BK121.out 0
    have hfz20_1 := zbY BK121.out 1
    have hfz20_2 := zbY BK121.out 2
    go_upto_region 4 with (first | ((with_reducible refine gate_callee (f := 38) rfl ?_); refine goesL_ (some 24) rfl rfl Tryd.func38 (by kernel_rfl) rfl #[.int .i64 a2_0] rfl (by (try simp only [List.map_toArray, List.map_cons, List.map_nil]); first | done | rfl | (simp only [List.length_drop, List.length_take]; rfl)) ?_; (with_reducible refine (spec_l4row.calls a2_0 t122 t123 t124 _ A16.out).mono ?_); rintro e w21 ⟨rfl, hb⟩; refine ⟨_, rfl, ?_⟩; have n0_ := amZ (zkY (g := gb119) (o := .cells #[.slice A0_0 l0_0.length c0_0, .slice A0_1 l0_1.length c0_1] 32 (0, 0)) bkZ hb); have n1_ := amZ (zkY (g := gb120) (o := .cells #[.int .i64 a1_0, .int .i64 a1_1, .slice A1_2 l1_2.length c1_2, .slice A1_3 l1_3.length c1_3] 45 (0, 0)) bkZ hb); have n2_ := amZ (zkY (g := gb121) (o := .cells #[.int .i64 a2_0, .int .i64 a2_1, .int .i64 a2_2] 51 (0, 0)) bkZ hb); have n3_ := amZ (zcY bwZ hb); clear BK119; clear BK120; clear BK121; clear HB; have BK119 := n0_; have BK120 := n1_; have BK121 := n2_; have HB := n3_; clear n0_ n1_ n2_ n3_; (try clear hb); (try clear hb2); (try clear hk); (try clear hi)))
    (try simp only [Act.put, List.setIfInBounds_toArray, List.set_cons_zero, List.set_cons_succ])
    go_cut [45] (fun v45 wc => ∃ (kq : Nat) (x45_16 : Bool), v45 = .bool x45_16 ∧ Aside0 (spec_l4insOK.j1 kq x45_16 l0_0 l0_1 a1_0 a1_1 l1_2 l1_3 a2_0 a2_1 a2_2 = some r) ∧ Aside0 (kq ≤ kj3) ∧ Aside0 (wc.heap[gb119]? = some (.cells #[(.slice A0_0 l0_0.length c0_0), (.slice A0_1 l0_1.length c0_1)] 32 (0, 0))) ∧ Aside0 (wc.heap[gb120]? = some (.cells #[.int .i64 a1_0, .int .i64 a1_1, (.slice A1_2 l1_2.length c1_2), (.slice A1_3 l1_3.length c1_3)] 45 (0, 0))) ∧ Aside0 (wc.heap[gb121]? = some (.cells #[.int .i64 a2_0, .int .i64 a2_1, .int .i64 a2_2] 51 (0, 0))) ∧ Aside0 (Below w.heap.size w wc))
    case first =>
     have H := HC17.out
     clear HC17
     by_cases c22 : 0 < (t122.size : Int)
     ·
      rw [if_pos c22] at H
      have c22b0 : decide (0 < (t122.size : Int)) = true := decide_eq_true c22
      have c22b1 : decide (0 < t122.size) = true := decide_eq_true (by omega)
      clear c22
      (first | rw [c22b0] | (simp only [i64_w, i32_w]; rw [c22b0]) | skip)
      replace H := Option.bind_eq_some_iff.mp H
      obtain ⟨t125, A240, H⟩ := H
      replace H : (if t125 = true then (if 1 < (t122.size : Int) then ((spec_l4operand.f l0_0 l0_1 a1_0 a1_1 l1_2 l1_3 (bt t122 1) a2_2).bind fun t126 => (spec_l4insOK.j1 kj3 (!t126) l0_0 l0_1 a1_0 a1_1 l1_2 l1_3 a2_0 a2_1 a2_2)) else (none)) else (spec_l4insOK.j1 kj3 true l0_0 l0_1 a1_0 a1_1 l1_2 l1_3 a2_0 a2_1 a2_2)) = some r := H
      have A24 := amZ A240
      clear A240
      by_cases c25 : t125 = true
      ·
       subst c25
       have H1 : (if 1 < (t122.size : Int) then ((spec_l4operand.f l0_0 l0_1 a1_0 a1_1 l1_2 l1_3 (bt t122 1) a2_2).bind fun t126 => (spec_l4insOK.j1 kj3 (!t126) l0_0 l0_1 a1_0 a1_1 l1_2 l1_3 a2_0 a2_1 a2_2)) else (none)) = some r := by rw [if_pos rfl] at H; exact H
       clear H
       have H := H1
       clear H1
       by_cases c26 : 1 < (t122.size : Int)
       ·
        rw [if_pos c26] at H
        have c26b0 : decide (1 < (t122.size : Int)) = true := decide_eq_true c26
        have c26b1 : decide (1 < t122.size) = true := decide_eq_true (by omega)
        clear c26
        replace H := Option.bind_eq_some_iff.mp H
        obtain ⟨t126, A280, H⟩ := H
        replace H : (spec_l4insOK.j1 kj3 (!t126) l0_0 l0_1 a1_0 a1_1 l1_2 l1_3 a2_0 a2_1 a2_2) = some r := H
        have A28 := amZ A280
        clear A280
        have H' := amZ H
        clear H
        try go_wp2
        have n0_ := amZ (zhY BK119.out)
        have n1_ := amZ (zhY BK120.out)
        have n2_ := amZ (zhY BK121.out)
        have n3_ := amZ (below_drew1 HB.out)
        clear BK119
        clear BK120
        clear BK121
        clear HB
        have BK119 := n0_
        have BK120 := n1_
        have BK121 := n2_
        have HB := n3_
        clear n0_ n1_ n2_ n3_
        have p23 : 0 ≤ (0 : Int) := (by omega)
        have q23 : 0 < t122.size := (by have : (0 : Int) < (t122.size : Int) := odZ; omega)
        have hx23 : ∀ h : 0 < t122.size, ((t122[0]'h).toNat : Int) = bt t122 0 := bt_at t122 0
        clear p23
        have qi23 : (0 < (t122.size : Int)) = True := eq_true odZ
        replace q23 := eq_true q23
        refine start_ (n := 18) (S := fun w' => w'.cell? ⟨gb119, 0, none⟩ = some (.slice A0_0 l0_0.length c0_0) ∧ w'.cell? ⟨gb119, 1, none⟩ = some (.slice A0_1 l0_1.length c0_1) ∧ w'.cell? ⟨gb120, 0, none⟩ = some (.int .i64 a1_0) ∧ w'.cell? ⟨gb120, 1, none⟩ = some (.int .i64 a1_1) ∧ w'.cell? ⟨gb120, 2, none⟩ = some (.slice A1_2 l1_2.length c1_2) ∧ w'.cell? ⟨gb120, 3, none⟩ = some (.slice A1_3 l1_3.length c1_3) ∧ w'.cell? ⟨gb121, 0, none⟩ = some (.int .i64 a2_0) ∧ w'.cell? ⟨gb121, 1, none⟩ = some (.int .i64 a2_1) ∧ w'.cell? ⟨gb121, 2, none⟩ = some (.int .i64 a2_2)) (ds := []) #[false, false, false, false, false, false, false, false, false, false, false, false, false, false, false, false, false, false] (by kernel_rfl) rfl rfl ⟨(zaY BK119.out 0).trans rfl, (zaY BK119.out 1).trans rfl, (zaY BK120.out 0).trans rfl, (zaY BK120.out 1).trans rfl, (zaY BK120.out 2).trans rfl, (zaY BK120.out 3).trans rfl, (zaY BK121.out 0).trans rfl, (zaY BK121.out 1).trans rfl, (zaY BK121.out 2).trans rfl⟩ (fun hHeld => ?_); refine with_tabW spec_l4insOK.tab4 spec_l4insOK.bits4 (fun HT_ HW_ => ?_)
        generalize w21.drew = w29 at BK119 BK120 BK121 HB hHeld ⊢
        refine pure_ (i := 2) (N := some 30) (v := ?_) (a' := ?_) #[false, false, true, false, false, false, false, false, false, false, false, false, false, false, false, false, false, false] rfl rfl (any_of HT_.out (by kernel_rfl)) (fun _ _ _ h => h) (Or.inl ⟨by rfl, ?_⟩) ?_ ?_
        rotate_left
        ·
         intro w'
         go_simp
         with_reducible rfl
        rotate_left
        ·
         simp only [Act.put, List.setIfInBounds_toArray, List.set_cons_zero, List.set_cons_succ, i64_w, i32_w]
         rfl
        refine pure_ (i := 4) (N := some 32) (v := ?_) (a' := ?_) #[false, false, true, false, true, false, false, false, false, false, false, false, false, false, false, false, false, false] rfl rfl (any_of HT_.out (by kernel_rfl)) (fun _ _ _ h => h) (Or.inl ⟨by rfl, ?_⟩) ?_ ?_
        rotate_left
        ·
         intro w'
         go_simp
         with_reducible rfl
        rotate_left
        ·
         simp only [Act.put, List.setIfInBounds_toArray, List.set_cons_zero, List.set_cons_succ, i64_w, i32_w]
         rfl
        refine take_ (i := 0) (N := some 28) (v := ?_) (a' := ?_) #[true, false, true, false, true, false, false, false, false, false, false, false, false, false, false, false, false, false] rfl rfl (take_ofW HT_.out HW_.out (by kernel_rfl)) (fun _ _ _ h => h) (Or.inl ⟨by rfl, ?_⟩) hHeld ?_ ?_
        rotate_left
        ·
         rintro w' ⟨s0, s1, s2, s3, s4, s5, s6, s7, s8⟩
         go_simp
         with_reducible rfl
        rotate_left
        ·
         simp only [Act.put, List.setIfInBounds_toArray, List.set_cons_zero, List.set_cons_succ, i64_w, i32_w]
         rfl
        refine take_ (i := 1) (N := some 29) (v := ?_) (a' := ?_) #[true, true, true, false, true, false, false, false, false, false, false, false, false, false, false, false, false, false] rfl rfl (take_ofW HT_.out HW_.out (by kernel_rfl)) (fun _ _ _ h => h) (Or.inl ⟨by rfl, ?_⟩) hHeld ?_ ?_
        rotate_left
        ·
         rintro w' ⟨s0, s1, s2, s3, s4, s5, s6, s7, s8⟩
         go_simp
         with_reducible rfl
        rotate_left
        ·
         simp only [Act.put, List.setIfInBounds_toArray, List.set_cons_zero, List.set_cons_succ, i64_w, i32_w]
         rfl
        refine take_ (i := 3) (N := some 31) (v := ?_) (a' := ?_) #[true, true, true, true, true, false, false, false, false, false, false, false, false, false, false, false, false, false] rfl rfl (take_ofW HT_.out HW_.out (by kernel_rfl)) (fun _ _ _ h => h) (Or.inl ⟨by rfl, ?_⟩) hHeld ?_ ?_
        rotate_left
        ·
         rintro w' ⟨s0, s1, s2, s3, s4, s5, s6, s7, s8⟩
         go_simp
         with_reducible rfl
        rotate_left
        ·
         simp only [Act.put, List.setIfInBounds_toArray, List.set_cons_zero, List.set_cons_succ, i64_w, i32_w]
         rfl
        refine take_ (i := 5) (N := some 33) (v := ?_) (a' := ?_) #[true, true, true, true, true, true, false, false, false, false, false, false, false, false, false, false, false, false] rfl rfl (take_ofW HT_.out HW_.out (by kernel_rfl)) (fun _ _ _ h => h) (Or.inl ⟨by rfl, ?_⟩) hHeld ?_ ?_
        rotate_left
        ·
         rintro w' ⟨s0, s1, s2, s3, s4, s5, s6, s7, s8⟩
         go_simp
         with_reducible rfl
        rotate_left
        ·
         simp only [Act.put, List.setIfInBounds_toArray, List.set_cons_zero, List.set_cons_succ, i64_w, i32_w]
         rfl
        refine one_ (i := 6) (N := some 34) #[true, true, true, true, true, true, true, false, false, false, false, false, false, false, false, false, false, false] rfl rfl (one_of HT_.out (by kernel_rfl)) (by decide) (fun K hK => ?_)
        refine goes_ Tryd.func55 (by kernel_rfl) rfl #[.agg #[.slice A0_0 l0_0.length c0_0, .slice A0_1 l0_1.length c0_1], .agg #[.int .i64 a1_0, .int .i64 a1_1, .slice A1_2 l1_2.length c1_2, .slice A1_3 l1_3.length c1_3], .int .u8 (bt t122 0), .int .i64 a2_1] (by rfl) rfl rfl (by (try simp only [List.map_toArray, List.map_cons, List.map_nil]); first | done | rfl | (simp only [List.length_drop, List.length_take]; rfl)) ?_
        with_reducible refine (spec_l4operand.calls _ _ l0_0 _ _ l0_1 a1_0 a1_1 _ _ l1_2 _ _ l1_3 (bt t122 0) a2_1 true _ ?side1 ?side2 ?side3 ?side4 ?side5 ?side6 ?side7 ?side8 A24.out).mono ?_
        (case side1 => repeat (first | exact (Kd.C_below HR0_0.out HB.out) | (with_reducible refine Kd.C_alloc ?_ _) | (with_reducible refine Kd.C_drewN ?_ _) | (with_reducible refine Kd.C_drew ?_)))
        (case side2 => exact HC0_0.out)
        (case side3 => repeat (first | exact (Kd.C_below HR0_1.out HB.out) | (with_reducible refine Kd.C_alloc ?_ _) | (with_reducible refine Kd.C_drewN ?_ _) | (with_reducible refine Kd.C_drew ?_)))
        (case side4 => exact HC0_1.out)
        (case side5 => repeat (first | exact (Kd.C_below HR1_2.out HB.out) | (with_reducible refine Kd.C_alloc ?_ _) | (with_reducible refine Kd.C_drewN ?_ _) | (with_reducible refine Kd.C_drew ?_)))
        (case side6 => exact HC1_2.out)
        (case side7 => repeat (first | exact (Kd.C_below HR1_3.out HB.out) | (with_reducible refine Kd.C_alloc ?_ _) | (with_reducible refine Kd.C_drewN ?_ _) | (with_reducible refine Kd.C_drew ?_)))
        (case side8 => exact HC1_3.out)
        rintro e w30 ⟨rfl, hb⟩
        refine ⟨_, rfl, ?_⟩
        have n0_ := amZ (zkY (g := gb119) (o := .cells #[.slice A0_0 l0_0.length c0_0, .slice A0_1 l0_1.length c0_1] 32 (0, 0)) bkZ hb)
        have n1_ := amZ (zkY (g := gb120) (o := .cells #[.int .i64 a1_0, .int .i64 a1_1, .slice A1_2 l1_2.length c1_2, .slice A1_3 l1_3.length c1_3] 45 (0, 0)) bkZ hb)
        have n2_ := amZ (zkY (g := gb121) (o := .cells #[.int .i64 a2_0, .int .i64 a2_1, .int .i64 a2_2] 51 (0, 0)) bkZ hb)
        have n3_ := amZ (zcY bwZ hb)
        clear BK119
        clear BK120
        clear BK121
        clear HB
        have BK119 := n0_
        have BK120 := n1_
        have BK121 := n2_
        have HB := n3_
        clear n0_ n1_ n2_ n3_
        (try clear hb)
        (try clear hb2)
        (try clear hk)
        (try clear hi)
        have p27 : 0 ≤ (1 : Int) := (by omega)
        have q27 : 1 < t122.size := (by have : (1 : Int) < (t122.size : Int) := odZ; omega)
        have hx27 : ∀ h : 1 < t122.size, ((t122[1]'h).toNat : Int) = bt t122 1 := bt_at t122 1
        clear p27
        have qi27 : (1 < (t122.size : Int)) = True := eq_true odZ
        replace q27 := eq_true q27
        refine hK.out _ _ ⟨(zaY BK119.out 0).trans rfl, (zaY BK119.out 1).trans rfl, (zaY BK120.out 0).trans rfl, (zaY BK120.out 1).trans rfl, (zaY BK120.out 2).trans rfl, (zaY BK120.out 3).trans rfl, (zaY BK121.out 0).trans rfl, (zaY BK121.out 1).trans rfl, (zaY BK121.out 2).trans rfl⟩ (fun hHeld => ?_)
        clear hK K
        refine norm_ (a' := ?_) ?_ ?_
        rotate_left
        ·
         show Act.put _ (some 34) _ = _
         simp only [Act.put, List.setIfInBounds_toArray, List.set_cons_zero, List.set_cons_succ, i64_w, i32_w]
         rfl
        refine pure_ (i := 7) (N := some 35) (v := ?_) (a' := ?_) #[true, true, true, true, true, true, true, true, false, false, false, false, false, false, false, false, false, false] rfl rfl (any_of HT_.out (by kernel_rfl)) (fun _ _ _ h => h) (Or.inl ⟨by rfl, ?_⟩) ?_ ?_
        rotate_left
        ·
         intro w'
         go_simp
         with_reducible rfl
        rotate_left
        ·
         simp only [Act.put, List.setIfInBounds_toArray, List.set_cons_zero, List.set_cons_succ, i64_w, i32_w]
         rfl
        refine pure_ (i := 8) (N := some 36) (v := ?_) (a' := ?_) #[true, true, true, true, true, true, true, true, true, false, false, false, false, false, false, false, false, false] rfl rfl (any_of HT_.out (by kernel_rfl)) (fun _ _ _ h => h) (Or.inl ⟨by rfl, ?_⟩) ?_ ?_
        rotate_left
        ·
         intro w'
         go_simp
         with_reducible rfl
        rotate_left
        ·
         simp only [Act.put, List.setIfInBounds_toArray, List.set_cons_zero, List.set_cons_succ, i64_w, i32_w]
         rfl
        refine pure_ (i := 11) (N := some 39) (v := ?_) (a' := ?_) #[true, true, true, true, true, true, true, true, true, false, false, true, false, false, false, false, false, false] rfl rfl (any_of HT_.out (by kernel_rfl)) (fun _ _ _ h => h) (Or.inl ⟨by rfl, ?_⟩) ?_ ?_
        rotate_left
        ·
         intro w'
         go_simp
         with_reducible rfl
        rotate_left
        ·
         simp only [Act.put, List.setIfInBounds_toArray, List.set_cons_zero, List.set_cons_succ, i64_w, i32_w]
         rfl
        refine pure_ (i := 13) (N := some 41) (v := ?_) (a' := ?_) #[true, true, true, true, true, true, true, true, true, false, false, true, false, true, false, false, false, false] rfl rfl (any_of HT_.out (by kernel_rfl)) (fun _ _ _ h => h) (Or.inl ⟨by rfl, ?_⟩) ?_ ?_
        rotate_left
        ·
         intro w'
         go_simp
         with_reducible rfl
        rotate_left
        ·
         simp only [Act.put, List.setIfInBounds_toArray, List.set_cons_zero, List.set_cons_succ, i64_w, i32_w]
         rfl
        refine take_ (i := 9) (N := some 37) (v := ?_) (a' := ?_) #[true, true, true, true, true, true, true, true, true, true, false, true, false, true, false, false, false, false] rfl rfl (take_ofW HT_.out HW_.out (by kernel_rfl)) (fun _ _ _ h => h) (Or.inl ⟨by rfl, ?_⟩) hHeld ?_ ?_
        rotate_left
        ·
         rintro w' ⟨s0, s1, s2, s3, s4, s5, s6, s7, s8⟩
         go_simp
         with_reducible rfl
        rotate_left
        ·
         simp only [Act.put, List.setIfInBounds_toArray, List.set_cons_zero, List.set_cons_succ, i64_w, i32_w]
         rfl
        refine take_ (i := 10) (N := some 38) (v := ?_) (a' := ?_) #[true, true, true, true, true, true, true, true, true, true, true, true, false, true, false, false, false, false] rfl rfl (take_ofW HT_.out HW_.out (by kernel_rfl)) (fun _ _ _ h => h) (Or.inl ⟨by rfl, ?_⟩) hHeld ?_ ?_
        rotate_left
        ·
         rintro w' ⟨s0, s1, s2, s3, s4, s5, s6, s7, s8⟩
         go_simp
         with_reducible rfl
        rotate_left
        ·
         simp only [Act.put, List.setIfInBounds_toArray, List.set_cons_zero, List.set_cons_succ, i64_w, i32_w]
         rfl
        refine take_ (i := 12) (N := some 40) (v := ?_) (a' := ?_) #[true, true, true, true, true, true, true, true, true, true, true, true, true, true, false, false, false, false] rfl rfl (take_ofW HT_.out HW_.out (by kernel_rfl)) (fun _ _ _ h => h) (Or.inl ⟨by rfl, ?_⟩) hHeld ?_ ?_
        rotate_left
        ·
         rintro w' ⟨s0, s1, s2, s3, s4, s5, s6, s7, s8⟩
         go_simp
         with_reducible rfl
        rotate_left
        ·
         simp only [Act.put, List.setIfInBounds_toArray, List.set_cons_zero, List.set_cons_succ, i64_w, i32_w]
         rfl
        refine take_ (i := 14) (N := some 42) (v := ?_) (a' := ?_) #[true, true, true, true, true, true, true, true, true, true, true, true, true, true, true, false, false, false] rfl rfl (take_ofW HT_.out HW_.out (by kernel_rfl)) (fun _ _ _ h => h) (Or.inl ⟨by rfl, ?_⟩) hHeld ?_ ?_
        rotate_left
        ·
         rintro w' ⟨s0, s1, s2, s3, s4, s5, s6, s7, s8⟩
         go_simp
         with_reducible rfl
        rotate_left
        ·
         simp only [Act.put, List.setIfInBounds_toArray, List.set_cons_zero, List.set_cons_succ, i64_w, i32_w]
         rfl
        refine one_ (i := 15) (N := some 43) #[true, true, true, true, true, true, true, true, true, true, true, true, true, true, true, true, false, false] rfl rfl (one_of HT_.out (by kernel_rfl)) (by decide) (fun K hK => ?_)
        refine goes_ Tryd.func55 (by kernel_rfl) rfl #[.agg #[.slice A0_0 l0_0.length c0_0, .slice A0_1 l0_1.length c0_1], .agg #[.int .i64 a1_0, .int .i64 a1_1, .slice A1_2 l1_2.length c1_2, .slice A1_3 l1_3.length c1_3], .int .u8 (bt t122 1), .int .i64 a2_2] (by rfl) rfl rfl (by (try simp only [List.map_toArray, List.map_cons, List.map_nil]); first | done | rfl | (simp only [List.length_drop, List.length_take]; rfl)) ?_
        with_reducible refine (spec_l4operand.calls _ _ l0_0 _ _ l0_1 a1_0 a1_1 _ _ l1_2 _ _ l1_3 (bt t122 1) a2_2 t126 _ ?side1 ?side2 ?side3 ?side4 ?side5 ?side6 ?side7 ?side8 A28.out).mono ?_
        (case side1 => repeat (first | exact (Kd.C_below HR0_0.out HB.out) | (with_reducible refine Kd.C_alloc ?_ _) | (with_reducible refine Kd.C_drewN ?_ _) | (with_reducible refine Kd.C_drew ?_)))
        (case side2 => exact HC0_0.out)
        (case side3 => repeat (first | exact (Kd.C_below HR0_1.out HB.out) | (with_reducible refine Kd.C_alloc ?_ _) | (with_reducible refine Kd.C_drewN ?_ _) | (with_reducible refine Kd.C_drew ?_)))
        (case side4 => exact HC0_1.out)
        (case side5 => repeat (first | exact (Kd.C_below HR1_2.out HB.out) | (with_reducible refine Kd.C_alloc ?_ _) | (with_reducible refine Kd.C_drewN ?_ _) | (with_reducible refine Kd.C_drew ?_)))
        (case side6 => exact HC1_2.out)
        (case side7 => repeat (first | exact (Kd.C_below HR1_3.out HB.out) | (with_reducible refine Kd.C_alloc ?_ _) | (with_reducible refine Kd.C_drewN ?_ _) | (with_reducible refine Kd.C_drew ?_)))
        (case side8 => exact HC1_3.out)
        rintro e w31 ⟨rfl, hb⟩
        refine ⟨_, rfl, ?_⟩
        have n0_ := amZ (zkY (g := gb119) (o := .cells #[.slice A0_0 l0_0.length c0_0, .slice A0_1 l0_1.length c0_1] 32 (0, 0)) bkZ hb)
        have n1_ := amZ (zkY (g := gb120) (o := .cells #[.int .i64 a1_0, .int .i64 a1_1, .slice A1_2 l1_2.length c1_2, .slice A1_3 l1_3.length c1_3] 45 (0, 0)) bkZ hb)
        have n2_ := amZ (zkY (g := gb121) (o := .cells #[.int .i64 a2_0, .int .i64 a2_1, .int .i64 a2_2] 51 (0, 0)) bkZ hb)
        have n3_ := amZ (zcY bwZ hb)
        clear BK119
        clear BK120
        clear BK121
        clear HB
        have BK119 := n0_
        have BK120 := n1_
        have BK121 := n2_
        have HB := n3_
        clear n0_ n1_ n2_ n3_
        (try clear hb)
        (try clear hb2)
        (try clear hk)
        (try clear hi)
        refine hK.out _ _ ⟨(zaY BK119.out 0).trans rfl, (zaY BK119.out 1).trans rfl, (zaY BK120.out 0).trans rfl, (zaY BK120.out 1).trans rfl, (zaY BK120.out 2).trans rfl, (zaY BK120.out 3).trans rfl, (zaY BK121.out 0).trans rfl, (zaY BK121.out 1).trans rfl, (zaY BK121.out 2).trans rfl⟩ (fun hHeld => ?_)
        clear hK K
        refine norm_ (a' := ?_) ?_ ?_
        rotate_left
        ·
         show Act.put _ (some 43) _ = _
         simp only [Act.put, List.setIfInBounds_toArray, List.set_cons_zero, List.set_cons_succ, i64_w, i32_w]
         rfl
        refine pure_ (i := 16) (N := some 44) (v := ?_) (a' := ?_) #[true, true, true, true, true, true, true, true, true, true, true, true, true, true, true, true, true, false] rfl rfl (any_of HT_.out (by kernel_rfl)) (fun _ _ _ h => h) (Or.inl ⟨by rfl, ?_⟩) ?_ ?_
        rotate_left
        ·
         intro w'
         go_simp
         with_reducible rfl
        rotate_left
        ·
         simp only [Act.put, List.setIfInBounds_toArray, List.set_cons_zero, List.set_cons_succ, i64_w, i32_w]
         rfl
        refine pure_ (i := 17) (N := some 45) (v := ?_) (a' := ?_) #[true, true, true, true, true, true, true, true, true, true, true, true, true, true, true, true, true, true] rfl rfl (any_of HT_.out (by kernel_rfl)) (fun _ _ _ h => h) (Or.inl ⟨by rfl, ?_⟩) ?_ ?_
        rotate_left
        ·
         intro w'
         go_simp
         with_reducible rfl
        rotate_left
        ·
         simp only [Act.put, List.setIfInBounds_toArray, List.set_cons_zero, List.set_cons_succ, i64_w, i32_w]
         rfl
        refine done_ (done_of HT_.out (by kernel_rfl)) ?_
        try go_wp2
        go_meet
        case rel => exact ⟨_, (!t126), (by first | rfl | (simp; done) | (simp [*]; done)), H', ⟨by have := HJ3.out; first | omega | exact Nat.le_refl _⟩, ⟨by (with_reducible repeat (first | refine zeY ?_ _ | refine zhY ?_ | refine zfY ?_ _)); exact BK119.out⟩, ⟨by (with_reducible repeat (first | refine zeY ?_ _ | refine zhY ?_ | refine zfY ?_ _)); exact BK120.out⟩, ⟨by (with_reducible repeat (first | refine zeY ?_ _ | refine zhY ?_ | refine zfY ?_ _)); exact BK121.out⟩, ⟨bwZ⟩⟩
       ·
        rw [if_neg c26] at H
        exact absurd H (by simp)
      ·
       replace c25 := Bool.eq_false_iff.mpr c25
       subst c25
       have H1 : (spec_l4insOK.j1 kj3 true l0_0 l0_1 a1_0 a1_1 l1_2 l1_3 a2_0 a2_1 a2_2) = some r := by rw [if_neg (show ¬ (false = true) by decide)] at H; exact H
       clear H
       have H := H1
       clear H1
       have H' := amZ H
       clear H
       try go_wp2
       have n0_ := amZ (zhY BK119.out)
       have n1_ := amZ (zhY BK120.out)
       have n2_ := amZ (zhY BK121.out)
       have n3_ := amZ (below_drew1 HB.out)
       clear BK119
       clear BK120
       clear BK121
       clear HB
       have BK119 := n0_
       have BK120 := n1_
       have BK121 := n2_
       have HB := n3_
       clear n0_ n1_ n2_ n3_
       have p23 : 0 ≤ (0 : Int) := (by omega)
       have q23 : 0 < t122.size := (by have : (0 : Int) < (t122.size : Int) := odZ; omega)
       have hx23 : ∀ h : 0 < t122.size, ((t122[0]'h).toNat : Int) = bt t122 0 := bt_at t122 0
       clear p23
       have qi23 : (0 < (t122.size : Int)) = True := eq_true odZ
       replace q23 := eq_true q23
       refine start_ (n := 18) (S := fun w' => w'.cell? ⟨gb119, 0, none⟩ = some (.slice A0_0 l0_0.length c0_0) ∧ w'.cell? ⟨gb119, 1, none⟩ = some (.slice A0_1 l0_1.length c0_1) ∧ w'.cell? ⟨gb120, 0, none⟩ = some (.int .i64 a1_0) ∧ w'.cell? ⟨gb120, 1, none⟩ = some (.int .i64 a1_1) ∧ w'.cell? ⟨gb120, 2, none⟩ = some (.slice A1_2 l1_2.length c1_2) ∧ w'.cell? ⟨gb120, 3, none⟩ = some (.slice A1_3 l1_3.length c1_3) ∧ w'.cell? ⟨gb121, 0, none⟩ = some (.int .i64 a2_0) ∧ w'.cell? ⟨gb121, 1, none⟩ = some (.int .i64 a2_1) ∧ w'.cell? ⟨gb121, 2, none⟩ = some (.int .i64 a2_2)) (ds := []) #[false, false, false, false, false, false, false, false, false, false, false, false, false, false, false, false, false, false] (by kernel_rfl) rfl rfl ⟨(zaY BK119.out 0).trans rfl, (zaY BK119.out 1).trans rfl, (zaY BK120.out 0).trans rfl, (zaY BK120.out 1).trans rfl, (zaY BK120.out 2).trans rfl, (zaY BK120.out 3).trans rfl, (zaY BK121.out 0).trans rfl, (zaY BK121.out 1).trans rfl, (zaY BK121.out 2).trans rfl⟩ (fun hHeld => ?_); refine with_tabW spec_l4insOK.tab4 spec_l4insOK.bits4 (fun HT_ HW_ => ?_)
       generalize w21.drew = w32 at BK119 BK120 BK121 HB hHeld ⊢
       refine pure_ (i := 2) (N := some 30) (v := ?_) (a' := ?_) #[false, false, true, false, false, false, false, false, false, false, false, false, false, false, false, false, false, false] rfl rfl (any_of HT_.out (by kernel_rfl)) (fun _ _ _ h => h) (Or.inl ⟨by rfl, ?_⟩) ?_ ?_
       rotate_left
       ·
        intro w'
        go_simp
        with_reducible rfl
       rotate_left
       ·
        simp only [Act.put, List.setIfInBounds_toArray, List.set_cons_zero, List.set_cons_succ, i64_w, i32_w]
        rfl
       refine pure_ (i := 4) (N := some 32) (v := ?_) (a' := ?_) #[false, false, true, false, true, false, false, false, false, false, false, false, false, false, false, false, false, false] rfl rfl (any_of HT_.out (by kernel_rfl)) (fun _ _ _ h => h) (Or.inl ⟨by rfl, ?_⟩) ?_ ?_
       rotate_left
       ·
        intro w'
        go_simp
        with_reducible rfl
       rotate_left
       ·
        simp only [Act.put, List.setIfInBounds_toArray, List.set_cons_zero, List.set_cons_succ, i64_w, i32_w]
        rfl
       refine take_ (i := 0) (N := some 28) (v := ?_) (a' := ?_) #[true, false, true, false, true, false, false, false, false, false, false, false, false, false, false, false, false, false] rfl rfl (take_ofW HT_.out HW_.out (by kernel_rfl)) (fun _ _ _ h => h) (Or.inl ⟨by rfl, ?_⟩) hHeld ?_ ?_
       rotate_left
       ·
        rintro w' ⟨s0, s1, s2, s3, s4, s5, s6, s7, s8⟩
        go_simp
        with_reducible rfl
       rotate_left
       ·
        simp only [Act.put, List.setIfInBounds_toArray, List.set_cons_zero, List.set_cons_succ, i64_w, i32_w]
        rfl
       refine take_ (i := 1) (N := some 29) (v := ?_) (a' := ?_) #[true, true, true, false, true, false, false, false, false, false, false, false, false, false, false, false, false, false] rfl rfl (take_ofW HT_.out HW_.out (by kernel_rfl)) (fun _ _ _ h => h) (Or.inl ⟨by rfl, ?_⟩) hHeld ?_ ?_
       rotate_left
       ·
        rintro w' ⟨s0, s1, s2, s3, s4, s5, s6, s7, s8⟩
        go_simp
        with_reducible rfl
       rotate_left
       ·
        simp only [Act.put, List.setIfInBounds_toArray, List.set_cons_zero, List.set_cons_succ, i64_w, i32_w]
        rfl
       refine take_ (i := 3) (N := some 31) (v := ?_) (a' := ?_) #[true, true, true, true, true, false, false, false, false, false, false, false, false, false, false, false, false, false] rfl rfl (take_ofW HT_.out HW_.out (by kernel_rfl)) (fun _ _ _ h => h) (Or.inl ⟨by rfl, ?_⟩) hHeld ?_ ?_
       rotate_left
       ·
        rintro w' ⟨s0, s1, s2, s3, s4, s5, s6, s7, s8⟩
        go_simp
        with_reducible rfl
       rotate_left
       ·
        simp only [Act.put, List.setIfInBounds_toArray, List.set_cons_zero, List.set_cons_succ, i64_w, i32_w]
        rfl
       refine take_ (i := 5) (N := some 33) (v := ?_) (a' := ?_) #[true, true, true, true, true, true, false, false, false, false, false, false, false, false, false, false, false, false] rfl rfl (take_ofW HT_.out HW_.out (by kernel_rfl)) (fun _ _ _ h => h) (Or.inl ⟨by rfl, ?_⟩) hHeld ?_ ?_
       rotate_left
       ·
        rintro w' ⟨s0, s1, s2, s3, s4, s5, s6, s7, s8⟩
        go_simp
        with_reducible rfl
       rotate_left
       ·
        simp only [Act.put, List.setIfInBounds_toArray, List.set_cons_zero, List.set_cons_succ, i64_w, i32_w]
        rfl
       refine one_ (i := 6) (N := some 34) #[true, true, true, true, true, true, true, false, false, false, false, false, false, false, false, false, false, false] rfl rfl (one_of HT_.out (by kernel_rfl)) (by decide) (fun K hK => ?_)
       refine goes_ Tryd.func55 (by kernel_rfl) rfl #[.agg #[.slice A0_0 l0_0.length c0_0, .slice A0_1 l0_1.length c0_1], .agg #[.int .i64 a1_0, .int .i64 a1_1, .slice A1_2 l1_2.length c1_2, .slice A1_3 l1_3.length c1_3], .int .u8 (bt t122 0), .int .i64 a2_1] (by rfl) rfl rfl (by (try simp only [List.map_toArray, List.map_cons, List.map_nil]); first | done | rfl | (simp only [List.length_drop, List.length_take]; rfl)) ?_
       with_reducible refine (spec_l4operand.calls _ _ l0_0 _ _ l0_1 a1_0 a1_1 _ _ l1_2 _ _ l1_3 (bt t122 0) a2_1 false _ ?side1 ?side2 ?side3 ?side4 ?side5 ?side6 ?side7 ?side8 A24.out).mono ?_
       (case side1 => repeat (first | exact (Kd.C_below HR0_0.out HB.out) | (with_reducible refine Kd.C_alloc ?_ _) | (with_reducible refine Kd.C_drewN ?_ _) | (with_reducible refine Kd.C_drew ?_)))
       (case side2 => exact HC0_0.out)
       (case side3 => repeat (first | exact (Kd.C_below HR0_1.out HB.out) | (with_reducible refine Kd.C_alloc ?_ _) | (with_reducible refine Kd.C_drewN ?_ _) | (with_reducible refine Kd.C_drew ?_)))
       (case side4 => exact HC0_1.out)
       (case side5 => repeat (first | exact (Kd.C_below HR1_2.out HB.out) | (with_reducible refine Kd.C_alloc ?_ _) | (with_reducible refine Kd.C_drewN ?_ _) | (with_reducible refine Kd.C_drew ?_)))
       (case side6 => exact HC1_2.out)
       (case side7 => repeat (first | exact (Kd.C_below HR1_3.out HB.out) | (with_reducible refine Kd.C_alloc ?_ _) | (with_reducible refine Kd.C_drewN ?_ _) | (with_reducible refine Kd.C_drew ?_)))
       (case side8 => exact HC1_3.out)
       rintro e w33 ⟨rfl, hb⟩
       refine ⟨_, rfl, ?_⟩
       have n0_ := amZ (zkY (g := gb119) (o := .cells #[.slice A0_0 l0_0.length c0_0, .slice A0_1 l0_1.length c0_1] 32 (0, 0)) bkZ hb)
       have n1_ := amZ (zkY (g := gb120) (o := .cells #[.int .i64 a1_0, .int .i64 a1_1, .slice A1_2 l1_2.length c1_2, .slice A1_3 l1_3.length c1_3] 45 (0, 0)) bkZ hb)
       have n2_ := amZ (zkY (g := gb121) (o := .cells #[.int .i64 a2_0, .int .i64 a2_1, .int .i64 a2_2] 51 (0, 0)) bkZ hb)
       have n3_ := amZ (zcY bwZ hb)
       clear BK119
       clear BK120
       clear BK121
       clear HB
       have BK119 := n0_
       have BK120 := n1_
       have BK121 := n2_
       have HB := n3_
       clear n0_ n1_ n2_ n3_
       (try clear hb)
       (try clear hb2)
       (try clear hk)
       (try clear hi)
       refine hK.out _ _ ⟨(zaY BK119.out 0).trans rfl, (zaY BK119.out 1).trans rfl, (zaY BK120.out 0).trans rfl, (zaY BK120.out 1).trans rfl, (zaY BK120.out 2).trans rfl, (zaY BK120.out 3).trans rfl, (zaY BK121.out 0).trans rfl, (zaY BK121.out 1).trans rfl, (zaY BK121.out 2).trans rfl⟩ (fun hHeld => ?_)
       clear hK K
       refine norm_ (a' := ?_) ?_ ?_
       rotate_left
       ·
        show Act.put _ (some 34) _ = _
        simp only [Act.put, List.setIfInBounds_toArray, List.set_cons_zero, List.set_cons_succ, i64_w, i32_w]
        rfl
       refine pure_ (i := 7) (N := some 35) (v := ?_) (a' := ?_) #[true, true, true, true, true, true, true, true, false, false, false, false, false, false, false, false, false, false] rfl rfl (any_of HT_.out (by kernel_rfl)) (fun _ _ _ h => h) (Or.inl ⟨by rfl, ?_⟩) ?_ ?_
       rotate_left
       ·
        intro w'
        go_simp
        with_reducible rfl
       rotate_left
       ·
        simp only [Act.put, List.setIfInBounds_toArray, List.set_cons_zero, List.set_cons_succ, i64_w, i32_w]
        rfl
       refine pure_ (i := 8) (N := some 36) (v := ?_) (a' := ?_) #[true, true, true, true, true, true, true, true, true, false, false, false, false, false, false, false, false, false] rfl rfl (any_of HT_.out (by kernel_rfl)) (fun _ _ _ h => h) (Or.inl ⟨by rfl, ?_⟩) ?_ ?_
       rotate_left
       ·
        intro w'
        go_simp
        with_reducible rfl
       rotate_left
       ·
        simp only [Act.put, List.setIfInBounds_toArray, List.set_cons_zero, List.set_cons_succ, i64_w, i32_w]
        rfl
       refine pure_ (i := 9) (N := some 37) (v := undef) (a' := ?_) #[true, true, true, true, true, true, true, true, true, true, false, false, false, false, false, false, false, false] rfl rfl (any_of HT_.out (by kernel_rfl)) (fun _ _ _ h => h) (Or.inr ⟨by rfl, rfl⟩) ?_ ?_
       rotate_left
       ·
        simp only [Act.put, List.setIfInBounds_toArray, List.set_cons_zero, List.set_cons_succ, i64_w, i32_w]
        rfl
       refine pure_ (i := 10) (N := some 38) (v := undef) (a' := ?_) #[true, true, true, true, true, true, true, true, true, true, true, false, false, false, false, false, false, false] rfl rfl (any_of HT_.out (by kernel_rfl)) (fun _ _ _ h => h) (Or.inr ⟨by rfl, rfl⟩) ?_ ?_
       rotate_left
       ·
        simp only [Act.put, List.setIfInBounds_toArray, List.set_cons_zero, List.set_cons_succ, i64_w, i32_w]
        rfl
       refine pure_ (i := 11) (N := some 39) (v := undef) (a' := ?_) #[true, true, true, true, true, true, true, true, true, true, true, true, false, false, false, false, false, false] rfl rfl (any_of HT_.out (by kernel_rfl)) (fun _ _ _ h => h) (Or.inr ⟨by rfl, rfl⟩) ?_ ?_
       rotate_left
       ·
        simp only [Act.put, List.setIfInBounds_toArray, List.set_cons_zero, List.set_cons_succ, i64_w, i32_w]
        rfl
       refine pure_ (i := 12) (N := some 40) (v := undef) (a' := ?_) #[true, true, true, true, true, true, true, true, true, true, true, true, true, false, false, false, false, false] rfl rfl (any_of HT_.out (by kernel_rfl)) (fun _ _ _ h => h) (Or.inr ⟨by rfl, rfl⟩) ?_ ?_
       rotate_left
       ·
        simp only [Act.put, List.setIfInBounds_toArray, List.set_cons_zero, List.set_cons_succ, i64_w, i32_w]
        rfl
       refine pure_ (i := 13) (N := some 41) (v := undef) (a' := ?_) #[true, true, true, true, true, true, true, true, true, true, true, true, true, true, false, false, false, false] rfl rfl (any_of HT_.out (by kernel_rfl)) (fun _ _ _ h => h) (Or.inr ⟨by rfl, rfl⟩) ?_ ?_
       rotate_left
       ·
        simp only [Act.put, List.setIfInBounds_toArray, List.set_cons_zero, List.set_cons_succ, i64_w, i32_w]
        rfl
       refine pure_ (i := 14) (N := some 42) (v := undef) (a' := ?_) #[true, true, true, true, true, true, true, true, true, true, true, true, true, true, true, false, false, false] rfl rfl (any_of HT_.out (by kernel_rfl)) (fun _ _ _ h => h) (Or.inr ⟨by rfl, rfl⟩) ?_ ?_
       rotate_left
       ·
        simp only [Act.put, List.setIfInBounds_toArray, List.set_cons_zero, List.set_cons_succ, i64_w, i32_w]
        rfl
       refine pure_ (i := 15) (N := some 43) (v := undef) (a' := ?_) #[true, true, true, true, true, true, true, true, true, true, true, true, true, true, true, true, false, false] rfl rfl (any_of HT_.out (by kernel_rfl)) (fun _ _ _ h => h) (Or.inr ⟨by rfl, rfl⟩) ?_ ?_
       rotate_left
       ·
        simp only [Act.put, List.setIfInBounds_toArray, List.set_cons_zero, List.set_cons_succ, i64_w, i32_w]
        rfl
       refine pure_ (i := 16) (N := some 44) (v := undef) (a' := ?_) #[true, true, true, true, true, true, true, true, true, true, true, true, true, true, true, true, true, false] rfl rfl (any_of HT_.out (by kernel_rfl)) (fun _ _ _ h => h) (Or.inr ⟨by rfl, rfl⟩) ?_ ?_
       rotate_left
       ·
        simp only [Act.put, List.setIfInBounds_toArray, List.set_cons_zero, List.set_cons_succ, i64_w, i32_w]
        rfl
       refine pure_ (i := 17) (N := some 45) (v := ?_) (a' := ?_) #[true, true, true, true, true, true, true, true, true, true, true, true, true, true, true, true, true, true] rfl rfl (any_of HT_.out (by kernel_rfl)) (fun _ _ _ h => h) (Or.inl ⟨by rfl, ?_⟩) ?_ ?_
       rotate_left
       ·
        intro w'
        go_simp
        with_reducible rfl
       rotate_left
       ·
        simp only [Act.put, List.setIfInBounds_toArray, List.set_cons_zero, List.set_cons_succ, i64_w, i32_w]
        rfl
       refine done_ (done_of HT_.out (by kernel_rfl)) ?_
       try go_wp2
       go_meet
       case rel => exact ⟨_, (true), (by first | rfl | (simp; done) | (simp [*]; done)), H', ⟨by have := HJ3.out; first | omega | exact Nat.le_refl _⟩, ⟨by (with_reducible repeat (first | refine zeY ?_ _ | refine zhY ?_ | refine zfY ?_ _)); exact BK119.out⟩, ⟨by (with_reducible repeat (first | refine zeY ?_ _ | refine zhY ?_ | refine zfY ?_ _)); exact BK120.out⟩, ⟨by (with_reducible repeat (first | refine zeY ?_ _ | refine zhY ?_ | refine zfY ?_ _)); exact BK121.out⟩, ⟨bwZ⟩⟩
     ·
      rw [if_neg c22] at H
      exact absurd H (by simp)
    case rest =>
     clear HC17
     try clear c1
     try clear c2
     try clear p2
     try clear q2
     try clear hx2
     try clear qi2
     try clear c3
     try clear c5
     try clear c8
     try clear c8b0
     try clear c9
     try clear c10
     try clear c12
     try clear c13
     try clear c15
     try clear c18
     try clear c19
     try clear c22
     try clear c22b0
     try clear c22b1
     try clear p23
     try clear q23
     try clear hx23
     try clear qi23
     try clear c25
     try clear c26
     try clear c26b0
     try clear c26b1
     try clear p27
     try clear q27
     try clear hx27
     try clear qi27
     try clear hcz11_0
     try clear hcz11_1
     try clear hcz11_2
     try clear hcz14_0
     try clear hcz14_1
     try clear hcz14_2
     try clear hcz20_0
     try clear hcz20_1
     try clear hcz20_2
     try clear hfz11_0
     try clear hfz11_1
     try clear hfz11_2
     try clear hfz14_0
     try clear hfz14_1
     try clear hfz14_2
     try clear hfz20_0
     try clear hfz20_1
     try clear hfz20_2
     try clear p2
     try clear p23
     try clear p27
     try clear q23
     try clear q27
     obtain ⟨kq, x45_16, rfl, HA, HJ16, BK119, BK120, BK121, HB⟩ := hcut
     cases kq with
     | zero => exact absurd HA.out (by simp [spec_l4insOK.j1])
     | succ kj16 =>
      have H := HA.out
      clear HA
      simp only [spec_l4insOK.j1] at H
      by_cases c34 : x45_16 = true
      ·
       subst c34
       have H1 : (some false) = some r := by rw [if_pos rfl] at H; exact H
       clear H
       have H := H1
       clear H1
       obtain rfl := Option.some.inj H
       go_wp2
       go_ret
       exact ⟨by first | rfl | (simp [zjY, ziY] <;> rfl) | (simp [*, zjY, ziY] <;> rfl), bwZ⟩
      ·
       replace c34 := Bool.eq_false_iff.mpr c34
       subst c34
       have H1 : (if a2_0 = 10 then (if 0 ≤ a2_1 then (if a2_1 < (l0_1.length : Int) then (spec_l4insOK.l0 kj16 0 a1_0 a1_1 l1_2 l1_3 ((rd_T45 l0_1 a2_1).f0) ((rd_T45 l0_1 a2_1).f1) ((rd_T45 l0_1 a2_1).f2) ((rd_T45 l0_1 a2_1).f3)) else (none)) else (none)) else (some true)) = some r := by rw [if_neg (show ¬ (false = true) by decide)] at H; exact H
       clear H
       have H := H1
       clear H1
       by_cases c35 : a2_0 = 10
       ·
        rw [if_pos c35] at H
        have c35b0 : (a2_0 == 10) = true := beq_iff_eq.mpr c35
        have c35b1 : (a2_0 != 10) = false := bne_eq_false_iff_eq.mpr c35
        clear c35
        by_cases c36 : 0 ≤ a2_1
        ·
         rw [if_pos c36] at H
         have c36b0 : decide (0 ≤ a2_1) = true := decide_eq_true c36
         clear c36
         by_cases c37 : a2_1 < (l0_1.length : Int)
         ·
          rw [if_pos c37] at H
          have c37b0 : decide (a2_1 < (l0_1.length : Int)) = true := decide_eq_true c37
          clear c37
          have H' := amZ H
          clear H
          have hnb38 := NB121_119.out
          have hnc38 := NB119_121.out
          have hnb39 := NB121_120.out
          have hnc39 := NB120_121.out
          have hcz40_0 : wc.cell? ⟨gb121, 0, none⟩ = some (.int .i64 a2_0) := (zaY BK121.out 0).trans rfl
          have hcz40_1 : wc.cell? ⟨gb121, 1, none⟩ = some (.int .i64 a2_1) := (zaY BK121.out 1).trans rfl
          have hcz40_2 : wc.cell? ⟨gb121, 2, none⟩ = some (.int .i64 a2_2) := (zaY BK121.out 2).trans rfl
          have hfz40_0 := zbY BK121.out 0
          have hfz40_1 := zbY BK121.out 1
          have hfz40_2 := zbY BK121.out 2
          have hnb41 := NB119_120.out
          have hnc41 := NB120_119.out
          have hcz42_0 : wc.cell? ⟨gb119, 0, none⟩ = some (.slice A0_0 l0_0.length c0_0) := (zaY BK119.out 0).trans rfl
          have hcz42_1 : wc.cell? ⟨gb119, 1, none⟩ = some (.slice A0_1 l0_1.length c0_1) := (zaY BK119.out 1).trans rfl
          have hfz42_0 := zbY BK119.out 0
          have hfz42_1 := zbY BK119.out 1
          have p127 : 0 ≤ (a2_1 : Int) := odZ
          have q127 : a2_1 < (l0_1.length : Int) := odZ
          obtain ⟨ad127, A127_2, c127_2, A127_3, c127_3, e127, hx127_0, hx127_1, hx127_2, hx127_3, hl127_2, hi127_2, hl127_3, hi127_3⟩ := at_T45 HR0_1.out a2_1 p127 q127
          cases e127
          replace hx127_0 := (HB.out.cell (World.block_lt_of_cell? w _ hx127_0)).trans hx127_0
          replace hx127_1 := (HB.out.cell (World.block_lt_of_cell? w _ hx127_1)).trans hx127_1
          replace hx127_2 := (HB.out.cell (World.block_lt_of_cell? w _ hx127_2)).trans hx127_2
          replace hx127_3 := (HB.out.cell (World.block_lt_of_cell? w _ hx127_3)).trans hx127_3
          have HR127_2 := amZ hi127_2
          have HC127_2 := amZ hl127_2
          clear hi127_2 hl127_2
          have HR127_3 := amZ hi127_3
          have HC127_3 := amZ hl127_3
          clear hi127_3 hl127_3
          replace p127 := eq_true p127
          replace q127 := eq_true q127
          go_wp2_with (first | ((with_reducible refine zmY (N := 10) rfl ?_); (try (refine gate_guard (by rfl) ?_; dsimp only)); refine znY ?hg (N := 10) ?hd (cs := #[.int .i64 0, .int .i64 0, .slice none 0 0, .slice none 0 0]) (t := 45) ?hr ?_; (case hd => rfl); (case hg => rfl); (case hr => first | (go_simp; done) | (go_simp; rfl)); intro gb128 hg w43 hbox hb; have n0_ := amZ (zkY (g := gb119) (o := .cells #[.slice A0_0 l0_0.length c0_0, .slice (some ad127) l0_1.length c0_1] 32 (0, 0)) bkZ hb); have n1_ := amZ (zkY (g := gb120) (o := .cells #[.int .i64 a1_0, .int .i64 a1_1, .slice A1_2 l1_2.length c1_2, .slice A1_3 l1_3.length c1_3] 45 (0, 0)) bkZ hb); have n2_ := amZ (zkY (g := gb121) (o := .cells #[.int .i64 a2_0, .int .i64 a2_1, .int .i64 a2_2] 51 (0, 0)) bkZ hb); have n3_ := amZ (zcY bwZ hb); have n4_ := amZ (hbox); have n5_ := amZ ((by rw [hg]; exact (zgY bwZ) : w.heap.size ≤ gb128)); have n6_ := amZ ((by rw [hg]; exact (zgY bwZ) : w.heap.size ≤ gb128)); have n7_ := amZ ((by rw [hg]; exact Nat.ne_of_lt (zlY (g := gb119) (o := .cells #[.slice A0_0 l0_0.length c0_0, .slice (some ad127) l0_1.length c0_1] 32 (0, 0)) bkZ) : gb119 ≠ gb128)); have n8_ := amZ ((by rw [hg]; exact Nat.ne_of_gt (zlY (g := gb119) (o := .cells #[.slice A0_0 l0_0.length c0_0, .slice (some ad127) l0_1.length c0_1] 32 (0, 0)) bkZ) : gb128 ≠ gb119)); have n9_ := amZ ((by rw [hg]; exact Nat.ne_of_lt (zlY (g := gb120) (o := .cells #[.int .i64 a1_0, .int .i64 a1_1, .slice A1_2 l1_2.length c1_2, .slice A1_3 l1_3.length c1_3] 45 (0, 0)) bkZ) : gb120 ≠ gb128)); have n10_ := amZ ((by rw [hg]; exact Nat.ne_of_gt (zlY (g := gb120) (o := .cells #[.int .i64 a1_0, .int .i64 a1_1, .slice A1_2 l1_2.length c1_2, .slice A1_3 l1_3.length c1_3] 45 (0, 0)) bkZ) : gb128 ≠ gb120)); have n11_ := amZ ((by rw [hg]; exact Nat.ne_of_lt (zlY (g := gb121) (o := .cells #[.int .i64 a2_0, .int .i64 a2_1, .int .i64 a2_2] 51 (0, 0)) bkZ) : gb121 ≠ gb128)); have n12_ := amZ ((by rw [hg]; exact Nat.ne_of_gt (zlY (g := gb121) (o := .cells #[.int .i64 a2_0, .int .i64 a2_1, .int .i64 a2_2] 51 (0, 0)) bkZ) : gb128 ≠ gb121)); clear BK119; clear BK120; clear BK121; clear HB; have BK119 := n0_; have BK120 := n1_; have BK121 := n2_; have HB := n3_; have BK128 := n4_; have GW128 := n5_; have GE128 := n6_; have NB119_128 := n7_; have NB128_119 := n8_; have NB120_128 := n9_; have NB128_120 := n10_; have NB121_128 := n11_; have NB128_121 := n12_; clear n0_ n1_ n2_ n3_ n4_ n5_ n6_ n7_ n8_ n9_ n10_ n11_ n12_; clear hb hbox hg; have hnb44 := NB128_119.out; have hnc44 := NB119_128.out; have hnb45 := NB128_120.out; have hnc45 := NB120_128.out; have hnb46 := NB128_121.out; have hnc46 := NB121_128.out; have hcz47_0 : w43.cell? ⟨gb128, 0, none⟩ = some (.int .i64 0) := (zaY BK128.out 0).trans rfl; have hcz47_1 : w43.cell? ⟨gb128, 1, none⟩ = some (.int .i64 0) := (zaY BK128.out 1).trans rfl; have hcz47_2 : w43.cell? ⟨gb128, 2, none⟩ = some (.slice none 0 0) := (zaY BK128.out 2).trans rfl; have hcz47_3 : w43.cell? ⟨gb128, 3, none⟩ = some (.slice none 0 0) := (zaY BK128.out 3).trans rfl; have hfz47_0 := zbY BK128.out 0; have hfz47_1 := zbY BK128.out 1; have hfz47_2 := zbY BK128.out 2; have hfz47_3 := zbY BK128.out 3))
          go_loopg [11] kj16 (fun kq v11 w' => ∃ (x11_3 : Int), v11 = .int .i64 x11_3 ∧ Aside0 (spec_l4insOK.l0 kq x11_3 a1_0 a1_1 l1_2 l1_3 ((rd_T45 l0_1 a2_1).f0) ((rd_T45 l0_1 a2_1).f1) ((rd_T45 l0_1 a2_1).f2) ((rd_T45 l0_1 a2_1).f3) = some r) ∧ Aside0 (kq ≤ kj16) ∧ Aside0 (w'.heap[gb119]? = some (.cells #[(.slice A0_0 l0_0.length c0_0), (.slice (some ad127) l0_1.length c0_1)] 32 (0, 0))) ∧ Aside0 (w'.heap[gb120]? = some (.cells #[.int .i64 a1_0, .int .i64 a1_1, (.slice A1_2 l1_2.length c1_2), (.slice A1_3 l1_3.length c1_3)] 45 (0, 0))) ∧ Aside0 (w'.heap[gb121]? = some (.cells #[.int .i64 a2_0, .int .i64 a2_1, .int .i64 a2_2] 51 (0, 0))) ∧ Aside0 (w'.heap[gb128]? = some (.cells #[.int .i64 ((rd_T45 l0_1 a2_1).f0), .int .i64 ((rd_T45 l0_1 a2_1).f1), (.slice A127_2 ((rd_T45 l0_1 a2_1).f2).length c127_2), (.slice A127_3 ((rd_T45 l0_1 a2_1).f3).length c127_3)] 45 (0, 0))) ∧ Aside0 (Below w.heap.size w w'))
          case atStart => exact ⟨(0), (by first | rfl | (simp; done) | (simp [*]; done)), H', ⟨Nat.le_refl _⟩, ⟨by (with_reducible repeat (first | refine zeY ?_ _ | refine zhY ?_ | refine zfY ?_ _)); refine blk_far ?_ NB119_128.out _; (with_reducible repeat (first | refine zeY ?_ _ | refine zhY ?_ | refine zfY ?_ _)); refine blk_far ?_ NB119_128.out _; (with_reducible repeat (first | refine zeY ?_ _ | refine zhY ?_ | refine zfY ?_ _)); refine blk_far ?_ NB119_128.out _; (with_reducible repeat (first | refine zeY ?_ _ | refine zhY ?_ | refine zfY ?_ _)); refine blk_far ?_ NB119_128.out _; (with_reducible repeat (first | refine zeY ?_ _ | refine zhY ?_ | refine zfY ?_ _)); exact BK119.out⟩, ⟨by (with_reducible repeat (first | refine zeY ?_ _ | refine zhY ?_ | refine zfY ?_ _)); refine blk_far ?_ NB120_128.out _; (with_reducible repeat (first | refine zeY ?_ _ | refine zhY ?_ | refine zfY ?_ _)); refine blk_far ?_ NB120_128.out _; (with_reducible repeat (first | refine zeY ?_ _ | refine zhY ?_ | refine zfY ?_ _)); refine blk_far ?_ NB120_128.out _; (with_reducible repeat (first | refine zeY ?_ _ | refine zhY ?_ | refine zfY ?_ _)); refine blk_far ?_ NB120_128.out _; (with_reducible repeat (first | refine zeY ?_ _ | refine zhY ?_ | refine zfY ?_ _)); exact BK120.out⟩, ⟨by (with_reducible repeat (first | refine zeY ?_ _ | refine zhY ?_ | refine zfY ?_ _)); refine blk_far ?_ NB121_128.out _; (with_reducible repeat (first | refine zeY ?_ _ | refine zhY ?_ | refine zfY ?_ _)); refine blk_far ?_ NB121_128.out _; (with_reducible repeat (first | refine zeY ?_ _ | refine zhY ?_ | refine zfY ?_ _)); refine blk_far ?_ NB121_128.out _; (with_reducible repeat (first | refine zeY ?_ _ | refine zhY ?_ | refine zfY ?_ _)); refine blk_far ?_ NB121_128.out _; (with_reducible repeat (first | refine zeY ?_ _ | refine zhY ?_ | refine zfY ?_ _)); exact BK121.out⟩, ⟨by (with_reducible repeat (first | refine zeY ?_ _ | refine zhY ?_ | refine zfY ?_ _)); refine blk_put (cs := #[.int .i64 ((rd_T45 l0_1 a2_1).f0), .int .i64 ((rd_T45 l0_1 a2_1).f1), .slice A127_2 ((rd_T45 l0_1 a2_1).f2).length c127_2, .slice none 0 0]) ?_ 3 _ rfl; (with_reducible repeat (first | refine zeY ?_ _ | refine zhY ?_ | refine zfY ?_ _)); refine blk_put (cs := #[.int .i64 ((rd_T45 l0_1 a2_1).f0), .int .i64 ((rd_T45 l0_1 a2_1).f1), .slice none 0 0, .slice none 0 0]) ?_ 2 _ rfl; (with_reducible repeat (first | refine zeY ?_ _ | refine zhY ?_ | refine zfY ?_ _)); refine blk_put (cs := #[.int .i64 ((rd_T45 l0_1 a2_1).f0), .int .i64 0, .slice none 0 0, .slice none 0 0]) ?_ 1 _ rfl; (with_reducible repeat (first | refine zeY ?_ _ | refine zhY ?_ | refine zfY ?_ _)); refine blk_put (cs := #[.int .i64 0, .int .i64 0, .slice none 0 0, .slice none 0 0]) ?_ 0 _ rfl; (with_reducible repeat (first | refine zeY ?_ _ | refine zhY ?_ | refine zfY ?_ _)); exact BK128.out⟩, ⟨bwZ⟩⟩
          case round =>
           clear H'
           try clear c1
           try clear p1
           try clear q1
           try clear hx1
           try clear c2
           try clear p2
           try clear q2
           try clear hx2
           try clear qi2
           try clear c3
           try clear c4
           try clear c5
           try clear c8
           try clear c8b0
           try clear c9
           try clear c10
           try clear c12
           try clear p12
           try clear q12
           try clear hx12
           try clear c13
           try clear c15
           try clear c18
           try clear c19
           try clear c22
           try clear c22b0
           try clear c22b1
           try clear p23
           try clear q23
           try clear hx23
           try clear qi23
           try clear c25
           try clear c26
           try clear c26b0
           try clear c26b1
           try clear p27
           try clear q27
           try clear hx27
           try clear qi27
           try clear c34
           try clear c35
           try clear c35b0
           try clear c35b1
           try clear c36
           try clear c36b0
           try clear c37
           try clear c37b0
           try clear c38
           try clear c39
           try clear c41
           try clear c44
           try clear c45
           try clear c46
           try clear hcz11_0
           try clear hcz11_1
           try clear hcz11_2
           try clear hcz14_0
           try clear hcz14_1
           try clear hcz14_2
           try clear hcz20_0
           try clear hcz20_1
           try clear hcz20_2
           try clear hcz40_0
           try clear hcz40_1
           try clear hcz40_2
           try clear hcz42_0
           try clear hcz42_1
           try clear hcz47_0
           try clear hcz47_1
           try clear hcz47_2
           try clear hcz47_3
           try clear hfz11_0
           try clear hfz11_1
           try clear hfz11_2
           try clear hfz14_0
           try clear hfz14_1
           try clear hfz14_2
           try clear hfz20_0
           try clear hfz20_1
           try clear hfz20_2
           try clear hfz40_0
           try clear hfz40_1
           try clear hfz40_2
           try clear hfz42_0
           try clear hfz42_1
           try clear hfz47_0
           try clear hfz47_1
           try clear hfz47_2
           try clear hfz47_3
           try clear hx127_0
           try clear hx127_1
           try clear hx127_2
           try clear hx127_3
           try clear p127
           try clear p2
           try clear p23
           try clear p27
           try clear q127
           try clear q2
           try clear q23
           try clear q27
           obtain ⟨x11_3, rfl, HA, HK3, BK119, BK120, BK121, BK128, HB⟩ := hrel
           cases gk with
           | zero => exact absurd HA.out (by simp [spec_l4insOK.l0])
           | succ k3 =>
            have H := HA.out
            clear HA
            simp only [spec_l4insOK.l0] at H
            by_cases c48 : x11_3 < (((rd_T45 l0_1 a2_1).f2).length : Int)
            ·
             rw [if_pos c48] at H
             have c48b0 : decide (x11_3 < (((rd_T45 l0_1 a2_1).f2).length : Int)) = true := decide_eq_true c48
             clear c48
             by_cases c49 : 0 ≤ x11_3
             ·
              rw [if_pos c49] at H
              have c49b0 : decide (0 ≤ x11_3) = true := decide_eq_true c49
              clear c49
              obtain ⟨bq50, hbq50⟩ : ∃ b_ : Bool, b_ = ((rd_T48 ((rd_T45 l0_1 a2_1).f2) x11_3).f0) := ⟨_, rfl⟩
              replace H : (if bq50 = true then (if ((rd_T48 ((rd_T45 l0_1 a2_1).f2) x11_3).f1) ≥ (l1_2.length : Int) then (some false) else (if (bq50 = true) then (spec_l4insOK.l0 k3 (wrap64 (x11_3 + 1)) a1_0 a1_1 l1_2 l1_3 ((rd_T45 l0_1 a2_1).f0) ((rd_T45 l0_1 a2_1).f1) ((rd_T45 l0_1 a2_1).f2) ((rd_T45 l0_1 a2_1).f3)) else (if ((rd_T48 ((rd_T45 l0_1 a2_1).f2) x11_3).f1) ≥ a1_1 then (some false) else (spec_l4insOK.l0 k3 (wrap64 (x11_3 + 1)) a1_0 a1_1 l1_2 l1_3 ((rd_T45 l0_1 a2_1).f0) ((rd_T45 l0_1 a2_1).f1) ((rd_T45 l0_1 a2_1).f2) ((rd_T45 l0_1 a2_1).f3))))) else (if (bq50 = true) then (spec_l4insOK.l0 k3 (wrap64 (x11_3 + 1)) a1_0 a1_1 l1_2 l1_3 ((rd_T45 l0_1 a2_1).f0) ((rd_T45 l0_1 a2_1).f1) ((rd_T45 l0_1 a2_1).f2) ((rd_T45 l0_1 a2_1).f3)) else (if ((rd_T48 ((rd_T45 l0_1 a2_1).f2) x11_3).f1) ≥ a1_1 then (some false) else (spec_l4insOK.l0 k3 (wrap64 (x11_3 + 1)) a1_0 a1_1 l1_2 l1_3 ((rd_T45 l0_1 a2_1).f0) ((rd_T45 l0_1 a2_1).f1) ((rd_T45 l0_1 a2_1).f2) ((rd_T45 l0_1 a2_1).f3))))) = some r := by rw [← hbq50] at H; exact H
              have Nbq50 := amZ hbq50
              clear hbq50
              by_cases c51 : bq50 = true
              ·
               subst c51
               have H1 : (if ((rd_T48 ((rd_T45 l0_1 a2_1).f2) x11_3).f1) ≥ (l1_2.length : Int) then (some false) else (if (true = true) then (spec_l4insOK.l0 k3 (wrap64 (x11_3 + 1)) a1_0 a1_1 l1_2 l1_3 ((rd_T45 l0_1 a2_1).f0) ((rd_T45 l0_1 a2_1).f1) ((rd_T45 l0_1 a2_1).f2) ((rd_T45 l0_1 a2_1).f3)) else (if ((rd_T48 ((rd_T45 l0_1 a2_1).f2) x11_3).f1) ≥ a1_1 then (some false) else (spec_l4insOK.l0 k3 (wrap64 (x11_3 + 1)) a1_0 a1_1 l1_2 l1_3 ((rd_T45 l0_1 a2_1).f0) ((rd_T45 l0_1 a2_1).f1) ((rd_T45 l0_1 a2_1).f2) ((rd_T45 l0_1 a2_1).f3))))) = some r := by rw [if_pos rfl] at H; exact H
               clear H
               have H := H1
               clear H1
               by_cases c52 : ((rd_T48 ((rd_T45 l0_1 a2_1).f2) x11_3).f1) ≥ (l1_2.length : Int)
               ·
                rw [if_pos c52] at H
                have c52b0 : decide ((l1_2.length : Int) ≤ ((rd_T48 ((rd_T45 l0_1 a2_1).f2) x11_3).f1)) = true := decide_eq_true c52
                clear c52
                obtain rfl := Option.some.inj H
                have hnb53 := NB128_119.out
                have hnc53 := NB119_128.out
                have hnb54 := NB128_120.out
                have hnc54 := NB120_128.out
                have hnb55 := NB128_121.out
                have hnc55 := NB121_128.out
                have hcz56_0 : wr.cell? ⟨gb128, 0, none⟩ = some (.int .i64 ((rd_T45 l0_1 a2_1).f0)) := (zaY BK128.out 0).trans rfl
                have hcz56_1 : wr.cell? ⟨gb128, 1, none⟩ = some (.int .i64 ((rd_T45 l0_1 a2_1).f1)) := (zaY BK128.out 1).trans rfl
                have hcz56_2 : wr.cell? ⟨gb128, 2, none⟩ = some (.slice A127_2 ((rd_T45 l0_1 a2_1).f2).length c127_2) := (zaY BK128.out 2).trans rfl
                have hcz56_3 : wr.cell? ⟨gb128, 3, none⟩ = some (.slice A127_3 ((rd_T45 l0_1 a2_1).f3).length c127_3) := (zaY BK128.out 3).trans rfl
                have hfz56_0 := zbY BK128.out 0
                have hfz56_1 := zbY BK128.out 1
                have hfz56_2 := zbY BK128.out 2
                have hfz56_3 := zbY BK128.out 3
                have p129 : 0 ≤ (x11_3 : Int) := odZ
                have q129 : x11_3 < (((rd_T45 l0_1 a2_1).f2).length : Int) := odZ
                obtain ⟨ad129, e129, hx129_0, hx129_1⟩ := at_T48 HR127_2.out x11_3 p129 q129
                (try rw [← Nbq50.out] at hx129_0)
                cases e129
                replace hx129_0 := (HB.out.cell (World.block_lt_of_cell? w _ hx129_0)).trans hx129_0
                replace hx129_1 := (HB.out.cell (World.block_lt_of_cell? w _ hx129_1)).trans hx129_1
                replace p129 := eq_true p129
                replace q129 := eq_true q129
                go_wp2_with (first | ((with_reducible refine zmY (N := 12) rfl ?_); (try (refine gate_guard (by rfl) ?_; dsimp only)); refine znY ?hg (N := 12) ?hd (cs := #[.bool false, .int .i64 0]) (t := 48) ?hr ?_; (case hd => rfl); (case hg => rfl); (case hr => first | (go_simp; done) | (go_simp; rfl)); intro gb130 hg w57 hbox hb; have n0_ := amZ (zkY (g := gb119) (o := .cells #[.slice A0_0 l0_0.length c0_0, .slice (some ad127) l0_1.length c0_1] 32 (0, 0)) bkZ hb); have n1_ := amZ (zkY (g := gb120) (o := .cells #[.int .i64 a1_0, .int .i64 a1_1, .slice A1_2 l1_2.length c1_2, .slice A1_3 l1_3.length c1_3] 45 (0, 0)) bkZ hb); have n2_ := amZ (zkY (g := gb121) (o := .cells #[.int .i64 a2_0, .int .i64 a2_1, .int .i64 a2_2] 51 (0, 0)) bkZ hb); have n3_ := amZ (zkY (g := gb128) (o := .cells #[.int .i64 ((rd_T45 l0_1 a2_1).f0), .int .i64 ((rd_T45 l0_1 a2_1).f1), .slice (some ad129) ((rd_T45 l0_1 a2_1).f2).length c127_2, .slice A127_3 ((rd_T45 l0_1 a2_1).f3).length c127_3] 45 (0, 0)) bkZ hb); have n4_ := amZ (zcY bwZ hb); have n5_ := amZ (hbox); have n6_ := amZ ((by rw [hg]; exact (zgY bwZ) : w.heap.size ≤ gb130)); have n7_ := amZ ((by rw [hg]; exact (zgY bwZ) : w.heap.size ≤ gb130)); have n8_ := amZ ((by rw [hg]; exact Nat.ne_of_lt (zlY (g := gb119) (o := .cells #[.slice A0_0 l0_0.length c0_0, .slice (some ad127) l0_1.length c0_1] 32 (0, 0)) bkZ) : gb119 ≠ gb130)); have n9_ := amZ ((by rw [hg]; exact Nat.ne_of_gt (zlY (g := gb119) (o := .cells #[.slice A0_0 l0_0.length c0_0, .slice (some ad127) l0_1.length c0_1] 32 (0, 0)) bkZ) : gb130 ≠ gb119)); have n10_ := amZ ((by rw [hg]; exact Nat.ne_of_lt (zlY (g := gb120) (o := .cells #[.int .i64 a1_0, .int .i64 a1_1, .slice A1_2 l1_2.length c1_2, .slice A1_3 l1_3.length c1_3] 45 (0, 0)) bkZ) : gb120 ≠ gb130)); have n11_ := amZ ((by rw [hg]; exact Nat.ne_of_gt (zlY (g := gb120) (o := .cells #[.int .i64 a1_0, .int .i64 a1_1, .slice A1_2 l1_2.length c1_2, .slice A1_3 l1_3.length c1_3] 45 (0, 0)) bkZ) : gb130 ≠ gb120)); have n12_ := amZ ((by rw [hg]; exact Nat.ne_of_lt (zlY (g := gb121) (o := .cells #[.int .i64 a2_0, .int .i64 a2_1, .int .i64 a2_2] 51 (0, 0)) bkZ) : gb121 ≠ gb130)); have n13_ := amZ ((by rw [hg]; exact Nat.ne_of_gt (zlY (g := gb121) (o := .cells #[.int .i64 a2_0, .int .i64 a2_1, .int .i64 a2_2] 51 (0, 0)) bkZ) : gb130 ≠ gb121)); have n14_ := amZ ((by rw [hg]; exact Nat.ne_of_lt (zlY (g := gb128) (o := .cells #[.int .i64 ((rd_T45 l0_1 a2_1).f0), .int .i64 ((rd_T45 l0_1 a2_1).f1), .slice (some ad129) ((rd_T45 l0_1 a2_1).f2).length c127_2, .slice A127_3 ((rd_T45 l0_1 a2_1).f3).length c127_3] 45 (0, 0)) bkZ) : gb128 ≠ gb130)); have n15_ := amZ ((by rw [hg]; exact Nat.ne_of_gt (zlY (g := gb128) (o := .cells #[.int .i64 ((rd_T45 l0_1 a2_1).f0), .int .i64 ((rd_T45 l0_1 a2_1).f1), .slice (some ad129) ((rd_T45 l0_1 a2_1).f2).length c127_2, .slice A127_3 ((rd_T45 l0_1 a2_1).f3).length c127_3] 45 (0, 0)) bkZ) : gb130 ≠ gb128)); clear BK119; clear BK120; clear BK121; clear BK128; clear HB; have BK119 := n0_; have BK120 := n1_; have BK121 := n2_; have BK128 := n3_; have HB := n4_; have BK130 := n5_; have GW130 := n6_; have GE130 := n7_; have NB119_130 := n8_; have NB130_119 := n9_; have NB120_130 := n10_; have NB130_120 := n11_; have NB121_130 := n12_; have NB130_121 := n13_; have NB128_130 := n14_; have NB130_128 := n15_; clear n0_ n1_ n2_ n3_ n4_ n5_ n6_ n7_ n8_ n9_ n10_ n11_ n12_ n13_ n14_ n15_; clear hb hbox hg; have hnb58 := NB130_119.out; have hnc58 := NB119_130.out; have hnb59 := NB130_120.out; have hnc59 := NB120_130.out; have hnb60 := NB130_121.out; have hnc60 := NB121_130.out; have hnb61 := NB130_128.out; have hnc61 := NB128_130.out; have hcz62_0 : w57.cell? ⟨gb130, 0, none⟩ = some (.bool false) := (zaY BK130.out 0).trans rfl; have hcz62_1 : w57.cell? ⟨gb130, 1, none⟩ = some (.int .i64 0) := (zaY BK130.out 1).trans rfl; have hfz62_0 := zbY BK130.out 0; have hfz62_1 := zbY BK130.out 1; have hnb63 := NB120_119.out; have hnc63 := NB119_120.out; have hnb64 := NB120_121.out; have hnc64 := NB121_120.out; have hcz65_0 : w57.cell? ⟨gb120, 0, none⟩ = some (.int .i64 a1_0) := (zaY BK120.out 0).trans rfl; have hcz65_1 : w57.cell? ⟨gb120, 1, none⟩ = some (.int .i64 a1_1) := (zaY BK120.out 1).trans rfl; have hcz65_2 : w57.cell? ⟨gb120, 2, none⟩ = some (.slice A1_2 l1_2.length c1_2) := (zaY BK120.out 2).trans rfl; have hcz65_3 : w57.cell? ⟨gb120, 3, none⟩ = some (.slice A1_3 l1_3.length c1_3) := (zaY BK120.out 3).trans rfl; have hfz65_0 := zbY BK120.out 0; have hfz65_1 := zbY BK120.out 1; have hfz65_2 := zbY BK120.out 2; have hfz65_3 := zbY BK120.out 3))
                go_ret
                exact ⟨by first | rfl | (simp [zjY, ziY] <;> rfl) | (simp [*, zjY, ziY] <;> rfl), bwZ⟩
               ·
                rw [if_neg c52] at H
                have c52b0 : decide ((l1_2.length : Int) ≤ ((rd_T48 ((rd_T45 l0_1 a2_1).f2) x11_3).f1)) = false := decide_eq_false c52
                clear c52
                by_cases c66 : (true = true)
                ·
                 clear c66
                 have H1 : (spec_l4insOK.l0 k3 (wrap64 (x11_3 + 1)) a1_0 a1_1 l1_2 l1_3 ((rd_T45 l0_1 a2_1).f0) ((rd_T45 l0_1 a2_1).f1) ((rd_T45 l0_1 a2_1).f2) ((rd_T45 l0_1 a2_1).f3)) = some r := by rw [if_pos rfl] at H; exact H
                 clear H
                 have H := H1
                 clear H1
                 have H' := amZ H
                 clear H
                 have hnb67 := NB128_119.out
                 have hnc67 := NB119_128.out
                 have hnb68 := NB128_120.out
                 have hnc68 := NB120_128.out
                 have hnb69 := NB128_121.out
                 have hnc69 := NB121_128.out
                 have hcz70_0 : wr.cell? ⟨gb128, 0, none⟩ = some (.int .i64 ((rd_T45 l0_1 a2_1).f0)) := (zaY BK128.out 0).trans rfl
                 have hcz70_1 : wr.cell? ⟨gb128, 1, none⟩ = some (.int .i64 ((rd_T45 l0_1 a2_1).f1)) := (zaY BK128.out 1).trans rfl
                 have hcz70_2 : wr.cell? ⟨gb128, 2, none⟩ = some (.slice A127_2 ((rd_T45 l0_1 a2_1).f2).length c127_2) := (zaY BK128.out 2).trans rfl
                 have hcz70_3 : wr.cell? ⟨gb128, 3, none⟩ = some (.slice A127_3 ((rd_T45 l0_1 a2_1).f3).length c127_3) := (zaY BK128.out 3).trans rfl
                 have hfz70_0 := zbY BK128.out 0
                 have hfz70_1 := zbY BK128.out 1
                 have hfz70_2 := zbY BK128.out 2
                 have hfz70_3 := zbY BK128.out 3
                 have p129 : 0 ≤ (x11_3 : Int) := odZ
                 have q129 : x11_3 < (((rd_T45 l0_1 a2_1).f2).length : Int) := odZ
                 obtain ⟨ad129, e129, hx129_0, hx129_1⟩ := at_T48 HR127_2.out x11_3 p129 q129
                 (try rw [← Nbq50.out] at hx129_0)
                 cases e129
                 replace hx129_0 := (HB.out.cell (World.block_lt_of_cell? w _ hx129_0)).trans hx129_0
                 replace hx129_1 := (HB.out.cell (World.block_lt_of_cell? w _ hx129_1)).trans hx129_1
                 replace p129 := eq_true p129
                 replace q129 := eq_true q129
                 go_wp2_with (first | ((with_reducible refine zmY (N := 12) rfl ?_); (try (refine gate_guard (by rfl) ?_; dsimp only)); refine znY ?hg (N := 12) ?hd (cs := #[.bool false, .int .i64 0]) (t := 48) ?hr ?_; (case hd => rfl); (case hg => rfl); (case hr => first | (go_simp; done) | (go_simp; rfl)); intro gb130 hg w71 hbox hb; have n0_ := amZ (zkY (g := gb119) (o := .cells #[.slice A0_0 l0_0.length c0_0, .slice (some ad127) l0_1.length c0_1] 32 (0, 0)) bkZ hb); have n1_ := amZ (zkY (g := gb120) (o := .cells #[.int .i64 a1_0, .int .i64 a1_1, .slice A1_2 l1_2.length c1_2, .slice A1_3 l1_3.length c1_3] 45 (0, 0)) bkZ hb); have n2_ := amZ (zkY (g := gb121) (o := .cells #[.int .i64 a2_0, .int .i64 a2_1, .int .i64 a2_2] 51 (0, 0)) bkZ hb); have n3_ := amZ (zkY (g := gb128) (o := .cells #[.int .i64 ((rd_T45 l0_1 a2_1).f0), .int .i64 ((rd_T45 l0_1 a2_1).f1), .slice (some ad129) ((rd_T45 l0_1 a2_1).f2).length c127_2, .slice A127_3 ((rd_T45 l0_1 a2_1).f3).length c127_3] 45 (0, 0)) bkZ hb); have n4_ := amZ (zcY bwZ hb); have n5_ := amZ (hbox); have n6_ := amZ ((by rw [hg]; exact (zgY bwZ) : w.heap.size ≤ gb130)); have n7_ := amZ ((by rw [hg]; exact (zgY bwZ) : w.heap.size ≤ gb130)); have n8_ := amZ ((by rw [hg]; exact Nat.ne_of_lt (zlY (g := gb119) (o := .cells #[.slice A0_0 l0_0.length c0_0, .slice (some ad127) l0_1.length c0_1] 32 (0, 0)) bkZ) : gb119 ≠ gb130)); have n9_ := amZ ((by rw [hg]; exact Nat.ne_of_gt (zlY (g := gb119) (o := .cells #[.slice A0_0 l0_0.length c0_0, .slice (some ad127) l0_1.length c0_1] 32 (0, 0)) bkZ) : gb130 ≠ gb119)); have n10_ := amZ ((by rw [hg]; exact Nat.ne_of_lt (zlY (g := gb120) (o := .cells #[.int .i64 a1_0, .int .i64 a1_1, .slice A1_2 l1_2.length c1_2, .slice A1_3 l1_3.length c1_3] 45 (0, 0)) bkZ) : gb120 ≠ gb130)); have n11_ := amZ ((by rw [hg]; exact Nat.ne_of_gt (zlY (g := gb120) (o := .cells #[.int .i64 a1_0, .int .i64 a1_1, .slice A1_2 l1_2.length c1_2, .slice A1_3 l1_3.length c1_3] 45 (0, 0)) bkZ) : gb130 ≠ gb120)); have n12_ := amZ ((by rw [hg]; exact Nat.ne_of_lt (zlY (g := gb121) (o := .cells #[.int .i64 a2_0, .int .i64 a2_1, .int .i64 a2_2] 51 (0, 0)) bkZ) : gb121 ≠ gb130)); have n13_ := amZ ((by rw [hg]; exact Nat.ne_of_gt (zlY (g := gb121) (o := .cells #[.int .i64 a2_0, .int .i64 a2_1, .int .i64 a2_2] 51 (0, 0)) bkZ) : gb130 ≠ gb121)); have n14_ := amZ ((by rw [hg]; exact Nat.ne_of_lt (zlY (g := gb128) (o := .cells #[.int .i64 ((rd_T45 l0_1 a2_1).f0), .int .i64 ((rd_T45 l0_1 a2_1).f1), .slice (some ad129) ((rd_T45 l0_1 a2_1).f2).length c127_2, .slice A127_3 ((rd_T45 l0_1 a2_1).f3).length c127_3] 45 (0, 0)) bkZ) : gb128 ≠ gb130)); have n15_ := amZ ((by rw [hg]; exact Nat.ne_of_gt (zlY (g := gb128) (o := .cells #[.int .i64 ((rd_T45 l0_1 a2_1).f0), .int .i64 ((rd_T45 l0_1 a2_1).f1), .slice (some ad129) ((rd_T45 l0_1 a2_1).f2).length c127_2, .slice A127_3 ((rd_T45 l0_1 a2_1).f3).length c127_3] 45 (0, 0)) bkZ) : gb130 ≠ gb128)); clear BK119; clear BK120; clear BK121; clear BK128; clear HB; have BK119 := n0_; have BK120 := n1_; have BK121 := n2_; have BK128 := n3_; have HB := n4_; have BK130 := n5_; have GW130 := n6_; have GE130 := n7_; have NB119_130 := n8_; have NB130_119 := n9_; have NB120_130 := n10_; have NB130_120 := n11_; have NB121_130 := n12_; have NB130_121 := n13_; have NB128_130 := n14_; have NB130_128 := n15_; clear n0_ n1_ n2_ n3_ n4_ n5_ n6_ n7_ n8_ n9_ n10_ n11_ n12_ n13_ n14_ n15_; clear hb hbox hg; have hnb72 := NB130_119.out; have hnc72 := NB119_130.out; have hnb73 := NB130_120.out; have hnc73 := NB120_130.out; have hnb74 := NB130_121.out; have hnc74 := NB121_130.out; have hnb75 := NB130_128.out; have hnc75 := NB128_130.out; have hcz76_0 : w71.cell? ⟨gb130, 0, none⟩ = some (.bool false) := (zaY BK130.out 0).trans rfl; have hcz76_1 : w71.cell? ⟨gb130, 1, none⟩ = some (.int .i64 0) := (zaY BK130.out 1).trans rfl; have hfz76_0 := zbY BK130.out 0; have hfz76_1 := zbY BK130.out 1; have hnb77 := NB120_119.out; have hnc77 := NB119_120.out; have hnb78 := NB120_121.out; have hnc78 := NB121_120.out; have hcz79_0 : w71.cell? ⟨gb120, 0, none⟩ = some (.int .i64 a1_0) := (zaY BK120.out 0).trans rfl; have hcz79_1 : w71.cell? ⟨gb120, 1, none⟩ = some (.int .i64 a1_1) := (zaY BK120.out 1).trans rfl; have hcz79_2 : w71.cell? ⟨gb120, 2, none⟩ = some (.slice A1_2 l1_2.length c1_2) := (zaY BK120.out 2).trans rfl; have hcz79_3 : w71.cell? ⟨gb120, 3, none⟩ = some (.slice A1_3 l1_3.length c1_3) := (zaY BK120.out 3).trans rfl; have hfz79_0 := zbY BK120.out 0; have hfz79_1 := zbY BK120.out 1; have hfz79_2 := zbY BK120.out 2; have hfz79_3 := zbY BK120.out 3))
                 go_roundg k3
                 case measure => have := HJ3.out; have := HJ16.out; have := HK3.out; omega
                 case rel => exact ⟨(wrap64 (x11_3 + 1)), (by first | rfl | (simp; done) | (simp [*]; done)), H', ⟨by have := HJ3.out; have := HJ16.out; have := HK3.out; omega⟩, ⟨by (with_reducible repeat (first | refine zeY ?_ _ | refine zhY ?_ | refine zfY ?_ _)); refine blk_far ?_ NB119_130.out _; (with_reducible repeat (first | refine zeY ?_ _ | refine zhY ?_ | refine zfY ?_ _)); refine blk_far ?_ NB119_130.out _; (with_reducible repeat (first | refine zeY ?_ _ | refine zhY ?_ | refine zfY ?_ _)); exact BK119.out⟩, ⟨by (with_reducible repeat (first | refine zeY ?_ _ | refine zhY ?_ | refine zfY ?_ _)); refine blk_far ?_ NB120_130.out _; (with_reducible repeat (first | refine zeY ?_ _ | refine zhY ?_ | refine zfY ?_ _)); refine blk_far ?_ NB120_130.out _; (with_reducible repeat (first | refine zeY ?_ _ | refine zhY ?_ | refine zfY ?_ _)); exact BK120.out⟩, ⟨by (with_reducible repeat (first | refine zeY ?_ _ | refine zhY ?_ | refine zfY ?_ _)); refine blk_far ?_ NB121_130.out _; (with_reducible repeat (first | refine zeY ?_ _ | refine zhY ?_ | refine zfY ?_ _)); refine blk_far ?_ NB121_130.out _; (with_reducible repeat (first | refine zeY ?_ _ | refine zhY ?_ | refine zfY ?_ _)); exact BK121.out⟩, ⟨by (with_reducible repeat (first | refine zeY ?_ _ | refine zhY ?_ | refine zfY ?_ _)); refine blk_far ?_ NB128_130.out _; (with_reducible repeat (first | refine zeY ?_ _ | refine zhY ?_ | refine zfY ?_ _)); refine blk_far ?_ NB128_130.out _; (with_reducible repeat (first | refine zeY ?_ _ | refine zhY ?_ | refine zfY ?_ _)); exact BK128.out⟩, ⟨bwZ⟩⟩
                ·
                 exact absurd rfl c66
              ·
               replace c51 := Bool.eq_false_iff.mpr c51
               subst c51
               have H1 : (if (false = true) then (spec_l4insOK.l0 k3 (wrap64 (x11_3 + 1)) a1_0 a1_1 l1_2 l1_3 ((rd_T45 l0_1 a2_1).f0) ((rd_T45 l0_1 a2_1).f1) ((rd_T45 l0_1 a2_1).f2) ((rd_T45 l0_1 a2_1).f3)) else (if ((rd_T48 ((rd_T45 l0_1 a2_1).f2) x11_3).f1) ≥ a1_1 then (some false) else (spec_l4insOK.l0 k3 (wrap64 (x11_3 + 1)) a1_0 a1_1 l1_2 l1_3 ((rd_T45 l0_1 a2_1).f0) ((rd_T45 l0_1 a2_1).f1) ((rd_T45 l0_1 a2_1).f2) ((rd_T45 l0_1 a2_1).f3)))) = some r := by rw [if_neg (show ¬ (false = true) by decide)] at H; exact H
               clear H
               have H := H1
               clear H1
               by_cases c107 : (false = true)
               ·
                exact absurd c107 (by decide)
               ·
                clear c107
                have H1 : (if ((rd_T48 ((rd_T45 l0_1 a2_1).f2) x11_3).f1) ≥ a1_1 then (some false) else (spec_l4insOK.l0 k3 (wrap64 (x11_3 + 1)) a1_0 a1_1 l1_2 l1_3 ((rd_T45 l0_1 a2_1).f0) ((rd_T45 l0_1 a2_1).f1) ((rd_T45 l0_1 a2_1).f2) ((rd_T45 l0_1 a2_1).f3))) = some r := by rw [if_neg (show ¬ (false = true) by decide)] at H; exact H
                clear H
                have H := H1
                clear H1
                by_cases c118 : ((rd_T48 ((rd_T45 l0_1 a2_1).f2) x11_3).f1) ≥ a1_1
                ·
                 rw [if_pos c118] at H
                 have c118b0 : decide (a1_1 ≤ ((rd_T48 ((rd_T45 l0_1 a2_1).f2) x11_3).f1)) = true := decide_eq_true c118
                 clear c118
                 obtain rfl := Option.some.inj H
                 have hnb119 := NB128_119.out
                 have hnc119 := NB119_128.out
                 have hnb120 := NB128_120.out
                 have hnc120 := NB120_128.out
                 have hnb121 := NB128_121.out
                 have hnc121 := NB121_128.out
                 have hcz122_0 : wr.cell? ⟨gb128, 0, none⟩ = some (.int .i64 ((rd_T45 l0_1 a2_1).f0)) := (zaY BK128.out 0).trans rfl
                 have hcz122_1 : wr.cell? ⟨gb128, 1, none⟩ = some (.int .i64 ((rd_T45 l0_1 a2_1).f1)) := (zaY BK128.out 1).trans rfl
                 have hcz122_2 : wr.cell? ⟨gb128, 2, none⟩ = some (.slice A127_2 ((rd_T45 l0_1 a2_1).f2).length c127_2) := (zaY BK128.out 2).trans rfl
                 have hcz122_3 : wr.cell? ⟨gb128, 3, none⟩ = some (.slice A127_3 ((rd_T45 l0_1 a2_1).f3).length c127_3) := (zaY BK128.out 3).trans rfl
                 have hfz122_0 := zbY BK128.out 0
                 have hfz122_1 := zbY BK128.out 1
                 have hfz122_2 := zbY BK128.out 2
                 have hfz122_3 := zbY BK128.out 3
                 have p129 : 0 ≤ (x11_3 : Int) := odZ
                 have q129 : x11_3 < (((rd_T45 l0_1 a2_1).f2).length : Int) := odZ
                 obtain ⟨ad129, e129, hx129_0, hx129_1⟩ := at_T48 HR127_2.out x11_3 p129 q129
                 (try rw [← Nbq50.out] at hx129_0)
                 cases e129
                 replace hx129_0 := (HB.out.cell (World.block_lt_of_cell? w _ hx129_0)).trans hx129_0
                 replace hx129_1 := (HB.out.cell (World.block_lt_of_cell? w _ hx129_1)).trans hx129_1
                 replace p129 := eq_true p129
                 replace q129 := eq_true q129
                 go_wp2_with (first | ((with_reducible refine zmY (N := 12) rfl ?_); (try (refine gate_guard (by rfl) ?_; dsimp only)); refine znY ?hg (N := 12) ?hd (cs := #[.bool false, .int .i64 0]) (t := 48) ?hr ?_; (case hd => rfl); (case hg => rfl); (case hr => first | (go_simp; done) | (go_simp; rfl)); intro gb130 hg w123 hbox hb; have n0_ := amZ (zkY (g := gb119) (o := .cells #[.slice A0_0 l0_0.length c0_0, .slice (some ad127) l0_1.length c0_1] 32 (0, 0)) bkZ hb); have n1_ := amZ (zkY (g := gb120) (o := .cells #[.int .i64 a1_0, .int .i64 a1_1, .slice A1_2 l1_2.length c1_2, .slice A1_3 l1_3.length c1_3] 45 (0, 0)) bkZ hb); have n2_ := amZ (zkY (g := gb121) (o := .cells #[.int .i64 a2_0, .int .i64 a2_1, .int .i64 a2_2] 51 (0, 0)) bkZ hb); have n3_ := amZ (zkY (g := gb128) (o := .cells #[.int .i64 ((rd_T45 l0_1 a2_1).f0), .int .i64 ((rd_T45 l0_1 a2_1).f1), .slice (some ad129) ((rd_T45 l0_1 a2_1).f2).length c127_2, .slice A127_3 ((rd_T45 l0_1 a2_1).f3).length c127_3] 45 (0, 0)) bkZ hb); have n4_ := amZ (zcY bwZ hb); have n5_ := amZ (hbox); have n6_ := amZ ((by rw [hg]; exact (zgY bwZ) : w.heap.size ≤ gb130)); have n7_ := amZ ((by rw [hg]; exact (zgY bwZ) : w.heap.size ≤ gb130)); have n8_ := amZ ((by rw [hg]; exact Nat.ne_of_lt (zlY (g := gb119) (o := .cells #[.slice A0_0 l0_0.length c0_0, .slice (some ad127) l0_1.length c0_1] 32 (0, 0)) bkZ) : gb119 ≠ gb130)); have n9_ := amZ ((by rw [hg]; exact Nat.ne_of_gt (zlY (g := gb119) (o := .cells #[.slice A0_0 l0_0.length c0_0, .slice (some ad127) l0_1.length c0_1] 32 (0, 0)) bkZ) : gb130 ≠ gb119)); have n10_ := amZ ((by rw [hg]; exact Nat.ne_of_lt (zlY (g := gb120) (o := .cells #[.int .i64 a1_0, .int .i64 a1_1, .slice A1_2 l1_2.length c1_2, .slice A1_3 l1_3.length c1_3] 45 (0, 0)) bkZ) : gb120 ≠ gb130)); have n11_ := amZ ((by rw [hg]; exact Nat.ne_of_gt (zlY (g := gb120) (o := .cells #[.int .i64 a1_0, .int .i64 a1_1, .slice A1_2 l1_2.length c1_2, .slice A1_3 l1_3.length c1_3] 45 (0, 0)) bkZ) : gb130 ≠ gb120)); have n12_ := amZ ((by rw [hg]; exact Nat.ne_of_lt (zlY (g := gb121) (o := .cells #[.int .i64 a2_0, .int .i64 a2_1, .int .i64 a2_2] 51 (0, 0)) bkZ) : gb121 ≠ gb130)); have n13_ := amZ ((by rw [hg]; exact Nat.ne_of_gt (zlY (g := gb121) (o := .cells #[.int .i64 a2_0, .int .i64 a2_1, .int .i64 a2_2] 51 (0, 0)) bkZ) : gb130 ≠ gb121)); have n14_ := amZ ((by rw [hg]; exact Nat.ne_of_lt (zlY (g := gb128) (o := .cells #[.int .i64 ((rd_T45 l0_1 a2_1).f0), .int .i64 ((rd_T45 l0_1 a2_1).f1), .slice (some ad129) ((rd_T45 l0_1 a2_1).f2).length c127_2, .slice A127_3 ((rd_T45 l0_1 a2_1).f3).length c127_3] 45 (0, 0)) bkZ) : gb128 ≠ gb130)); have n15_ := amZ ((by rw [hg]; exact Nat.ne_of_gt (zlY (g := gb128) (o := .cells #[.int .i64 ((rd_T45 l0_1 a2_1).f0), .int .i64 ((rd_T45 l0_1 a2_1).f1), .slice (some ad129) ((rd_T45 l0_1 a2_1).f2).length c127_2, .slice A127_3 ((rd_T45 l0_1 a2_1).f3).length c127_3] 45 (0, 0)) bkZ) : gb130 ≠ gb128)); clear BK119; clear BK120; clear BK121; clear BK128; clear HB; have BK119 := n0_; have BK120 := n1_; have BK121 := n2_; have BK128 := n3_; have HB := n4_; have BK130 := n5_; have GW130 := n6_; have GE130 := n7_; have NB119_130 := n8_; have NB130_119 := n9_; have NB120_130 := n10_; have NB130_120 := n11_; have NB121_130 := n12_; have NB130_121 := n13_; have NB128_130 := n14_; have NB130_128 := n15_; clear n0_ n1_ n2_ n3_ n4_ n5_ n6_ n7_ n8_ n9_ n10_ n11_ n12_ n13_ n14_ n15_; clear hb hbox hg; have hnb124 := NB130_119.out; have hnc124 := NB119_130.out; have hnb125 := NB130_120.out; have hnc125 := NB120_130.out; have hnb126 := NB130_121.out; have hnc126 := NB121_130.out; have hnb127 := NB130_128.out; have hnc127 := NB128_130.out; have hcz128_0 : w123.cell? ⟨gb130, 0, none⟩ = some (.bool false) := (zaY BK130.out 0).trans rfl; have hcz128_1 : w123.cell? ⟨gb130, 1, none⟩ = some (.int .i64 0) := (zaY BK130.out 1).trans rfl; have hfz128_0 := zbY BK130.out 0; have hfz128_1 := zbY BK130.out 1; have hnb129 := NB120_119.out; have hnc129 := NB119_120.out; have hnb130 := NB120_121.out; have hnc130 := NB121_120.out; have hcz131_0 : w123.cell? ⟨gb120, 0, none⟩ = some (.int .i64 a1_0) := (zaY BK120.out 0).trans rfl; have hcz131_1 : w123.cell? ⟨gb120, 1, none⟩ = some (.int .i64 a1_1) := (zaY BK120.out 1).trans rfl; have hcz131_2 : w123.cell? ⟨gb120, 2, none⟩ = some (.slice A1_2 l1_2.length c1_2) := (zaY BK120.out 2).trans rfl; have hcz131_3 : w123.cell? ⟨gb120, 3, none⟩ = some (.slice A1_3 l1_3.length c1_3) := (zaY BK120.out 3).trans rfl; have hfz131_0 := zbY BK120.out 0; have hfz131_1 := zbY BK120.out 1; have hfz131_2 := zbY BK120.out 2; have hfz131_3 := zbY BK120.out 3))
                 go_ret
                 exact ⟨by first | rfl | (simp [zjY, ziY] <;> rfl) | (simp [*, zjY, ziY] <;> rfl), bwZ⟩
                ·
                 rw [if_neg c118] at H
                 have c118b0 : decide (a1_1 ≤ ((rd_T48 ((rd_T45 l0_1 a2_1).f2) x11_3).f1)) = false := decide_eq_false c118
                 clear c118
                 have H' := amZ H
                 clear H
                 have hnb132 := NB128_119.out
                 have hnc132 := NB119_128.out
                 have hnb133 := NB128_120.out
                 have hnc133 := NB120_128.out
                 have hnb134 := NB128_121.out
                 have hnc134 := NB121_128.out
                 have hcz135_0 : wr.cell? ⟨gb128, 0, none⟩ = some (.int .i64 ((rd_T45 l0_1 a2_1).f0)) := (zaY BK128.out 0).trans rfl
                 have hcz135_1 : wr.cell? ⟨gb128, 1, none⟩ = some (.int .i64 ((rd_T45 l0_1 a2_1).f1)) := (zaY BK128.out 1).trans rfl
                 have hcz135_2 : wr.cell? ⟨gb128, 2, none⟩ = some (.slice A127_2 ((rd_T45 l0_1 a2_1).f2).length c127_2) := (zaY BK128.out 2).trans rfl
                 have hcz135_3 : wr.cell? ⟨gb128, 3, none⟩ = some (.slice A127_3 ((rd_T45 l0_1 a2_1).f3).length c127_3) := (zaY BK128.out 3).trans rfl
                 have hfz135_0 := zbY BK128.out 0
                 have hfz135_1 := zbY BK128.out 1
                 have hfz135_2 := zbY BK128.out 2
                 have hfz135_3 := zbY BK128.out 3
                 have p129 : 0 ≤ (x11_3 : Int) := odZ
                 have q129 : x11_3 < (((rd_T45 l0_1 a2_1).f2).length : Int) := odZ
                 obtain ⟨ad129, e129, hx129_0, hx129_1⟩ := at_T48 HR127_2.out x11_3 p129 q129
                 (try rw [← Nbq50.out] at hx129_0)
                 cases e129
                 replace hx129_0 := (HB.out.cell (World.block_lt_of_cell? w _ hx129_0)).trans hx129_0
                 replace hx129_1 := (HB.out.cell (World.block_lt_of_cell? w _ hx129_1)).trans hx129_1
                 replace p129 := eq_true p129
                 replace q129 := eq_true q129
                 go_wp2_with (first | ((with_reducible refine zmY (N := 12) rfl ?_); (try (refine gate_guard (by rfl) ?_; dsimp only)); refine znY ?hg (N := 12) ?hd (cs := #[.bool false, .int .i64 0]) (t := 48) ?hr ?_; (case hd => rfl); (case hg => rfl); (case hr => first | (go_simp; done) | (go_simp; rfl)); intro gb130 hg w136 hbox hb; have n0_ := amZ (zkY (g := gb119) (o := .cells #[.slice A0_0 l0_0.length c0_0, .slice (some ad127) l0_1.length c0_1] 32 (0, 0)) bkZ hb); have n1_ := amZ (zkY (g := gb120) (o := .cells #[.int .i64 a1_0, .int .i64 a1_1, .slice A1_2 l1_2.length c1_2, .slice A1_3 l1_3.length c1_3] 45 (0, 0)) bkZ hb); have n2_ := amZ (zkY (g := gb121) (o := .cells #[.int .i64 a2_0, .int .i64 a2_1, .int .i64 a2_2] 51 (0, 0)) bkZ hb); have n3_ := amZ (zkY (g := gb128) (o := .cells #[.int .i64 ((rd_T45 l0_1 a2_1).f0), .int .i64 ((rd_T45 l0_1 a2_1).f1), .slice (some ad129) ((rd_T45 l0_1 a2_1).f2).length c127_2, .slice A127_3 ((rd_T45 l0_1 a2_1).f3).length c127_3] 45 (0, 0)) bkZ hb); have n4_ := amZ (zcY bwZ hb); have n5_ := amZ (hbox); have n6_ := amZ ((by rw [hg]; exact (zgY bwZ) : w.heap.size ≤ gb130)); have n7_ := amZ ((by rw [hg]; exact (zgY bwZ) : w.heap.size ≤ gb130)); have n8_ := amZ ((by rw [hg]; exact Nat.ne_of_lt (zlY (g := gb119) (o := .cells #[.slice A0_0 l0_0.length c0_0, .slice (some ad127) l0_1.length c0_1] 32 (0, 0)) bkZ) : gb119 ≠ gb130)); have n9_ := amZ ((by rw [hg]; exact Nat.ne_of_gt (zlY (g := gb119) (o := .cells #[.slice A0_0 l0_0.length c0_0, .slice (some ad127) l0_1.length c0_1] 32 (0, 0)) bkZ) : gb130 ≠ gb119)); have n10_ := amZ ((by rw [hg]; exact Nat.ne_of_lt (zlY (g := gb120) (o := .cells #[.int .i64 a1_0, .int .i64 a1_1, .slice A1_2 l1_2.length c1_2, .slice A1_3 l1_3.length c1_3] 45 (0, 0)) bkZ) : gb120 ≠ gb130)); have n11_ := amZ ((by rw [hg]; exact Nat.ne_of_gt (zlY (g := gb120) (o := .cells #[.int .i64 a1_0, .int .i64 a1_1, .slice A1_2 l1_2.length c1_2, .slice A1_3 l1_3.length c1_3] 45 (0, 0)) bkZ) : gb130 ≠ gb120)); have n12_ := amZ ((by rw [hg]; exact Nat.ne_of_lt (zlY (g := gb121) (o := .cells #[.int .i64 a2_0, .int .i64 a2_1, .int .i64 a2_2] 51 (0, 0)) bkZ) : gb121 ≠ gb130)); have n13_ := amZ ((by rw [hg]; exact Nat.ne_of_gt (zlY (g := gb121) (o := .cells #[.int .i64 a2_0, .int .i64 a2_1, .int .i64 a2_2] 51 (0, 0)) bkZ) : gb130 ≠ gb121)); have n14_ := amZ ((by rw [hg]; exact Nat.ne_of_lt (zlY (g := gb128) (o := .cells #[.int .i64 ((rd_T45 l0_1 a2_1).f0), .int .i64 ((rd_T45 l0_1 a2_1).f1), .slice (some ad129) ((rd_T45 l0_1 a2_1).f2).length c127_2, .slice A127_3 ((rd_T45 l0_1 a2_1).f3).length c127_3] 45 (0, 0)) bkZ) : gb128 ≠ gb130)); have n15_ := amZ ((by rw [hg]; exact Nat.ne_of_gt (zlY (g := gb128) (o := .cells #[.int .i64 ((rd_T45 l0_1 a2_1).f0), .int .i64 ((rd_T45 l0_1 a2_1).f1), .slice (some ad129) ((rd_T45 l0_1 a2_1).f2).length c127_2, .slice A127_3 ((rd_T45 l0_1 a2_1).f3).length c127_3] 45 (0, 0)) bkZ) : gb130 ≠ gb128)); clear BK119; clear BK120; clear BK121; clear BK128; clear HB; have BK119 := n0_; have BK120 := n1_; have BK121 := n2_; have BK128 := n3_; have HB := n4_; have BK130 := n5_; have GW130 := n6_; have GE130 := n7_; have NB119_130 := n8_; have NB130_119 := n9_; have NB120_130 := n10_; have NB130_120 := n11_; have NB121_130 := n12_; have NB130_121 := n13_; have NB128_130 := n14_; have NB130_128 := n15_; clear n0_ n1_ n2_ n3_ n4_ n5_ n6_ n7_ n8_ n9_ n10_ n11_ n12_ n13_ n14_ n15_; clear hb hbox hg; have hnb137 := NB130_119.out; have hnc137 := NB119_130.out; have hnb138 := NB130_120.out; have hnc138 := NB120_130.out; have hnb139 := NB130_121.out; have hnc139 := NB121_130.out; have hnb140 := NB130_128.out; have hnc140 := NB128_130.out; have hcz141_0 : w136.cell? ⟨gb130, 0, none⟩ = some (.bool false) := (zaY BK130.out 0).trans rfl; have hcz141_1 : w136.cell? ⟨gb130, 1, none⟩ = some (.int .i64 0) := (zaY BK130.out 1).trans rfl; have hfz141_0 := zbY BK130.out 0; have hfz141_1 := zbY BK130.out 1; have hnb142 := NB120_119.out; have hnc142 := NB119_120.out; have hnb143 := NB120_121.out; have hnc143 := NB121_120.out; have hcz144_0 : w136.cell? ⟨gb120, 0, none⟩ = some (.int .i64 a1_0) := (zaY BK120.out 0).trans rfl; have hcz144_1 : w136.cell? ⟨gb120, 1, none⟩ = some (.int .i64 a1_1) := (zaY BK120.out 1).trans rfl; have hcz144_2 : w136.cell? ⟨gb120, 2, none⟩ = some (.slice A1_2 l1_2.length c1_2) := (zaY BK120.out 2).trans rfl; have hcz144_3 : w136.cell? ⟨gb120, 3, none⟩ = some (.slice A1_3 l1_3.length c1_3) := (zaY BK120.out 3).trans rfl; have hfz144_0 := zbY BK120.out 0; have hfz144_1 := zbY BK120.out 1; have hfz144_2 := zbY BK120.out 2; have hfz144_3 := zbY BK120.out 3))
                 go_roundg k3
                 case measure => have := HJ3.out; have := HJ16.out; have := HK3.out; omega
                 case rel => exact ⟨(wrap64 (x11_3 + 1)), (by first | rfl | (simp; done) | (simp [*]; done)), H', ⟨by have := HJ3.out; have := HJ16.out; have := HK3.out; omega⟩, ⟨by (with_reducible repeat (first | refine zeY ?_ _ | refine zhY ?_ | refine zfY ?_ _)); refine blk_far ?_ NB119_130.out _; (with_reducible repeat (first | refine zeY ?_ _ | refine zhY ?_ | refine zfY ?_ _)); refine blk_far ?_ NB119_130.out _; (with_reducible repeat (first | refine zeY ?_ _ | refine zhY ?_ | refine zfY ?_ _)); exact BK119.out⟩, ⟨by (with_reducible repeat (first | refine zeY ?_ _ | refine zhY ?_ | refine zfY ?_ _)); refine blk_far ?_ NB120_130.out _; (with_reducible repeat (first | refine zeY ?_ _ | refine zhY ?_ | refine zfY ?_ _)); refine blk_far ?_ NB120_130.out _; (with_reducible repeat (first | refine zeY ?_ _ | refine zhY ?_ | refine zfY ?_ _)); exact BK120.out⟩, ⟨by (with_reducible repeat (first | refine zeY ?_ _ | refine zhY ?_ | refine zfY ?_ _)); refine blk_far ?_ NB121_130.out _; (with_reducible repeat (first | refine zeY ?_ _ | refine zhY ?_ | refine zfY ?_ _)); refine blk_far ?_ NB121_130.out _; (with_reducible repeat (first | refine zeY ?_ _ | refine zhY ?_ | refine zfY ?_ _)); exact BK121.out⟩, ⟨by (with_reducible repeat (first | refine zeY ?_ _ | refine zhY ?_ | refine zfY ?_ _)); refine blk_far ?_ NB128_130.out _; (with_reducible repeat (first | refine zeY ?_ _ | refine zhY ?_ | refine zfY ?_ _)); refine blk_far ?_ NB128_130.out _; (with_reducible repeat (first | refine zeY ?_ _ | refine zhY ?_ | refine zfY ?_ _)); exact BK128.out⟩, ⟨bwZ⟩⟩
             ·
              rw [if_neg c49] at H
              exact absurd H (by simp)
            ·
             rw [if_neg c48] at H
             have c48b0 : decide (x11_3 < (((rd_T45 l0_1 a2_1).f2).length : Int)) = false := decide_eq_false c48
             clear c48
             obtain rfl := Option.some.inj H
             have hnb145 := NB128_119.out
             have hnc145 := NB119_128.out
             have hnb146 := NB128_120.out
             have hnc146 := NB120_128.out
             have hnb147 := NB128_121.out
             have hnc147 := NB121_128.out
             have hcz148_0 : wr.cell? ⟨gb128, 0, none⟩ = some (.int .i64 ((rd_T45 l0_1 a2_1).f0)) := (zaY BK128.out 0).trans rfl
             have hcz148_1 : wr.cell? ⟨gb128, 1, none⟩ = some (.int .i64 ((rd_T45 l0_1 a2_1).f1)) := (zaY BK128.out 1).trans rfl
             have hcz148_2 : wr.cell? ⟨gb128, 2, none⟩ = some (.slice A127_2 ((rd_T45 l0_1 a2_1).f2).length c127_2) := (zaY BK128.out 2).trans rfl
             have hcz148_3 : wr.cell? ⟨gb128, 3, none⟩ = some (.slice A127_3 ((rd_T45 l0_1 a2_1).f3).length c127_3) := (zaY BK128.out 3).trans rfl
             have hfz148_0 := zbY BK128.out 0
             have hfz148_1 := zbY BK128.out 1
             have hfz148_2 := zbY BK128.out 2
             have hfz148_3 := zbY BK128.out 3
             go_wp2
             go_ret
             exact ⟨by first | rfl | (simp [zjY, ziY] <;> rfl) | (simp [*, zjY, ziY] <;> rfl), bwZ⟩
         ·
          rw [if_neg c37] at H
          exact absurd H (by simp)
        ·
         rw [if_neg c36] at H
         exact absurd H (by simp)
       ·
        rw [if_neg c35] at H
        have c35b0 : (a2_0 == 10) = false := beq_eq_false_iff_ne.mpr c35
        have c35b1 : (a2_0 != 10) = true := bne_iff_ne.mpr c35
        obtain rfl := Option.some.inj H
        have hnb149 := NB121_119.out
        have hnc149 := NB119_121.out
        have hnb150 := NB121_120.out
        have hnc150 := NB120_121.out
        have hcz151_0 : wc.cell? ⟨gb121, 0, none⟩ = some (.int .i64 a2_0) := (zaY BK121.out 0).trans rfl
        have hcz151_1 : wc.cell? ⟨gb121, 1, none⟩ = some (.int .i64 a2_1) := (zaY BK121.out 1).trans rfl
        have hcz151_2 : wc.cell? ⟨gb121, 2, none⟩ = some (.int .i64 a2_2) := (zaY BK121.out 2).trans rfl
        have hfz151_0 := zbY BK121.out 0
        have hfz151_1 := zbY BK121.out 1
        have hfz151_2 := zbY BK121.out 2
        go_wp2
        go_ret
        exact ⟨by first | rfl | (simp [zjY, ziY] <;> rfl) | (simp [*, zjY, ziY] <;> rfl), bwZ⟩
end Go.Proofs.YtmmpiojekgfdjaaDoor.C
