/- A part of the proof. -/
import Derived.Test.YtmmpiojekgfdjaaZtCx0
import Derived.Test.YtmmpiojekgfdjaaZtK
namespace Go.Proofs.Ytmmpiojekgfdjaa.C
open Go.RowKit YtmmpiojekgfdjaaW.PrintWords YtmmpiojekgfdjaaW.PrintLast
set_option linter.unusedVariables false
set_option linter.unusedSimpArgs false
def spec_l1copy.f (l0 : List Int) : Option (List Int) := if ([] : List Int).length + l0.length < 140737488355328 then (some (([] : List Int) ++ l0)) else (none)
set_option maxHeartbeats 8000000 in
set_option maxRecDepth 100000 in
theorem spec_l1copy.calls (A0 : Option Addr) (c0 : Nat) (l0 : List Int) (r : List Int) (w : World) (hr0 : Kd.C (Kd.int .u8) w A0 l0.length l0) (hc0 : l0.length ≤ c0) (h : spec_l1copy.f l0 = some r) :
  Calls Try.prog 71 #[.slice A0 l0.length c0] w fun e w' => ∃ v0_ : Value, e = .returned (v0_) ∧ Kd.R (Kd.int .u8) 5 w' w.heap.size (fun _ => True) v0_ r ∧ Below w.heap.size w w' := by
 have HR0 := amZ hr0
 have HC0 := amZ hc0
 clear hr0 hc0
 have HB := amZ (Below.refl w.heap.size w)
 have H : (if ([] : List Int).length + l0.length < 140737488355328 then (some (([] : List Int) ++ l0)) else (none)) = some r := h
 clear h
 by_cases c2 : ([] : List Int).length + l0.length < 140737488355328
 ·
  rw [if_pos c2] at H
  have LMc2 := amZ c2
  clear c2
  obtain ⟨y135, hy135⟩ : ∃ y_ : List Int, y_ = (([] : List Int) ++ l0) := ⟨_, rfl⟩
  replace H : (some y135) = some r := by first | (rw [hy135]; with_reducible exact H) | (have H2_ := (Option.bind_some _ _).symm.trans H; rw [hy135]; with_reducible exact H2_) | (have H2_ := (Option.bind_some _ _).symm.trans H; with_reducible exact H2_) | with_reducible exact H | (rw [hy135]; exact H) | exact H
  have Ny135 := amZ hy135
  clear hy135
  obtain rfl := Option.some.inj H
  go_enter Try.func71, Try.ntmps71
  go_wp2_with (first | ((with_reducible refine gate_builtin (b := .append) (xs := #[.tmp 4, .tmp 5]) rfl ?_); at_builtin; refine Kd.R_append_rows (Kd.int .u8) (w0 := w) w.heap.size rfl (.tmp 4) (.tmp 5) 35 5 (.int .u8 0) 1 rfl Try.underlying35 info5 rfl (by decide) (by omega) (.slice none 0 0) ([] : List Int) l0 _ _ _ (fun _ => True) (fun _ => False) rfl rfl ?aO ?aR (fun _ _ h => h) (fun _ h => h.elim) ?aF ?aB ?aS ?aL ?_; (case aR => repeat (first | exact HR0.out | (with_reducible refine Kd.C_alloc ?_ _) | (with_reducible refine Kd.C_drewN ?_ _) | (with_reducible refine Kd.C_drew ?_))); (case aB => exact bwZ); (case aF => exact (fun _ _ => trivial)); (case aO => exact ((Kd.R_nil _ _ _ _ (fun _ => True)))); (case aS => exact (zhY bwZ)); (case aL => have := LMc2.out; first | omega | (simp only [ByteArray.size, List.size_toArray, List.length_cons, List.length_nil]; omega)); intro v136 w3 ho hb hg hat; rw [← Ny135.out] at ho; have n0_ := amZ (hb); have n1_ := amZ (ho); clear HB; have HB := n0_; have HO137 := n1_; clear n0_ n1_; clear ho hb hg hat))
  go_ret
  exact ⟨_, by first | rfl | (simp [zmY, zlY] <;> rfl) | (simp [*, zmY, zlY] <;> rfl), by (with_reducible repeat (first | apply Kd.R_alloc | apply Kd.R_drewN | apply Kd.R_drew)); exact HO137.out, bwZ⟩
 ·
  rw [if_neg c2] at H
  exact absurd H (by simp)
mutual
def spec_l5copy.l0 : Nat → Int → List (S48) → List (S52) → List (S48) → Option ((List (S48)) × (List (S52)))
 | 0, _, _, _, _ => none
 | k + 1, x4, x139000, x139001, x141000 => if x4 < (x139000.length : Int) then (if 0 ≤ x4 then ((spec_l1copy.f ((rd_T48 x139000 x4).f2)).bind fun t143 => (if x141000.length < 3518437208883 then (spec_l5copy.l0 k (wrap64 (x4 + 1)) x139000 x139001 (x141000 ++ [(⟨(rd_T48 x139000 x4).f0, (rd_T48 x139000 x4).f1, t143⟩ : S48)])) else (none))) else (none)) else (spec_l5copy.l1 k 0 x139000 x139001 x141000 ([] : List (S52)))
def spec_l5copy.l1 : Nat → Int → List (S48) → List (S52) → List (S48) → List (S52) → Option ((List (S48)) × (List (S52)))
 | 0, _, _, _, _, _ => none
 | k + 1, x6, x139000, x139001, x141000, x141001 => if x6 < (x139001.length : Int) then (if 0 ≤ x6 then (if ([] : List (S54)).length + ((rd_T52 x139001 x6).f2).length < 8796093022208 then (if ([] : List (S57)).length + ((rd_T52 x139001 x6).f3).length < 5864062014805 then (if x141001.length < 2199023255552 then (spec_l5copy.l1 k (wrap64 (x6 + 1)) x139000 x139001 x141000 (x141001 ++ [(⟨(rd_T52 x139001 x6).f0, (rd_T52 x139001 x6).f1, (([] : List (S54)) ++ ((rd_T52 x139001 x6).f2)), (([] : List (S57)) ++ ((rd_T52 x139001 x6).f3))⟩ : S52)])) else (none)) else (none)) else (none)) else (none)) else (some (x141000, x141001))
end
def spec_l5copy.f (k : Nat) (l0_0 : List (S48)) (l0_1 : List (S52)) : Option ((List (S48)) × (List (S52))) := spec_l5copy.l0 k 0 l0_0 l0_1 ([] : List (S48))
def spec_l5copy.T6 : Bool × List (List Nat × List Nat) := (true, [([], []), ([0], [0]), ([], []), ([2], [2]), ([], []), ([4], [4]), ([], []), ([6], [6]), ([7], [7]), ([3, 5, 8], [3, 5, 8]), ([9], [9]), ([1, 10, 8], [1, 10]), ([0, 1, 2, 3, 4, 5, 6, 7, 8, 9, 10, 11], []), ([12, 11, 11, 0, 1, 2, 3, 4, 5, 6, 7, 8, 9, 10, 11], [11, 12])])
def spec_l5copy.B6 : List Nat := [0, 1, 0, 4, 0, 16, 0, 64, 192, 508, 1020, 2047, 4095, 8191]
theorem spec_l5copy.tab6 : rtab .any (opsOf Try.f43 6) = spec_l5copy.T6 := by kernel_rfl
theorem spec_l5copy.bits6 : waitsOk spec_l5copy.T6.2 spec_l5copy.B6 = true := by kernel_rfl
set_option maxHeartbeats 8000000 in
set_option maxRecDepth 100000 in
theorem spec_l5copy.calls (k : Nat) (A0_0 : Option Addr) (c0_0 : Nat) (l0_0 : List (S48)) (A0_1 : Option Addr) (c0_1 : Nat) (l0_1 : List (S52)) (r1 : List (S48)) (r2 : List (S52)) (w : World) (hr0_0 : Kd.C k48 w A0_0 l0_0.length l0_0) (hc0_0 : l0_0.length ≤ c0_0) (hr0_1 : Kd.C k52 w A0_1 l0_1.length l0_1) (hc0_1 : l0_1.length ≤ c0_1) (h : spec_l5copy.f k l0_0 l0_1 = some (r1, r2)) :
  Calls Try.prog 43 #[.agg #[.slice A0_0 l0_0.length c0_0, .slice A0_1 l0_1.length c0_1]] w fun e w' => ∃ v0_ v1_ : Value, e = .returned (.agg #[v0_, v1_]) ∧ Kd.S k48 48 w' w.heap.size (fun _ => True) v0_ r1 ∧ Kd.S k52 52 w' w.heap.size (fun _ => True) v1_ r2 ∧ Below w.heap.size w w' := by
 have hu31 := Try.underlying31
 have hu48 := Try.underlying48
 have hu52 := Try.underlying52
 have HR0_0 := amZ hr0_0
 have HC0_0 := amZ hc0_0
 clear hr0_0 hc0_0
 have HR0_1 := amZ hr0_1
 have HC0_1 := amZ hc0_1
 clear hr0_1 hc0_1
 have HB := amZ (Below.refl w.heap.size w)
 have H : (spec_l5copy.l0 k 0 l0_0 l0_1 ([] : List (S48))) = some (r1, r2) := h
 clear h
 have H' := amZ H
 clear H
 go_enter Try.func43, Try.ntmps43
 go_wp2_with (first | ((with_reducible refine gate_dst (N := 1) rfl ?_); refine box_event ?hg (N := 1) ?hd (cs := #[.slice A0_0 l0_0.length c0_0, .slice A0_1 l0_1.length c0_1]) (t := 31) ?hr ?_; (case hd => rfl); (case hg => rfl); (case hr => first | (go_simp; done) | (go_simp; rfl)); intro gb138 hg w2 hbox hb; have n0_ := amZ (zfY bwZ hb); have n1_ := amZ (hbox); have n2_ := amZ ((by rw [hg]; exact (zhY bwZ) : w.heap.size ≤ gb138)); have n3_ := amZ ((by rw [hg]; exact (zhY bwZ) : w.heap.size ≤ gb138)); clear HB; have HB := n0_; have BK138 := n1_; have GW138 := n2_; have GE138 := n3_; clear n0_ n1_ n2_ n3_; clear hb hbox hg) | ((with_reducible refine gate_dst (N := 2) rfl ?_); refine box_event ?hg (N := 2) ?hd (cs := #[.slice none 0 0, .slice none 0 0]) (t := 31) ?hr ?_; (case hd => rfl); (case hg => rfl); (case hr => first | (go_simp; done) | (go_simp; rfl)); intro gb139 hg w3 hbox hb; have n0_ := amZ (ziY (g := gb138) (o := .cells #[.slice A0_0 l0_0.length c0_0, .slice A0_1 l0_1.length c0_1] 31 (0, 0)) bkZ hb); have n1_ := amZ (zfY bwZ hb); have n2_ := amZ (hbox); have n3_ := amZ ((by rw [hg]; exact (zhY bwZ) : w.heap.size ≤ gb139)); have n4_ := amZ ((by rw [hg]; exact (zhY bwZ) : w.heap.size ≤ gb139)); have n5_ := amZ ((by rw [hg]; exact Nat.ne_of_lt (zkY (g := gb138) (o := .cells #[.slice A0_0 l0_0.length c0_0, .slice A0_1 l0_1.length c0_1] 31 (0, 0)) bkZ) : gb138 ≠ gb139)); have n6_ := amZ ((by rw [hg]; exact Nat.ne_of_gt (zkY (g := gb138) (o := .cells #[.slice A0_0 l0_0.length c0_0, .slice A0_1 l0_1.length c0_1] 31 (0, 0)) bkZ) : gb139 ≠ gb138)); clear BK138; clear HB; have BK138 := n0_; have HB := n1_; have BK139 := n2_; have GW139 := n3_; have GE139 := n4_; have NB138_139 := n5_; have NB139_138 := n6_; clear n0_ n1_ n2_ n3_ n4_ n5_ n6_; clear hb hbox hg) | ((with_reducible refine gate_dst (N := 3) rfl ?_); refine box_event ?hg (N := 3) ?hd (cs := #[.slice none 0 0, .slice none 0 0]) (t := 31) ?hr ?_; (case hd => rfl); (case hg => rfl); (case hr => first | (go_simp; done) | (go_simp; rfl)); intro gb140 hg w4 hbox hb; have n0_ := amZ (ziY (g := gb138) (o := .cells #[.slice A0_0 l0_0.length c0_0, .slice A0_1 l0_1.length c0_1] 31 (0, 0)) bkZ hb); have n1_ := amZ (ziY (g := gb139) (o := .cells #[.slice none 0 0, .slice none 0 0] 31 (0, 0)) bkZ hb); have n2_ := amZ (zfY bwZ hb); have n3_ := amZ (hbox); have n4_ := amZ ((by rw [hg]; exact (zhY bwZ) : w.heap.size ≤ gb140)); have n5_ := amZ ((by rw [hg]; exact (zhY bwZ) : w.heap.size ≤ gb140)); have n6_ := amZ ((by rw [hg]; exact Nat.ne_of_lt (zkY (g := gb138) (o := .cells #[.slice A0_0 l0_0.length c0_0, .slice A0_1 l0_1.length c0_1] 31 (0, 0)) bkZ) : gb138 ≠ gb140)); have n7_ := amZ ((by rw [hg]; exact Nat.ne_of_gt (zkY (g := gb138) (o := .cells #[.slice A0_0 l0_0.length c0_0, .slice A0_1 l0_1.length c0_1] 31 (0, 0)) bkZ) : gb140 ≠ gb138)); have n8_ := amZ ((by rw [hg]; exact Nat.ne_of_lt (zkY (g := gb139) (o := .cells #[.slice none 0 0, .slice none 0 0] 31 (0, 0)) bkZ) : gb139 ≠ gb140)); have n9_ := amZ ((by rw [hg]; exact Nat.ne_of_gt (zkY (g := gb139) (o := .cells #[.slice none 0 0, .slice none 0 0] 31 (0, 0)) bkZ) : gb140 ≠ gb139)); clear BK138; clear BK139; clear HB; have BK138 := n0_; have BK139 := n1_; have HB := n2_; have BK140 := n3_; have GW140 := n4_; have GE140 := n5_; have NB138_140 := n6_; have NB140_138 := n7_; have NB139_140 := n8_; have NB140_139 := n9_; clear n0_ n1_ n2_ n3_ n4_ n5_ n6_ n7_ n8_ n9_; clear hb hbox hg))
 go_loopg [4] k (fun kq v4 w' => ∃ (x4_1 : Int) (x141000_1 : List (S48)) (u141000 : Value), v4 = .int .i64 x4_1 ∧ Aside0 (spec_l5copy.l0 kq x4_1 l0_0 l0_1 x141000_1 = some (r1, r2)) ∧ Aside0 (kq ≤ k) ∧ Aside0 (Kd.S k48 48 w' w.heap.size (fun _ => True) u141000 x141000_1) ∧ Aside0 (w'.heap[gb138]? = some (.cells #[(.slice A0_0 l0_0.length c0_0), (.slice A0_1 l0_1.length c0_1)] 31 (0, 0))) ∧ Aside0 (w'.heap[gb139]? = some (.cells #[(.slice none 0 0), (.slice none 0 0)] 31 (0, 0))) ∧ Aside0 (w'.heap[gb140]? = some (.cells #[u141000, (.slice none 0 0)] 31 (0, 0))) ∧ Aside0 (Below w.heap.size w w'))
 case atStart => exact ⟨(0), (([] : List (S48))), (.slice none 0 0), (by first | rfl | (simp; done) | (simp [*]; done)), H', ⟨Nat.le_refl _⟩, ⟨by first | exact Kd.S_nil _ _ _ _ _ | exact Kd.N_nil _ _ _ _ _ | exact Kd.V_nil _ _ _ _ _ | exact Kd.Q_nil _ _ _ _ _ | exact Kd.R_nil _ _ _ _ _⟩, ⟨by (with_reducible repeat (first | refine zdY ?_ _ | refine zeY ?_ | refine zcY ?_ _)); exact BK138.out⟩, ⟨by (with_reducible repeat (first | refine zdY ?_ _ | refine zeY ?_ | refine zcY ?_ _)); exact BK139.out⟩, ⟨by (with_reducible repeat (first | refine zdY ?_ _ | refine zeY ?_ | refine zcY ?_ _)); exact BK140.out⟩, ⟨bwZ⟩⟩
 case round =>
  clear H'
  try clear p2
  try clear c4
  obtain ⟨x4_1, x141000_1, u141000, rfl, HA, HK1, HO_141000, BK138, BK139, BK140, HB⟩ := hrel
  cases gk with
  | zero => exact absurd HA.out (by simp [spec_l5copy.l0])
  | succ k1 =>
   have H := HA.out
   clear HA
   simp only [spec_l5copy.l0] at H
   by_cases c5 : x4_1 < (l0_0.length : Int)
   ·
    rw [if_pos c5] at H
    have c5b0 : decide (x4_1 < (l0_0.length : Int)) = true := decide_eq_true c5
    clear c5
    by_cases c6 : 0 ≤ x4_1
    ·
     rw [if_pos c6] at H
     have c6b0 : decide (0 ≤ x4_1) = true := decide_eq_true c6
     clear c6
     replace H := Option.bind_eq_some_iff.mp H
     obtain ⟨t143, A70, H⟩ := H
     replace H : (if x141000_1.length < 3518437208883 then (spec_l5copy.l0 k1 (wrap64 (x4_1 + 1)) l0_0 l0_1 (x141000_1 ++ [(⟨(rd_T48 l0_0 x4_1).f0, (rd_T48 l0_0 x4_1).f1, t143⟩ : S48)])) else (none)) = some (r1, r2) := H
     have A7 := amZ A70
     clear A70
     by_cases c8 : x141000_1.length < 3518437208883
     ·
      rw [if_pos c8] at H
      have LMc8 := amZ c8
      clear c8
      obtain ⟨y146, hy146⟩ : ∃ y_ : List (S48), y_ = (x141000_1 ++ [(⟨(rd_T48 l0_0 x4_1).f0, (rd_T48 l0_0 x4_1).f1, t143⟩ : S48)]) := ⟨_, rfl⟩
      replace H : (spec_l5copy.l0 k1 (wrap64 (x4_1 + 1)) l0_0 l0_1 y146) = some (r1, r2) := by first | (rw [hy146]; with_reducible exact H) | (have H2_ := (Option.bind_some _ _).symm.trans H; rw [hy146]; with_reducible exact H2_) | (have H2_ := (Option.bind_some _ _).symm.trans H; with_reducible exact H2_) | with_reducible exact H | (rw [hy146]; exact H) | exact H
      have Ny146 := amZ hy146
      clear hy146
      have H' := amZ H
      clear H
      have hnb9 := NB138_139.out
      have hnc9 := NB139_138.out
      have hnb10 := NB138_140.out
      have hnc10 := NB140_138.out
      have hcz11_0 : wr.cell? ⟨gb138, 0, none⟩ = some (.slice A0_0 l0_0.length c0_0) := (zaY BK138.out 0).trans rfl
      have hcz11_1 : wr.cell? ⟨gb138, 1, none⟩ = some (.slice A0_1 l0_1.length c0_1) := (zaY BK138.out 1).trans rfl
      have hfz11_0 := zbY BK138.out 0
      have hfz11_1 := zbY BK138.out 1
      have p141 : 0 ≤ (x4_1 : Int) := odZ
      have q141 : x4_1 < (l0_0.length : Int) := odZ
      obtain ⟨ad141, A141_2, c141_2, e141, hx141_0, hx141_1, hx141_2, hl141_2, hi141_2⟩ := at_T48 HR0_0.out x4_1 p141 q141
      cases e141
      replace hx141_0 := (HB.out.cell (World.block_lt_of_cell? w _ hx141_0)).trans hx141_0
      replace hx141_1 := (HB.out.cell (World.block_lt_of_cell? w _ hx141_1)).trans hx141_1
      replace hx141_2 := (HB.out.cell (World.block_lt_of_cell? w _ hx141_2)).trans hx141_2
      have HR141_2 := amZ hi141_2
      have HC141_2 := amZ hl141_2
      clear hi141_2 hl141_2
      replace p141 := eq_true p141
      replace q141 := eq_true q141
      try go_wp2_with (first | ((with_reducible refine gate_dst (N := 5) rfl ?_); refine box_event ?hg (N := 5) ?hd (cs := #[.bool false, .int .i64 0, .slice none 0 0]) (t := 48) ?hr ?_; (case hd => rfl); (case hg => rfl); (case hr => first | (go_simp; done) | (go_simp; rfl)); intro gb142 hg w12 hbox hb; have n0_ := amZ (Kd.S_below (Kd.S_elderB (by (with_reducible repeat (first | apply Kd.S_alloc | apply Kd.S_drewN | apply Kd.S_drew)); exact HO_141000.out) gb142 (Nat.le_of_eq hg.symm)) hb); have n1_ := amZ (ziY (g := gb138) (o := .cells #[.slice (some ad141) l0_0.length c0_0, .slice A0_1 l0_1.length c0_1] 31 (0, 0)) bkZ hb); have n2_ := amZ (ziY (g := gb139) (o := .cells #[.slice none 0 0, .slice none 0 0] 31 (0, 0)) bkZ hb); have n3_ := amZ (ziY (g := gb140) (o := .cells #[u141000, .slice none 0 0] 31 (0, 0)) bkZ hb); have n4_ := amZ (zfY bwZ hb); have n5_ := amZ (hbox); have n6_ := amZ ((by rw [hg]; exact (zhY bwZ) : w.heap.size ≤ gb142)); have n7_ := amZ ((by rw [hg]; exact (zhY bwZ) : w.heap.size ≤ gb142)); have n8_ := amZ ((by rw [hg]; exact Nat.ne_of_lt (zkY (g := gb138) (o := .cells #[.slice (some ad141) l0_0.length c0_0, .slice A0_1 l0_1.length c0_1] 31 (0, 0)) bkZ) : gb138 ≠ gb142)); have n9_ := amZ ((by rw [hg]; exact Nat.ne_of_gt (zkY (g := gb138) (o := .cells #[.slice (some ad141) l0_0.length c0_0, .slice A0_1 l0_1.length c0_1] 31 (0, 0)) bkZ) : gb142 ≠ gb138)); have n10_ := amZ ((by rw [hg]; exact Nat.ne_of_lt (zkY (g := gb139) (o := .cells #[.slice none 0 0, .slice none 0 0] 31 (0, 0)) bkZ) : gb139 ≠ gb142)); have n11_ := amZ ((by rw [hg]; exact Nat.ne_of_gt (zkY (g := gb139) (o := .cells #[.slice none 0 0, .slice none 0 0] 31 (0, 0)) bkZ) : gb142 ≠ gb139)); have n12_ := amZ ((by rw [hg]; exact Nat.ne_of_lt (zkY (g := gb140) (o := .cells #[u141000, .slice none 0 0] 31 (0, 0)) bkZ) : gb140 ≠ gb142)); have n13_ := amZ ((by rw [hg]; exact Nat.ne_of_gt (zkY (g := gb140) (o := .cells #[u141000, .slice none 0 0] 31 (0, 0)) bkZ) : gb142 ≠ gb140)); clear HO_141000; clear BK138; clear BK139; clear BK140; clear HB; have HO_141000 := n0_; have BK138 := n1_; have BK139 := n2_; have BK140 := n3_; have HB := n4_; have BK142 := n5_; have GW142 := n6_; have GE142 := n7_; have NB138_142 := n8_; have NB142_138 := n9_; have NB139_142 := n10_; have NB142_139 := n11_; have NB140_142 := n12_; have NB142_140 := n13_; clear n0_ n1_ n2_ n3_ n4_ n5_ n6_ n7_ n8_ n9_ n10_ n11_ n12_ n13_; clear hb hbox hg; have hnb13 := NB142_138.out; have hnc13 := NB138_142.out; have hnb14 := NB142_139.out; have hnc14 := NB139_142.out; have hnb15 := NB142_140.out; have hnc15 := NB140_142.out; have hcz16_0 : w12.cell? ⟨gb142, 0, none⟩ = some (.bool false) := (zaY BK142.out 0).trans rfl; have hcz16_1 : w12.cell? ⟨gb142, 1, none⟩ = some (.int .i64 0) := (zaY BK142.out 1).trans rfl; have hcz16_2 : w12.cell? ⟨gb142, 2, none⟩ = some (.slice none 0 0) := (zaY BK142.out 2).trans rfl; have hfz16_0 := zbY BK142.out 0; have hfz16_1 := zbY BK142.out 1; have hfz16_2 := zbY BK142.out 2))
      have n0_ : Aside0 (Kd.S k48 48 (((w12.setCell ⟨gb142, 0, none⟩ (.bool ((rd_T48 l0_0 x4_1).f0))).setCell ⟨gb142, 1, none⟩ (.int .i64 ((rd_T48 l0_0 x4_1).f1))).setCell ⟨gb142, 2, none⟩ (.slice A141_2 ((rd_T48 l0_0 x4_1).f2).length c141_2)) w.heap.size (fun k_ => k_ ≠ gb142) u141000 x141000_1) := ⟨by (with_reducible repeat (first | apply Kd.S_alloc | apply Kd.S_drewN | apply Kd.S_drew)); exact Kd.S_mono (Kd.S_far (p := ⟨gb142, 2, none⟩) (Kd.S_far (p := ⟨gb142, 1, none⟩) (Kd.S_far (p := ⟨gb142, 0, none⟩) (Kd.S_mono HO_141000.out (fun k_ hk => (⟨hk, hk.2⟩ : _ ∧ k_ ≠ gb142))) (fun _ hk => hk.2) (.bool ((rd_T48 l0_0 x4_1).f0))) (fun _ hk => hk.2) (.int .i64 ((rd_T48 l0_0 x4_1).f1))) (fun _ hk => hk.2) (.slice A141_2 ((rd_T48 l0_0 x4_1).f2).length c141_2)) (fun _ hk => hk.1.2)⟩
      have n1_ : Aside0 ((((w12.setCell ⟨gb142, 0, none⟩ (.bool ((rd_T48 l0_0 x4_1).f0))).setCell ⟨gb142, 1, none⟩ (.int .i64 ((rd_T48 l0_0 x4_1).f1))).setCell ⟨gb142, 2, none⟩ (.slice A141_2 ((rd_T48 l0_0 x4_1).f2).length c141_2)).heap[gb138]? = some (.cells #[.slice (some ad141) l0_0.length c0_0, .slice A0_1 l0_1.length c0_1] 31 (0, 0))) := ⟨by (with_reducible repeat (first | refine zdY ?_ _ | refine zeY ?_ | refine zcY ?_ _)); refine zjY ?_ NB138_142.out _; (with_reducible repeat (first | refine zdY ?_ _ | refine zeY ?_ | refine zcY ?_ _)); refine zjY ?_ NB138_142.out _; (with_reducible repeat (first | refine zdY ?_ _ | refine zeY ?_ | refine zcY ?_ _)); refine zjY ?_ NB138_142.out _; (with_reducible repeat (first | refine zdY ?_ _ | refine zeY ?_ | refine zcY ?_ _)); exact BK138.out⟩
      have n2_ : Aside0 ((((w12.setCell ⟨gb142, 0, none⟩ (.bool ((rd_T48 l0_0 x4_1).f0))).setCell ⟨gb142, 1, none⟩ (.int .i64 ((rd_T48 l0_0 x4_1).f1))).setCell ⟨gb142, 2, none⟩ (.slice A141_2 ((rd_T48 l0_0 x4_1).f2).length c141_2)).heap[gb139]? = some (.cells #[.slice none 0 0, .slice none 0 0] 31 (0, 0))) := ⟨by (with_reducible repeat (first | refine zdY ?_ _ | refine zeY ?_ | refine zcY ?_ _)); refine zjY ?_ NB139_142.out _; (with_reducible repeat (first | refine zdY ?_ _ | refine zeY ?_ | refine zcY ?_ _)); refine zjY ?_ NB139_142.out _; (with_reducible repeat (first | refine zdY ?_ _ | refine zeY ?_ | refine zcY ?_ _)); refine zjY ?_ NB139_142.out _; (with_reducible repeat (first | refine zdY ?_ _ | refine zeY ?_ | refine zcY ?_ _)); exact BK139.out⟩
      have n3_ : Aside0 ((((w12.setCell ⟨gb142, 0, none⟩ (.bool ((rd_T48 l0_0 x4_1).f0))).setCell ⟨gb142, 1, none⟩ (.int .i64 ((rd_T48 l0_0 x4_1).f1))).setCell ⟨gb142, 2, none⟩ (.slice A141_2 ((rd_T48 l0_0 x4_1).f2).length c141_2)).heap[gb140]? = some (.cells #[u141000, .slice none 0 0] 31 (0, 0))) := ⟨by (with_reducible repeat (first | refine zdY ?_ _ | refine zeY ?_ | refine zcY ?_ _)); refine zjY ?_ NB140_142.out _; (with_reducible repeat (first | refine zdY ?_ _ | refine zeY ?_ | refine zcY ?_ _)); refine zjY ?_ NB140_142.out _; (with_reducible repeat (first | refine zdY ?_ _ | refine zeY ?_ | refine zcY ?_ _)); refine zjY ?_ NB140_142.out _; (with_reducible repeat (first | refine zdY ?_ _ | refine zeY ?_ | refine zcY ?_ _)); exact BK140.out⟩
      have n4_ : Aside0 ((((w12.setCell ⟨gb142, 0, none⟩ (.bool ((rd_T48 l0_0 x4_1).f0))).setCell ⟨gb142, 1, none⟩ (.int .i64 ((rd_T48 l0_0 x4_1).f1))).setCell ⟨gb142, 2, none⟩ (.slice A141_2 ((rd_T48 l0_0 x4_1).f2).length c141_2)).heap[gb142]? = some (.cells #[.bool ((rd_T48 l0_0 x4_1).f0), .int .i64 ((rd_T48 l0_0 x4_1).f1), .slice A141_2 ((rd_T48 l0_0 x4_1).f2).length c141_2] 48 (0, 0))) := ⟨by (with_reducible repeat (first | refine zdY ?_ _ | refine zeY ?_ | refine zcY ?_ _)); refine blk_put (cs := #[.bool ((rd_T48 l0_0 x4_1).f0), .int .i64 ((rd_T48 l0_0 x4_1).f1), .slice none 0 0]) ?_ 2 _ rfl; (with_reducible repeat (first | refine zdY ?_ _ | refine zeY ?_ | refine zcY ?_ _)); refine blk_put (cs := #[.bool ((rd_T48 l0_0 x4_1).f0), .int .i64 0, .slice none 0 0]) ?_ 1 _ rfl; (with_reducible repeat (first | refine zdY ?_ _ | refine zeY ?_ | refine zcY ?_ _)); refine blk_put (cs := #[.bool false, .int .i64 0, .slice none 0 0]) ?_ 0 _ rfl; (with_reducible repeat (first | refine zdY ?_ _ | refine zeY ?_ | refine zcY ?_ _)); exact BK142.out⟩
      have n5_ : Aside0 (Below w.heap.size w (((w12.setCell ⟨gb142, 0, none⟩ (.bool ((rd_T48 l0_0 x4_1).f0))).setCell ⟨gb142, 1, none⟩ (.int .i64 ((rd_T48 l0_0 x4_1).f1))).setCell ⟨gb142, 2, none⟩ (.slice A141_2 ((rd_T48 l0_0 x4_1).f2).length c141_2))) := ⟨bwZ⟩
      (try clear HO_141000)
      (try clear BK138)
      (try clear BK139)
      (try clear BK140)
      (try clear BK142)
      (try clear HB)
      generalize (((w12.setCell ⟨gb142, 0, none⟩ (.bool ((rd_T48 l0_0 x4_1).f0))).setCell ⟨gb142, 1, none⟩ (.int .i64 ((rd_T48 l0_0 x4_1).f1))).setCell ⟨gb142, 2, none⟩ (.slice A141_2 ((rd_T48 l0_0 x4_1).f2).length c141_2)) = w17 at n0_ n1_ n2_ n3_ n4_ n5_ ⊢
      have HO_141000 := n0_
      have BK138 := n1_
      have BK139 := n2_
      have BK140 := n3_
      have BK142 := n4_
      have HB := n5_
      clear n0_ n1_ n2_ n3_ n4_ n5_
      have n0_ := amZ (Kd.S_drew HO_141000.out)
      have n1_ := amZ (zeY BK138.out)
      have n2_ := amZ (zeY BK139.out)
      have n3_ := amZ (zeY BK140.out)
      have n4_ := amZ (zeY BK142.out)
      have n5_ := amZ (below_drew1 HB.out)
      clear HO_141000
      clear BK138
      clear BK139
      clear BK140
      clear BK142
      clear HB
      have HO_141000 := n0_
      have BK138 := n1_
      have BK139 := n2_
      have BK140 := n3_
      have BK142 := n4_
      have HB := n5_
      clear n0_ n1_ n2_ n3_ n4_ n5_
      refine start_ (n := 14) (S := fun w' => w'.cell? ⟨gb140, 0, none⟩ = some (u141000) ∧ w'.cell? ⟨gb140, 1, none⟩ = some (.slice none 0 0) ∧ w'.cell? ⟨gb142, 0, none⟩ = some (.bool ((rd_T48 l0_0 x4_1).f0)) ∧ w'.cell? ⟨gb142, 1, none⟩ = some (.int .i64 ((rd_T48 l0_0 x4_1).f1)) ∧ w'.cell? ⟨gb142, 2, none⟩ = some (.slice A141_2 ((rd_T48 l0_0 x4_1).f2).length c141_2)) (ds := [13]) #[false, false, false, false, false, false, false, false, false, false, false, false, false, false] (by kernel_rfl) rfl rfl ⟨(zaY BK140.out 0).trans rfl, (zaY BK140.out 1).trans rfl, (zaY BK142.out 0).trans rfl, (zaY BK142.out 1).trans rfl, (zaY BK142.out 2).trans rfl⟩ (fun hHeld => ?_); refine with_tabW spec_l5copy.tab6 spec_l5copy.bits6 (fun HT_ HW_ => ?_)
      generalize w17.drew = w18 at HO_141000 BK138 BK139 BK140 BK142 HB hHeld ⊢
      refine pure_ (i := 0) (N := some 21) (v := ?_) (a' := ?_) #[true, false, false, false, false, false, false, false, false, false, false, false, false, false] rfl rfl (any_of HT_.out (by kernel_rfl)) (fun _ _ _ h => h) (Or.inl ⟨by rfl, ?_⟩) ?_ ?_
      rotate_left
      ·
       intro w'
       go_simp
       with_reducible rfl
      rotate_left
      ·
       simp only [Act.put, List.setIfInBounds_toArray, List.set_cons_zero, List.set_cons_succ, i64_w, i32_w]
       rfl
      refine pure_ (i := 2) (N := some 23) (v := ?_) (a' := ?_) #[true, false, true, false, false, false, false, false, false, false, false, false, false, false] rfl rfl (any_of HT_.out (by kernel_rfl)) (fun _ _ _ h => h) (Or.inl ⟨by rfl, ?_⟩) ?_ ?_
      rotate_left
      ·
       intro w'
       go_simp
       with_reducible rfl
      rotate_left
      ·
       simp only [Act.put, List.setIfInBounds_toArray, List.set_cons_zero, List.set_cons_succ, i64_w, i32_w]
       rfl
      refine pure_ (i := 4) (N := some 25) (v := ?_) (a' := ?_) #[true, false, true, false, true, false, false, false, false, false, false, false, false, false] rfl rfl (any_of HT_.out (by kernel_rfl)) (fun _ _ _ h => h) (Or.inl ⟨by rfl, ?_⟩) ?_ ?_
      rotate_left
      ·
       intro w'
       go_simp
       with_reducible rfl
      rotate_left
      ·
       simp only [Act.put, List.setIfInBounds_toArray, List.set_cons_zero, List.set_cons_succ, i64_w, i32_w]
       rfl
      refine pure_ (i := 6) (N := some 27) (v := ?_) (a' := ?_) #[true, false, true, false, true, false, true, false, false, false, false, false, false, false] rfl rfl (any_of HT_.out (by kernel_rfl)) (fun _ _ _ h => h) (Or.inl ⟨by rfl, ?_⟩) ?_ ?_
      rotate_left
      ·
       intro w'
       go_simp
       with_reducible rfl
      rotate_left
      ·
       simp only [Act.put, List.setIfInBounds_toArray, List.set_cons_zero, List.set_cons_succ, i64_w, i32_w]
       rfl
      refine take_ (i := 1) (N := some 22) (v := ?_) (a' := ?_) #[true, true, true, false, true, false, true, false, false, false, false, false, false, false] rfl rfl (take_ofW HT_.out HW_.out (by kernel_rfl)) (fun _ _ _ h => h) (Or.inl ⟨by rfl, ?_⟩) hHeld ?_ ?_
      rotate_left
      ·
       rintro w' ⟨s0, s1, s2, s3, s4⟩
       go_simp
       with_reducible rfl
      rotate_left
      ·
       simp only [Act.put, List.setIfInBounds_toArray, List.set_cons_zero, List.set_cons_succ, i64_w, i32_w]
       rfl
      refine take_ (i := 3) (N := some 24) (v := ?_) (a' := ?_) #[true, true, true, true, true, false, true, false, false, false, false, false, false, false] rfl rfl (take_ofW HT_.out HW_.out (by kernel_rfl)) (fun _ _ _ h => h) (Or.inl ⟨by rfl, ?_⟩) hHeld ?_ ?_
      rotate_left
      ·
       rintro w' ⟨s0, s1, s2, s3, s4⟩
       go_simp
       with_reducible rfl
      rotate_left
      ·
       simp only [Act.put, List.setIfInBounds_toArray, List.set_cons_zero, List.set_cons_succ, i64_w, i32_w]
       rfl
      refine take_ (i := 5) (N := some 26) (v := ?_) (a' := ?_) #[true, true, true, true, true, true, true, false, false, false, false, false, false, false] rfl rfl (take_ofW HT_.out HW_.out (by kernel_rfl)) (fun _ _ _ h => h) (Or.inl ⟨by rfl, ?_⟩) hHeld ?_ ?_
      rotate_left
      ·
       rintro w' ⟨s0, s1, s2, s3, s4⟩
       go_simp
       with_reducible rfl
      rotate_left
      ·
       simp only [Act.put, List.setIfInBounds_toArray, List.set_cons_zero, List.set_cons_succ, i64_w, i32_w]
       rfl
      refine take_ (i := 7) (N := some 28) (v := ?_) (a' := ?_) #[true, true, true, true, true, true, true, true, false, false, false, false, false, false] rfl rfl (take_ofW HT_.out HW_.out (by kernel_rfl)) (fun _ _ _ h => h) (Or.inl ⟨by rfl, ?_⟩) hHeld ?_ ?_
      rotate_left
      ·
       rintro w' ⟨s0, s1, s2, s3, s4⟩
       go_simp
       with_reducible rfl
      rotate_left
      ·
       simp only [Act.put, List.setIfInBounds_toArray, List.set_cons_zero, List.set_cons_succ, i64_w, i32_w]
       rfl
      refine one_ (i := 8) (N := some 29) #[true, true, true, true, true, true, true, true, true, false, false, false, false, false] rfl rfl (one_of HT_.out (by kernel_rfl)) (by decide) (fun K hK => ?_)
      refine goes_ Try.func71 (by kernel_rfl) rfl #[.slice A141_2 ((rd_T48 l0_0 x4_1).f2).length c141_2] (by rfl) rfl rfl (by (try simp only [List.map_toArray, List.map_cons, List.map_nil]); first | done | rfl | (simp only [List.length_drop, List.length_take]; rfl)) ?_
      with_reducible refine (spec_l1copy.calls _ _ ((rd_T48 l0_0 x4_1).f2) t143 _ ?side1 ?side2 A7.out).mono ?_
      (case side1 => repeat (first | exact (Kd.C_below HR141_2.out HB.out) | (with_reducible refine Kd.C_alloc ?_ _) | (with_reducible refine Kd.C_drewN ?_ _) | (with_reducible refine Kd.C_drew ?_)))
      (case side2 => exact HC141_2.out)
      rintro e w19 ⟨v144, rfl, ho0, hb⟩
      refine ⟨_, rfl, ?_⟩
      have n0_ := amZ (Kd.S_elder' (by (with_reducible repeat (first | apply Kd.S_alloc | apply Kd.S_drewN | apply Kd.S_drew)); exact HO_141000.out) (Kd.R_base ho0) hb)
      have n1_ := amZ (Kd.R_lower ho0 (zhY bwZ))
      have n2_ := amZ (ziY (g := gb138) (o := .cells #[.slice (some ad141) l0_0.length c0_0, .slice A0_1 l0_1.length c0_1] 31 (0, 0)) bkZ hb)
      have n3_ := amZ (ziY (g := gb139) (o := .cells #[.slice none 0 0, .slice none 0 0] 31 (0, 0)) bkZ hb)
      have n4_ := amZ (ziY (g := gb140) (o := .cells #[u141000, .slice none 0 0] 31 (0, 0)) bkZ hb)
      have n5_ := amZ (ziY (g := gb142) (o := .cells #[.bool ((rd_T48 l0_0 x4_1).f0), .int .i64 ((rd_T48 l0_0 x4_1).f1), .slice A141_2 ((rd_T48 l0_0 x4_1).f2).length c141_2] 48 (0, 0)) bkZ hb)
      have n6_ := amZ (zfY bwZ hb)
      clear HO_141000
      clear BK138
      clear BK139
      clear BK140
      clear BK142
      clear HB
      have HO_141000 := n0_
      have HO145 := n1_
      have BK138 := n2_
      have BK139 := n3_
      have BK140 := n4_
      have BK142 := n5_
      have HB := n6_
      clear n0_ n1_ n2_ n3_ n4_ n5_ n6_
      (try clear hb)
      (try clear hb2)
      (try clear hk)
      (try clear hi)
      (try clear ho0)
      obtain ⟨Ao20, co20, eo20⟩ := Kd.R_slice HO145.out
      (first | subst eo20 | (injection eo20 with f1_ f2_ f3_; have f4_ := f1_.symm; have f5_ := f3_.symm; clear f1_ f2_ f3_; subst f4_; subst f5_))
      refine hK.out _ _ ⟨(zaY BK140.out 0).trans rfl, (zaY BK140.out 1).trans rfl, (zaY BK142.out 0).trans rfl, (zaY BK142.out 1).trans rfl, (zaY BK142.out 2).trans rfl⟩ (fun hHeld => ?_)
      clear hK K
      refine norm_ (a' := ?_) ?_ ?_
      rotate_left
      ·
       show Act.put _ (some 29) _ = _
       simp only [Act.put, List.setIfInBounds_toArray, List.set_cons_zero, List.set_cons_succ, i64_w, i32_w]
       rfl
      refine pure_ (i := 9) (N := some 30) (v := ?_) (a' := ?_) #[true, true, true, true, true, true, true, true, true, true, false, false, false, false] rfl rfl (any_of HT_.out (by kernel_rfl)) (fun _ _ _ h => h) (Or.inl ⟨by rfl, ?_⟩) ?_ ?_
      rotate_left
      ·
       intro w'
       go_simp
       with_reducible rfl
      rotate_left
      ·
       simp only [Act.put, List.setIfInBounds_toArray, List.set_cons_zero, List.set_cons_succ, i64_w, i32_w]
       rfl
      refine one_ (i := 10) (N := some 31) #[true, true, true, true, true, true, true, true, true, true, true, false, false, false] rfl rfl (one_of HT_.out (by kernel_rfl)) (by decide) (fun K hK => ?_)
      refine value_ (w1 := ?_) (v := ?_) (by rfl) rfl ?_ ?_
      rotate_left 2
      ·
       go_simp
       constructor
       ·
        rfl
       ·
        rfl
      refine hK.out _ _ ⟨(zaY (zcY BK140.out _) 0).trans rfl, (zaY (zcY BK140.out _) 1).trans rfl, (zaY (zcY BK142.out _) 0).trans rfl, (zaY (zcY BK142.out _) 1).trans rfl, (zaY (zcY BK142.out _) 2).trans rfl⟩ (fun hHeld => ?_)
      clear hK K
      refine norm_ (a' := ?_) ?_ ?_
      rotate_left
      ·
       show Act.put _ (some 31) _ = _
       simp only [Act.put, List.setIfInBounds_toArray, List.set_cons_zero, List.set_cons_succ, i64_w, i32_w]
       rfl
      refine one_ (i := 11) (N := some 32) #[true, true, true, true, true, true, true, true, true, true, true, true, false, false] rfl rfl (one_of HT_.out (by kernel_rfl)) (by decide) (fun K hK => ?_)
      refine Kd.S_append_step k48 (w0 := w) w.heap.size (by rfl) (.tmp 22) (.tmp 31) 28 48 (.agg #[(.bool false), (.int .i64 0), (.slice none 0 0)]) 40 rfl Try.underlying28 info48 rfl (by decide) (by omega) u141000 x141000_1 (⟨(rd_T48 l0_0 x4_1).f0, (rd_T48 l0_0 x4_1).f1, t143⟩ : S48) [.bool ((rd_T48 l0_0 x4_1).f0), .int .i64 ((rd_T48 l0_0 x4_1).f1), .slice Ao20 t143.length co20] (fun k_ => k_ ≠ gb142) (fun k_ => some k_ = (.slice Ao20 t143.length co20 : Value).ownBlock) rfl rfl ?aP (fun k_ hk_ => ((Kd.R_mono (ok' := fun k_ => ((fun k_ => k_ ≠ gb142)) k_ ∧ some k_ ≠ (u141000 : Value).ownBlock) (Kd.R_types (Kd.R_apart' (HO145.out) (Kd.S_typed HO_141000.out) (by decide)) BK142.out (by decide)) (fun k_ hk => ⟨hk.2, hk.1.2⟩))).1 k_ hk_.symm) ?aF ?aO ?aB ?aS ?aL ?_
      (case aP => exact k48_mkM _ _ _ (⟨(rd_T48 l0_0 x4_1).f0, (rd_T48 l0_0 x4_1).f1, t143⟩ : S48) (Kd.R_mono (Kd.R_tight rfl (Kd.R_mono (ok' := fun k_ => ((fun k_ => k_ ≠ gb142)) k_ ∧ some k_ ≠ (u141000 : Value).ownBlock) (Kd.R_types (Kd.R_apart' (HO145.out) (Kd.S_typed HO_141000.out) (by decide)) BK142.out (by decide)) (fun k_ hk => ⟨hk.2, hk.1.2⟩))) (fun _ h_ => h_)))
      (case aB => exact bwZ)
      (case aF => exact (fun k_ hk => Kd.freshB (g := gb142) (o := .cells #[.bool ((rd_T48 l0_0 x4_1).f0), .int .i64 ((rd_T48 l0_0 x4_1).f1), .slice A141_2 ((rd_T48 l0_0 x4_1).f2).length c141_2] 48 (0, 0)) bkZ k_ hk))
      (case aO => exact (by (with_reducible repeat (first | apply Kd.S_alloc | apply Kd.S_drewN | apply Kd.S_drew)); exact Kd.S_mono HO_141000.out (fun k_ hk => ⟨hk.1, fun e_ => hk.2 e_⟩)))
      (case aS => exact (zhY bwZ))
      (case aL => have := LMc8.out; first | omega | (simp only [ByteArray.size, List.size_toArray, List.length_cons, List.length_nil]; omega))
      intro v147 w21 ho hb hg hat
      rw [← Ny146.out] at ho
      have n0_ := amZ (blk_grown (g := gb138) (o := .cells #[.slice (some ad141) l0_0.length c0_0, .slice A0_1 l0_1.length c0_1] 31 (0, 0)) bkZ hg (Kd.S_ne HO_141000.out BK138.out (by decide)))
      have n1_ := amZ (blk_grown (g := gb139) (o := .cells #[.slice none 0 0, .slice none 0 0] 31 (0, 0)) bkZ hg (Kd.S_ne HO_141000.out BK139.out (by decide)))
      have n2_ := amZ (blk_grown (g := gb140) (o := .cells #[u141000, .slice none 0 0] 31 (0, 0)) bkZ hg (Kd.S_ne HO_141000.out BK140.out (by decide)))
      have n3_ := amZ (blk_grown (g := gb142) (o := .cells #[.bool ((rd_T48 l0_0 x4_1).f0), .int .i64 ((rd_T48 l0_0 x4_1).f1), .slice A141_2 ((rd_T48 l0_0 x4_1).f2).length c141_2] 48 (0, 0)) bkZ hg (Kd.S_away HO_141000.out (fun _ hk => hk.1)))
      have n4_ := amZ (hb)
      have n5_ := amZ (ho)
      clear BK138
      clear BK139
      clear BK140
      clear BK142
      clear HB
      clear HO_141000
      clear HO145
      have BK138 := n0_
      have BK139 := n1_
      have BK140 := n2_
      have BK142 := n3_
      have HB := n4_
      have HO148 := n5_
      clear n0_ n1_ n2_ n3_ n4_ n5_
      clear ho hb hg hat
      obtain ⟨Ao22, co22, eo22⟩ := Kd.S_slice HO148.out
      (first | subst eo22 | (injection eo22 with f1_ f2_ f3_; have f4_ := f1_.symm; have f5_ := f3_.symm; clear f1_ f2_ f3_; subst f4_; subst f5_))
      refine hK.out _ _ ⟨(zaY BK140.out 0).trans rfl, (zaY BK140.out 1).trans rfl, (zaY BK142.out 0).trans rfl, (zaY BK142.out 1).trans rfl, (zaY BK142.out 2).trans rfl⟩ (fun hHeld => ?_)
      clear hK K
      refine norm_ (a' := ?_) ?_ ?_
      rotate_left
      ·
       show Act.put _ (some 32) _ = _
       simp only [Act.put, List.setIfInBounds_toArray, List.set_cons_zero, List.set_cons_succ, i64_w, i32_w]
       rfl
      refine pure_ (i := 12) (N := some 33) (v := ?_) (a' := ?_) #[true, true, true, true, true, true, true, true, true, true, true, true, true, false] rfl rfl (any_of HT_.out (by kernel_rfl)) (fun _ _ _ h => h) (Or.inl ⟨by rfl, ?_⟩) ?_ ?_
      rotate_left
      ·
       intro w'
       go_simp
       with_reducible rfl
      rotate_left
      ·
       simp only [Act.put, List.setIfInBounds_toArray, List.set_cons_zero, List.set_cons_succ, i64_w, i32_w]
       rfl
      refine last_ (i := 13) (N := none) #[true, true, true, true, true, true, true, true, true, true, true, true, true, true] rfl rfl (one_of HT_.out (by kernel_rfl)) (by decide) (fun K hK => ?_)
      have hs23 : w21.cell? ⟨gb140, 0, none⟩ = some (u141000) := (zaY BK140.out 0).trans rfl
      have hfs23 := zbY BK140.out 0
      have hns23_0 := NB138_140.out
      have hns23_1 := NB139_140.out
      have hns23_3 := NB142_140.out
      have hms23_0 := NB140_138.out
      have hms23_1 := NB140_139.out
      have hms23_3 := NB140_142.out
      refine skip_ (w1 := ?_) (by rfl) rfl ?_ ?_
      rotate_left
      ·
       go_simp
       rfl
      refine hK.out _ _ ?_
      clear hK K
      refine done_ (done_of HT_.out (by kernel_rfl)) ?_
      try go_wp2
      go_roundg k1
      case measure => have := HK1.out; omega
      case rel => exact ⟨(wrap64 (x4_1 + 1)), (y146), (.slice Ao22 y146.length co22), (by first | rfl | (simp; done) | (simp [*]; done)), H', ⟨by have := HK1.out; omega⟩, ⟨by (with_reducible repeat (first | apply Kd.S_alloc | apply Kd.S_drewN | apply Kd.S_drew)); exact Kd.S_mono (Kd.S_far (p := ⟨gb140, 0, none⟩) (Kd.S_types HO148.out BK140.out (by decide)) (fun _ hk => hk.2) (.slice Ao22 y146.length co22)) (fun _ hk => trivial)⟩, ⟨by (with_reducible repeat (first | refine zdY ?_ _ | refine zeY ?_ | refine zcY ?_ _)); refine zjY ?_ NB138_140.out _; (with_reducible repeat (first | refine zdY ?_ _ | refine zeY ?_ | refine zcY ?_ _)); exact BK138.out⟩, ⟨by (with_reducible repeat (first | refine zdY ?_ _ | refine zeY ?_ | refine zcY ?_ _)); refine zjY ?_ NB139_140.out _; (with_reducible repeat (first | refine zdY ?_ _ | refine zeY ?_ | refine zcY ?_ _)); exact BK139.out⟩, ⟨by (with_reducible repeat (first | refine zdY ?_ _ | refine zeY ?_ | refine zcY ?_ _)); refine blk_put (cs := #[u141000, .slice none 0 0]) ?_ 0 _ rfl; (with_reducible repeat (first | refine zdY ?_ _ | refine zeY ?_ | refine zcY ?_ _)); exact BK140.out⟩, ⟨bwZ⟩⟩
     ·
      rw [if_neg c8] at H
      exact absurd H (by simp)
    ·
     rw [if_neg c6] at H
     exact absurd H (by simp)
   ·
    rw [if_neg c5] at H
    have c5b0 : decide (x4_1 < (l0_0.length : Int)) = false := decide_eq_false c5
    clear c5
    have H' := amZ H
    clear H
    have hnb24 := NB138_139.out
    have hnc24 := NB139_138.out
    have hnb25 := NB138_140.out
    have hnc25 := NB140_138.out
    have hcz26_0 : wr.cell? ⟨gb138, 0, none⟩ = some (.slice A0_0 l0_0.length c0_0) := (zaY BK138.out 0).trans rfl
    have hcz26_1 : wr.cell? ⟨gb138, 1, none⟩ = some (.slice A0_1 l0_1.length c0_1) := (zaY BK138.out 1).trans rfl
    have hfz26_0 := zbY BK138.out 0
    have hfz26_1 := zbY BK138.out 1
    go_wp2
    go_loopg [6] k1 (fun kq v6 w' => ∃ (x6_2 : Int) (x141001_2 : List (S52)) (u141001 : Value), v6 = .int .i64 x6_2 ∧ Aside0 (spec_l5copy.l1 kq x6_2 l0_0 l0_1 x141000_1 x141001_2 = some (r1, r2)) ∧ Aside0 (kq ≤ k1) ∧ Aside0 (Kd.S k48 48 w' w.heap.size (fun _ => True) u141000 x141000_1) ∧ Aside0 (Kd.S k52 52 w' w.heap.size (fun _ => True) u141001 x141001_2) ∧ Aside0 (w'.heap[gb138]? = some (.cells #[(.slice A0_0 l0_0.length c0_0), (.slice A0_1 l0_1.length c0_1)] 31 (0, 0))) ∧ Aside0 (w'.heap[gb139]? = some (.cells #[(.slice none 0 0), (.slice none 0 0)] 31 (0, 0))) ∧ Aside0 (w'.heap[gb140]? = some (.cells #[u141000, u141001] 31 (0, 0))) ∧ Aside0 (Below w.heap.size w w'))
    case atStart => exact ⟨(0), (([] : List (S52))), (.slice none 0 0), (by first | rfl | (simp; done) | (simp [*]; done)), H', ⟨Nat.le_refl _⟩, ⟨by (with_reducible repeat (first | apply Kd.S_alloc | apply Kd.S_drewN | apply Kd.S_drew)); exact HO_141000.out⟩, ⟨by first | exact Kd.S_nil _ _ _ _ _ | exact Kd.N_nil _ _ _ _ _ | exact Kd.V_nil _ _ _ _ _ | exact Kd.Q_nil _ _ _ _ _ | exact Kd.R_nil _ _ _ _ _⟩, ⟨by (with_reducible repeat (first | refine zdY ?_ _ | refine zeY ?_ | refine zcY ?_ _)); exact BK138.out⟩, ⟨by (with_reducible repeat (first | refine zdY ?_ _ | refine zeY ?_ | refine zcY ?_ _)); exact BK139.out⟩, ⟨by (with_reducible repeat (first | refine zdY ?_ _ | refine zeY ?_ | refine zcY ?_ _)); exact BK140.out⟩, ⟨bwZ⟩⟩
    case round =>
     clear H'
     try clear c1
     try clear p1
     try clear q1
     try clear hx1
     try clear c2
     try clear p2
     try clear c4
     try clear c5
     try clear c5b0
     try clear c6
     try clear c6b0
     try clear p6
     try clear c7
     try clear c8
     try clear c9
     try clear c10
     try clear c13
     try clear c14
     try clear p14
     try clear q14
     try clear hx14
     try clear c15
     try clear c24
     try clear c25
     try clear hcz11_0
     try clear hcz11_1
     try clear hcz16_0
     try clear hcz16_1
     try clear hcz16_2
     try clear hcz26_0
     try clear hcz26_1
     try clear hfz11_0
     try clear hfz11_1
     try clear hfz16_0
     try clear hfz16_1
     try clear hfz16_2
     try clear hfz26_0
     try clear hfz26_1
     try clear hx141_0
     try clear hx141_1
     try clear hx141_2
     try clear p141
     try clear p2
     try clear q141
     obtain ⟨x6_2, x141001_2, u141001, rfl, HA, HK2, HO_141000, HO_141001, BK138, BK139, BK140, HB⟩ := hrel
     cases gk with
     | zero => exact absurd HA.out (by simp [spec_l5copy.l1])
     | succ k2 =>
      have H := HA.out
      clear HA
      simp only [spec_l5copy.l1] at H
      by_cases c27 : x6_2 < (l0_1.length : Int)
      ·
       rw [if_pos c27] at H
       have c27b0 : decide (x6_2 < (l0_1.length : Int)) = true := decide_eq_true c27
       clear c27
       by_cases c28 : 0 ≤ x6_2
       ·
        rw [if_pos c28] at H
        have c28b0 : decide (0 ≤ x6_2) = true := decide_eq_true c28
        clear c28
        by_cases c29 : ([] : List (S54)).length + ((rd_T52 l0_1 x6_2).f2).length < 8796093022208
        ·
         rw [if_pos c29] at H
         have LMc29 := amZ c29
         clear c29
         obtain ⟨y152, hy152⟩ : ∃ y_ : List (S54), y_ = (([] : List (S54)) ++ ((rd_T52 l0_1 x6_2).f2)) := ⟨_, rfl⟩
         replace H : (if ([] : List (S57)).length + ((rd_T52 l0_1 x6_2).f3).length < 5864062014805 then (if x141001_2.length < 2199023255552 then (spec_l5copy.l1 k2 (wrap64 (x6_2 + 1)) l0_0 l0_1 x141000_1 (x141001_2 ++ [(⟨(rd_T52 l0_1 x6_2).f0, (rd_T52 l0_1 x6_2).f1, y152, (([] : List (S57)) ++ ((rd_T52 l0_1 x6_2).f3))⟩ : S52)])) else (none)) else (none)) = some (r1, r2) := by first | (rw [hy152]; with_reducible exact H) | (have H2_ := (Option.bind_some _ _).symm.trans H; rw [hy152]; with_reducible exact H2_) | (have H2_ := (Option.bind_some _ _).symm.trans H; with_reducible exact H2_) | with_reducible exact H | (rw [hy152]; exact H) | exact H
         have Ny152 := amZ hy152
         clear hy152
         by_cases c30 : ([] : List (S57)).length + ((rd_T52 l0_1 x6_2).f3).length < 5864062014805
         ·
          rw [if_pos c30] at H
          have LMc30 := amZ c30
          clear c30
          obtain ⟨y155, hy155⟩ : ∃ y_ : List (S57), y_ = (([] : List (S57)) ++ ((rd_T52 l0_1 x6_2).f3)) := ⟨_, rfl⟩
          replace H : (if x141001_2.length < 2199023255552 then (spec_l5copy.l1 k2 (wrap64 (x6_2 + 1)) l0_0 l0_1 x141000_1 (x141001_2 ++ [(⟨(rd_T52 l0_1 x6_2).f0, (rd_T52 l0_1 x6_2).f1, y152, y155⟩ : S52)])) else (none)) = some (r1, r2) := by first | (rw [hy155]; with_reducible exact H) | (have H2_ := (Option.bind_some _ _).symm.trans H; rw [hy155]; with_reducible exact H2_) | (have H2_ := (Option.bind_some _ _).symm.trans H; with_reducible exact H2_) | with_reducible exact H | (rw [hy155]; exact H) | exact H
          have Ny155 := amZ hy155
          clear hy155
          by_cases c31 : x141001_2.length < 2199023255552
          ·
           rw [if_pos c31] at H
           have LMc31 := amZ c31
           clear c31
           obtain ⟨y158, hy158⟩ : ∃ y_ : List (S52), y_ = (x141001_2 ++ [(⟨(rd_T52 l0_1 x6_2).f0, (rd_T52 l0_1 x6_2).f1, y152, y155⟩ : S52)]) := ⟨_, rfl⟩
           replace H : (spec_l5copy.l1 k2 (wrap64 (x6_2 + 1)) l0_0 l0_1 x141000_1 y158) = some (r1, r2) := by first | (rw [hy158]; with_reducible exact H) | (have H2_ := (Option.bind_some _ _).symm.trans H; rw [hy158]; with_reducible exact H2_) | (have H2_ := (Option.bind_some _ _).symm.trans H; with_reducible exact H2_) | with_reducible exact H | (rw [hy158]; exact H) | exact H
           have Ny158 := amZ hy158
           clear hy158
           have H' := amZ H
           clear H
           have hnb32 := NB138_139.out
           have hnc32 := NB139_138.out
           have hnb33 := NB138_140.out
           have hnc33 := NB140_138.out
           have hcz34_0 : wr.cell? ⟨gb138, 0, none⟩ = some (.slice A0_0 l0_0.length c0_0) := (zaY BK138.out 0).trans rfl
           have hcz34_1 : wr.cell? ⟨gb138, 1, none⟩ = some (.slice A0_1 l0_1.length c0_1) := (zaY BK138.out 1).trans rfl
           have hfz34_0 := zbY BK138.out 0
           have hfz34_1 := zbY BK138.out 1
           have p149 : 0 ≤ (x6_2 : Int) := odZ
           have q149 : x6_2 < (l0_1.length : Int) := odZ
           obtain ⟨ad149, A149_2, c149_2, A149_3, c149_3, e149, hx149_0, hx149_1, hx149_2, hx149_3, hl149_2, hi149_2, hl149_3, hi149_3⟩ := at_T52 HR0_1.out x6_2 p149 q149
           cases e149
           replace hx149_0 := (HB.out.cell (World.block_lt_of_cell? w _ hx149_0)).trans hx149_0
           replace hx149_1 := (HB.out.cell (World.block_lt_of_cell? w _ hx149_1)).trans hx149_1
           replace hx149_2 := (HB.out.cell (World.block_lt_of_cell? w _ hx149_2)).trans hx149_2
           replace hx149_3 := (HB.out.cell (World.block_lt_of_cell? w _ hx149_3)).trans hx149_3
           have HR149_2 := amZ hi149_2
           have HC149_2 := amZ hl149_2
           clear hi149_2 hl149_2
           have HR149_3 := amZ hi149_3
           have HC149_3 := amZ hl149_3
           clear hi149_3 hl149_3
           replace p149 := eq_true p149
           replace q149 := eq_true q149
           go_wp2_with (first | ((with_reducible refine gate_dst (N := 7) rfl ?_); refine box_event ?hg (N := 7) ?hd (cs := #[.int .i64 0, .int .i64 0, .slice none 0 0, .slice none 0 0]) (t := 52) ?hr ?_; (case hd => rfl); (case hg => rfl); (case hr => first | (go_simp; done) | (go_simp; rfl)); intro gb150 hg w35 hbox hb; have n0_ := amZ (Kd.S_below (by (with_reducible repeat (first | apply Kd.S_alloc | apply Kd.S_drewN | apply Kd.S_drew)); exact HO_141000.out) hb); have n1_ := amZ (Kd.S_below (Kd.S_elderB (by (with_reducible repeat (first | apply Kd.S_alloc | apply Kd.S_drewN | apply Kd.S_drew)); exact HO_141001.out) gb150 (Nat.le_of_eq hg.symm)) hb); have n2_ := amZ (ziY (g := gb138) (o := .cells #[.slice A0_0 l0_0.length c0_0, .slice (some ad149) l0_1.length c0_1] 31 (0, 0)) bkZ hb); have n3_ := amZ (ziY (g := gb139) (o := .cells #[.slice none 0 0, .slice none 0 0] 31 (0, 0)) bkZ hb); have n4_ := amZ (ziY (g := gb140) (o := .cells #[u141000, u141001] 31 (0, 0)) bkZ hb); have n5_ := amZ (zfY bwZ hb); have n6_ := amZ (hbox); have n7_ := amZ ((by rw [hg]; exact (zhY bwZ) : w.heap.size ≤ gb150)); have n8_ := amZ ((by rw [hg]; exact (zhY bwZ) : w.heap.size ≤ gb150)); have n9_ := amZ ((by rw [hg]; exact Nat.ne_of_lt (zkY (g := gb138) (o := .cells #[.slice A0_0 l0_0.length c0_0, .slice (some ad149) l0_1.length c0_1] 31 (0, 0)) bkZ) : gb138 ≠ gb150)); have n10_ := amZ ((by rw [hg]; exact Nat.ne_of_gt (zkY (g := gb138) (o := .cells #[.slice A0_0 l0_0.length c0_0, .slice (some ad149) l0_1.length c0_1] 31 (0, 0)) bkZ) : gb150 ≠ gb138)); have n11_ := amZ ((by rw [hg]; exact Nat.ne_of_lt (zkY (g := gb139) (o := .cells #[.slice none 0 0, .slice none 0 0] 31 (0, 0)) bkZ) : gb139 ≠ gb150)); have n12_ := amZ ((by rw [hg]; exact Nat.ne_of_gt (zkY (g := gb139) (o := .cells #[.slice none 0 0, .slice none 0 0] 31 (0, 0)) bkZ) : gb150 ≠ gb139)); have n13_ := amZ ((by rw [hg]; exact Nat.ne_of_lt (zkY (g := gb140) (o := .cells #[u141000, u141001] 31 (0, 0)) bkZ) : gb140 ≠ gb150)); have n14_ := amZ ((by rw [hg]; exact Nat.ne_of_gt (zkY (g := gb140) (o := .cells #[u141000, u141001] 31 (0, 0)) bkZ) : gb150 ≠ gb140)); clear HO_141000; clear HO_141001; clear BK138; clear BK139; clear BK140; clear HB; have HO_141000 := n0_; have HO_141001 := n1_; have BK138 := n2_; have BK139 := n3_; have BK140 := n4_; have HB := n5_; have BK150 := n6_; have GW150 := n7_; have GE150 := n8_; have NB138_150 := n9_; have NB150_138 := n10_; have NB139_150 := n11_; have NB150_139 := n12_; have NB140_150 := n13_; have NB150_140 := n14_; clear n0_ n1_ n2_ n3_ n4_ n5_ n6_ n7_ n8_ n9_ n10_ n11_ n12_ n13_ n14_; clear hb hbox hg; have hnb36 := NB150_138.out; have hnc36 := NB138_150.out; have hnb37 := NB150_139.out; have hnc37 := NB139_150.out; have hnb38 := NB150_140.out; have hnc38 := NB140_150.out; have hcz39_0 : w35.cell? ⟨gb150, 0, none⟩ = some (.int .i64 0) := (zaY BK150.out 0).trans rfl; have hcz39_1 : w35.cell? ⟨gb150, 1, none⟩ = some (.int .i64 0) := (zaY BK150.out 1).trans rfl; have hcz39_2 : w35.cell? ⟨gb150, 2, none⟩ = some (.slice none 0 0) := (zaY BK150.out 2).trans rfl; have hcz39_3 : w35.cell? ⟨gb150, 3, none⟩ = some (.slice none 0 0) := (zaY BK150.out 3).trans rfl; have hfz39_0 := zbY BK150.out 0; have hfz39_1 := zbY BK150.out 1; have hfz39_2 := zbY BK150.out 2; have hfz39_3 := zbY BK150.out 3) | ((with_reducible refine gate_dst (N := 8) rfl ?_); refine box_event ?hg (N := 8) ?hd (cs := #[.int .i64 0, .int .i64 0, .slice none 0 0, .slice none 0 0]) (t := 52) ?hr ?_; (case hd => rfl); (case hg => rfl); (case hr => first | (go_simp; done) | (go_simp; rfl)); intro gb151 hg w40 hbox hb; have n0_ := amZ (Kd.S_below (by (with_reducible repeat (first | apply Kd.S_alloc | apply Kd.S_drewN | apply Kd.S_drew)); exact (Kd.S_mono (Kd.S_far (p := ⟨gb150, 3, none⟩) (Kd.S_far (p := ⟨gb150, 2, none⟩) (Kd.S_far (p := ⟨gb150, 1, none⟩) (Kd.S_far (p := ⟨gb150, 0, none⟩) (Kd.S_types HO_141000.out BK150.out (by decide)) (fun _ hk => hk.2) (.int .i64 ((rd_T52 l0_1 x6_2).f0))) (fun _ hk => hk.2) (.int .i64 ((rd_T52 l0_1 x6_2).f1))) (fun _ hk => hk.2) (.slice A149_2 ((rd_T52 l0_1 x6_2).f2).length c149_2)) (fun _ hk => hk.2) (.slice A149_3 ((rd_T52 l0_1 x6_2).f3).length c149_3)) (fun _ h_ => h_.1))) hb); have n1_ := amZ (Kd.S_below (Kd.S_elderB (by (with_reducible repeat (first | apply Kd.S_alloc | apply Kd.S_drewN | apply Kd.S_drew)); exact (Kd.S_mono (Kd.S_far (p := ⟨gb150, 3, none⟩) (Kd.S_far (p := ⟨gb150, 2, none⟩) (Kd.S_far (p := ⟨gb150, 1, none⟩) (Kd.S_far (p := ⟨gb150, 0, none⟩) (Kd.S_mono HO_141001.out (fun k_ hk => (⟨hk, hk.2⟩ : _ ∧ k_ ≠ gb150))) (fun _ hk => hk.2) (.int .i64 ((rd_T52 l0_1 x6_2).f0))) (fun _ hk => hk.2) (.int .i64 ((rd_T52 l0_1 x6_2).f1))) (fun _ hk => hk.2) (.slice A149_2 ((rd_T52 l0_1 x6_2).f2).length c149_2)) (fun _ hk => hk.2) (.slice A149_3 ((rd_T52 l0_1 x6_2).f3).length c149_3)) (fun _ h_ => h_.1))) gb151 (Nat.le_of_eq hg.symm)) hb); have n2_ := amZ (ziY (g := gb138) (o := .cells #[.slice A0_0 l0_0.length c0_0, .slice (some ad149) l0_1.length c0_1] 31 (0, 0)) (by (with_reducible repeat (first | refine zdY ?_ _ | refine zeY ?_ | refine zcY ?_ _)); refine zjY ?_ NB138_150.out _; (with_reducible repeat (first | refine zdY ?_ _ | refine zeY ?_ | refine zcY ?_ _)); refine zjY ?_ NB138_150.out _; (with_reducible repeat (first | refine zdY ?_ _ | refine zeY ?_ | refine zcY ?_ _)); refine zjY ?_ NB138_150.out _; (with_reducible repeat (first | refine zdY ?_ _ | refine zeY ?_ | refine zcY ?_ _)); refine zjY ?_ NB138_150.out _; (with_reducible repeat (first | refine zdY ?_ _ | refine zeY ?_ | refine zcY ?_ _)); exact BK138.out) hb); have n3_ := amZ (ziY (g := gb139) (o := .cells #[.slice none 0 0, .slice none 0 0] 31 (0, 0)) (by (with_reducible repeat (first | refine zdY ?_ _ | refine zeY ?_ | refine zcY ?_ _)); refine zjY ?_ NB139_150.out _; (with_reducible repeat (first | refine zdY ?_ _ | refine zeY ?_ | refine zcY ?_ _)); refine zjY ?_ NB139_150.out _; (with_reducible repeat (first | refine zdY ?_ _ | refine zeY ?_ | refine zcY ?_ _)); refine zjY ?_ NB139_150.out _; (with_reducible repeat (first | refine zdY ?_ _ | refine zeY ?_ | refine zcY ?_ _)); refine zjY ?_ NB139_150.out _; (with_reducible repeat (first | refine zdY ?_ _ | refine zeY ?_ | refine zcY ?_ _)); exact BK139.out) hb); have n4_ := amZ (ziY (g := gb140) (o := .cells #[u141000, u141001] 31 (0, 0)) (by (with_reducible repeat (first | refine zdY ?_ _ | refine zeY ?_ | refine zcY ?_ _)); refine zjY ?_ NB140_150.out _; (with_reducible repeat (first | refine zdY ?_ _ | refine zeY ?_ | refine zcY ?_ _)); refine zjY ?_ NB140_150.out _; (with_reducible repeat (first | refine zdY ?_ _ | refine zeY ?_ | refine zcY ?_ _)); refine zjY ?_ NB140_150.out _; (with_reducible repeat (first | refine zdY ?_ _ | refine zeY ?_ | refine zcY ?_ _)); refine zjY ?_ NB140_150.out _; (with_reducible repeat (first | refine zdY ?_ _ | refine zeY ?_ | refine zcY ?_ _)); exact BK140.out) hb); have n5_ := amZ (ziY (g := gb150) (o := .cells #[.int .i64 ((rd_T52 l0_1 x6_2).f0), .int .i64 ((rd_T52 l0_1 x6_2).f1), .slice A149_2 ((rd_T52 l0_1 x6_2).f2).length c149_2, .slice A149_3 ((rd_T52 l0_1 x6_2).f3).length c149_3] 52 (0, 0)) (by (with_reducible repeat (first | refine zdY ?_ _ | refine zeY ?_ | refine zcY ?_ _)); refine blk_put (cs := #[.int .i64 ((rd_T52 l0_1 x6_2).f0), .int .i64 ((rd_T52 l0_1 x6_2).f1), .slice A149_2 ((rd_T52 l0_1 x6_2).f2).length c149_2, .slice none 0 0]) ?_ 3 _ rfl; (with_reducible repeat (first | refine zdY ?_ _ | refine zeY ?_ | refine zcY ?_ _)); refine blk_put (cs := #[.int .i64 ((rd_T52 l0_1 x6_2).f0), .int .i64 ((rd_T52 l0_1 x6_2).f1), .slice none 0 0, .slice none 0 0]) ?_ 2 _ rfl; (with_reducible repeat (first | refine zdY ?_ _ | refine zeY ?_ | refine zcY ?_ _)); refine blk_put (cs := #[.int .i64 ((rd_T52 l0_1 x6_2).f0), .int .i64 0, .slice none 0 0, .slice none 0 0]) ?_ 1 _ rfl; (with_reducible repeat (first | refine zdY ?_ _ | refine zeY ?_ | refine zcY ?_ _)); refine blk_put (cs := #[.int .i64 0, .int .i64 0, .slice none 0 0, .slice none 0 0]) ?_ 0 _ rfl; (with_reducible repeat (first | refine zdY ?_ _ | refine zeY ?_ | refine zcY ?_ _)); exact BK150.out) hb); have n6_ := amZ (zfY bwZ hb); have n7_ := amZ (hbox); have n8_ := amZ ((by rw [hg]; exact (zhY bwZ) : w.heap.size ≤ gb151)); have n9_ := amZ ((by rw [hg]; exact (zhY bwZ) : w.heap.size ≤ gb151)); have n10_ := amZ ((by rw [hg]; exact Nat.ne_of_lt (zkY (g := gb138) (o := .cells #[.slice A0_0 l0_0.length c0_0, .slice (some ad149) l0_1.length c0_1] 31 (0, 0)) (by (with_reducible repeat (first | refine zdY ?_ _ | refine zeY ?_ | refine zcY ?_ _)); refine zjY ?_ NB138_150.out _; (with_reducible repeat (first | refine zdY ?_ _ | refine zeY ?_ | refine zcY ?_ _)); refine zjY ?_ NB138_150.out _; (with_reducible repeat (first | refine zdY ?_ _ | refine zeY ?_ | refine zcY ?_ _)); refine zjY ?_ NB138_150.out _; (with_reducible repeat (first | refine zdY ?_ _ | refine zeY ?_ | refine zcY ?_ _)); refine zjY ?_ NB138_150.out _; (with_reducible repeat (first | refine zdY ?_ _ | refine zeY ?_ | refine zcY ?_ _)); exact BK138.out)) : gb138 ≠ gb151)); have n11_ := amZ ((by rw [hg]; exact Nat.ne_of_gt (zkY (g := gb138) (o := .cells #[.slice A0_0 l0_0.length c0_0, .slice (some ad149) l0_1.length c0_1] 31 (0, 0)) (by (with_reducible repeat (first | refine zdY ?_ _ | refine zeY ?_ | refine zcY ?_ _)); refine zjY ?_ NB138_150.out _; (with_reducible repeat (first | refine zdY ?_ _ | refine zeY ?_ | refine zcY ?_ _)); refine zjY ?_ NB138_150.out _; (with_reducible repeat (first | refine zdY ?_ _ | refine zeY ?_ | refine zcY ?_ _)); refine zjY ?_ NB138_150.out _; (with_reducible repeat (first | refine zdY ?_ _ | refine zeY ?_ | refine zcY ?_ _)); refine zjY ?_ NB138_150.out _; (with_reducible repeat (first | refine zdY ?_ _ | refine zeY ?_ | refine zcY ?_ _)); exact BK138.out)) : gb151 ≠ gb138)); have n12_ := amZ ((by rw [hg]; exact Nat.ne_of_lt (zkY (g := gb139) (o := .cells #[.slice none 0 0, .slice none 0 0] 31 (0, 0)) (by (with_reducible repeat (first | refine zdY ?_ _ | refine zeY ?_ | refine zcY ?_ _)); refine zjY ?_ NB139_150.out _; (with_reducible repeat (first | refine zdY ?_ _ | refine zeY ?_ | refine zcY ?_ _)); refine zjY ?_ NB139_150.out _; (with_reducible repeat (first | refine zdY ?_ _ | refine zeY ?_ | refine zcY ?_ _)); refine zjY ?_ NB139_150.out _; (with_reducible repeat (first | refine zdY ?_ _ | refine zeY ?_ | refine zcY ?_ _)); refine zjY ?_ NB139_150.out _; (with_reducible repeat (first | refine zdY ?_ _ | refine zeY ?_ | refine zcY ?_ _)); exact BK139.out)) : gb139 ≠ gb151)); have n13_ := amZ ((by rw [hg]; exact Nat.ne_of_gt (zkY (g := gb139) (o := .cells #[.slice none 0 0, .slice none 0 0] 31 (0, 0)) (by (with_reducible repeat (first | refine zdY ?_ _ | refine zeY ?_ | refine zcY ?_ _)); refine zjY ?_ NB139_150.out _; (with_reducible repeat (first | refine zdY ?_ _ | refine zeY ?_ | refine zcY ?_ _)); refine zjY ?_ NB139_150.out _; (with_reducible repeat (first | refine zdY ?_ _ | refine zeY ?_ | refine zcY ?_ _)); refine zjY ?_ NB139_150.out _; (with_reducible repeat (first | refine zdY ?_ _ | refine zeY ?_ | refine zcY ?_ _)); refine zjY ?_ NB139_150.out _; (with_reducible repeat (first | refine zdY ?_ _ | refine zeY ?_ | refine zcY ?_ _)); exact BK139.out)) : gb151 ≠ gb139)); have n14_ := amZ ((by rw [hg]; exact Nat.ne_of_lt (zkY (g := gb140) (o := .cells #[u141000, u141001] 31 (0, 0)) (by (with_reducible repeat (first | refine zdY ?_ _ | refine zeY ?_ | refine zcY ?_ _)); refine zjY ?_ NB140_150.out _; (with_reducible repeat (first | refine zdY ?_ _ | refine zeY ?_ | refine zcY ?_ _)); refine zjY ?_ NB140_150.out _; (with_reducible repeat (first | refine zdY ?_ _ | refine zeY ?_ | refine zcY ?_ _)); refine zjY ?_ NB140_150.out _; (with_reducible repeat (first | refine zdY ?_ _ | refine zeY ?_ | refine zcY ?_ _)); refine zjY ?_ NB140_150.out _; (with_reducible repeat (first | refine zdY ?_ _ | refine zeY ?_ | refine zcY ?_ _)); exact BK140.out)) : gb140 ≠ gb151)); have n15_ := amZ ((by rw [hg]; exact Nat.ne_of_gt (zkY (g := gb140) (o := .cells #[u141000, u141001] 31 (0, 0)) (by (with_reducible repeat (first | refine zdY ?_ _ | refine zeY ?_ | refine zcY ?_ _)); refine zjY ?_ NB140_150.out _; (with_reducible repeat (first | refine zdY ?_ _ | refine zeY ?_ | refine zcY ?_ _)); refine zjY ?_ NB140_150.out _; (with_reducible repeat (first | refine zdY ?_ _ | refine zeY ?_ | refine zcY ?_ _)); refine zjY ?_ NB140_150.out _; (with_reducible repeat (first | refine zdY ?_ _ | refine zeY ?_ | refine zcY ?_ _)); refine zjY ?_ NB140_150.out _; (with_reducible repeat (first | refine zdY ?_ _ | refine zeY ?_ | refine zcY ?_ _)); exact BK140.out)) : gb151 ≠ gb140)); have n16_ := amZ ((by rw [hg]; exact Nat.ne_of_lt (zkY (g := gb150) (o := .cells #[.int .i64 ((rd_T52 l0_1 x6_2).f0), .int .i64 ((rd_T52 l0_1 x6_2).f1), .slice A149_2 ((rd_T52 l0_1 x6_2).f2).length c149_2, .slice A149_3 ((rd_T52 l0_1 x6_2).f3).length c149_3] 52 (0, 0)) (by (with_reducible repeat (first | refine zdY ?_ _ | refine zeY ?_ | refine zcY ?_ _)); refine blk_put (cs := #[.int .i64 ((rd_T52 l0_1 x6_2).f0), .int .i64 ((rd_T52 l0_1 x6_2).f1), .slice A149_2 ((rd_T52 l0_1 x6_2).f2).length c149_2, .slice none 0 0]) ?_ 3 _ rfl; (with_reducible repeat (first | refine zdY ?_ _ | refine zeY ?_ | refine zcY ?_ _)); refine blk_put (cs := #[.int .i64 ((rd_T52 l0_1 x6_2).f0), .int .i64 ((rd_T52 l0_1 x6_2).f1), .slice none 0 0, .slice none 0 0]) ?_ 2 _ rfl; (with_reducible repeat (first | refine zdY ?_ _ | refine zeY ?_ | refine zcY ?_ _)); refine blk_put (cs := #[.int .i64 ((rd_T52 l0_1 x6_2).f0), .int .i64 0, .slice none 0 0, .slice none 0 0]) ?_ 1 _ rfl; (with_reducible repeat (first | refine zdY ?_ _ | refine zeY ?_ | refine zcY ?_ _)); refine blk_put (cs := #[.int .i64 0, .int .i64 0, .slice none 0 0, .slice none 0 0]) ?_ 0 _ rfl; (with_reducible repeat (first | refine zdY ?_ _ | refine zeY ?_ | refine zcY ?_ _)); exact BK150.out)) : gb150 ≠ gb151)); have n17_ := amZ ((by rw [hg]; exact Nat.ne_of_gt (zkY (g := gb150) (o := .cells #[.int .i64 ((rd_T52 l0_1 x6_2).f0), .int .i64 ((rd_T52 l0_1 x6_2).f1), .slice A149_2 ((rd_T52 l0_1 x6_2).f2).length c149_2, .slice A149_3 ((rd_T52 l0_1 x6_2).f3).length c149_3] 52 (0, 0)) (by (with_reducible repeat (first | refine zdY ?_ _ | refine zeY ?_ | refine zcY ?_ _)); refine blk_put (cs := #[.int .i64 ((rd_T52 l0_1 x6_2).f0), .int .i64 ((rd_T52 l0_1 x6_2).f1), .slice A149_2 ((rd_T52 l0_1 x6_2).f2).length c149_2, .slice none 0 0]) ?_ 3 _ rfl; (with_reducible repeat (first | refine zdY ?_ _ | refine zeY ?_ | refine zcY ?_ _)); refine blk_put (cs := #[.int .i64 ((rd_T52 l0_1 x6_2).f0), .int .i64 ((rd_T52 l0_1 x6_2).f1), .slice none 0 0, .slice none 0 0]) ?_ 2 _ rfl; (with_reducible repeat (first | refine zdY ?_ _ | refine zeY ?_ | refine zcY ?_ _)); refine blk_put (cs := #[.int .i64 ((rd_T52 l0_1 x6_2).f0), .int .i64 0, .slice none 0 0, .slice none 0 0]) ?_ 1 _ rfl; (with_reducible repeat (first | refine zdY ?_ _ | refine zeY ?_ | refine zcY ?_ _)); refine blk_put (cs := #[.int .i64 0, .int .i64 0, .slice none 0 0, .slice none 0 0]) ?_ 0 _ rfl; (with_reducible repeat (first | refine zdY ?_ _ | refine zeY ?_ | refine zcY ?_ _)); exact BK150.out)) : gb151 ≠ gb150)); clear HO_141000; clear HO_141001; clear BK138; clear BK139; clear BK140; clear BK150; clear HB; have HO_141000 := n0_; have HO_141001 := n1_; have BK138 := n2_; have BK139 := n3_; have BK140 := n4_; have BK150 := n5_; have HB := n6_; have BK151 := n7_; have GW151 := n8_; have GE151 := n9_; have NB138_151 := n10_; have NB151_138 := n11_; have NB139_151 := n12_; have NB151_139 := n13_; have NB140_151 := n14_; have NB151_140 := n15_; have NB150_151 := n16_; have NB151_150 := n17_; clear n0_ n1_ n2_ n3_ n4_ n5_ n6_ n7_ n8_ n9_ n10_ n11_ n12_ n13_ n14_ n15_ n16_ n17_; clear hb hbox hg; have hnb41 := NB151_138.out; have hnc41 := NB138_151.out; have hnb42 := NB151_139.out; have hnc42 := NB139_151.out; have hnb43 := NB151_140.out; have hnc43 := NB140_151.out; have hnb44 := NB151_150.out; have hnc44 := NB150_151.out; have hcz45_0 : w40.cell? ⟨gb151, 0, none⟩ = some (.int .i64 0) := (zaY BK151.out 0).trans rfl; have hcz45_1 : w40.cell? ⟨gb151, 1, none⟩ = some (.int .i64 0) := (zaY BK151.out 1).trans rfl; have hcz45_2 : w40.cell? ⟨gb151, 2, none⟩ = some (.slice none 0 0) := (zaY BK151.out 2).trans rfl; have hcz45_3 : w40.cell? ⟨gb151, 3, none⟩ = some (.slice none 0 0) := (zaY BK151.out 3).trans rfl; have hfz45_0 := zbY BK151.out 0; have hfz45_1 := zbY BK151.out 1; have hfz45_2 := zbY BK151.out 2; have hfz45_3 := zbY BK151.out 3; have hcz46_0 : w40.cell? ⟨gb150, 0, none⟩ = some (.int .i64 ((rd_T52 l0_1 x6_2).f0)) := (zaY BK150.out 0).trans rfl; have hcz46_1 : w40.cell? ⟨gb150, 1, none⟩ = some (.int .i64 ((rd_T52 l0_1 x6_2).f1)) := (zaY BK150.out 1).trans rfl; have hcz46_2 : w40.cell? ⟨gb150, 2, none⟩ = some (.slice A149_2 ((rd_T52 l0_1 x6_2).f2).length c149_2) := (zaY BK150.out 2).trans rfl; have hcz46_3 : w40.cell? ⟨gb150, 3, none⟩ = some (.slice A149_3 ((rd_T52 l0_1 x6_2).f3).length c149_3) := (zaY BK150.out 3).trans rfl; have hfz46_0 := zbY BK150.out 0; have hfz46_1 := zbY BK150.out 1; have hfz46_2 := zbY BK150.out 2; have hfz46_3 := zbY BK150.out 3) | ((with_reducible refine gate_builtin (b := .append) (xs := #[.tmp 52, .tmp 54]) rfl ?_); at_builtin; refine Kd.R_append_rows k54 (w0 := w) w.heap.size rfl (.tmp 52) (.tmp 54) 49 54 (.agg #[(.bool false), (.int .i64 0)]) 16 rfl Try.underlying49 info54 rfl (by decide) (by omega) (.slice none 0 0) ([] : List (S54)) ((rd_T52 l0_1 x6_2).f2) _ _ _ (fun _ => True) (fun _ => False) rfl rfl ?aO ?aR (fun _ _ h => h) (fun _ h => h.elim) ?aF ?aB ?aS ?aL ?_; (case aR => exact Kd.C_below HR149_2.out bwZ); (case aB => exact bwZ); (case aF => exact (fun _ _ => trivial)); (case aO => exact ((Kd.R_nil _ _ _ _ (fun _ => True)))); (case aS => exact (zhY bwZ)); (case aL => have := LMc29.out; first | omega | (simp only [ByteArray.size, List.size_toArray, List.length_cons, List.length_nil]; omega)); intro v153 w47 ho hb hg hat; rw [← Ny152.out] at ho; have n0_ := amZ (Kd.S_grown (by (with_reducible repeat (first | apply Kd.S_alloc | apply Kd.S_drewN | apply Kd.S_drew)); exact (Kd.S_mono (Kd.S_far (p := ⟨gb151, 3, none⟩) (Kd.S_far (p := ⟨gb151, 2, none⟩) (Kd.S_far (p := ⟨gb151, 1, none⟩) (Kd.S_far (p := ⟨gb151, 0, none⟩) (Kd.S_types HO_141000.out BK151.out (by decide)) (fun _ hk => hk.2) (.int .i64 ((rd_T52 l0_1 x6_2).f0))) (fun _ hk => hk.2) (.int .i64 ((rd_T52 l0_1 x6_2).f1))) (fun _ hk => hk.2) (.slice none 0 0)) (fun _ hk => hk.2) (.slice none 0 0)) (fun _ h_ => h_.1))) hg (fun _ _ => by simp [Value.ownBlock])); have n1_ := amZ (Kd.S_after (Kd.S_apart_nil (by (with_reducible repeat (first | apply Kd.S_alloc | apply Kd.S_drewN | apply Kd.S_drew)); exact (Kd.S_mono (Kd.S_far (p := ⟨gb151, 3, none⟩) (Kd.S_far (p := ⟨gb151, 2, none⟩) (Kd.S_far (p := ⟨gb151, 1, none⟩) (Kd.S_far (p := ⟨gb151, 0, none⟩) (Kd.S_mono HO_141001.out (fun k_ hk => (⟨hk, hk.2⟩ : _ ∧ k_ ≠ gb151))) (fun _ hk => hk.2) (.int .i64 ((rd_T52 l0_1 x6_2).f0))) (fun _ hk => hk.2) (.int .i64 ((rd_T52 l0_1 x6_2).f1))) (fun _ hk => hk.2) (.slice none 0 0)) (fun _ hk => hk.2) (.slice none 0 0)) (fun _ h_ => h_.1)))) hg hat); have n2_ := amZ (blk_grown (g := gb138) (o := .cells #[.slice A0_0 l0_0.length c0_0, .slice (some ad149) l0_1.length c0_1] 31 (0, 0)) (by (with_reducible repeat (first | refine zdY ?_ _ | refine zeY ?_ | refine zcY ?_ _)); refine zjY ?_ NB138_151.out _; (with_reducible repeat (first | refine zdY ?_ _ | refine zeY ?_ | refine zcY ?_ _)); refine zjY ?_ NB138_151.out _; (with_reducible repeat (first | refine zdY ?_ _ | refine zeY ?_ | refine zcY ?_ _)); refine zjY ?_ NB138_151.out _; (with_reducible repeat (first | refine zdY ?_ _ | refine zeY ?_ | refine zcY ?_ _)); refine zjY ?_ NB138_151.out _; (with_reducible repeat (first | refine zdY ?_ _ | refine zeY ?_ | refine zcY ?_ _)); exact BK138.out) hg (by simp [Value.ownBlock])); have n3_ := amZ (blk_grown (g := gb139) (o := .cells #[.slice none 0 0, .slice none 0 0] 31 (0, 0)) (by (with_reducible repeat (first | refine zdY ?_ _ | refine zeY ?_ | refine zcY ?_ _)); refine zjY ?_ NB139_151.out _; (with_reducible repeat (first | refine zdY ?_ _ | refine zeY ?_ | refine zcY ?_ _)); refine zjY ?_ NB139_151.out _; (with_reducible repeat (first | refine zdY ?_ _ | refine zeY ?_ | refine zcY ?_ _)); refine zjY ?_ NB139_151.out _; (with_reducible repeat (first | refine zdY ?_ _ | refine zeY ?_ | refine zcY ?_ _)); refine zjY ?_ NB139_151.out _; (with_reducible repeat (first | refine zdY ?_ _ | refine zeY ?_ | refine zcY ?_ _)); exact BK139.out) hg (by simp [Value.ownBlock])); have n4_ := amZ (blk_grown (g := gb140) (o := .cells #[u141000, u141001] 31 (0, 0)) (by (with_reducible repeat (first | refine zdY ?_ _ | refine zeY ?_ | refine zcY ?_ _)); refine zjY ?_ NB140_151.out _; (with_reducible repeat (first | refine zdY ?_ _ | refine zeY ?_ | refine zcY ?_ _)); refine zjY ?_ NB140_151.out _; (with_reducible repeat (first | refine zdY ?_ _ | refine zeY ?_ | refine zcY ?_ _)); refine zjY ?_ NB140_151.out _; (with_reducible repeat (first | refine zdY ?_ _ | refine zeY ?_ | refine zcY ?_ _)); refine zjY ?_ NB140_151.out _; (with_reducible repeat (first | refine zdY ?_ _ | refine zeY ?_ | refine zcY ?_ _)); exact BK140.out) hg (by simp [Value.ownBlock])); have n5_ := amZ (blk_grown (g := gb150) (o := .cells #[.int .i64 ((rd_T52 l0_1 x6_2).f0), .int .i64 ((rd_T52 l0_1 x6_2).f1), .slice A149_2 ((rd_T52 l0_1 x6_2).f2).length c149_2, .slice A149_3 ((rd_T52 l0_1 x6_2).f3).length c149_3] 52 (0, 0)) (by (with_reducible repeat (first | refine zdY ?_ _ | refine zeY ?_ | refine zcY ?_ _)); refine zjY ?_ NB150_151.out _; (with_reducible repeat (first | refine zdY ?_ _ | refine zeY ?_ | refine zcY ?_ _)); refine zjY ?_ NB150_151.out _; (with_reducible repeat (first | refine zdY ?_ _ | refine zeY ?_ | refine zcY ?_ _)); refine zjY ?_ NB150_151.out _; (with_reducible repeat (first | refine zdY ?_ _ | refine zeY ?_ | refine zcY ?_ _)); refine zjY ?_ NB150_151.out _; (with_reducible repeat (first | refine zdY ?_ _ | refine zeY ?_ | refine zcY ?_ _)); exact BK150.out) hg (by simp [Value.ownBlock])); have n6_ := amZ (blk_grown (g := gb151) (o := .cells #[.int .i64 ((rd_T52 l0_1 x6_2).f0), .int .i64 ((rd_T52 l0_1 x6_2).f1), .slice none 0 0, .slice none 0 0] 52 (0, 0)) (by (with_reducible repeat (first | refine zdY ?_ _ | refine zeY ?_ | refine zcY ?_ _)); refine blk_put (cs := #[.int .i64 ((rd_T52 l0_1 x6_2).f0), .int .i64 ((rd_T52 l0_1 x6_2).f1), .slice none 0 0, .slice none 0 0]) ?_ 3 _ rfl; (with_reducible repeat (first | refine zdY ?_ _ | refine zeY ?_ | refine zcY ?_ _)); refine blk_put (cs := #[.int .i64 ((rd_T52 l0_1 x6_2).f0), .int .i64 ((rd_T52 l0_1 x6_2).f1), .slice none 0 0, .slice none 0 0]) ?_ 2 _ rfl; (with_reducible repeat (first | refine zdY ?_ _ | refine zeY ?_ | refine zcY ?_ _)); refine blk_put (cs := #[.int .i64 ((rd_T52 l0_1 x6_2).f0), .int .i64 0, .slice none 0 0, .slice none 0 0]) ?_ 1 _ rfl; (with_reducible repeat (first | refine zdY ?_ _ | refine zeY ?_ | refine zcY ?_ _)); refine blk_put (cs := #[.int .i64 0, .int .i64 0, .slice none 0 0, .slice none 0 0]) ?_ 0 _ rfl; (with_reducible repeat (first | refine zdY ?_ _ | refine zeY ?_ | refine zcY ?_ _)); exact BK151.out) hg (by simp [Value.ownBlock])); have n7_ := amZ (hb); have n8_ := amZ (ho); clear HO_141000; clear HO_141001; clear BK138; clear BK139; clear BK140; clear BK150; clear BK151; clear HB; have HO_141000 := n0_; have HO_141001 := n1_; have BK138 := n2_; have BK139 := n3_; have BK140 := n4_; have BK150 := n5_; have BK151 := n6_; have HB := n7_; have HO154 := n8_; clear n0_ n1_ n2_ n3_ n4_ n5_ n6_ n7_ n8_; clear ho hb hg hat; obtain ⟨Ao48, co48, eo48⟩ := Kd.R_slice HO154.out; subst eo48; have hcz49_0 : w47.cell? ⟨gb151, 0, none⟩ = some (.int .i64 ((rd_T52 l0_1 x6_2).f0)) := (zaY BK151.out 0).trans rfl; have hcz49_1 : w47.cell? ⟨gb151, 1, none⟩ = some (.int .i64 ((rd_T52 l0_1 x6_2).f1)) := (zaY BK151.out 1).trans rfl; have hcz49_2 : w47.cell? ⟨gb151, 2, none⟩ = some (.slice none 0 0) := (zaY BK151.out 2).trans rfl; have hcz49_3 : w47.cell? ⟨gb151, 3, none⟩ = some (.slice none 0 0) := (zaY BK151.out 3).trans rfl; have hfz49_0 := zbY BK151.out 0; have hfz49_1 := zbY BK151.out 1; have hfz49_2 := zbY BK151.out 2; have hfz49_3 := zbY BK151.out 3; have hcz50_0 : w47.cell? ⟨gb150, 0, none⟩ = some (.int .i64 ((rd_T52 l0_1 x6_2).f0)) := (zaY BK150.out 0).trans rfl; have hcz50_1 : w47.cell? ⟨gb150, 1, none⟩ = some (.int .i64 ((rd_T52 l0_1 x6_2).f1)) := (zaY BK150.out 1).trans rfl; have hcz50_2 : w47.cell? ⟨gb150, 2, none⟩ = some (.slice A149_2 ((rd_T52 l0_1 x6_2).f2).length c149_2) := (zaY BK150.out 2).trans rfl; have hcz50_3 : w47.cell? ⟨gb150, 3, none⟩ = some (.slice A149_3 ((rd_T52 l0_1 x6_2).f3).length c149_3) := (zaY BK150.out 3).trans rfl; have hfz50_0 := zbY BK150.out 0; have hfz50_1 := zbY BK150.out 1; have hfz50_2 := zbY BK150.out 2; have hfz50_3 := zbY BK150.out 3) | ((with_reducible refine gate_builtin (b := .append) (xs := #[.tmp 58, .tmp 60]) rfl ?_); at_builtin; refine Kd.R_append_rows k57 (w0 := w) w.heap.size rfl (.tmp 58) (.tmp 60) 50 57 (.agg #[(.int .i64 0), (.int .i64 0), (.int .i64 0)]) 24 rfl Try.underlying50 info57 rfl (by decide) (by omega) (.slice none 0 0) ([] : List (S57)) ((rd_T52 l0_1 x6_2).f3) _ _ _ (fun _ => True) (fun _ => False) rfl rfl ?aO ?aR (fun _ _ h => h) (fun _ h => h.elim) ?aF ?aB ?aS ?aL ?_; (case aR => exact Kd.C_below HR149_3.out bwZ); (case aB => exact bwZ); (case aF => exact (fun _ _ => trivial)); (case aO => exact ((Kd.R_nil _ _ _ _ (fun _ => True)))); (case aS => exact (zhY bwZ)); (case aL => have := LMc30.out; first | omega | (simp only [ByteArray.size, List.size_toArray, List.length_cons, List.length_nil]; omega)); intro v156 w51 ho hb hg hat; rw [← Ny155.out] at ho; have n0_ := amZ (Kd.S_grown (by (with_reducible repeat (first | apply Kd.S_alloc | apply Kd.S_drewN | apply Kd.S_drew)); exact (Kd.S_mono (Kd.S_far (p := ⟨gb151, 2, none⟩) (Kd.S_types HO_141000.out BK151.out (by decide)) (fun _ hk => hk.2) (.slice Ao48 y152.length co48)) (fun _ h_ => h_.1))) hg (fun _ _ => by simp [Value.ownBlock])); have n1_ := amZ (Kd.S_after (Kd.S_apart_nil (by (with_reducible repeat (first | apply Kd.S_alloc | apply Kd.S_drewN | apply Kd.S_drew)); exact (Kd.S_mono (Kd.S_far (p := ⟨gb151, 2, none⟩) (Kd.S_mono HO_141001.out (fun k_ hk => (⟨hk, hk.1.2⟩ : _ ∧ k_ ≠ gb151))) (fun _ hk => hk.2) (.slice Ao48 y152.length co48)) (fun _ h_ => h_.1)))) hg hat); have n2_ := amZ (blk_grown (g := gb138) (o := .cells #[.slice A0_0 l0_0.length c0_0, .slice (some ad149) l0_1.length c0_1] 31 (0, 0)) (by (with_reducible repeat (first | refine zdY ?_ _ | refine zeY ?_ | refine zcY ?_ _)); refine zjY ?_ NB138_151.out _; (with_reducible repeat (first | refine zdY ?_ _ | refine zeY ?_ | refine zcY ?_ _)); exact BK138.out) hg (by simp [Value.ownBlock])); have n3_ := amZ (blk_grown (g := gb139) (o := .cells #[.slice none 0 0, .slice none 0 0] 31 (0, 0)) (by (with_reducible repeat (first | refine zdY ?_ _ | refine zeY ?_ | refine zcY ?_ _)); refine zjY ?_ NB139_151.out _; (with_reducible repeat (first | refine zdY ?_ _ | refine zeY ?_ | refine zcY ?_ _)); exact BK139.out) hg (by simp [Value.ownBlock])); have n4_ := amZ (blk_grown (g := gb140) (o := .cells #[u141000, u141001] 31 (0, 0)) (by (with_reducible repeat (first | refine zdY ?_ _ | refine zeY ?_ | refine zcY ?_ _)); refine zjY ?_ NB140_151.out _; (with_reducible repeat (first | refine zdY ?_ _ | refine zeY ?_ | refine zcY ?_ _)); exact BK140.out) hg (by simp [Value.ownBlock])); have n5_ := amZ (blk_grown (g := gb150) (o := .cells #[.int .i64 ((rd_T52 l0_1 x6_2).f0), .int .i64 ((rd_T52 l0_1 x6_2).f1), .slice A149_2 ((rd_T52 l0_1 x6_2).f2).length c149_2, .slice A149_3 ((rd_T52 l0_1 x6_2).f3).length c149_3] 52 (0, 0)) (by (with_reducible repeat (first | refine zdY ?_ _ | refine zeY ?_ | refine zcY ?_ _)); refine zjY ?_ NB150_151.out _; (with_reducible repeat (first | refine zdY ?_ _ | refine zeY ?_ | refine zcY ?_ _)); exact BK150.out) hg (by simp [Value.ownBlock])); have n6_ := amZ (blk_grown (g := gb151) (o := .cells #[.int .i64 ((rd_T52 l0_1 x6_2).f0), .int .i64 ((rd_T52 l0_1 x6_2).f1), .slice Ao48 y152.length co48, .slice none 0 0] 52 (0, 0)) (by (with_reducible repeat (first | refine zdY ?_ _ | refine zeY ?_ | refine zcY ?_ _)); refine blk_put (cs := #[.int .i64 ((rd_T52 l0_1 x6_2).f0), .int .i64 ((rd_T52 l0_1 x6_2).f1), .slice none 0 0, .slice none 0 0]) ?_ 2 _ rfl; (with_reducible repeat (first | refine zdY ?_ _ | refine zeY ?_ | refine zcY ?_ _)); exact BK151.out) hg (by simp [Value.ownBlock])); have n7_ := amZ (Kd.R_grown (by (with_reducible repeat (first | apply Kd.R_alloc | apply Kd.R_drewN | apply Kd.R_drew)); exact (Kd.R_mono (Kd.R_far (p := ⟨gb151, 2, none⟩) (Kd.R_types HO154.out BK151.out (by decide)) (fun _ hk => hk.2) (.slice Ao48 y152.length co48)) (fun _ h_ => h_.1))) hg (fun _ _ => by simp [Value.ownBlock])); have n8_ := amZ (hb); have n9_ := amZ (ho); clear HO_141000; clear HO_141001; clear BK138; clear BK139; clear BK140; clear BK150; clear BK151; clear HO154; clear HB; have HO_141000 := n0_; have HO_141001 := n1_; have BK138 := n2_; have BK139 := n3_; have BK140 := n4_; have BK150 := n5_; have BK151 := n6_; have HO154 := n7_; have HB := n8_; have HO157 := n9_; clear n0_ n1_ n2_ n3_ n4_ n5_ n6_ n7_ n8_ n9_; clear ho hb hg hat; obtain ⟨Ao52, co52, eo52⟩ := Kd.R_slice HO157.out; subst eo52; have hcz53_0 : w51.cell? ⟨gb151, 0, none⟩ = some (.int .i64 ((rd_T52 l0_1 x6_2).f0)) := (zaY BK151.out 0).trans rfl; have hcz53_1 : w51.cell? ⟨gb151, 1, none⟩ = some (.int .i64 ((rd_T52 l0_1 x6_2).f1)) := (zaY BK151.out 1).trans rfl; have hcz53_2 : w51.cell? ⟨gb151, 2, none⟩ = some (.slice Ao48 y152.length co48) := (zaY BK151.out 2).trans rfl; have hcz53_3 : w51.cell? ⟨gb151, 3, none⟩ = some (.slice none 0 0) := (zaY BK151.out 3).trans rfl; have hfz53_0 := zbY BK151.out 0; have hfz53_1 := zbY BK151.out 1; have hfz53_2 := zbY BK151.out 2; have hfz53_3 := zbY BK151.out 3) | ((with_reducible refine gate_store (t := 50) (p := 62) rfl ?_); refine store_event (t := 50) (p := 62) (v := ?vo_w54) (w1 := (w51.setCell ⟨gb151, 3, none⟩ (.slice Ao52 y155.length co52))) ?hg ?ho ?hn ?hr ?_; (case ho => rfl); (case hg => rfl); (case hn => rfl); (case hr => first | (go_simp; done) | (go_simp; rfl)); intro w54 hw; have n0_ : Aside0 (Kd.S k48 48 w54 w.heap.size (fun _ => True) u141000 x141000_1) := ⟨(by rw [hw]; exact (by (with_reducible repeat (first | apply Kd.S_alloc | apply Kd.S_drewN | apply Kd.S_drew)); exact Kd.S_mono (Kd.S_far (p := ⟨gb151, 3, none⟩) (Kd.S_types HO_141000.out BK151.out (by decide)) (fun _ hk => hk.2) (.slice Ao52 y155.length co52)) (fun _ hk => trivial)))⟩; have n1_ : Aside0 (Kd.S k52 52 w54 w.heap.size (fun k_ => some k_ ≠ (.slice Ao48 y152.length co48 : Value).ownBlock ∧ some k_ ≠ (.slice Ao52 y155.length co52 : Value).ownBlock ∧ k_ ≠ gb150 ∧ k_ ≠ gb151) u141001 x141001_2) := ⟨(by rw [hw]; exact (by (with_reducible repeat (first | apply Kd.S_alloc | apply Kd.S_drewN | apply Kd.S_drew)); exact Kd.S_mono (Kd.S_far (p := ⟨gb151, 3, none⟩) (Kd.S_mono HO_141001.out (fun k_ hk => (⟨hk, hk.1.1.2⟩ : _ ∧ k_ ≠ gb151))) (fun _ hk => hk.2) (.slice Ao52 y155.length co52)) (fun _ hk => ⟨hk.1.1.2, ⟨hk.1.2, ⟨hk.1.1.1.1.2, hk.1.1.1.2⟩⟩⟩)))⟩; have n2_ : Aside0 (Kd.R k54 54 w54 w.heap.size (fun _ => True) (.slice Ao48 y152.length co48) y152) := ⟨(by rw [hw]; exact (by (with_reducible repeat (first | apply Kd.R_alloc | apply Kd.R_drewN | apply Kd.R_drew)); exact Kd.R_mono (Kd.R_far (p := ⟨gb151, 3, none⟩) (Kd.R_types HO154.out BK151.out (by decide)) (fun _ hk => hk.2) (.slice Ao52 y155.length co52)) (fun _ hk => trivial)))⟩; have n3_ : Aside0 (Kd.R k57 57 w54 w.heap.size (fun _ => True) (.slice Ao52 y155.length co52) y155) := ⟨(by rw [hw]; exact (by (with_reducible repeat (first | apply Kd.R_alloc | apply Kd.R_drewN | apply Kd.R_drew)); exact Kd.R_mono (Kd.R_far (p := ⟨gb151, 3, none⟩) (Kd.R_types HO157.out BK151.out (by decide)) (fun _ hk => hk.2) (.slice Ao52 y155.length co52)) (fun _ hk => trivial)))⟩; have n4_ : Aside0 (w54.heap[gb138]? = some (.cells #[.slice A0_0 l0_0.length c0_0, .slice (some ad149) l0_1.length c0_1] 31 (0, 0))) := ⟨(by rw [hw]; exact (by (with_reducible repeat (first | refine zdY ?_ _ | refine zeY ?_ | refine zcY ?_ _)); refine zjY ?_ NB138_151.out _; (with_reducible repeat (first | refine zdY ?_ _ | refine zeY ?_ | refine zcY ?_ _)); exact BK138.out))⟩; have n5_ : Aside0 (w54.heap[gb139]? = some (.cells #[.slice none 0 0, .slice none 0 0] 31 (0, 0))) := ⟨(by rw [hw]; exact (by (with_reducible repeat (first | refine zdY ?_ _ | refine zeY ?_ | refine zcY ?_ _)); refine zjY ?_ NB139_151.out _; (with_reducible repeat (first | refine zdY ?_ _ | refine zeY ?_ | refine zcY ?_ _)); exact BK139.out))⟩; have n6_ : Aside0 (w54.heap[gb140]? = some (.cells #[u141000, u141001] 31 (0, 0))) := ⟨(by rw [hw]; exact (by (with_reducible repeat (first | refine zdY ?_ _ | refine zeY ?_ | refine zcY ?_ _)); refine zjY ?_ NB140_151.out _; (with_reducible repeat (first | refine zdY ?_ _ | refine zeY ?_ | refine zcY ?_ _)); exact BK140.out))⟩; have n7_ : Aside0 (w54.heap[gb150]? = some (.cells #[.int .i64 ((rd_T52 l0_1 x6_2).f0), .int .i64 ((rd_T52 l0_1 x6_2).f1), .slice A149_2 ((rd_T52 l0_1 x6_2).f2).length c149_2, .slice A149_3 ((rd_T52 l0_1 x6_2).f3).length c149_3] 52 (0, 0))) := ⟨(by rw [hw]; exact (by (with_reducible repeat (first | refine zdY ?_ _ | refine zeY ?_ | refine zcY ?_ _)); refine zjY ?_ NB150_151.out _; (with_reducible repeat (first | refine zdY ?_ _ | refine zeY ?_ | refine zcY ?_ _)); exact BK150.out))⟩; have n8_ : Aside0 (w54.heap[gb151]? = some (.cells #[.int .i64 ((rd_T52 l0_1 x6_2).f0), .int .i64 ((rd_T52 l0_1 x6_2).f1), .slice Ao48 y152.length co48, .slice Ao52 y155.length co52] 52 (0, 0))) := ⟨(by rw [hw]; exact (by (with_reducible repeat (first | refine zdY ?_ _ | refine zeY ?_ | refine zcY ?_ _)); refine blk_put (cs := #[.int .i64 ((rd_T52 l0_1 x6_2).f0), .int .i64 ((rd_T52 l0_1 x6_2).f1), .slice Ao48 y152.length co48, .slice none 0 0]) ?_ 3 _ rfl; (with_reducible repeat (first | refine zdY ?_ _ | refine zeY ?_ | refine zcY ?_ _)); exact BK151.out))⟩; have n9_ : Aside0 (Below w.heap.size w w54) := ⟨(by rw [hw]; exact bwZ)⟩; clear hw; clear HO_141000; clear HO_141001; clear HO154; clear HO157; clear BK138; clear BK139; clear BK140; clear BK150; clear BK151; clear HB; have HO_141000 := n0_; have HO_141001 := n1_; have HO154 := n2_; have HO157 := n3_; have BK138 := n4_; have BK139 := n5_; have BK140 := n6_; have BK150 := n7_; have BK151 := n8_; have HB := n9_; clear n0_ n1_ n2_ n3_ n4_ n5_ n6_ n7_ n8_ n9_; have hnb55 := NB140_139.out; have hnc55 := NB139_140.out; have hcz56_0 : w54.cell? ⟨gb140, 0, none⟩ = some (u141000) := (zaY BK140.out 0).trans rfl; have hcz56_1 : w54.cell? ⟨gb140, 1, none⟩ = some (u141001) := (zaY BK140.out 1).trans rfl; have hfz56_0 := zbY BK140.out 0; have hfz56_1 := zbY BK140.out 1; have hcz57_0 : w54.cell? ⟨gb151, 0, none⟩ = some (.int .i64 ((rd_T52 l0_1 x6_2).f0)) := (zaY BK151.out 0).trans rfl; have hcz57_1 : w54.cell? ⟨gb151, 1, none⟩ = some (.int .i64 ((rd_T52 l0_1 x6_2).f1)) := (zaY BK151.out 1).trans rfl; have hcz57_2 : w54.cell? ⟨gb151, 2, none⟩ = some (.slice Ao48 y152.length co48) := (zaY BK151.out 2).trans rfl; have hcz57_3 : w54.cell? ⟨gb151, 3, none⟩ = some (.slice Ao52 y155.length co52) := (zaY BK151.out 3).trans rfl; have hfz57_0 := zbY BK151.out 0; have hfz57_1 := zbY BK151.out 1; have hfz57_2 := zbY BK151.out 2; have hfz57_3 := zbY BK151.out 3) | ((with_reducible refine gate_builtin (b := .append) (xs := #[.tmp 64, .tmp 66]) rfl ?_); at_builtin; refine Kd.S_append k52 (w0 := w) w.heap.size rfl (.tmp 64) (.tmp 66) 29 52 (.agg #[(.int .i64 0), (.int .i64 0), (.slice none 0 0), (.slice none 0 0)]) 64 rfl Try.underlying29 info52 rfl (by decide) (by omega) u141001 x141001_2 (⟨(rd_T52 l0_1 x6_2).f0, (rd_T52 l0_1 x6_2).f1, y152, y155⟩ : S52) [.int .i64 ((rd_T52 l0_1 x6_2).f0), .int .i64 ((rd_T52 l0_1 x6_2).f1), .slice Ao48 y152.length co48, .slice Ao52 y155.length co52] (fun k_ => k_ ≠ gb150 ∧ k_ ≠ gb151) (fun k_ => some k_ = (.slice Ao48 y152.length co48 : Value).ownBlock ∨ some k_ = (.slice Ao52 y155.length co52 : Value).ownBlock) rfl rfl ?aP (fun k_ hk_ => hk_.elim (fun h_ => ((Kd.R_mono (ok' := fun k_ => ((fun k_ => k_ ≠ gb150 ∧ k_ ≠ gb151)) k_ ∧ some k_ ≠ (u141001 : Value).ownBlock) (Kd.R_types (Kd.R_types (Kd.R_apart' (HO154.out) (Kd.S_typed HO_141001.out) (by decide)) BK150.out (by decide)) BK151.out (by decide)) (fun k_ hk => ⟨⟨hk.1.2, hk.2⟩, hk.1.1.2⟩))).1 k_ h_.symm) (fun h_ => ((Kd.R_mono (ok' := fun k_ => ((fun k_ => k_ ≠ gb150 ∧ k_ ≠ gb151)) k_ ∧ some k_ ≠ (u141001 : Value).ownBlock) (Kd.R_types (Kd.R_types (Kd.R_apart' (HO157.out) (Kd.S_typed HO_141001.out) (by decide)) BK150.out (by decide)) BK151.out (by decide)) (fun k_ hk => ⟨⟨hk.1.2, hk.2⟩, hk.1.1.2⟩))).1 k_ h_.symm)) ?aF ?aO ?aB ?aS ?aL ?_; (case aP => exact k52_mkM _ _ _ (⟨(rd_T52 l0_1 x6_2).f0, (rd_T52 l0_1 x6_2).f1, y152, y155⟩ : S52) (Kd.R_mono (Kd.R_tight rfl (Kd.R_mono (ok' := fun k_ => ((fun k_ => k_ ≠ gb150 ∧ k_ ≠ gb151)) k_ ∧ some k_ ≠ (u141001 : Value).ownBlock) (Kd.R_types (Kd.R_types (Kd.R_apart' (HO154.out) (Kd.S_typed HO_141001.out) (by decide)) BK150.out (by decide)) BK151.out (by decide)) (fun k_ hk => ⟨⟨hk.1.2, hk.2⟩, hk.1.1.2⟩))) (fun _ h_ => Or.inl h_)) (Kd.R_mono (Kd.R_tight rfl (Kd.R_mono (ok' := fun k_ => ((fun k_ => k_ ≠ gb150 ∧ k_ ≠ gb151)) k_ ∧ some k_ ≠ (u141001 : Value).ownBlock) (Kd.R_types (Kd.R_types (Kd.R_apart' (HO157.out) (Kd.S_typed HO_141001.out) (by decide)) BK150.out (by decide)) BK151.out (by decide)) (fun k_ hk => ⟨⟨hk.1.2, hk.2⟩, hk.1.1.2⟩))) (fun _ h_ => Or.inr (h_)))); (case aB => exact bwZ); (case aF => exact (fun k_ hk => ⟨Kd.freshB (g := gb150) (o := .cells #[.int .i64 ((rd_T52 l0_1 x6_2).f0), .int .i64 ((rd_T52 l0_1 x6_2).f1), .slice A149_2 ((rd_T52 l0_1 x6_2).f2).length c149_2, .slice A149_3 ((rd_T52 l0_1 x6_2).f3).length c149_3] 52 (0, 0)) bkZ k_ hk, Kd.freshB (g := gb151) (o := .cells #[.int .i64 ((rd_T52 l0_1 x6_2).f0), .int .i64 ((rd_T52 l0_1 x6_2).f1), .slice Ao48 y152.length co48, .slice Ao52 y155.length co52] 52 (0, 0)) bkZ k_ hk⟩)); (case aO => exact (by (with_reducible repeat (first | apply Kd.S_alloc | apply Kd.S_drewN | apply Kd.S_drew)); exact Kd.S_mono HO_141001.out (fun k_ hk => ⟨⟨hk.2.2.1, hk.2.2.2⟩, fun e_ => e_.elim (fun h_ => hk.1 h_) (fun h_ => hk.2.1 h_)⟩))); (case aS => exact (zhY bwZ)); (case aL => have := LMc31.out; first | omega | (simp only [ByteArray.size, List.size_toArray, List.length_cons, List.length_nil]; omega)); intro v159 w58 ho hb hg hat; rw [← Ny158.out] at ho; have n0_ := amZ (Kd.S_over' (by (with_reducible repeat (first | apply Kd.S_alloc | apply Kd.S_drewN | apply Kd.S_drew)); exact HO_141000.out) (Kd.S_typed (by (with_reducible repeat (first | apply Kd.S_alloc | apply Kd.S_drewN | apply Kd.S_drew)); exact HO_141001.out)) (by decide) hg); have n1_ := amZ (blk_grown (g := gb138) (o := .cells #[.slice A0_0 l0_0.length c0_0, .slice (some ad149) l0_1.length c0_1] 31 (0, 0)) bkZ hg (Kd.S_ne HO_141001.out BK138.out (by decide))); have n2_ := amZ (blk_grown (g := gb139) (o := .cells #[.slice none 0 0, .slice none 0 0] 31 (0, 0)) bkZ hg (Kd.S_ne HO_141001.out BK139.out (by decide))); have n3_ := amZ (blk_grown (g := gb140) (o := .cells #[u141000, u141001] 31 (0, 0)) bkZ hg (Kd.S_ne HO_141001.out BK140.out (by decide))); have n4_ := amZ (blk_grown (g := gb150) (o := .cells #[.int .i64 ((rd_T52 l0_1 x6_2).f0), .int .i64 ((rd_T52 l0_1 x6_2).f1), .slice A149_2 ((rd_T52 l0_1 x6_2).f2).length c149_2, .slice A149_3 ((rd_T52 l0_1 x6_2).f3).length c149_3] 52 (0, 0)) bkZ hg (Kd.S_away HO_141001.out (fun _ hk => hk.2.2.1))); have n5_ := amZ (blk_grown (g := gb151) (o := .cells #[.int .i64 ((rd_T52 l0_1 x6_2).f0), .int .i64 ((rd_T52 l0_1 x6_2).f1), .slice Ao48 y152.length co48, .slice Ao52 y155.length co52] 52 (0, 0)) bkZ hg (Kd.S_away HO_141001.out (fun _ hk => hk.2.2.2))); have n6_ := amZ (hb); have n7_ := amZ (ho); clear HO_141000; clear BK138; clear BK139; clear BK140; clear BK150; clear BK151; clear HB; clear HO_141001; clear HO154; clear HO157; have HO_141000 := n0_; have BK138 := n1_; have BK139 := n2_; have BK140 := n3_; have BK150 := n4_; have BK151 := n5_; have HB := n6_; have HO160 := n7_; clear n0_ n1_ n2_ n3_ n4_ n5_ n6_ n7_; clear ho hb hg hat; obtain ⟨Ao59, co59, eo59⟩ := Kd.S_slice HO160.out; subst eo59; have hcz60_0 : w58.cell? ⟨gb140, 0, none⟩ = some (u141000) := (zaY BK140.out 0).trans rfl; have hcz60_1 : w58.cell? ⟨gb140, 1, none⟩ = some (u141001) := (zaY BK140.out 1).trans rfl; have hfz60_0 := zbY BK140.out 0; have hfz60_1 := zbY BK140.out 1))
           go_roundg k2
           case measure => have := HK1.out; have := HK2.out; omega
           case rel => exact ⟨(wrap64 (x6_2 + 1)), (y158), (.slice Ao59 y158.length co59), (by first | rfl | (simp; done) | (simp [*]; done)), H', ⟨by have := HK1.out; have := HK2.out; omega⟩, ⟨by (with_reducible repeat (first | apply Kd.S_alloc | apply Kd.S_drewN | apply Kd.S_drew)); exact Kd.S_mono (Kd.S_far (p := ⟨gb140, 1, none⟩) (Kd.S_types HO_141000.out BK140.out (by decide)) (fun _ hk => hk.2) (.slice Ao59 y158.length co59)) (fun _ hk => trivial)⟩, ⟨by (with_reducible repeat (first | apply Kd.S_alloc | apply Kd.S_drewN | apply Kd.S_drew)); exact Kd.S_mono (Kd.S_far (p := ⟨gb140, 1, none⟩) (Kd.S_types HO160.out BK140.out (by decide)) (fun _ hk => hk.2) (.slice Ao59 y158.length co59)) (fun _ hk => trivial)⟩, ⟨by (with_reducible repeat (first | refine zdY ?_ _ | refine zeY ?_ | refine zcY ?_ _)); refine zjY ?_ NB138_140.out _; (with_reducible repeat (first | refine zdY ?_ _ | refine zeY ?_ | refine zcY ?_ _)); exact BK138.out⟩, ⟨by (with_reducible repeat (first | refine zdY ?_ _ | refine zeY ?_ | refine zcY ?_ _)); refine zjY ?_ NB139_140.out _; (with_reducible repeat (first | refine zdY ?_ _ | refine zeY ?_ | refine zcY ?_ _)); exact BK139.out⟩, ⟨by (with_reducible repeat (first | refine zdY ?_ _ | refine zeY ?_ | refine zcY ?_ _)); refine blk_put (cs := #[u141000, u141001]) ?_ 1 _ rfl; (with_reducible repeat (first | refine zdY ?_ _ | refine zeY ?_ | refine zcY ?_ _)); exact BK140.out⟩, ⟨bwZ⟩⟩
          ·
           rw [if_neg c31] at H
           exact absurd H (by simp)
         ·
          rw [if_neg c30] at H
          exact absurd H (by simp)
        ·
         rw [if_neg c29] at H
         exact absurd H (by simp)
       ·
        rw [if_neg c28] at H
        exact absurd H (by simp)
      ·
       rw [if_neg c27] at H
       have c27b0 : decide (x6_2 < (l0_1.length : Int)) = false := decide_eq_false c27
       clear c27
       simp only [Option.some.injEq, Prod.mk.injEq] at H
       obtain ⟨rfl, rfl⟩ := H
       have hnb61 := NB138_139.out
       have hnc61 := NB139_138.out
       have hnb62 := NB138_140.out
       have hnc62 := NB140_138.out
       have hcz63_0 : wr.cell? ⟨gb138, 0, none⟩ = some (.slice A0_0 l0_0.length c0_0) := (zaY BK138.out 0).trans rfl
       have hcz63_1 : wr.cell? ⟨gb138, 1, none⟩ = some (.slice A0_1 l0_1.length c0_1) := (zaY BK138.out 1).trans rfl
       have hfz63_0 := zbY BK138.out 0
       have hfz63_1 := zbY BK138.out 1
       have hnb64 := NB140_139.out
       have hnc64 := NB139_140.out
       have hcz65_0 : wr.cell? ⟨gb140, 0, none⟩ = some (u141000) := (zaY BK140.out 0).trans rfl
       have hcz65_1 : wr.cell? ⟨gb140, 1, none⟩ = some (u141001) := (zaY BK140.out 1).trans rfl
       have hfz65_0 := zbY BK140.out 0
       have hfz65_1 := zbY BK140.out 1
       obtain ⟨Ao66, co66, eo66⟩ := Kd.S_slice HO_141000.out
       subst eo66
       have hcz67_0 : wr.cell? ⟨gb139, 0, none⟩ = some (.slice none 0 0) := (zaY BK139.out 0).trans rfl
       have hcz67_1 : wr.cell? ⟨gb139, 1, none⟩ = some (.slice none 0 0) := (zaY BK139.out 1).trans rfl
       have hfz67_0 := zbY BK139.out 0
       have hfz67_1 := zbY BK139.out 1
       obtain ⟨Ao68, co68, eo68⟩ := Kd.S_slice HO_141001.out
       subst eo68
       go_wp2
       refine bodyPost_ret (results_cell_row rfl _ _ gb139 31 #[.slice Ao66 x141000_1.length co66, .slice Ao68 x141001_2.length co68] (0, 0) _ rfl (by (with_reducible repeat (first | refine zdY ?_ _ | refine zeY ?_ | refine zcY ?_ _)); refine blk_put (cs := #[.slice Ao66 x141000_1.length co66, .slice none 0 0]) ?_ 1 _ rfl; (with_reducible repeat (first | refine zdY ?_ _ | refine zeY ?_ | refine zcY ?_ _)); refine blk_put (cs := #[.slice none 0 0, .slice none 0 0]) ?_ 0 _ rfl; (with_reducible repeat (first | refine zdY ?_ _ | refine zeY ?_ | refine zcY ?_ _)); exact BK139.out) Try.underlying31 rfl (by kernel_rfl)) rfl ?_
       exact ⟨_, _, by first | rfl | (simp [zmY, zlY] <;> rfl) | (simp [*, zmY, zlY] <;> rfl), by (with_reducible repeat (first | apply Kd.S_alloc | apply Kd.S_drewN | apply Kd.S_drew)); exact Kd.S_mono (Kd.S_far (p := ⟨gb139, 1, none⟩) (Kd.S_far (p := ⟨gb139, 0, none⟩) (Kd.S_types HO_141000.out BK139.out (by decide)) (fun _ hk => hk.2) (.slice Ao66 x141000_1.length co66)) (fun _ hk => hk.2) (.slice Ao68 x141001_2.length co68)) (fun _ hk => trivial), by (with_reducible repeat (first | apply Kd.S_alloc | apply Kd.S_drewN | apply Kd.S_drew)); exact Kd.S_mono (Kd.S_far (p := ⟨gb139, 1, none⟩) (Kd.S_far (p := ⟨gb139, 0, none⟩) (Kd.S_types HO_141001.out BK139.out (by decide)) (fun _ hk => hk.2) (.slice Ao66 x141000_1.length co66)) (fun _ hk => hk.2) (.slice Ao68 x141001_2.length co68)) (fun _ hk => trivial), bwZ⟩
def spec_l5last.l0 : Nat → List (S57) → Int → Int → Int → Option (Int)
 | 0, _, _, _, _ => none
 | k + 1, x0, x1, x5, x6 => if x6 ≤ (x0.length : Int) then (if 0 ≤ x5 then (if x5 < (x0.length : Int) then (if ((rd_T57 x0 x5).f0) = 18 then (spec_l5last.l0 k x0 x1 ((rd_T57 x0 x5).f1) (wrap64 (x6 + 1))) else (some x5)) else (none)) else (none)) else (some x1)
def spec_l5last.f (k : Nat) (l0 : List (S57)) (a1 : Int) : Option (Int) := spec_l5last.l0 k l0 a1 a1 0
set_option maxHeartbeats 8000000 in
set_option maxRecDepth 100000 in
theorem spec_l5last.calls (k : Nat) (A0 : Option Addr) (c0 : Nat) (l0 : List (S57)) (a1 : Int) (r : Int) (w : World) (hr0 : Kd.C k57 w A0 l0.length l0) (hc0 : l0.length ≤ c0) (h : spec_l5last.f k l0 a1 = some r) :
  Calls Try.prog 45 #[.slice A0 l0.length c0, .int .i64 a1] w fun e w' => e = .returned (.int .i64 r) ∧ Drawn0 w w' := by
 have HR0 := amZ hr0
 have HC0 := amZ hc0
 clear hr0 hc0
 have H : (spec_l5last.l0 k l0 a1 a1 0) = some r := h
 clear h
 have H' := amZ H
 clear H
 go_enter Try.func45, Try.ntmps45
 go_wp2
 go_loopg [5, 6] k (fun kq v5 v6 w' => ∃ (x5_1 : Int) (x6_1 : Int), v5 = .int .i64 x5_1 ∧ v6 = .int .i64 x6_1 ∧ Aside0 (spec_l5last.l0 kq l0 a1 x5_1 x6_1 = some r) ∧ Aside0 (kq ≤ k) ∧ Drawn0 w w')
 case atStart => exact ⟨(a1), (0), (by first | rfl | (simp; done) | (simp [*]; done)), (by first | rfl | (simp; done) | (simp [*]; done)), H', ⟨Nat.le_refl _⟩, by repeat (first | exact Drawn0.refl _ | apply Drawn0.step)⟩
 case round =>
  clear H'
  try clear p2
  obtain ⟨x5_1, x6_1, rfl, rfl, HA, HK1, ⟨m1, rfl⟩⟩ := hrel
  cases gk with
  | zero => exact absurd HA.out (by simp [spec_l5last.l0])
  | succ k1 =>
   have H := HA.out
   clear HA
   simp only [spec_l5last.l0] at H
   by_cases c3 : x6_1 ≤ (l0.length : Int)
   ·
    rw [if_pos c3] at H
    have c3b0 : decide (x6_1 ≤ (l0.length : Int)) = true := decide_eq_true c3
    clear c3
    by_cases c4 : 0 ≤ x5_1
    ·
     rw [if_pos c4] at H
     have c4b0 : decide (0 ≤ x5_1) = true := decide_eq_true c4
     clear c4
     by_cases c5 : x5_1 < (l0.length : Int)
     ·
      rw [if_pos c5] at H
      have c5b0 : decide (x5_1 < (l0.length : Int)) = true := decide_eq_true c5
      clear c5
      by_cases c6 : ((rd_T57 l0 x5_1).f0) = 18
      ·
       rw [if_pos c6] at H
       have c6b0 : (((rd_T57 l0 x5_1).f0) == 18) = true := beq_iff_eq.mpr c6
       have c6b1 : (((rd_T57 l0 x5_1).f0) != 18) = false := bne_eq_false_iff_eq.mpr c6
       clear c6
       have H' := amZ H
       clear H
       have p161 : 0 ≤ (x5_1 : Int) := odZ
       have q161 : x5_1 < (l0.length : Int) := odZ
       obtain ⟨ad161, e161, hx161_0, hx161_1, hx161_2⟩ := at_T57 HR0.out x5_1 p161 q161
       cases e161
       replace p161 := eq_true p161
       replace q161 := eq_true q161
       have p162 : 0 ≤ (x5_1 : Int) := odZ
       have q162 : x5_1 < (l0.length : Int) := odZ
       obtain ⟨ad162, e162, hx162_0, hx162_1, hx162_2⟩ := at_T57 HR0.out x5_1 p162 q162
       obtain rfl : ad161 = ad162 := (by injection e162)
       replace p162 := eq_true p162
       replace q162 := eq_true q162
       go_wp2
       go_roundg k1
       case measure => have := HK1.out; omega
       case rel => exact ⟨((rd_T57 l0 x5_1).f1), (wrap64 (x6_1 + 1)), (by first | rfl | (simp; done) | (simp [*]; done)), (by first | rfl | (simp; done) | (simp [*]; done)), H', ⟨by have := HK1.out; omega⟩, by repeat (first | exact Drawn0.refl _ | apply Drawn0.step)⟩
      ·
       rw [if_neg c6] at H
       have c6b0 : (((rd_T57 l0 x5_1).f0) == 18) = false := beq_eq_false_iff_ne.mpr c6
       have c6b1 : (((rd_T57 l0 x5_1).f0) != 18) = true := bne_iff_ne.mpr c6
       obtain rfl := Option.some.inj H
       have p161 : 0 ≤ (x5_1 : Int) := odZ
       have q161 : x5_1 < (l0.length : Int) := odZ
       obtain ⟨ad161, e161, hx161_0, hx161_1, hx161_2⟩ := at_T57 HR0.out x5_1 p161 q161
       cases e161
       replace p161 := eq_true p161
       replace q161 := eq_true q161
       go_wp2
       go_ret
       exact ⟨by first | rfl | (simp; done) | (simp [*]; done), by repeat (first | exact Drawn0.refl _ | apply Drawn0.step)⟩
     ·
      rw [if_neg c5] at H
      exact absurd H (by simp)
    ·
     rw [if_neg c4] at H
     exact absurd H (by simp)
   ·
    rw [if_neg c3] at H
    have c3b0 : decide (x6_1 ≤ (l0.length : Int)) = false := decide_eq_false c3
    clear c3
    obtain rfl := Option.some.inj H
    go_wp2
    go_ret
    exact ⟨by first | rfl | (simp; done) | (simp [*]; done), by repeat (first | exact Drawn0.refl _ | apply Drawn0.step)⟩
end Go.Proofs.Ytmmpiojekgfdjaa.C
