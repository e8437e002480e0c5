/- A part of the proof. -/
import Derived.Test.YtmmpiojekgfdjaaZtCx0
import Derived.Test.YtmmpiojekgfdjaaZtCx1
import Derived.Test.YtmmpiojekgfdjaaZtCx4
import Derived.Test.YtmmpiojekgfdjaaZtTh5
import Derived.Test.YtmmpiojekgfdjaaZtK
namespace Go.Proofs.Ytmmpiojekgfdjaa.C
open Go.RowKit YtmmpiojekgfdjaaW.PrintWords YtmmpiojekgfdjaaW.PrintLast
set_option linter.unusedVariables false
set_option linter.unusedSimpArgs false
theorem setCell_drewNZ (w : World) (n : Nat) (a : Addr) (v : Value) : (w.drewN n).setCell a v = (w.setCell a v).drewN n := by
 unfold World.setCell
 repeat (first | rfl | split)
mutual
def spec_Thread.l0 : Nat → Int → List (S48) → List (S52) → List (S48) → List (S52) → Option ((List (S48)) × (List (S52)))
 | 0, _, _, _, _, _ => none
 | k + 1, x4, x164000, x164001, x173000, x173001 => if x4 < (x164001.length : Int) then (if 0 ≤ x4 then (spec_Thread.l1 k x4 ((rd_T52 x164001 x4).f3) 0 x164000 x164001 x173000 x173001) else (none)) else (some (x173000, x173001))
def spec_Thread.l1 : Nat → Int → List (S57) → Int → List (S48) → List (S52) → List (S48) → List (S52) → Option ((List (S48)) × (List (S52)))
 | 0, _, _, _, _, _, _, _ => none
 | k + 1, x4, x5, x6, x164000, x164001, x173000, x173001 => if x6 < (x5.length : Int) then (if 0 ≤ x6 then ((spec_l4row.f ((rd_T57 x5 x6).f0)).bind fun bt175 => (if 0 < (bt175.1.size : Int) then (if (bt bt175.1 0) = 116 then (if 0 ≤ x4 then (if x4 < (x173001.length : Int) then ((spec_l5last.f k x5 ((rd_T57 x5 x6).f1)).bind fun t180 => (if x6 < (((rd_T52 x173001 x4).f3).length : Int) then ((some (x173001.set (x4 : Int).toNat (⟨(rd_T52 x173001 x4).f0, (rd_T52 x173001 x4).f1, (rd_T52 x173001 x4).f2, (((rd_T52 x173001 x4).f3).set (x6 : Int).toNat (⟨(rd_T57 ((rd_T52 x173001 x4).f3) x6).f0, t180, (rd_T57 ((rd_T52 x173001 x4).f3) x6).f2⟩ : S57))⟩ : S52) : List (S52))).bind fun y183 => (if 1 < (bt175.1.size : Int) then (if (bt bt175.1 1) = 116 then ((spec_l5last.f k x5 ((rd_T57 x5 x6).f2)).bind fun t186 => (if x6 < (((rd_T52 y183 x4).f3).length : Int) then (spec_Thread.l1 k x4 x5 (wrap64 (x6 + 1)) x164000 x164001 x173000 (y183.set (x4 : Int).toNat (⟨(rd_T52 y183 x4).f0, (rd_T52 y183 x4).f1, (rd_T52 y183 x4).f2, (((rd_T52 y183 x4).f3).set (x6 : Int).toNat (⟨(rd_T57 ((rd_T52 y183 x4).f3) x6).f0, (rd_T57 ((rd_T52 y183 x4).f3) x6).f1, t186⟩ : S57))⟩ : S52))) else (none))) else (spec_Thread.l1 k x4 x5 (wrap64 (x6 + 1)) x164000 x164001 x173000 y183)) else (none))) else (none))) else (none)) else (none)) else (if 1 < (bt175.1.size : Int) then (if (bt bt175.1 1) = 116 then (if 0 ≤ x4 then (if x4 < (x173001.length : Int) then ((spec_l5last.f k x5 ((rd_T57 x5 x6).f2)).bind fun t192 => (if x6 < (((rd_T52 x173001 x4).f3).length : Int) then (spec_Thread.l1 k x4 x5 (wrap64 (x6 + 1)) x164000 x164001 x173000 (x173001.set (x4 : Int).toNat (⟨(rd_T52 x173001 x4).f0, (rd_T52 x173001 x4).f1, (rd_T52 x173001 x4).f2, (((rd_T52 x173001 x4).f3).set (x6 : Int).toNat (⟨(rd_T57 ((rd_T52 x173001 x4).f3) x6).f0, (rd_T57 ((rd_T52 x173001 x4).f3) x6).f1, t192⟩ : S57))⟩ : S52))) else (none))) else (none)) else (none)) else (spec_Thread.l1 k x4 x5 (wrap64 (x6 + 1)) x164000 x164001 x173000 x173001)) else (none))) else (none))) else (none)) else (spec_Thread.l0 k (wrap64 (x4 + 1)) x164000 x164001 x173000 x173001)
end
def spec_Thread.f (k : Nat) (l0_0 : List (S48)) (l0_1 : List (S52)) : Option ((List (S48)) × (List (S52))) := (spec_Check.f k l0_0 l0_1).bind fun t165 => (if t165 = true then ((spec_l5copy.f k l0_0 l0_1).bind fun bt166 => (spec_Thread.l0 k 0 l0_0 l0_1 bt166.1 bt166.2)) else (some (([] : List (S48)), ([] : List (S52)))))
def spec_Thread.T13 : Bool × List (List Nat × List Nat) := (true, [([], []), ([0], [0]), ([], []), ([1, 2], [1, 2]), ([3], [3]), ([4], [4]), ([], []), ([], []), ([], []), ([], []), ([8, 9], [8, 9]), ([10], [10]), ([11], [11]), ([7, 12], [7, 12]), ([5, 6, 0, 1, 2, 3, 4, 5, 6, 7, 8, 9, 10, 11, 12, 13], [5, 6]), ([14, 0, 1, 2, 3, 4, 5, 6, 7, 8, 9, 10, 11, 12, 13], [14]), ([15, 13, 13, 0, 1, 2, 3, 4, 5, 6, 7, 8, 9, 10, 11, 12, 13], [13, 15])])
def spec_Thread.B13 : List Nat := [0, 1, 0, 7, 15, 31, 0, 0, 0, 0, 768, 1792, 3840, 8064, 16383, 32767, 65535]
theorem spec_Thread.tab13 : rtab .any (opsOf Try.f18 13) = spec_Thread.T13 := by kernel_rfl
theorem spec_Thread.bits13 : waitsOk spec_Thread.T13.2 spec_Thread.B13 = true := by kernel_rfl
def spec_Thread.T15 : Bool × List (List Nat × List Nat) := (true, [([], []), ([0], [0]), ([], []), ([1, 2], [1, 2]), ([3], [3]), ([4], [4]), ([], []), ([], []), ([], []), ([], []), ([8, 9], [8, 9]), ([10], [10]), ([11], [11]), ([7, 12], [7, 12]), ([5, 6, 0, 1, 2, 3, 4, 5, 6, 7, 8, 9, 10, 11, 12, 13], [5, 6]), ([14, 0, 1, 2, 3, 4, 5, 6, 7, 8, 9, 10, 11, 12, 13], [14]), ([15, 13, 13, 0, 1, 2, 3, 4, 5, 6, 7, 8, 9, 10, 11, 12, 13], [13, 15])])
def spec_Thread.B15 : List Nat := [0, 1, 0, 7, 15, 31, 0, 0, 0, 0, 768, 1792, 3840, 8064, 16383, 32767, 65535]
theorem spec_Thread.tab15 : rtab .any (opsOf Try.f18 15) = spec_Thread.T15 := by kernel_rfl
theorem spec_Thread.bits15 : waitsOk spec_Thread.T15.2 spec_Thread.B15 = true := by kernel_rfl
set_option maxHeartbeats 8000000 in
set_option maxRecDepth 100000 in
theorem spec_Thread.calls (k : Nat) (A0_0 : Option Addr) (c0_0 : Nat) (l0_0 : List (S48)) (A0_1 : Option Addr) (c0_1 : Nat) (l0_1 : List (S52)) (r1 : List (S48)) (r2 : List (S52)) (w : World) (hr0_0 : Kd.C k48 w A0_0 l0_0.length l0_0) (hc0_0 : l0_0.length ≤ c0_0) (hr0_1 : Kd.C k52 w A0_1 l0_1.length l0_1) (hc0_1 : l0_1.length ≤ c0_1) (h : spec_Thread.f k l0_0 l0_1 = some (r1, r2)) :
  Calls Try.prog 18 #[.agg #[.slice A0_0 l0_0.length c0_0, .slice A0_1 l0_1.length c0_1]] w fun e w' => ∃ v0_ v1_ : Value, e = .returned (.agg #[v0_, v1_]) ∧ Kd.S k48 48 w' w.heap.size (fun _ => True) v0_ r1 ∧ Kd.S k52 52 w' w.heap.size (fun _ => True) v1_ r2 ∧ Below w.heap.size w w' := by
 have hu31 := Try.underlying31
 have HR0_0 := amZ hr0_0
 have HC0_0 := amZ hc0_0
 clear hr0_0 hc0_0
 have HR0_1 := amZ hr0_1
 have HC0_1 := amZ hc0_1
 clear hr0_1 hc0_1
 have HB := amZ (Below.refl w.heap.size w)
 have H : ((spec_Check.f k l0_0 l0_1).bind fun t165 => (if t165 = true then ((spec_l5copy.f k l0_0 l0_1).bind fun bt166 => (spec_Thread.l0 k 0 l0_0 l0_1 bt166.1 bt166.2)) else (some (([] : List (S48)), ([] : List (S52)))))) = some (r1, r2) := h
 clear h
 replace H := Option.bind_eq_some_iff.mp H
 obtain ⟨t165, A20, H⟩ := H
 replace H : (if t165 = true then ((spec_l5copy.f k l0_0 l0_1).bind fun bt166 => (spec_Thread.l0 k 0 l0_0 l0_1 bt166.1 bt166.2)) else (some (([] : List (S48)), ([] : List (S52))))) = some (r1, r2) := H
 have A2 := amZ A20
 clear A20
 by_cases c3 : t165 = true
 ·
  subst c3
  have H1 : ((spec_l5copy.f k l0_0 l0_1).bind fun bt166 => (spec_Thread.l0 k 0 l0_0 l0_1 bt166.1 bt166.2)) = some (r1, r2) := by rw [if_pos rfl] at H; exact H
  clear H
  have H := H1
  clear H1
  replace H := Option.bind_eq_some_iff.mp H
  obtain ⟨⟨t166, t169⟩, A40, H⟩ := H
  replace H : (spec_Thread.l0 k 0 l0_0 l0_1 t166 t169) = some (r1, r2) := H
  have A4 := amZ A40
  clear A40
  have H' := amZ H
  clear H
  go_enter Try.func18, Try.ntmps18
  go_wp2_with (first | ((with_reducible refine gate_dst (N := 1) rfl ?_); refine box_event ?hg (N := 1) ?hd (cs := #[.slice A0_0 l0_0.length c0_0, .slice A0_1 l0_1.length c0_1]) (t := 31) ?hr ?_; (case hd => rfl); (case hg => rfl); (case hr => first | (go_simp; done) | (go_simp; rfl)); intro gb163 hg w5 hbox hb; have n0_ := amZ (zfY bwZ hb); have n1_ := amZ (hbox); have n2_ := amZ ((by rw [hg]; exact (zhY bwZ) : w.heap.size ≤ gb163)); have n3_ := amZ ((by rw [hg]; exact (zhY bwZ) : w.heap.size ≤ gb163)); clear HB; have HB := n0_; have BK163 := n1_; have GW163 := n2_; have GE163 := n3_; clear n0_ n1_ n2_ n3_; clear hb hbox hg) | ((with_reducible refine gate_dst (N := 2) rfl ?_); refine box_event ?hg (N := 2) ?hd (cs := #[.slice none 0 0, .slice none 0 0]) (t := 31) ?hr ?_; (case hd => rfl); (case hg => rfl); (case hr => first | (go_simp; done) | (go_simp; rfl)); intro gb164 hg w6 hbox hb; have n0_ := amZ (ziY (g := gb163) (o := .cells #[.slice A0_0 l0_0.length c0_0, .slice A0_1 l0_1.length c0_1] 31 (0, 0)) bkZ hb); have n1_ := amZ (zfY bwZ hb); have n2_ := amZ (hbox); have n3_ := amZ ((by rw [hg]; exact (zhY bwZ) : w.heap.size ≤ gb164)); have n4_ := amZ ((by rw [hg]; exact (zhY bwZ) : w.heap.size ≤ gb164)); have n5_ := amZ ((by rw [hg]; exact Nat.ne_of_lt (zkY (g := gb163) (o := .cells #[.slice A0_0 l0_0.length c0_0, .slice A0_1 l0_1.length c0_1] 31 (0, 0)) bkZ) : gb163 ≠ gb164)); have n6_ := amZ ((by rw [hg]; exact Nat.ne_of_gt (zkY (g := gb163) (o := .cells #[.slice A0_0 l0_0.length c0_0, .slice A0_1 l0_1.length c0_1] 31 (0, 0)) bkZ) : gb164 ≠ gb163)); clear BK163; clear HB; have BK163 := n0_; have HB := n1_; have BK164 := n2_; have GW164 := n3_; have GE164 := n4_; have NB163_164 := n5_; have NB164_163 := n6_; clear n0_ n1_ n2_ n3_ n4_ n5_ n6_; clear hb hbox hg; have hnb7 := NB163_164.out; have hnc7 := NB164_163.out; have hcz8_0 : w6.cell? ⟨gb163, 0, none⟩ = some (.slice A0_0 l0_0.length c0_0) := (zaY BK163.out 0).trans rfl; have hcz8_1 : w6.cell? ⟨gb163, 1, none⟩ = some (.slice A0_1 l0_1.length c0_1) := (zaY BK163.out 1).trans rfl; have hfz8_0 := zbY BK163.out 0; have hfz8_1 := zbY BK163.out 1) | ((with_reducible refine gate_callee (f := 8) rfl ?_); refine goesL_ (some 11) rfl rfl Try.func8 (by kernel_rfl) rfl #[.agg #[.slice A0_0 l0_0.length c0_0, .slice A0_1 l0_1.length c0_1]] rfl (by (try simp only [List.map_toArray, List.map_cons, List.map_nil]); first | done | rfl | (simp only [List.length_drop, List.length_take]; rfl)) ?_; (with_reducible refine (spec_Check.calls k _ _ l0_0 _ _ l0_1 true _ ?side1 ?side2 ?side3 ?side4 A2.out).mono ?_); (case side1 => repeat (first | exact (Kd.C_below HR0_0.out HB.out) | (with_reducible refine Kd.C_alloc ?_ _) | (with_reducible refine Kd.C_drewN ?_ _) | (with_reducible refine Kd.C_drew ?_))); (case side2 => exact HC0_0.out); (case side3 => repeat (first | exact (Kd.C_below HR0_1.out HB.out) | (with_reducible refine Kd.C_alloc ?_ _) | (with_reducible refine Kd.C_drewN ?_ _) | (with_reducible refine Kd.C_drew ?_))); (case side4 => exact HC0_1.out); rintro e w9 ⟨rfl, hb⟩; refine ⟨_, rfl, ?_⟩; have n0_ := amZ (ziY (g := gb163) (o := .cells #[.slice A0_0 l0_0.length c0_0, .slice A0_1 l0_1.length c0_1] 31 (0, 0)) bkZ hb); have n1_ := amZ (ziY (g := gb164) (o := .cells #[.slice none 0 0, .slice none 0 0] 31 (0, 0)) bkZ hb); have n2_ := amZ (zfY bwZ hb); clear BK163; clear BK164; clear HB; have BK163 := n0_; have BK164 := n1_; have HB := n2_; clear n0_ n1_ n2_; (try clear hb); (try clear hb2); (try clear hk); (try clear hi); have hcz10_0 : w9.cell? ⟨gb163, 0, none⟩ = some (.slice A0_0 l0_0.length c0_0) := (zaY BK163.out 0).trans rfl; have hcz10_1 : w9.cell? ⟨gb163, 1, none⟩ = some (.slice A0_1 l0_1.length c0_1) := (zaY BK163.out 1).trans rfl; have hfz10_0 := zbY BK163.out 0; have hfz10_1 := zbY BK163.out 1) | ((with_reducible refine gate_callee (f := 43) rfl ?_); refine goesL_ (some 15) rfl rfl Try.func43 (by kernel_rfl) rfl #[.agg #[.slice A0_0 l0_0.length c0_0, .slice A0_1 l0_1.length c0_1]] rfl (by (try simp only [List.map_toArray, List.map_cons, List.map_nil]); first | done | rfl | (simp only [List.length_drop, List.length_take]; rfl)) ?_; (with_reducible refine (spec_l5copy.calls k _ _ l0_0 _ _ l0_1 t166 t169 _ ?side1 ?side2 ?side3 ?side4 A4.out).mono ?_); (case side1 => repeat (first | exact (Kd.C_below HR0_0.out HB.out) | (with_reducible refine Kd.C_alloc ?_ _) | (with_reducible refine Kd.C_drewN ?_ _) | (with_reducible refine Kd.C_drew ?_))); (case side2 => exact HC0_0.out); (case side3 => repeat (first | exact (Kd.C_below HR0_1.out HB.out) | (with_reducible refine Kd.C_alloc ?_ _) | (with_reducible refine Kd.C_drewN ?_ _) | (with_reducible refine Kd.C_drew ?_))); (case side4 => exact HC0_1.out); rintro e w11 ⟨v167, v170, rfl, ho0, ho1, hb⟩; refine ⟨_, rfl, ?_⟩; have n0_ := amZ (Kd.S_lower ho0 (zhY bwZ)); have n1_ := amZ (Kd.S_lower ho1 (zhY bwZ)); have n2_ := amZ (ziY (g := gb163) (o := .cells #[.slice A0_0 l0_0.length c0_0, .slice A0_1 l0_1.length c0_1] 31 (0, 0)) bkZ hb); have n3_ := amZ (ziY (g := gb164) (o := .cells #[.slice none 0 0, .slice none 0 0] 31 (0, 0)) bkZ hb); have n4_ := amZ (zfY bwZ hb); clear BK163; clear BK164; clear HB; have HO168 := n0_; have HO171 := n1_; have BK163 := n2_; have BK164 := n3_; have HB := n4_; clear n0_ n1_ n2_ n3_ n4_; (try clear hb); (try clear hb2); (try clear hk); (try clear hi); (try clear ho0); (try clear ho1)) | ((with_reducible refine gate_dst (N := 3) rfl ?_); refine box_event ?hg (N := 3) ?hd (cs := #[.slice none 0 0, .slice none 0 0]) (t := 31) ?hr ?_; (case hd => rfl); (case hg => rfl); (case hr => first | (go_simp; done) | (go_simp; rfl)); intro gb172 hg w12 hbox hb; have n0_ := amZ (Kd.S_below (by (with_reducible repeat (first | apply Kd.S_alloc | apply Kd.S_drewN | apply Kd.S_drew)); exact HO168.out) hb); have n1_ := amZ (Kd.S_below (by (with_reducible repeat (first | apply Kd.S_alloc | apply Kd.S_drewN | apply Kd.S_drew)); exact HO171.out) hb); have n2_ := amZ (ziY (g := gb163) (o := .cells #[.slice A0_0 l0_0.length c0_0, .slice A0_1 l0_1.length c0_1] 31 (0, 0)) bkZ hb); have n3_ := amZ (ziY (g := gb164) (o := .cells #[.slice none 0 0, .slice none 0 0] 31 (0, 0)) bkZ hb); have n4_ := amZ (zfY bwZ hb); have n5_ := amZ (hbox); have n6_ := amZ ((by rw [hg]; exact (zhY bwZ) : w.heap.size ≤ gb172)); have n7_ := amZ ((by rw [hg]; exact (zhY bwZ) : w.heap.size ≤ gb172)); have n8_ := amZ ((by rw [hg]; exact Nat.ne_of_lt (zkY (g := gb163) (o := .cells #[.slice A0_0 l0_0.length c0_0, .slice A0_1 l0_1.length c0_1] 31 (0, 0)) bkZ) : gb163 ≠ gb172)); have n9_ := amZ ((by rw [hg]; exact Nat.ne_of_gt (zkY (g := gb163) (o := .cells #[.slice A0_0 l0_0.length c0_0, .slice A0_1 l0_1.length c0_1] 31 (0, 0)) bkZ) : gb172 ≠ gb163)); have n10_ := amZ ((by rw [hg]; exact Nat.ne_of_lt (zkY (g := gb164) (o := .cells #[.slice none 0 0, .slice none 0 0] 31 (0, 0)) bkZ) : gb164 ≠ gb172)); have n11_ := amZ ((by rw [hg]; exact Nat.ne_of_gt (zkY (g := gb164) (o := .cells #[.slice none 0 0, .slice none 0 0] 31 (0, 0)) bkZ) : gb172 ≠ gb164)); clear HO168; clear HO171; clear BK163; clear BK164; clear HB; have HO168 := n0_; have HO171 := n1_; have BK163 := n2_; have BK164 := n3_; have HB := n4_; have BK172 := n5_; have GW172 := n6_; have GE172 := n7_; have NB163_172 := n8_; have NB172_163 := n9_; have NB164_172 := n10_; have NB172_164 := n11_; clear n0_ n1_ n2_ n3_ n4_ n5_ n6_ n7_ n8_ n9_ n10_ n11_; clear hb hbox hg; obtain ⟨Ao13, co13, eo13⟩ := Kd.S_slice HO168.out; subst eo13; have hnb14 := NB172_163.out; have hnc14 := NB163_172.out; have hnb15 := NB172_164.out; have hnc15 := NB164_172.out; have hcz16_0 : w12.cell? ⟨gb172, 0, none⟩ = some (.slice none 0 0) := (zaY BK172.out 0).trans rfl; have hcz16_1 : w12.cell? ⟨gb172, 1, none⟩ = some (.slice none 0 0) := (zaY BK172.out 1).trans rfl; have hfz16_0 := zbY BK172.out 0; have hfz16_1 := zbY BK172.out 1; obtain ⟨Ao17, co17, eo17⟩ := Kd.S_slice HO171.out; subst eo17))
  go_loopg [4] k (fun kq v4 w' => ∃ (x4_1 : Int) (x173001_1 : List (S52)) (u173001 : Value), v4 = .int .i64 x4_1 ∧ Aside0 (spec_Thread.l0 kq x4_1 l0_0 l0_1 t166 x173001_1 = some (r1, r2)) ∧ Aside0 (kq ≤ k) ∧ Aside0 (Kd.S k48 48 w' w.heap.size (fun _ => True) (.slice Ao13 t166.length co13) t166) ∧ Aside0 (Kd.S k52 52 w' w.heap.size (fun _ => True) u173001 x173001_1) ∧ Aside0 (w'.heap[gb163]? = some (.cells #[(.slice A0_0 l0_0.length c0_0), (.slice A0_1 l0_1.length c0_1)] 31 (0, 0))) ∧ Aside0 (w'.heap[gb164]? = some (.cells #[(.slice none 0 0), (.slice none 0 0)] 31 (0, 0))) ∧ Aside0 (w'.heap[gb172]? = some (.cells #[(.slice Ao13 t166.length co13), u173001] 31 (0, 0))) ∧ Aside0 (Below w.heap.size w w'))
  case atStart => exact ⟨(0), (t169), (.slice Ao17 t169.length co17), (by first | rfl | (simp; done) | (simp [*]; done)), H', ⟨Nat.le_refl _⟩, ⟨by (with_reducible repeat (first | apply Kd.S_alloc | apply Kd.S_drewN | apply Kd.S_drew)); exact Kd.S_mono (Kd.S_far (p := ⟨gb172, 1, none⟩) (Kd.S_far (p := ⟨gb172, 0, none⟩) (Kd.S_types HO168.out BK172.out (by decide)) (fun _ hk => hk.2) (.slice Ao13 t166.length co13)) (fun _ hk => hk.2) (.slice Ao17 t169.length co17)) (fun _ hk => trivial)⟩, ⟨by (with_reducible repeat (first | apply Kd.S_alloc | apply Kd.S_drewN | apply Kd.S_drew)); exact Kd.S_mono (Kd.S_far (p := ⟨gb172, 1, none⟩) (Kd.S_far (p := ⟨gb172, 0, none⟩) (Kd.S_types HO171.out BK172.out (by decide)) (fun _ hk => hk.2) (.slice Ao13 t166.length co13)) (fun _ hk => hk.2) (.slice Ao17 t169.length co17)) (fun _ hk => trivial)⟩, ⟨by (with_reducible repeat (first | refine zdY ?_ _ | refine zeY ?_ | refine zcY ?_ _)); refine zjY ?_ NB163_172.out _; (with_reducible repeat (first | refine zdY ?_ _ | refine zeY ?_ | refine zcY ?_ _)); refine zjY ?_ NB163_172.out _; (with_reducible repeat (first | refine zdY ?_ _ | refine zeY ?_ | refine zcY ?_ _)); exact BK163.out⟩, ⟨by (with_reducible repeat (first | refine zdY ?_ _ | refine zeY ?_ | refine zcY ?_ _)); refine zjY ?_ NB164_172.out _; (with_reducible repeat (first | refine zdY ?_ _ | refine zeY ?_ | refine zcY ?_ _)); refine zjY ?_ NB164_172.out _; (with_reducible repeat (first | refine zdY ?_ _ | refine zeY ?_ | refine zcY ?_ _)); exact BK164.out⟩, ⟨by (with_reducible repeat (first | refine zdY ?_ _ | refine zeY ?_ | refine zcY ?_ _)); refine blk_put (cs := #[.slice Ao13 t166.length co13, .slice none 0 0]) ?_ 1 _ rfl; (with_reducible repeat (first | refine zdY ?_ _ | refine zeY ?_ | refine zcY ?_ _)); refine blk_put (cs := #[.slice none 0 0, .slice none 0 0]) ?_ 0 _ rfl; (with_reducible repeat (first | refine zdY ?_ _ | refine zeY ?_ | refine zcY ?_ _)); exact BK172.out⟩, ⟨bwZ⟩⟩
  case round =>
   clear H'
   try clear c1
   try clear p2
   try clear c3
   try clear c4
   try clear c7
   try clear c8
   try clear c14
   try clear c15
   try clear hcz10_0
   try clear hcz10_1
   try clear hcz16_0
   try clear hcz16_1
   try clear hcz8_0
   try clear hcz8_1
   try clear hfz10_0
   try clear hfz10_1
   try clear hfz16_0
   try clear hfz16_1
   try clear hfz8_0
   try clear hfz8_1
   obtain ⟨x4_1, x173001_1, u173001, rfl, HA, HK1, HO_173000, HO_173001, BK163, BK164, BK172, HB⟩ := hrel
   cases gk with
   | zero => exact absurd HA.out (by simp [spec_Thread.l0])
   | succ k1 =>
    have H := HA.out
    clear HA
    simp only [spec_Thread.l0] at H
    by_cases c18 : x4_1 < (l0_1.length : Int)
    ·
     rw [if_pos c18] at H
     have c18b0 : decide (x4_1 < (l0_1.length : Int)) = true := decide_eq_true c18
     clear c18
     by_cases c19 : 0 ≤ x4_1
     ·
      rw [if_pos c19] at H
      have c19b0 : decide (0 ≤ x4_1) = true := decide_eq_true c19
      clear c19
      have H' := amZ H
      clear H
      have hnb20 := NB163_164.out
      have hnc20 := NB164_163.out
      have hnb21 := NB163_172.out
      have hnc21 := NB172_163.out
      have hcz22_0 : wr.cell? ⟨gb163, 0, none⟩ = some (.slice A0_0 l0_0.length c0_0) := (zaY BK163.out 0).trans rfl
      have hcz22_1 : wr.cell? ⟨gb163, 1, none⟩ = some (.slice A0_1 l0_1.length c0_1) := (zaY BK163.out 1).trans rfl
      have hfz22_0 := zbY BK163.out 0
      have hfz22_1 := zbY BK163.out 1
      have p173 : 0 ≤ (x4_1 : Int) := odZ
      have q173 : x4_1 < (l0_1.length : Int) := odZ
      obtain ⟨ad173, A173_2, c173_2, A173_3, c173_3, e173, hx173_0, hx173_1, hx173_2, hx173_3, hl173_2, hi173_2, hl173_3, hi173_3⟩ := at_T52 HR0_1.out x4_1 p173 q173
      cases e173
      replace hx173_0 := (HB.out.cell (World.block_lt_of_cell? w _ hx173_0)).trans hx173_0
      replace hx173_1 := (HB.out.cell (World.block_lt_of_cell? w _ hx173_1)).trans hx173_1
      replace hx173_2 := (HB.out.cell (World.block_lt_of_cell? w _ hx173_2)).trans hx173_2
      replace hx173_3 := (HB.out.cell (World.block_lt_of_cell? w _ hx173_3)).trans hx173_3
      have HR173_2 := amZ hi173_2
      have HC173_2 := amZ hl173_2
      clear hi173_2 hl173_2
      have HR173_3 := amZ hi173_3
      have HC173_3 := amZ hl173_3
      clear hi173_3 hl173_3
      replace p173 := eq_true p173
      replace q173 := eq_true q173
      go_wp2
      go_loopg [6] k1 (fun kq v6 w' => ∃ (x6_2 : Int) (x173001_2 : List (S52)) (u173001 : Value), v6 = .int .i64 x6_2 ∧ Aside0 (spec_Thread.l1 kq x4_1 ((rd_T52 l0_1 x4_1).f3) x6_2 l0_0 l0_1 t166 x173001_2 = some (r1, r2)) ∧ Aside0 (kq ≤ k1) ∧ Aside0 (Kd.S k48 48 w' w.heap.size (fun _ => True) (.slice Ao13 t166.length co13) t166) ∧ Aside0 (Kd.S k52 52 w' w.heap.size (fun _ => True) u173001 x173001_2) ∧ Aside0 (w'.heap[gb163]? = some (.cells #[(.slice A0_0 l0_0.length c0_0), (.slice (some ad173) l0_1.length c0_1)] 31 (0, 0))) ∧ Aside0 (w'.heap[gb164]? = some (.cells #[(.slice none 0 0), (.slice none 0 0)] 31 (0, 0))) ∧ Aside0 (w'.heap[gb172]? = some (.cells #[(.slice Ao13 t166.length co13), u173001] 31 (0, 0))) ∧ Aside0 (Below w.heap.size w w'))
      case atStart => exact ⟨(0), (x173001_1), (u173001), (by first | rfl | (simp; done) | (simp [*]; done)), H', ⟨Nat.le_refl _⟩, ⟨by (with_reducible repeat (first | apply Kd.S_alloc | apply Kd.S_drewN | apply Kd.S_drew)); exact HO_173000.out⟩, ⟨by (with_reducible repeat (first | apply Kd.S_alloc | apply Kd.S_drewN | apply Kd.S_drew)); exact HO_173001.out⟩, ⟨by (with_reducible repeat (first | refine zdY ?_ _ | refine zeY ?_ | refine zcY ?_ _)); exact BK163.out⟩, ⟨by (with_reducible repeat (first | refine zdY ?_ _ | refine zeY ?_ | refine zcY ?_ _)); exact BK164.out⟩, ⟨by (with_reducible repeat (first | refine zdY ?_ _ | refine zeY ?_ | refine zcY ?_ _)); exact BK172.out⟩, ⟨bwZ⟩⟩
      case round =>
       clear H'
       try clear c1
       try clear p1
       try clear q1
       try clear hx1
       try clear c2
       try clear p2
       try clear c3
       try clear c4
       try clear c7
       try clear c8
       try clear c14
       try clear c15
       try clear c17
       try clear p17
       try clear q17
       try clear hx17
       try clear c18
       try clear c18b0
       try clear c19
       try clear c19b0
       try clear c20
       try clear c21
       try clear hcz10_0
       try clear hcz10_1
       try clear hcz16_0
       try clear hcz16_1
       try clear hcz22_0
       try clear hcz22_1
       try clear hcz8_0
       try clear hcz8_1
       try clear hfz10_0
       try clear hfz10_1
       try clear hfz16_0
       try clear hfz16_1
       try clear hfz22_0
       try clear hfz22_1
       try clear hfz8_0
       try clear hfz8_1
       try clear hx173_0
       try clear hx173_1
       try clear hx173_2
       try clear hx173_3
       try clear p173
       try clear p2
       try clear q173
       obtain ⟨x6_2, x173001_2, u173001, rfl, HA, HK2, HO_173000, HO_173001, BK163, BK164, BK172, HB⟩ := hrel
       cases gk with
       | zero => exact absurd HA.out (by simp [spec_Thread.l1])
       | succ k2 =>
        have H := HA.out
        clear HA
        simp only [spec_Thread.l1] at H
        by_cases c23 : x6_2 < (((rd_T52 l0_1 x4_1).f3).length : Int)
        ·
         rw [if_pos c23] at H
         have c23b0 : decide (x6_2 < (((rd_T52 l0_1 x4_1).f3).length : Int)) = true := decide_eq_true c23
         clear c23
         by_cases c24 : 0 ≤ x6_2
         ·
          rw [if_pos c24] at H
          have c24b0 : decide (0 ≤ x6_2) = true := decide_eq_true c24
          clear c24
          replace H := Option.bind_eq_some_iff.mp H
          obtain ⟨⟨t175, t176, t177⟩, A250, H⟩ := H
          replace H : (if 0 < (t175.size : Int) then (if (bt t175 0) = 116 then (if 0 ≤ x4_1 then (if x4_1 < (x173001_2.length : Int) then ((spec_l5last.f k2 ((rd_T52 l0_1 x4_1).f3) ((rd_T57 ((rd_T52 l0_1 x4_1).f3) x6_2).f1)).bind fun t180 => (if x6_2 < (((rd_T52 x173001_2 x4_1).f3).length : Int) then ((some (x173001_2.set (x4_1 : Int).toNat (⟨(rd_T52 x173001_2 x4_1).f0, (rd_T52 x173001_2 x4_1).f1, (rd_T52 x173001_2 x4_1).f2, (((rd_T52 x173001_2 x4_1).f3).set (x6_2 : Int).toNat (⟨(rd_T57 ((rd_T52 x173001_2 x4_1).f3) x6_2).f0, t180, (rd_T57 ((rd_T52 x173001_2 x4_1).f3) x6_2).f2⟩ : S57))⟩ : S52) : List (S52))).bind fun y183 => (if 1 < (t175.size : Int) then (if (bt t175 1) = 116 then ((spec_l5last.f k2 ((rd_T52 l0_1 x4_1).f3) ((rd_T57 ((rd_T52 l0_1 x4_1).f3) x6_2).f2)).bind fun t186 => (if x6_2 < (((rd_T52 y183 x4_1).f3).length : Int) then (spec_Thread.l1 k2 x4_1 ((rd_T52 l0_1 x4_1).f3) (wrap64 (x6_2 + 1)) l0_0 l0_1 t166 (y183.set (x4_1 : Int).toNat (⟨(rd_T52 y183 x4_1).f0, (rd_T52 y183 x4_1).f1, (rd_T52 y183 x4_1).f2, (((rd_T52 y183 x4_1).f3).set (x6_2 : Int).toNat (⟨(rd_T57 ((rd_T52 y183 x4_1).f3) x6_2).f0, (rd_T57 ((rd_T52 y183 x4_1).f3) x6_2).f1, t186⟩ : S57))⟩ : S52))) else (none))) else (spec_Thread.l1 k2 x4_1 ((rd_T52 l0_1 x4_1).f3) (wrap64 (x6_2 + 1)) l0_0 l0_1 t166 y183)) else (none))) else (none))) else (none)) else (none)) else (if 1 < (t175.size : Int) then (if (bt t175 1) = 116 then (if 0 ≤ x4_1 then (if x4_1 < (x173001_2.length : Int) then ((spec_l5last.f k2 ((rd_T52 l0_1 x4_1).f3) ((rd_T57 ((rd_T52 l0_1 x4_1).f3) x6_2).f2)).bind fun t192 => (if x6_2 < (((rd_T52 x173001_2 x4_1).f3).length : Int) then (spec_Thread.l1 k2 x4_1 ((rd_T52 l0_1 x4_1).f3) (wrap64 (x6_2 + 1)) l0_0 l0_1 t166 (x173001_2.set (x4_1 : Int).toNat (⟨(rd_T52 x173001_2 x4_1).f0, (rd_T52 x173001_2 x4_1).f1, (rd_T52 x173001_2 x4_1).f2, (((rd_T52 x173001_2 x4_1).f3).set (x6_2 : Int).toNat (⟨(rd_T57 ((rd_T52 x173001_2 x4_1).f3) x6_2).f0, (rd_T57 ((rd_T52 x173001_2 x4_1).f3) x6_2).f1, t192⟩ : S57))⟩ : S52))) else (none))) else (none)) else (none)) else (spec_Thread.l1 k2 x4_1 ((rd_T52 l0_1 x4_1).f3) (wrap64 (x6_2 + 1)) l0_0 l0_1 t166 x173001_2)) else (none))) else (none)) = some (r1, r2) := H
          have A25 := amZ A250
          clear A250
          by_cases c26 : 0 < (t175.size : Int)
          ·
           rw [if_pos c26] at H
           have c26b0 : decide (0 < (t175.size : Int)) = true := decide_eq_true c26
           have c26b1 : decide (0 < t175.size) = true := decide_eq_true (by omega)
           clear c26
           by_cases c28 : (bt t175 0) = 116
           ·
            rw [if_pos c28] at H
            have c28b0 : ((bt t175 0) == 116) = true := beq_iff_eq.mpr c28
            have c28b1 : ((bt t175 0) != 116) = false := bne_eq_false_iff_eq.mpr c28
            clear c28
            by_cases c29 : 0 ≤ x4_1
            ·
             rw [if_pos c29] at H
             have c29b0 : decide (0 ≤ x4_1) = true := decide_eq_true c29
             clear c29
             by_cases c30 : x4_1 < (x173001_2.length : Int)
             ·
              rw [if_pos c30] at H
              have c30b0 : decide (x4_1 < (x173001_2.length : Int)) = true := decide_eq_true c30
              clear c30
              replace H := Option.bind_eq_some_iff.mp H
              obtain ⟨t180, A310, H⟩ := H
              replace H : (if x6_2 < (((rd_T52 x173001_2 x4_1).f3).length : Int) then ((some (x173001_2.set (x4_1 : Int).toNat (⟨(rd_T52 x173001_2 x4_1).f0, (rd_T52 x173001_2 x4_1).f1, (rd_T52 x173001_2 x4_1).f2, (((rd_T52 x173001_2 x4_1).f3).set (x6_2 : Int).toNat (⟨(rd_T57 ((rd_T52 x173001_2 x4_1).f3) x6_2).f0, t180, (rd_T57 ((rd_T52 x173001_2 x4_1).f3) x6_2).f2⟩ : S57))⟩ : S52) : List (S52))).bind fun y183 => (if 1 < (t175.size : Int) then (if (bt t175 1) = 116 then ((spec_l5last.f k2 ((rd_T52 l0_1 x4_1).f3) ((rd_T57 ((rd_T52 l0_1 x4_1).f3) x6_2).f2)).bind fun t186 => (if x6_2 < (((rd_T52 y183 x4_1).f3).length : Int) then (spec_Thread.l1 k2 x4_1 ((rd_T52 l0_1 x4_1).f3) (wrap64 (x6_2 + 1)) l0_0 l0_1 t166 (y183.set (x4_1 : Int).toNat (⟨(rd_T52 y183 x4_1).f0, (rd_T52 y183 x4_1).f1, (rd_T52 y183 x4_1).f2, (((rd_T52 y183 x4_1).f3).set (x6_2 : Int).toNat (⟨(rd_T57 ((rd_T52 y183 x4_1).f3) x6_2).f0, (rd_T57 ((rd_T52 y183 x4_1).f3) x6_2).f1, t186⟩ : S57))⟩ : S52))) else (none))) else (spec_Thread.l1 k2 x4_1 ((rd_T52 l0_1 x4_1).f3) (wrap64 (x6_2 + 1)) l0_0 l0_1 t166 y183)) else (none))) else (none)) = some (r1, r2) := H
              have A31 := amZ A310
              clear A310
              by_cases c32 : x6_2 < (((rd_T52 x173001_2 x4_1).f3).length : Int)
              ·
               rw [if_pos c32] at H
               have c32b0 : decide (x6_2 < (((rd_T52 x173001_2 x4_1).f3).length : Int)) = true := decide_eq_true c32
               clear c32
               obtain ⟨y181, hy181⟩ : ∃ y_ : List (S57), y_ = (((rd_T52 x173001_2 x4_1).f3).set (x6_2 : Int).toNat (⟨(rd_T57 ((rd_T52 x173001_2 x4_1).f3) x6_2).f0, t180, (rd_T57 ((rd_T52 x173001_2 x4_1).f3) x6_2).f2⟩ : S57)) := ⟨_, rfl⟩
               replace H : ((some (x173001_2.set (x4_1 : Int).toNat (⟨(rd_T52 x173001_2 x4_1).f0, (rd_T52 x173001_2 x4_1).f1, (rd_T52 x173001_2 x4_1).f2, y181⟩ : S52) : List (S52))).bind fun y183 => (if 1 < (t175.size : Int) then (if (bt t175 1) = 116 then ((spec_l5last.f k2 ((rd_T52 l0_1 x4_1).f3) ((rd_T57 ((rd_T52 l0_1 x4_1).f3) x6_2).f2)).bind fun t186 => (if x6_2 < (((rd_T52 y183 x4_1).f3).length : Int) then (spec_Thread.l1 k2 x4_1 ((rd_T52 l0_1 x4_1).f3) (wrap64 (x6_2 + 1)) l0_0 l0_1 t166 (y183.set (x4_1 : Int).toNat (⟨(rd_T52 y183 x4_1).f0, (rd_T52 y183 x4_1).f1, (rd_T52 y183 x4_1).f2, (((rd_T52 y183 x4_1).f3).set (x6_2 : Int).toNat (⟨(rd_T57 ((rd_T52 y183 x4_1).f3) x6_2).f0, (rd_T57 ((rd_T52 y183 x4_1).f3) x6_2).f1, t186⟩ : S57))⟩ : S52))) else (none))) else (spec_Thread.l1 k2 x4_1 ((rd_T52 l0_1 x4_1).f3) (wrap64 (x6_2 + 1)) l0_0 l0_1 t166 y183)) else (none))) = some (r1, r2) := by first | (rw [hy181]; with_reducible exact H) | (have H2_ := (Option.bind_some _ _).symm.trans H; rw [hy181]; with_reducible exact H2_) | (have H2_ := (Option.bind_some _ _).symm.trans H; with_reducible exact H2_) | with_reducible exact H | (rw [hy181]; exact H) | exact H
               have Ny181 := amZ hy181
               clear hy181
               obtain ⟨y183, hy183⟩ : ∃ y_ : List (S52), y_ = (x173001_2.set (x4_1 : Int).toNat (⟨(rd_T52 x173001_2 x4_1).f0, (rd_T52 x173001_2 x4_1).f1, (rd_T52 x173001_2 x4_1).f2, y181⟩ : S52)) := ⟨_, rfl⟩
               replace H : (if 1 < (t175.size : Int) then (if (bt t175 1) = 116 then ((spec_l5last.f k2 ((rd_T52 l0_1 x4_1).f3) ((rd_T57 ((rd_T52 l0_1 x4_1).f3) x6_2).f2)).bind fun t186 => (if x6_2 < (((rd_T52 y183 x4_1).f3).length : Int) then (spec_Thread.l1 k2 x4_1 ((rd_T52 l0_1 x4_1).f3) (wrap64 (x6_2 + 1)) l0_0 l0_1 t166 (y183.set (x4_1 : Int).toNat (⟨(rd_T52 y183 x4_1).f0, (rd_T52 y183 x4_1).f1, (rd_T52 y183 x4_1).f2, (((rd_T52 y183 x4_1).f3).set (x6_2 : Int).toNat (⟨(rd_T57 ((rd_T52 y183 x4_1).f3) x6_2).f0, (rd_T57 ((rd_T52 y183 x4_1).f3) x6_2).f1, t186⟩ : S57))⟩ : S52))) else (none))) else (spec_Thread.l1 k2 x4_1 ((rd_T52 l0_1 x4_1).f3) (wrap64 (x6_2 + 1)) l0_0 l0_1 t166 y183)) else (none)) = some (r1, r2) := by first | (rw [hy183]; with_reducible exact H) | (have H2_ := (Option.bind_some _ _).symm.trans H; rw [hy183]; with_reducible exact H2_) | (have H2_ := (Option.bind_some _ _).symm.trans H; with_reducible exact H2_) | with_reducible exact H | (rw [hy183]; exact H) | exact H
               have Ny183 := amZ hy183
               clear hy183
               by_cases c34 : 1 < (t175.size : Int)
               ·
                rw [if_pos c34] at H
                have c34b0 : decide (1 < (t175.size : Int)) = true := decide_eq_true c34
                have c34b1 : decide (1 < t175.size) = true := decide_eq_true (by omega)
                clear c34
                by_cases c36 : (bt t175 1) = 116
                ·
                 rw [if_pos c36] at H
                 have c36b0 : ((bt t175 1) == 116) = true := beq_iff_eq.mpr c36
                 have c36b1 : ((bt t175 1) != 116) = false := bne_eq_false_iff_eq.mpr c36
                 clear c36
                 replace H := Option.bind_eq_some_iff.mp H
                 obtain ⟨t186, A370, H⟩ := H
                 replace H : (if x6_2 < (((rd_T52 y183 x4_1).f3).length : Int) then (spec_Thread.l1 k2 x4_1 ((rd_T52 l0_1 x4_1).f3) (wrap64 (x6_2 + 1)) l0_0 l0_1 t166 (y183.set (x4_1 : Int).toNat (⟨(rd_T52 y183 x4_1).f0, (rd_T52 y183 x4_1).f1, (rd_T52 y183 x4_1).f2, (((rd_T52 y183 x4_1).f3).set (x6_2 : Int).toNat (⟨(rd_T57 ((rd_T52 y183 x4_1).f3) x6_2).f0, (rd_T57 ((rd_T52 y183 x4_1).f3) x6_2).f1, t186⟩ : S57))⟩ : S52))) else (none)) = some (r1, r2) := H
                 have A37 := amZ A370
                 clear A370
                 by_cases c38 : x6_2 < (((rd_T52 y183 x4_1).f3).length : Int)
                 ·
                  rw [if_pos c38] at H
                  have c38b0 : decide (x6_2 < (((rd_T52 y183 x4_1).f3).length : Int)) = true := decide_eq_true c38
                  clear c38
                  obtain ⟨y187, hy187⟩ : ∃ y_ : List (S57), y_ = (((rd_T52 y183 x4_1).f3).set (x6_2 : Int).toNat (⟨(rd_T57 ((rd_T52 y183 x4_1).f3) x6_2).f0, (rd_T57 ((rd_T52 y183 x4_1).f3) x6_2).f1, t186⟩ : S57)) := ⟨_, rfl⟩
                  replace H : (spec_Thread.l1 k2 x4_1 ((rd_T52 l0_1 x4_1).f3) (wrap64 (x6_2 + 1)) l0_0 l0_1 t166 (y183.set (x4_1 : Int).toNat (⟨(rd_T52 y183 x4_1).f0, (rd_T52 y183 x4_1).f1, (rd_T52 y183 x4_1).f2, y187⟩ : S52))) = some (r1, r2) := by first | (rw [hy187]; with_reducible exact H) | (have H2_ := (Option.bind_some _ _).symm.trans H; rw [hy187]; with_reducible exact H2_) | (have H2_ := (Option.bind_some _ _).symm.trans H; with_reducible exact H2_) | with_reducible exact H | (rw [hy187]; exact H) | exact H
                  have Ny187 := amZ hy187
                  clear hy187
                  obtain ⟨y189, hy189⟩ : ∃ y_ : List (S52), y_ = (y183.set (x4_1 : Int).toNat (⟨(rd_T52 y183 x4_1).f0, (rd_T52 y183 x4_1).f1, (rd_T52 y183 x4_1).f2, y187⟩ : S52)) := ⟨_, rfl⟩
                  replace H : (spec_Thread.l1 k2 x4_1 ((rd_T52 l0_1 x4_1).f3) (wrap64 (x6_2 + 1)) l0_0 l0_1 t166 y189) = some (r1, r2) := by first | (rw [hy189]; with_reducible exact H) | (have H2_ := (Option.bind_some _ _).symm.trans H; rw [hy189]; with_reducible exact H2_) | (have H2_ := (Option.bind_some _ _).symm.trans H; with_reducible exact H2_) | with_reducible exact H | (rw [hy189]; exact H) | exact H
                  have Ny189 := amZ hy189
                  clear hy189
                  have H' := amZ H
                  clear H
                  have p174 : 0 ≤ (x6_2 : Int) := odZ
                  have q174 : x6_2 < (((rd_T52 l0_1 x4_1).f3).length : Int) := odZ
                  obtain ⟨ad174, e174, hx174_0, hx174_1, hx174_2⟩ := at_T57 HR173_3.out x6_2 p174 q174
                  cases e174
                  replace hx174_0 := (HB.out.cell (World.block_lt_of_cell? w _ hx174_0)).trans hx174_0
                  replace hx174_1 := (HB.out.cell (World.block_lt_of_cell? w _ hx174_1)).trans hx174_1
                  replace hx174_2 := (HB.out.cell (World.block_lt_of_cell? w _ hx174_2)).trans hx174_2
                  replace p174 := eq_true p174
                  replace q174 := eq_true q174
                  try go_wp2_with (first | ((with_reducible refine gate_callee (f := 44) rfl ?_); refine goesL_ (some 41) rfl rfl Try.func44 (by kernel_rfl) rfl #[.int .i64 ((rd_T57 ((rd_T52 l0_1 x4_1).f3) x6_2).f0)] rfl (by (try simp only [List.map_toArray, List.map_cons, List.map_nil]); first | done | rfl | (simp only [List.length_drop, List.length_take]; rfl)) ?_; (with_reducible refine (spec_l4row.calls ((rd_T57 ((rd_T52 l0_1 x4_1).f3) x6_2).f0) t175 t176 t177 _ A25.out).mono ?_); rintro e w40 ⟨rfl, hb⟩; refine ⟨_, rfl, ?_⟩; have n0_ := amZ (Kd.S_below (by (with_reducible repeat (first | apply Kd.S_alloc | apply Kd.S_drewN | apply Kd.S_drew)); exact HO_173000.out) hb); have n1_ := amZ (Kd.S_below (by (with_reducible repeat (first | apply Kd.S_alloc | apply Kd.S_drewN | apply Kd.S_drew)); exact HO_173001.out) hb); have n2_ := amZ (ziY (g := gb163) (o := .cells #[.slice A0_0 l0_0.length c0_0, .slice (some ad173) l0_1.length c0_1] 31 (0, 0)) bkZ hb); have n3_ := amZ (ziY (g := gb164) (o := .cells #[.slice none 0 0, .slice none 0 0] 31 (0, 0)) bkZ hb); have n4_ := amZ (ziY (g := gb172) (o := .cells #[.slice Ao13 t166.length co13, u173001] 31 (0, 0)) bkZ hb); have n5_ := amZ (zfY bwZ hb); clear HO_173000; clear HO_173001; clear BK163; clear BK164; clear BK172; clear HB; have HO_173000 := n0_; have HO_173001 := n1_; have BK163 := n2_; have BK164 := n3_; have BK172 := n4_; have HB := n5_; clear n0_ n1_ n2_ n3_ n4_ n5_; (try clear hb); (try clear hb2); (try clear hk); (try clear hi); have p27 : 0 ≤ (0 : Int) := (by omega); have q27 : 0 < t175.size := (by have : (0 : Int) < (t175.size : Int) := odZ; omega); have hx27 : ∀ h : 0 < t175.size, ((t175[0]'h).toNat : Int) = bt t175 0 := bt_at t175 0; clear p27; have qi27 : (0 < (t175.size : Int)) = True := eq_true odZ; replace q27 := eq_true q27))
                  have n0_ := amZ (Kd.S_drew HO_173000.out)
                  have n1_ := amZ (Kd.S_drew HO_173001.out)
                  have n2_ := amZ (zeY BK163.out)
                  have n3_ := amZ (zeY BK164.out)
                  have n4_ := amZ (zeY BK172.out)
                  have n5_ := amZ (below_drew1 HB.out)
                  clear HO_173000
                  clear HO_173001
                  clear BK163
                  clear BK164
                  clear BK172
                  clear HB
                  have HO_173000 := n0_
                  have HO_173001 := n1_
                  have BK163 := n2_
                  have BK164 := n3_
                  have BK172 := n4_
                  have HB := n5_
                  clear n0_ n1_ n2_ n3_ n4_ n5_
                  obtain ⟨Ao42, co42, eo42⟩ := Kd.S_slice HO_173001.out
                  (first | subst eo42 | (injection eo42 with f1_ f2_ f3_; have f4_ := f1_.symm; have f5_ := f3_.symm; clear f1_ f2_ f3_; subst f4_; subst f5_))
                  have p178 : 0 ≤ (x4_1 : Int) := odZ
                  have q178 : x4_1 < (x173001_2.length : Int) := odZ
                  obtain ⟨ad178, A178_2, c178_2, A178_3, c178_3, e178, hx178_0, hx178_1, hx178_2, hx178_3, hl178_2, hi178_2, hl178_3, hi178_3⟩ := at_T52 (Kd.S_reads' HO_173001.out).2.2 x4_1 p178 q178
                  cases e178
                  obtain ⟨ce178, hce178, hMe178, hcc178⟩ := Kd.S_get HO_173001.out z52 x4_1 p178 (by first | exact q178 | exact odZ | (have e_ := (Kd.S_reads' HO_173001.out).1; omega))
                  obtain ⟨ve178_2, ve178_3, rfl, ge178_2, ge178_3⟩ := k52_openM hMe178
                  have hv178_2 := hcc178 2 _ rfl
                  rw [add_field _ _ 2 (by omega)] at hv178_2
                  replace hv178_2 := Option.some.inj (hv178_2.symm.trans hx178_2)
                  rw [hv178_2] at ge178_2
                  have HL178_2 := amZ (show Kd.R k54 54 _ _ _ _ ((rd_T52 x173001_2 x4_1).f2) from ge178_2)
                  clear hv178_2 ge178_2
                  have HX178_2 := amZ hx178_2
                  have hv178_3 := hcc178 3 _ rfl
                  rw [add_field _ _ 3 (by omega)] at hv178_3
                  replace hv178_3 := Option.some.inj (hv178_3.symm.trans hx178_3)
                  rw [hv178_3] at ge178_3
                  have HL178_3 := amZ (show Kd.R k57 57 _ _ _ _ ((rd_T52 x173001_2 x4_1).f3) from ge178_3)
                  clear hv178_3 ge178_3
                  have HX178_3 := amZ hx178_3
                  clear hcc178 hce178
                  have HR178_2 := amZ hi178_2
                  have HC178_2 := amZ hl178_2
                  clear hi178_2 hl178_2
                  have HR178_3 := amZ hi178_3
                  have HC178_3 := amZ hl178_3
                  clear hi178_3 hl178_3
                  replace p178 := eq_true p178
                  replace q178 := eq_true q178
                  have p179 : 0 ≤ (x6_2 : Int) := odZ
                  have q179 : x6_2 < (((rd_T52 l0_1 x4_1).f3).length : Int) := odZ
                  obtain ⟨ad179, e179, hx179_0, hx179_1, hx179_2⟩ := at_T57 HR173_3.out x6_2 p179 q179
                  have hw179_2 := hx179_2
                  have hw179_1 := hx179_1
                  have hw179_0 := hx179_0
                  obtain rfl : ad174 = ad179 := (by injection e179)
                  replace hx179_0 := (HB.out.cell (World.block_lt_of_cell? w _ hx179_0)).trans hx179_0
                  replace hx179_1 := (HB.out.cell (World.block_lt_of_cell? w _ hx179_1)).trans hx179_1
                  replace hx179_2 := (HB.out.cell (World.block_lt_of_cell? w _ hx179_2)).trans hx179_2
                  replace p179 := eq_true p179
                  replace q179 := eq_true q179
                  refine start_ (n := 17) (S := fun w' => w'.cell? ⟨gb172, 0, none⟩ = some (.slice Ao13 t166.length co13) ∧ w'.cell? ⟨gb172, 1, none⟩ = some (.slice (some ad178) x173001_2.length co42) ∧ w'.cell? (ad178.add ((x4_1).toNat * 4)) = some (.int .i64 ((rd_T52 x173001_2 x4_1).f0)) ∧ w'.cell? ⟨(ad178.add ((x4_1).toNat * 4)).block, (ad178.add ((x4_1).toNat * 4)).off + 1, none⟩ = some (.int .i64 ((rd_T52 x173001_2 x4_1).f1)) ∧ w'.cell? ⟨(ad178.add ((x4_1).toNat * 4)).block, (ad178.add ((x4_1).toNat * 4)).off + 2, none⟩ = some (.slice A178_2 ((rd_T52 x173001_2 x4_1).f2).length c178_2) ∧ w'.cell? ⟨(ad178.add ((x4_1).toNat * 4)).block, (ad178.add ((x4_1).toNat * 4)).off + 3, none⟩ = some (.slice A178_3 ((rd_T52 x173001_2 x4_1).f3).length c178_3) ∧ w'.cell? (ad174.add ((x6_2).toNat * 3)) = some (.int .i64 ((rd_T57 ((rd_T52 l0_1 x4_1).f3) x6_2).f0)) ∧ w'.cell? ⟨(ad174.add ((x6_2).toNat * 3)).block, (ad174.add ((x6_2).toNat * 3)).off + 1, none⟩ = some (.int .i64 ((rd_T57 ((rd_T52 l0_1 x4_1).f3) x6_2).f1)) ∧ w'.cell? ⟨(ad174.add ((x6_2).toNat * 3)).block, (ad174.add ((x6_2).toNat * 3)).off + 2, none⟩ = some (.int .i64 ((rd_T57 ((rd_T52 l0_1 x4_1).f3) x6_2).f2))) (ds := [16]) #[false, false, false, false, false, false, false, false, false, false, false, false, false, false, false, false, false] (by kernel_rfl) rfl rfl ⟨(zaY BK172.out 0).trans rfl, (zaY BK172.out 1).trans rfl, hx178_0, hx178_1, hx178_2, hx178_3, ((HB.out.cell (World.block_lt_of_cell? w _ hw179_0)).trans hw179_0), ((HB.out.cell (World.block_lt_of_cell? w _ hw179_1)).trans hw179_1), ((HB.out.cell (World.block_lt_of_cell? w _ hw179_2)).trans hw179_2)⟩ (fun hHeld => ?_); refine with_tabW spec_Thread.tab13 spec_Thread.bits13 (fun HT_ HW_ => ?_)
                  generalize w40.drew = w41 at HO_173000 HO_173001 BK163 BK164 BK172 HB HL178_2 HL178_3 HR178_2 HR178_3 HX178_2 HX178_3 hx178_0 hx178_1 hx178_2 hx178_3 hx179_0 hx179_1 hx179_2 hHeld ⊢
                  refine pure_ (i := 0) (N := some 48) (v := ?_) (a' := ?_) #[true, false, false, false, false, false, false, false, false, false, false, false, false, false, false, false, false] rfl rfl (any_of HT_.out (by kernel_rfl)) (fun _ _ _ h => h) (Or.inl ⟨by rfl, ?_⟩) ?_ ?_
                  rotate_left
                  ·
                   intro w'
                   go_simp
                   with_reducible rfl
                  rotate_left
                  ·
                   simp only [Act.put, List.setIfInBounds_toArray, List.set_cons_zero, List.set_cons_succ, i64_w, i32_w]
                   rfl
                  refine pure_ (i := 2) (N := some 50) (v := ?_) (a' := ?_) #[true, false, true, false, false, false, false, false, false, false, false, false, false, false, false, false, false] rfl rfl (any_of HT_.out (by kernel_rfl)) (fun _ _ _ h => h) (Or.inl ⟨by rfl, ?_⟩) ?_ ?_
                  rotate_left
                  ·
                   intro w'
                   go_simp
                   with_reducible rfl
                  rotate_left
                  ·
                   simp only [Act.put, List.setIfInBounds_toArray, List.set_cons_zero, List.set_cons_succ, i64_w, i32_w]
                   rfl
                  refine pure_ (i := 6) (N := some 54) (v := ?_) (a' := ?_) #[true, false, true, false, false, false, true, false, false, false, false, false, false, false, false, false, false] rfl rfl (any_of HT_.out (by kernel_rfl)) (fun _ _ _ h => h) (Or.inl ⟨by rfl, ?_⟩) ?_ ?_
                  rotate_left
                  ·
                   intro w'
                   go_simp
                   with_reducible rfl
                  rotate_left
                  ·
                   simp only [Act.put, List.setIfInBounds_toArray, List.set_cons_zero, List.set_cons_succ, i64_w, i32_w]
                   rfl
                  refine pure_ (i := 7) (N := some 55) (v := ?_) (a' := ?_) #[true, false, true, false, false, false, true, true, false, false, false, false, false, false, false, false, false] rfl rfl (any_of HT_.out (by kernel_rfl)) (fun _ _ _ h => h) (Or.inl ⟨by rfl, ?_⟩) ?_ ?_
                  rotate_left
                  ·
                   intro w'
                   go_simp
                   with_reducible rfl
                  rotate_left
                  ·
                   simp only [Act.put, List.setIfInBounds_toArray, List.set_cons_zero, List.set_cons_succ, i64_w, i32_w]
                   rfl
                  refine pure_ (i := 8) (N := some 56) (v := ?_) (a' := ?_) #[true, false, true, false, false, false, true, true, true, false, false, false, false, false, false, false, false] rfl rfl (any_of HT_.out (by kernel_rfl)) (fun _ _ _ h => h) (Or.inl ⟨by rfl, ?_⟩) ?_ ?_
                  rotate_left
                  ·
                   intro w'
                   go_simp
                   with_reducible rfl
                  rotate_left
                  ·
                   simp only [Act.put, List.setIfInBounds_toArray, List.set_cons_zero, List.set_cons_succ, i64_w, i32_w]
                   rfl
                  refine pure_ (i := 9) (N := some 57) (v := ?_) (a' := ?_) #[true, false, true, false, false, false, true, true, true, true, false, false, false, false, false, false, false] rfl rfl (any_of HT_.out (by kernel_rfl)) (fun _ _ _ h => h) (Or.inl ⟨by rfl, ?_⟩) ?_ ?_
                  rotate_left
                  ·
                   intro w'
                   go_simp
                   with_reducible rfl
                  rotate_left
                  ·
                   simp only [Act.put, List.setIfInBounds_toArray, List.set_cons_zero, List.set_cons_succ, i64_w, i32_w]
                   rfl
                  refine pure_ (i := 10) (N := some 58) (v := ?_) (a' := ?_) #[true, false, true, false, false, false, true, true, true, true, true, false, false, false, false, false, false] rfl rfl (any_of HT_.out (by kernel_rfl)) (fun _ _ _ h => h) (Or.inl ⟨by rfl, ?_⟩) ?_ ?_
                  rotate_left
                  ·
                   intro w'
                   go_simp
                   with_reducible rfl
                  rotate_left
                  ·
                   simp only [Act.put, List.setIfInBounds_toArray, List.set_cons_zero, List.set_cons_succ, i64_w, i32_w]
                   rfl
                  refine pure_ (i := 11) (N := some 59) (v := ?_) (a' := ?_) #[true, false, true, false, false, false, true, true, true, true, true, true, false, false, false, false, false] rfl rfl (any_of HT_.out (by kernel_rfl)) (fun _ _ _ h => h) (Or.inl ⟨by rfl, ?_⟩) ?_ ?_
                  rotate_left
                  ·
                   intro w'
                   go_simp
                   with_reducible rfl
                  rotate_left
                  ·
                   simp only [Act.put, List.setIfInBounds_toArray, List.set_cons_zero, List.set_cons_succ, i64_w, i32_w]
                   rfl
                  refine take_ (i := 1) (N := some 49) (v := ?_) (a' := ?_) #[true, true, true, false, false, false, true, true, true, true, true, true, false, false, false, false, false] rfl rfl (take_ofW HT_.out HW_.out (by kernel_rfl)) (fun _ _ _ h => h) (Or.inl ⟨by rfl, ?_⟩) hHeld ?_ ?_
                  rotate_left
                  ·
                   rintro w' ⟨s0, s1, s2, s3, s4, s5, s6, s7, s8⟩
                   go_simp
                   with_reducible rfl
                  rotate_left
                  ·
                   simp only [Act.put, List.setIfInBounds_toArray, List.set_cons_zero, List.set_cons_succ, i64_w, i32_w]
                   rfl
                  refine pure_ (i := 3) (N := some 51) (v := ?_) (a' := ?_) #[true, true, true, true, false, false, true, true, true, true, true, true, false, false, false, false, false] rfl rfl (any_of HT_.out (by kernel_rfl)) (fun _ _ _ h => h) (Or.inl ⟨by rfl, ?_⟩) ?_ ?_
                  rotate_left
                  ·
                   intro w'
                   go_simp
                   with_reducible rfl
                  rotate_left
                  ·
                   simp only [Act.put, List.setIfInBounds_toArray, List.set_cons_zero, List.set_cons_succ, i64_w, i32_w]
                   rfl
                  refine pure_ (i := 4) (N := some 52) (v := ?_) (a' := ?_) #[true, true, true, true, true, false, true, true, true, true, true, true, false, false, false, false, false] rfl rfl (any_of HT_.out (by kernel_rfl)) (fun _ _ _ h => h) (Or.inl ⟨by rfl, ?_⟩) ?_ ?_
                  rotate_left
                  ·
                   intro w'
                   go_simp
                   with_reducible rfl
                  rotate_left
                  ·
                   simp only [Act.put, List.setIfInBounds_toArray, List.set_cons_zero, List.set_cons_succ, i64_w, i32_w]
                   rfl
                  refine take_ (i := 5) (N := some 53) (v := ?_) (a' := ?_) #[true, true, true, true, true, true, true, true, true, true, true, true, false, false, false, false, false] rfl rfl (take_ofW HT_.out HW_.out (by kernel_rfl)) (fun _ _ _ h => h) (Or.inl ⟨by rfl, ?_⟩) hHeld ?_ ?_
                  rotate_left
                  ·
                   rintro w' ⟨s0, s1, s2, s3, s4, s5, s6, s7, s8⟩
                   go_simp
                   with_reducible rfl
                  rotate_left
                  ·
                   simp only [Act.put, List.setIfInBounds_toArray, List.set_cons_zero, List.set_cons_succ, i64_w, i32_w]
                   rfl
                  refine take_ (i := 12) (N := some 60) (v := ?_) (a' := ?_) #[true, true, true, true, true, true, true, true, true, true, true, true, true, false, false, false, false] rfl rfl (take_ofW HT_.out HW_.out (by kernel_rfl)) (fun _ _ _ h => h) (Or.inl ⟨by rfl, ?_⟩) hHeld ?_ ?_
                  rotate_left
                  ·
                   rintro w' ⟨s0, s1, s2, s3, s4, s5, s6, s7, s8⟩
                   go_simp
                   with_reducible rfl
                  rotate_left
                  ·
                   simp only [Act.put, List.setIfInBounds_toArray, List.set_cons_zero, List.set_cons_succ, i64_w, i32_w]
                   rfl
                  refine one_ (i := 13) (N := some 61) #[true, true, true, true, true, true, true, true, true, true, true, true, true, true, false, false, false] rfl rfl (one_of HT_.out (by kernel_rfl)) (by decide) (fun K hK => ?_)
                  refine goes_ Try.func45 (by kernel_rfl) rfl #[.slice (some ad174) ((rd_T52 l0_1 x4_1).f3).length c173_3, .int .i64 ((rd_T57 ((rd_T52 l0_1 x4_1).f3) x6_2).f1)] (by rfl) rfl rfl (by (try simp only [List.map_toArray, List.map_cons, List.map_nil]); first | done | rfl | (simp only [List.length_drop, List.length_take]; rfl)) ?_
                  with_reducible refine (spec_l5last.calls k2 _ _ ((rd_T52 l0_1 x4_1).f3) ((rd_T57 ((rd_T52 l0_1 x4_1).f3) x6_2).f1) t180 _ ?side1 ?side2 A31.out).mono ?_
                  (case side1 => repeat (first | exact (Kd.C_below HR173_3.out HB.out) | (with_reducible refine Kd.C_alloc ?_ _) | (with_reducible refine Kd.C_drewN ?_ _) | (with_reducible refine Kd.C_drew ?_)))
                  (case side2 => exact HC173_3.out)
                  rintro e w' ⟨rfl, ⟨nd, rfl⟩⟩
                  refine ⟨_, rfl, ?_⟩
                  have p33 : 0 ≤ (x6_2 : Int) := odZ
                  have q33 : (x6_2 : Int) < ((((rd_T52 x173001_2 x4_1).f3).length : Int) : Int) := odZ
                  obtain ⟨go33, co33, eo33, gb33, gl33, cl33, HG33⟩ := Kd.R_form HL178_3.out (by omega)
                  (first | cases eo33 | (injection eo33 with ea_ en_ ec_; (first | subst ea_ | (injection ea_ with ea_; subst ea_)); subst ec_; clear en_))
                  have GB33 := amZ gb33
                  have GG33 := amZ HG33
                  clear gb33 gl33 HG33
                  obtain ⟨ce33, hcl33, hM33, hcc33, hfr33⟩ := Kd.R_elem HL178_3.out z57 (x6_2 : Int) p33 q33
                  obtain rfl := k57_openM hM33
                  have hx33_0 : World.cell? _ ⟨go33, (x6_2 : Int).toNat * 3, none⟩ = some (.int .i64 ((rd_T57 ((rd_T52 x173001_2 x4_1).f3) x6_2).f0)) := hcc33 0 _ rfl
                  have hx33_1 : World.cell? _ ⟨go33, (x6_2 : Int).toNat * 3 + 1, none⟩ = some (.int .i64 ((rd_T57 ((rd_T52 x173001_2 x4_1).f3) x6_2).f1)) := hcc33 1 _ rfl
                  have hx33_2 : World.cell? _ ⟨go33, (x6_2 : Int).toNat * 3 + 2, none⟩ = some (.int .i64 ((rd_T57 ((rd_T52 x173001_2 x4_1).f3) x6_2).f2)) := hcc33 2 _ rfl
                  have hf33_0 : World.frozen? _ ⟨go33, (x6_2 : Int).toNat * 3, none⟩ = false := hfr33 0
                  have hf33_1 : World.frozen? _ ⟨go33, (x6_2 : Int).toNat * 3 + 1, none⟩ = false := hfr33 1
                  have hf33_2 : World.frozen? _ ⟨go33, (x6_2 : Int).toNat * 3 + 2, none⟩ = false := hfr33 2
                  clear hcl33 hcc33 hfr33 hM33
                  replace p33 := eq_true p33
                  replace q33 := eq_true q33
                  have hq43 : (x4_1 : Int) < (x173001_2.length : Int) := (by have h_ : (x4_1 : Int) < ((x173001_2.length : Int) : Int) := odZ; first | exact h_ | (have e_ := (Kd.S_reads' HO_173001.out).1; omega) | simpa only [List.length_set, List.length_set] using h_)
                  obtain ⟨oki43, ce43, hcl43, hM43, hcc43, hok43, hbk43⟩ := Kd.S_borrow HO_173001.out z52 (x4_1 : Int) odZ hq43
                  obtain ⟨ve43_2, ve43_3, rfl, ge43_2, ge43_3⟩ := k52_openM hM43
                  have hv43 := hcc43 3 _ rfl
                  rw [add_field _ _ 3 (by omega)] at hv43
                  replace hv43 := Option.some.inj (hv43.symm.trans HX178_3.out)
                  subst hv43
                  clear hcc43 hcl43
                  replace ge43_3 := (show Kd.R k57 57 _ _ _ _ ((rd_T52 x173001_2 x4_1).f3) from ge43_3)
                  obtain ⟨cf43, hcl43, hN43, hcc43, hfr43⟩ := Kd.R_elem ge43_3 z57 (x6_2 : Int) odZ (by have h_ : (x6_2 : Int) < ((((rd_T52 x173001_2 x4_1).f3).length : Int) : Int) := odZ; first | exact h_ | (have e_ := (Kd.R_reads' HR178_3.out).1; omega) | simpa using h_)
                  obtain rfl := k57_openM hN43
                  have HP43 := Kd.R_seg ge43_3 (x6_2 : Int) odZ (by have h_ : (x6_2 : Int) < ((((rd_T52 x173001_2 x4_1).f3).length : Int) : Int) := odZ; first | exact h_ | (have e_ := (Kd.R_reads' HR178_3.out).1; omega) | simpa using h_) (seg := [.int .i64 t180]) (j := 1) hcl43 hcc43 (show 2 ≤ 3 from by decide) (x' := (⟨(rd_T57 ((rd_T52 x173001_2 x4_1).f3) x6_2).f0, t180, (rd_T57 ((rd_T52 x173001_2 x4_1).f3) x6_2).f2⟩ : S57)) (k57_mkM _ _ _ (⟨(rd_T57 ((rd_T52 x173001_2 x4_1).f3) x6_2).f0, t180, (rd_T57 ((rd_T52 x173001_2 x4_1).f3) x6_2).f2⟩ : S57)) (fun _ hk => hk)
                  clear hcl43 hcc43 hfr43 hN43
                  rw [← Ny181.out] at HP43
                  have HS43 := hbk43 HP43.2 (fun k_ e_ => by injection e_ with e_; subst e_; exact ge43_3.1 _ rfl) (x' := (⟨(rd_T52 x173001_2 x4_1).f0, (rd_T52 x173001_2 x4_1).f1, (rd_T52 x173001_2 x4_1).f2, y181⟩ : S52)) (k52_mkM _ _ _ (⟨(rd_T52 x173001_2 x4_1).f0, (rd_T52 x173001_2 x4_1).f1, (rd_T52 x173001_2 x4_1).f2, y181⟩ : S52) (Kd.R_over' (v := (.slice (some ⟨go33, 0, none⟩) ((rd_T52 x173001_2 x4_1).f3).length c178_3)) ge43_2 (Kd.R_typed ge43_3) (by decide) HP43.2) HP43.1)
                  rw [← Ny183.out] at HS43
                  have HQ43 := amZ HS43
                  clear HP43 HS43 hbk43 hok43
                  refine hK.out _ _ ⟨(zaY BK172.out 0).trans rfl, (zaY BK172.out 1).trans rfl, hHeld.2.2.1, hHeld.2.2.2.1, hHeld.2.2.2.2.1, hHeld.2.2.2.2.2.1, ((HB.out.cell (World.block_lt_of_cell? w _ hw179_0)).trans hw179_0), ((HB.out.cell (World.block_lt_of_cell? w _ hw179_1)).trans hw179_1), ((HB.out.cell (World.block_lt_of_cell? w _ hw179_2)).trans hw179_2)⟩ (fun hHeld => ?_)
                  clear hK K
                  refine norm_ (a' := ?_) ?_ ?_
                  rotate_left
                  ·
                   show Act.put _ (some 61) _ = _
                   simp only [Act.put, List.setIfInBounds_toArray, List.set_cons_zero, List.set_cons_succ, i64_w, i32_w]
                   rfl
                  refine pure_ (i := 14) (N := some 62) (v := ?_) (a' := ?_) #[true, true, true, true, true, true, true, true, true, true, true, true, true, true, true, false, false] rfl rfl (any_of HT_.out (by kernel_rfl)) (fun _ _ _ h => h) (Or.inl ⟨by rfl, ?_⟩) ?_ ?_
                  rotate_left
                  ·
                   intro w'
                   go_simp
                   with_reducible rfl
                  rotate_left
                  ·
                   simp only [Act.put, List.setIfInBounds_toArray, List.set_cons_zero, List.set_cons_succ, i64_w, i32_w]
                   rfl
                  refine pure_ (i := 15) (N := some 63) (v := ?_) (a' := ?_) #[true, true, true, true, true, true, true, true, true, true, true, true, true, true, true, true, false] rfl rfl (any_of HT_.out (by kernel_rfl)) (fun _ _ _ h => h) (Or.inl ⟨by rfl, ?_⟩) ?_ ?_
                  rotate_left
                  ·
                   intro w'
                   go_simp
                   with_reducible rfl
                  rotate_left
                  ·
                   simp only [Act.put, List.setIfInBounds_toArray, List.set_cons_zero, List.set_cons_succ, i64_w, i32_w]
                   rfl
                  refine last_ (i := 16) (N := none) #[true, true, true, true, true, true, true, true, true, true, true, true, true, true, true, true, true] rfl rfl (one_of HT_.out (by kernel_rfl)) (by decide) (fun K hK => ?_)
                  refine skip_ (w1 := ?_) (by rfl) rfl ?_ ?_
                  rotate_left
                  ·
                   go_simp
                   rfl
                  refine hK.out _ _ ?_
                  clear hK K
                  refine done_ (done_of HT_.out (by kernel_rfl)) ?_
                  have p35 : 0 ≤ (1 : Int) := (by omega)
                  have q35 : 1 < t175.size := (by have : (1 : Int) < (t175.size : Int) := odZ; omega)
                  have hx35 : ∀ h : 1 < t175.size, ((t175[1]'h).toNat : Int) = bt t175 1 := bt_at t175 1
                  clear p35
                  have qi35 : (1 < (t175.size : Int)) = True := eq_true odZ
                  replace q35 := eq_true q35
                  try go_wp2
                  have n0_ : Aside0 (Kd.S k48 48 (w41.setCell ⟨go33, (x6_2 : Int).toNat * 3 + 1, none⟩ (.int .i64 t180)) w.heap.size (fun _ => True) (.slice Ao13 t166.length co13) t166) := ⟨by (with_reducible repeat (first | apply Kd.S_alloc | apply Kd.S_drewN | apply Kd.S_drew)); exact Kd.S_mono (Kd.S_far (p := ⟨go33, (x6_2 : Int).toNat * 3 + 1, none⟩) (Kd.S_types HO_173000.out GG33.out (by decide)) (fun _ hk => hk.2) (.int .i64 t180)) (fun _ hk => trivial)⟩
                  have n1_ : Aside0 (Kd.S k52 52 (w41.setCell ⟨go33, (x6_2 : Int).toNat * 3 + 1, none⟩ (.int .i64 t180)) w.heap.size (fun _ => True) (.slice (some ad178) x173001_2.length co42) y183) := ⟨by (with_reducible repeat (first | apply Kd.S_alloc | apply Kd.S_drewN | apply Kd.S_drew)); exact HQ43.out⟩
                  have n2_ : Aside0 ((w41.setCell ⟨go33, (x6_2 : Int).toNat * 3 + 1, none⟩ (.int .i64 t180)).heap[gb163]? = some (.cells #[.slice A0_0 l0_0.length c0_0, .slice (some ad173) l0_1.length c0_1] 31 (0, 0))) := ⟨by (with_reducible repeat (first | refine zdY ?_ _ | refine zeY ?_ | refine zcY ?_ _)); refine zjY ?_ (by have h_ := Kd.R_ne HL178_3.out BK163.out (by decide); intro e_; exact h_ (by rw [e_]; rfl)) _; (with_reducible repeat (first | refine zdY ?_ _ | refine zeY ?_ | refine zcY ?_ _)); exact BK163.out⟩
                  have n3_ : Aside0 ((w41.setCell ⟨go33, (x6_2 : Int).toNat * 3 + 1, none⟩ (.int .i64 t180)).heap[gb164]? = some (.cells #[.slice none 0 0, .slice none 0 0] 31 (0, 0))) := ⟨by (with_reducible repeat (first | refine zdY ?_ _ | refine zeY ?_ | refine zcY ?_ _)); refine zjY ?_ (by have h_ := Kd.R_ne HL178_3.out BK164.out (by decide); intro e_; exact h_ (by rw [e_]; rfl)) _; (with_reducible repeat (first | refine zdY ?_ _ | refine zeY ?_ | refine zcY ?_ _)); exact BK164.out⟩
                  have n4_ : Aside0 ((w41.setCell ⟨go33, (x6_2 : Int).toNat * 3 + 1, none⟩ (.int .i64 t180)).heap[gb172]? = some (.cells #[.slice Ao13 t166.length co13, .slice (some ad178) x173001_2.length co42] 31 (0, 0))) := ⟨by (with_reducible repeat (first | refine zdY ?_ _ | refine zeY ?_ | refine zcY ?_ _)); refine zjY ?_ (by have h_ := Kd.R_ne HL178_3.out BK172.out (by decide); intro e_; exact h_ (by rw [e_]; rfl)) _; (with_reducible repeat (first | refine zdY ?_ _ | refine zeY ?_ | refine zcY ?_ _)); exact BK172.out⟩
                  have n5_ : Aside0 (Below w.heap.size w (w41.setCell ⟨go33, (x6_2 : Int).toNat * 3 + 1, none⟩ (.int .i64 t180))) := ⟨by repeat (first | (with_reducible first | exact HB.out | apply znY | apply pw_below_drewN | apply below_drew1 | refine below_set ?_ GB33.out | refine below_set ?_ GE163.out | refine below_set ?_ GE164.out | refine below_set ?_ GE172.out) | exact HB.out)⟩
                  (try clear HO_173000)
                  (try clear HO_173001)
                  (try clear BK163)
                  (try clear BK164)
                  (try clear BK172)
                  (try clear HB)
                  (try rw [setCell_drewNZ w41])
                  generalize (w41.setCell ⟨go33, (x6_2 : Int).toNat * 3 + 1, none⟩ (.int .i64 t180)) = w45 at n0_ n1_ n2_ n3_ n4_ n5_ ⊢
                  have HO_173000 := n0_
                  have HO_173001 := n1_
                  have BK163 := n2_
                  have BK164 := n3_
                  have BK172 := n4_
                  have HB := n5_
                  clear n0_ n1_ n2_ n3_ n4_ n5_
                  (try (rw [drewN_self w45]; generalize hq_ : World.drewN w45 _ = w45; have n0_ : Aside0 (Kd.S k48 48 w45 w.heap.size (fun _ => True) (.slice Ao13 t166.length co13) t166) := ⟨by rw [← hq_]; exact (by (with_reducible repeat (first | apply Kd.S_alloc | apply Kd.S_drewN | apply Kd.S_drew)); exact HO_173000.out)⟩; have n1_ : Aside0 (Kd.S k52 52 w45 w.heap.size (fun _ => True) (.slice (some ad178) x173001_2.length co42) y183) := ⟨by rw [← hq_]; exact (by (with_reducible repeat (first | apply Kd.S_alloc | apply Kd.S_drewN | apply Kd.S_drew)); exact HO_173001.out)⟩; have n2_ : Aside0 (w45.heap[gb163]? = some (.cells #[.slice A0_0 l0_0.length c0_0, .slice (some ad173) l0_1.length c0_1] 31 (0, 0))) := ⟨by rw [← hq_]; exact bkZ⟩; have n3_ : Aside0 (w45.heap[gb164]? = some (.cells #[.slice none 0 0, .slice none 0 0] 31 (0, 0))) := ⟨by rw [← hq_]; exact bkZ⟩; have n4_ : Aside0 (w45.heap[gb172]? = some (.cells #[.slice Ao13 t166.length co13, .slice (some ad178) x173001_2.length co42] 31 (0, 0))) := ⟨by rw [← hq_]; exact bkZ⟩; have n5_ : Aside0 (Below w.heap.size w w45) := ⟨by rw [← hq_]; exact bwZ⟩; clear HO_173000 HO_173001 BK163 BK164 BK172 HB hq_; have HO_173000 := n0_; have HO_173001 := n1_; have BK163 := n2_; have BK164 := n3_; have BK172 := n4_; have HB := n5_; clear n0_ n1_ n2_ n3_ n4_ n5_))
                  have n0_ := amZ (Kd.S_drew HO_173000.out)
                  have n1_ := amZ (Kd.S_drew HO_173001.out)
                  have n2_ := amZ (zeY BK163.out)
                  have n3_ := amZ (zeY BK164.out)
                  have n4_ := amZ (zeY BK172.out)
                  have n5_ := amZ (below_drew1 HB.out)
                  clear HO_173000
                  clear HO_173001
                  clear BK163
                  clear BK164
                  clear BK172
                  clear HB
                  have HO_173000 := n0_
                  have HO_173001 := n1_
                  have BK163 := n2_
                  have BK164 := n3_
                  have BK172 := n4_
                  have HB := n5_
                  clear n0_ n1_ n2_ n3_ n4_ n5_
                  have p184 : 0 ≤ (x4_1 : Int) := odZ
                  have q184 : x4_1 < (y183.length : Int) := (by have h_ : (x4_1 : Int) < ((x173001_2.length : Int) : Int) := odZ; first | (have e_ := (Kd.S_reads' HO_173001.out).1; omega) | simpa only [Ny183.out, List.length_set] using h_)
                  have ql184 : ((x4_1 : Int) < ((x173001_2.length : Int) : Int)) = True := eq_true odZ
                  obtain ⟨ad184, A184_2, c184_2, A184_3, c184_3, e184, hx184_0, hx184_1, hx184_2, hx184_3, hl184_2, hi184_2, hl184_3, hi184_3⟩ := at_T52 (Kd.S_reads' HO_173001.out).2.2 x4_1 p184 q184
                  obtain rfl : ad178 = ad184 := (by injection e184)
                  obtain ⟨ce184, hce184, hMe184, hcc184⟩ := Kd.S_get HO_173001.out z52 x4_1 p184 (by first | exact q184 | exact odZ | (have e_ := (Kd.S_reads' HO_173001.out).1; omega))
                  obtain ⟨ve184_2, ve184_3, rfl, ge184_2, ge184_3⟩ := k52_openM hMe184
                  have hv184_2 := hcc184 2 _ rfl
                  rw [add_field _ _ 2 (by omega)] at hv184_2
                  replace hv184_2 := Option.some.inj (hv184_2.symm.trans hx184_2)
                  rw [hv184_2] at ge184_2
                  have HL184_2 := amZ (show Kd.R k54 54 _ _ _ _ ((rd_T52 y183 x4_1).f2) from ge184_2)
                  clear hv184_2 ge184_2
                  have HX184_2 := amZ hx184_2
                  have hv184_3 := hcc184 3 _ rfl
                  rw [add_field _ _ 3 (by omega)] at hv184_3
                  replace hv184_3 := Option.some.inj (hv184_3.symm.trans hx184_3)
                  rw [hv184_3] at ge184_3
                  have HL184_3 := amZ (show Kd.R k57 57 _ _ _ _ ((rd_T52 y183 x4_1).f3) from ge184_3)
                  clear hv184_3 ge184_3
                  have HX184_3 := amZ hx184_3
                  clear hcc184 hce184
                  have HR184_2 := amZ hi184_2
                  have HC184_2 := amZ hl184_2
                  clear hi184_2 hl184_2
                  have HR184_3 := amZ hi184_3
                  have HC184_3 := amZ hl184_3
                  clear hi184_3 hl184_3
                  replace p184 := eq_true p184
                  replace q184 := eq_true q184
                  have p185 : 0 ≤ (x6_2 : Int) := odZ
                  have q185 : x6_2 < (((rd_T52 l0_1 x4_1).f3).length : Int) := odZ
                  obtain ⟨ad185, e185, hx185_0, hx185_1, hx185_2⟩ := at_T57 HR173_3.out x6_2 p185 q185
                  have hw185_2 := hx185_2
                  have hw185_1 := hx185_1
                  have hw185_0 := hx185_0
                  obtain rfl : ad174 = ad185 := (by injection e185)
                  replace hx185_0 := (HB.out.cell (World.block_lt_of_cell? w _ hx185_0)).trans hx185_0
                  replace hx185_1 := (HB.out.cell (World.block_lt_of_cell? w _ hx185_1)).trans hx185_1
                  replace hx185_2 := (HB.out.cell (World.block_lt_of_cell? w _ hx185_2)).trans hx185_2
                  replace p185 := eq_true p185
                  replace q185 := eq_true q185
                  refine start_ (n := 17) (S := fun w' => w'.cell? ⟨gb172, 0, none⟩ = some (.slice Ao13 t166.length co13) ∧ w'.cell? ⟨gb172, 1, none⟩ = some (.slice (some ad178) x173001_2.length co42) ∧ w'.cell? (ad178.add ((x4_1).toNat * 4)) = some (.int .i64 ((rd_T52 y183 x4_1).f0)) ∧ w'.cell? ⟨(ad178.add ((x4_1).toNat * 4)).block, (ad178.add ((x4_1).toNat * 4)).off + 1, none⟩ = some (.int .i64 ((rd_T52 y183 x4_1).f1)) ∧ w'.cell? ⟨(ad178.add ((x4_1).toNat * 4)).block, (ad178.add ((x4_1).toNat * 4)).off + 2, none⟩ = some (.slice A184_2 ((rd_T52 y183 x4_1).f2).length c184_2) ∧ w'.cell? ⟨(ad178.add ((x4_1).toNat * 4)).block, (ad178.add ((x4_1).toNat * 4)).off + 3, none⟩ = some (.slice A184_3 ((rd_T52 y183 x4_1).f3).length c184_3) ∧ w'.cell? (ad174.add ((x6_2).toNat * 3)) = some (.int .i64 ((rd_T57 ((rd_T52 l0_1 x4_1).f3) x6_2).f0)) ∧ w'.cell? ⟨(ad174.add ((x6_2).toNat * 3)).block, (ad174.add ((x6_2).toNat * 3)).off + 1, none⟩ = some (.int .i64 ((rd_T57 ((rd_T52 l0_1 x4_1).f3) x6_2).f1)) ∧ w'.cell? ⟨(ad174.add ((x6_2).toNat * 3)).block, (ad174.add ((x6_2).toNat * 3)).off + 2, none⟩ = some (.int .i64 ((rd_T57 ((rd_T52 l0_1 x4_1).f3) x6_2).f2))) (ds := [16]) #[false, false, false, false, false, false, false, false, false, false, false, false, false, false, false, false, false] (by kernel_rfl) rfl rfl ⟨(zaY BK172.out 0).trans rfl, (zaY BK172.out 1).trans rfl, hx184_0, hx184_1, hx184_2, hx184_3, ((HB.out.cell (World.block_lt_of_cell? w _ hw185_0)).trans hw185_0), ((HB.out.cell (World.block_lt_of_cell? w _ hw185_1)).trans hw185_1), ((HB.out.cell (World.block_lt_of_cell? w _ hw185_2)).trans hw185_2)⟩ (fun hHeld => ?_); refine with_tabW spec_Thread.tab15 spec_Thread.bits15 (fun HT_ HW_ => ?_)
                  generalize w45.drew = w46 at HO_173000 HO_173001 BK163 BK164 BK172 HB HL184_2 HL184_3 HQ43 HR184_2 HR184_3 HX184_2 HX184_3 hx184_0 hx184_1 hx184_2 hx184_3 hx185_0 hx185_1 hx185_2 hHeld ⊢
                  refine pure_ (i := 0) (N := some 67) (v := ?_) (a' := ?_) #[true, false, false, false, false, false, false, false, false, false, false, false, false, false, false, false, false] rfl rfl (any_of HT_.out (by kernel_rfl)) (fun _ _ _ h => h) (Or.inl ⟨by rfl, ?_⟩) ?_ ?_
                  rotate_left
                  ·
                   intro w'
                   go_simp
                   with_reducible rfl
                  rotate_left
                  ·
                   simp only [Act.put, List.setIfInBounds_toArray, List.set_cons_zero, List.set_cons_succ, i64_w, i32_w]
                   rfl
                  refine pure_ (i := 2) (N := some 69) (v := ?_) (a' := ?_) #[true, false, true, false, false, false, false, false, false, false, false, false, false, false, false, false, false] rfl rfl (any_of HT_.out (by kernel_rfl)) (fun _ _ _ h => h) (Or.inl ⟨by rfl, ?_⟩) ?_ ?_
                  rotate_left
                  ·
                   intro w'
                   go_simp
                   with_reducible rfl
                  rotate_left
                  ·
                   simp only [Act.put, List.setIfInBounds_toArray, List.set_cons_zero, List.set_cons_succ, i64_w, i32_w]
                   rfl
                  refine pure_ (i := 6) (N := some 73) (v := ?_) (a' := ?_) #[true, false, true, false, false, false, true, false, false, false, false, false, false, false, false, false, false] rfl rfl (any_of HT_.out (by kernel_rfl)) (fun _ _ _ h => h) (Or.inl ⟨by rfl, ?_⟩) ?_ ?_
                  rotate_left
                  ·
                   intro w'
                   go_simp
                   with_reducible rfl
                  rotate_left
                  ·
                   simp only [Act.put, List.setIfInBounds_toArray, List.set_cons_zero, List.set_cons_succ, i64_w, i32_w]
                   rfl
                  refine pure_ (i := 7) (N := some 74) (v := ?_) (a' := ?_) #[true, false, true, false, false, false, true, true, false, false, false, false, false, false, false, false, false] rfl rfl (any_of HT_.out (by kernel_rfl)) (fun _ _ _ h => h) (Or.inl ⟨by rfl, ?_⟩) ?_ ?_
                  rotate_left
                  ·
                   intro w'
                   go_simp
                   with_reducible rfl
                  rotate_left
                  ·
                   simp only [Act.put, List.setIfInBounds_toArray, List.set_cons_zero, List.set_cons_succ, i64_w, i32_w]
                   rfl
                  refine pure_ (i := 8) (N := some 75) (v := ?_) (a' := ?_) #[true, false, true, false, false, false, true, true, true, false, false, false, false, false, false, false, false] rfl rfl (any_of HT_.out (by kernel_rfl)) (fun _ _ _ h => h) (Or.inl ⟨by rfl, ?_⟩) ?_ ?_
                  rotate_left
                  ·
                   intro w'
                   go_simp
                   with_reducible rfl
                  rotate_left
                  ·
                   simp only [Act.put, List.setIfInBounds_toArray, List.set_cons_zero, List.set_cons_succ, i64_w, i32_w]
                   rfl
                  refine pure_ (i := 9) (N := some 76) (v := ?_) (a' := ?_) #[true, false, true, false, false, false, true, true, true, true, false, false, false, false, false, false, false] rfl rfl (any_of HT_.out (by kernel_rfl)) (fun _ _ _ h => h) (Or.inl ⟨by rfl, ?_⟩) ?_ ?_
                  rotate_left
                  ·
                   intro w'
                   go_simp
                   with_reducible rfl
                  rotate_left
                  ·
                   simp only [Act.put, List.setIfInBounds_toArray, List.set_cons_zero, List.set_cons_succ, i64_w, i32_w]
                   rfl
                  refine pure_ (i := 10) (N := some 77) (v := ?_) (a' := ?_) #[true, false, true, false, false, false, true, true, true, true, true, false, false, false, false, false, false] rfl rfl (any_of HT_.out (by kernel_rfl)) (fun _ _ _ h => h) (Or.inl ⟨by rfl, ?_⟩) ?_ ?_
                  rotate_left
                  ·
                   intro w'
                   go_simp
                   with_reducible rfl
                  rotate_left
                  ·
                   simp only [Act.put, List.setIfInBounds_toArray, List.set_cons_zero, List.set_cons_succ, i64_w, i32_w]
                   rfl
                  refine pure_ (i := 11) (N := some 78) (v := ?_) (a' := ?_) #[true, false, true, false, false, false, true, true, true, true, true, true, false, false, false, false, false] rfl rfl (any_of HT_.out (by kernel_rfl)) (fun _ _ _ h => h) (Or.inl ⟨by rfl, ?_⟩) ?_ ?_
                  rotate_left
                  ·
                   intro w'
                   go_simp
                   with_reducible rfl
                  rotate_left
                  ·
                   simp only [Act.put, List.setIfInBounds_toArray, List.set_cons_zero, List.set_cons_succ, i64_w, i32_w]
                   rfl
                  refine take_ (i := 1) (N := some 68) (v := ?_) (a' := ?_) #[true, true, true, false, false, false, true, true, true, true, true, true, false, false, false, false, false] rfl rfl (take_ofW HT_.out HW_.out (by kernel_rfl)) (fun _ _ _ h => h) (Or.inl ⟨by rfl, ?_⟩) hHeld ?_ ?_
                  rotate_left
                  ·
                   rintro w' ⟨s0, s1, s2, s3, s4, s5, s6, s7, s8⟩
                   go_simp
                   with_reducible rfl
                  rotate_left
                  ·
                   simp only [Act.put, List.setIfInBounds_toArray, List.set_cons_zero, List.set_cons_succ, i64_w, i32_w]
                   rfl
                  refine pure_ (i := 3) (N := some 70) (v := ?_) (a' := ?_) #[true, true, true, true, false, false, true, true, true, true, true, true, false, false, false, false, false] rfl rfl (any_of HT_.out (by kernel_rfl)) (fun _ _ _ h => h) (Or.inl ⟨by rfl, ?_⟩) ?_ ?_
                  rotate_left
                  ·
                   intro w'
                   go_simp
                   with_reducible rfl
                  rotate_left
                  ·
                   simp only [Act.put, List.setIfInBounds_toArray, List.set_cons_zero, List.set_cons_succ, i64_w, i32_w]
                   rfl
                  refine pure_ (i := 4) (N := some 71) (v := ?_) (a' := ?_) #[true, true, true, true, true, false, true, true, true, true, true, true, false, false, false, false, false] rfl rfl (any_of HT_.out (by kernel_rfl)) (fun _ _ _ h => h) (Or.inl ⟨by rfl, ?_⟩) ?_ ?_
                  rotate_left
                  ·
                   intro w'
                   go_simp
                   with_reducible rfl
                  rotate_left
                  ·
                   simp only [Act.put, List.setIfInBounds_toArray, List.set_cons_zero, List.set_cons_succ, i64_w, i32_w]
                   rfl
                  refine take_ (i := 5) (N := some 72) (v := ?_) (a' := ?_) #[true, true, true, true, true, true, true, true, true, true, true, true, false, false, false, false, false] rfl rfl (take_ofW HT_.out HW_.out (by kernel_rfl)) (fun _ _ _ h => h) (Or.inl ⟨by rfl, ?_⟩) hHeld ?_ ?_
                  rotate_left
                  ·
                   rintro w' ⟨s0, s1, s2, s3, s4, s5, s6, s7, s8⟩
                   go_simp
                   with_reducible rfl
                  rotate_left
                  ·
                   simp only [Act.put, List.setIfInBounds_toArray, List.set_cons_zero, List.set_cons_succ, i64_w, i32_w]
                   rfl
                  refine take_ (i := 12) (N := some 79) (v := ?_) (a' := ?_) #[true, true, true, true, true, true, true, true, true, true, true, true, true, false, false, false, false] rfl rfl (take_ofW HT_.out HW_.out (by kernel_rfl)) (fun _ _ _ h => h) (Or.inl ⟨by rfl, ?_⟩) hHeld ?_ ?_
                  rotate_left
                  ·
                   rintro w' ⟨s0, s1, s2, s3, s4, s5, s6, s7, s8⟩
                   go_simp
                   with_reducible rfl
                  rotate_left
                  ·
                   simp only [Act.put, List.setIfInBounds_toArray, List.set_cons_zero, List.set_cons_succ, i64_w, i32_w]
                   rfl
                  refine one_ (i := 13) (N := some 80) #[true, true, true, true, true, true, true, true, true, true, true, true, true, true, false, false, false] rfl rfl (one_of HT_.out (by kernel_rfl)) (by decide) (fun K hK => ?_)
                  refine goes_ Try.func45 (by kernel_rfl) rfl #[.slice (some ad174) ((rd_T52 l0_1 x4_1).f3).length c173_3, .int .i64 ((rd_T57 ((rd_T52 l0_1 x4_1).f3) x6_2).f2)] (by rfl) rfl rfl (by (try simp only [List.map_toArray, List.map_cons, List.map_nil]); first | done | rfl | (simp only [List.length_drop, List.length_take]; rfl)) ?_
                  with_reducible refine (spec_l5last.calls k2 _ _ ((rd_T52 l0_1 x4_1).f3) ((rd_T57 ((rd_T52 l0_1 x4_1).f3) x6_2).f2) t186 _ ?side1 ?side2 A37.out).mono ?_
                  (case side1 => repeat (first | exact (Kd.C_below HR173_3.out HB.out) | (with_reducible refine Kd.C_alloc ?_ _) | (with_reducible refine Kd.C_drewN ?_ _) | (with_reducible refine Kd.C_drew ?_)))
                  (case side2 => exact HC173_3.out)
                  rintro e w' ⟨rfl, ⟨nd, rfl⟩⟩
                  refine ⟨_, rfl, ?_⟩
                  have p39 : 0 ≤ (x6_2 : Int) := odZ
                  have q39 : (x6_2 : Int) < ((((rd_T52 y183 x4_1).f3).length : Int) : Int) := odZ
                  obtain ⟨go39, co39, eo39, gb39, gl39, cl39, HG39⟩ := Kd.R_form HL184_3.out (by omega)
                  (first | cases eo39 | (injection eo39 with ea_ en_ ec_; (first | subst ea_ | (injection ea_ with ea_; subst ea_)); subst ec_; clear en_))
                  have GB39 := amZ gb39
                  have GG39 := amZ HG39
                  clear gb39 gl39 HG39
                  obtain ⟨ce39, hcl39, hM39, hcc39, hfr39⟩ := Kd.R_elem HL184_3.out z57 (x6_2 : Int) p39 q39
                  obtain rfl := k57_openM hM39
                  have hx39_0 : World.cell? _ ⟨go39, (x6_2 : Int).toNat * 3, none⟩ = some (.int .i64 ((rd_T57 ((rd_T52 y183 x4_1).f3) x6_2).f0)) := hcc39 0 _ rfl
                  have hx39_1 : World.cell? _ ⟨go39, (x6_2 : Int).toNat * 3 + 1, none⟩ = some (.int .i64 ((rd_T57 ((rd_T52 y183 x4_1).f3) x6_2).f1)) := hcc39 1 _ rfl
                  have hx39_2 : World.cell? _ ⟨go39, (x6_2 : Int).toNat * 3 + 2, none⟩ = some (.int .i64 ((rd_T57 ((rd_T52 y183 x4_1).f3) x6_2).f2)) := hcc39 2 _ rfl
                  have hf39_0 : World.frozen? _ ⟨go39, (x6_2 : Int).toNat * 3, none⟩ = false := hfr39 0
                  have hf39_1 : World.frozen? _ ⟨go39, (x6_2 : Int).toNat * 3 + 1, none⟩ = false := hfr39 1
                  have hf39_2 : World.frozen? _ ⟨go39, (x6_2 : Int).toNat * 3 + 2, none⟩ = false := hfr39 2
                  clear hcl39 hcc39 hfr39 hM39
                  replace p39 := eq_true p39
                  replace q39 := eq_true q39
                  have hq47 : (x4_1 : Int) < (y183.length : Int) := (by have h_ : (x4_1 : Int) < ((x173001_2.length : Int) : Int) := odZ; first | exact h_ | (have e_ := (Kd.S_reads' HO_173001.out).1; omega) | simpa only [Ny183.out, List.length_set] using h_)
                  obtain ⟨oki47, ce47, hcl47, hM47, hcc47, hok47, hbk47⟩ := Kd.S_borrow HO_173001.out z52 (x4_1 : Int) odZ (by first | exact hq47 | simpa only [Ny183.out, List.length_set] using hq47)
                  obtain ⟨ve47_2, ve47_3, rfl, ge47_2, ge47_3⟩ := k52_openM hM47
                  have hv47 := hcc47 3 _ rfl
                  rw [add_field _ _ 3 (by omega)] at hv47
                  replace hv47 := Option.some.inj (hv47.symm.trans HX184_3.out)
                  subst hv47
                  clear hcc47 hcl47
                  replace ge47_3 := (show Kd.R k57 57 _ _ _ _ ((rd_T52 y183 x4_1).f3) from ge47_3)
                  obtain ⟨cf47, hcl47, hN47, hcc47, hfr47⟩ := Kd.R_elem ge47_3 z57 (x6_2 : Int) odZ (by have h_ : (x6_2 : Int) < ((((rd_T52 y183 x4_1).f3).length : Int) : Int) := odZ; first | exact h_ | (have e_ := (Kd.R_reads' HR184_3.out).1; omega) | simpa using h_)
                  obtain rfl := k57_openM hN47
                  have HP47 := Kd.R_seg ge47_3 (x6_2 : Int) odZ (by have h_ : (x6_2 : Int) < ((((rd_T52 y183 x4_1).f3).length : Int) : Int) := odZ; first | exact h_ | (have e_ := (Kd.R_reads' HR184_3.out).1; omega) | simpa using h_) (seg := [.int .i64 t186]) (j := 2) hcl47 hcc47 (show 3 ≤ 3 from by decide) (x' := (⟨(rd_T57 ((rd_T52 y183 x4_1).f3) x6_2).f0, (rd_T57 ((rd_T52 y183 x4_1).f3) x6_2).f1, t186⟩ : S57)) (k57_mkM _ _ _ (⟨(rd_T57 ((rd_T52 y183 x4_1).f3) x6_2).f0, (rd_T57 ((rd_T52 y183 x4_1).f3) x6_2).f1, t186⟩ : S57)) (fun _ hk => hk)
                  clear hcl47 hcc47 hfr47 hN47
                  rw [← Ny187.out] at HP47
                  have HS47 := hbk47 HP47.2 (fun k_ e_ => by injection e_ with e_; subst e_; exact ge47_3.1 _ rfl) (x' := (⟨(rd_T52 y183 x4_1).f0, (rd_T52 y183 x4_1).f1, (rd_T52 y183 x4_1).f2, y187⟩ : S52)) (k52_mkM _ _ _ (⟨(rd_T52 y183 x4_1).f0, (rd_T52 y183 x4_1).f1, (rd_T52 y183 x4_1).f2, y187⟩ : S52) (Kd.R_over' (v := (.slice (some ⟨go39, 0, none⟩) ((rd_T52 y183 x4_1).f3).length c184_3)) ge47_2 (Kd.R_typed ge47_3) (by decide) HP47.2) HP47.1)
                  rw [← Ny189.out] at HS47
                  have HQ47 := amZ HS47
                  clear HP47 HS47 hbk47 hok47
                  refine hK.out _ _ ⟨(zaY BK172.out 0).trans rfl, (zaY BK172.out 1).trans rfl, hHeld.2.2.1, hHeld.2.2.2.1, hHeld.2.2.2.2.1, hHeld.2.2.2.2.2.1, ((HB.out.cell (World.block_lt_of_cell? w _ hw185_0)).trans hw185_0), ((HB.out.cell (World.block_lt_of_cell? w _ hw185_1)).trans hw185_1), ((HB.out.cell (World.block_lt_of_cell? w _ hw185_2)).trans hw185_2)⟩ (fun hHeld => ?_)
                  clear hK K
                  refine norm_ (a' := ?_) ?_ ?_
                  rotate_left
                  ·
                   show Act.put _ (some 80) _ = _
                   simp only [Act.put, List.setIfInBounds_toArray, List.set_cons_zero, List.set_cons_succ, i64_w, i32_w]
                   rfl
                  refine pure_ (i := 14) (N := some 81) (v := ?_) (a' := ?_) #[true, true, true, true, true, true, true, true, true, true, true, true, true, true, true, false, false] rfl rfl (any_of HT_.out (by kernel_rfl)) (fun _ _ _ h => h) (Or.inl ⟨by rfl, ?_⟩) ?_ ?_
                  rotate_left
                  ·
                   intro w'
                   go_simp
                   with_reducible rfl
                  rotate_left
                  ·
                   simp only [Act.put, List.setIfInBounds_toArray, List.set_cons_zero, List.set_cons_succ, i64_w, i32_w]
                   rfl
                  refine pure_ (i := 15) (N := some 82) (v := ?_) (a' := ?_) #[true, true, true, true, true, true, true, true, true, true, true, true, true, true, true, true, false] rfl rfl (any_of HT_.out (by kernel_rfl)) (fun _ _ _ h => h) (Or.inl ⟨by rfl, ?_⟩) ?_ ?_
                  rotate_left
                  ·
                   intro w'
                   go_simp
                   with_reducible rfl
                  rotate_left
                  ·
                   simp only [Act.put, List.setIfInBounds_toArray, List.set_cons_zero, List.set_cons_succ, i64_w, i32_w]
                   rfl
                  refine last_ (i := 16) (N := none) #[true, true, true, true, true, true, true, true, true, true, true, true, true, true, true, true, true] rfl rfl (one_of HT_.out (by kernel_rfl)) (by decide) (fun K hK => ?_)
                  refine skip_ (w1 := ?_) (by rfl) rfl ?_ ?_
                  rotate_left
                  ·
                   go_simp
                   rfl
                  refine hK.out _ _ ?_
                  clear hK K
                  refine done_ (done_of HT_.out (by kernel_rfl)) ?_
                  try go_wp2
                  go_roundg k2
                  case measure => have := HK1.out; have := HK2.out; omega
                  case rel => exact ⟨(wrap64 (x6_2 + 1)), (y189), (.slice (some ad178) x173001_2.length co42), (by first | rfl | (simp; done) | (simp [*]; done)), H', ⟨by have := HK1.out; have := HK2.out; omega⟩, ⟨by (with_reducible repeat (first | apply Kd.S_alloc | apply Kd.S_drewN | apply Kd.S_drew)); exact Kd.S_mono (Kd.S_far (p := ⟨go39, (x6_2 : Int).toNat * 3 + 2, none⟩) (Kd.S_types HO_173000.out GG39.out (by decide)) (fun _ hk => hk.2) (.int .i64 t186)) (fun _ hk => trivial)⟩, ⟨by (with_reducible repeat (first | apply Kd.S_alloc | apply Kd.S_drewN | apply Kd.S_drew)); exact HQ47.out⟩, ⟨by (with_reducible repeat (first | refine zdY ?_ _ | refine zeY ?_ | refine zcY ?_ _)); refine zjY ?_ (by have h_ := Kd.R_ne HL184_3.out BK163.out (by decide); intro e_; exact h_ (by rw [e_]; rfl)) _; (with_reducible repeat (first | refine zdY ?_ _ | refine zeY ?_ | refine zcY ?_ _)); exact BK163.out⟩, ⟨by (with_reducible repeat (first | refine zdY ?_ _ | refine zeY ?_ | refine zcY ?_ _)); refine zjY ?_ (by have h_ := Kd.R_ne HL184_3.out BK164.out (by decide); intro e_; exact h_ (by rw [e_]; rfl)) _; (with_reducible repeat (first | refine zdY ?_ _ | refine zeY ?_ | refine zcY ?_ _)); exact BK164.out⟩, ⟨by (with_reducible repeat (first | refine zdY ?_ _ | refine zeY ?_ | refine zcY ?_ _)); refine zjY ?_ (by have h_ := Kd.R_ne HL184_3.out BK172.out (by decide); intro e_; exact h_ (by rw [e_]; rfl)) _; (with_reducible repeat (first | refine zdY ?_ _ | refine zeY ?_ | refine zcY ?_ _)); exact BK172.out⟩, ⟨by repeat (first | (with_reducible first | exact HB.out | apply znY | apply pw_below_drewN | apply below_drew1 | refine below_set ?_ GB39.out | refine below_set ?_ GE163.out | refine below_set ?_ GE164.out | refine below_set ?_ GE172.out) | exact HB.out)⟩⟩
                 ·
                  rw [if_neg c38] at H
                  exact absurd H (by simp)
                ·
                 rw [if_neg c36] at H
                 have c36b0 : ((bt t175 1) == 116) = false := beq_eq_false_iff_ne.mpr c36
                 have c36b1 : ((bt t175 1) != 116) = true := bne_iff_ne.mpr c36
                 have H' := amZ H
                 clear H
                 have p174 : 0 ≤ (x6_2 : Int) := odZ
                 have q174 : x6_2 < (((rd_T52 l0_1 x4_1).f3).length : Int) := odZ
                 obtain ⟨ad174, e174, hx174_0, hx174_1, hx174_2⟩ := at_T57 HR173_3.out x6_2 p174 q174
                 cases e174
                 replace hx174_0 := (HB.out.cell (World.block_lt_of_cell? w _ hx174_0)).trans hx174_0
                 replace hx174_1 := (HB.out.cell (World.block_lt_of_cell? w _ hx174_1)).trans hx174_1
                 replace hx174_2 := (HB.out.cell (World.block_lt_of_cell? w _ hx174_2)).trans hx174_2
                 replace p174 := eq_true p174
                 replace q174 := eq_true q174
                 try go_wp2_with (first | ((with_reducible refine gate_callee (f := 44) rfl ?_); refine goesL_ (some 41) rfl rfl Try.func44 (by kernel_rfl) rfl #[.int .i64 ((rd_T57 ((rd_T52 l0_1 x4_1).f3) x6_2).f0)] rfl (by (try simp only [List.map_toArray, List.map_cons, List.map_nil]); first | done | rfl | (simp only [List.length_drop, List.length_take]; rfl)) ?_; (with_reducible refine (spec_l4row.calls ((rd_T57 ((rd_T52 l0_1 x4_1).f3) x6_2).f0) t175 t176 t177 _ A25.out).mono ?_); rintro e w49 ⟨rfl, hb⟩; refine ⟨_, rfl, ?_⟩; have n0_ := amZ (Kd.S_below (by (with_reducible repeat (first | apply Kd.S_alloc | apply Kd.S_drewN | apply Kd.S_drew)); exact HO_173000.out) hb); have n1_ := amZ (Kd.S_below (by (with_reducible repeat (first | apply Kd.S_alloc | apply Kd.S_drewN | apply Kd.S_drew)); exact HO_173001.out) hb); have n2_ := amZ (ziY (g := gb163) (o := .cells #[.slice A0_0 l0_0.length c0_0, .slice (some ad173) l0_1.length c0_1] 31 (0, 0)) bkZ hb); have n3_ := amZ (ziY (g := gb164) (o := .cells #[.slice none 0 0, .slice none 0 0] 31 (0, 0)) bkZ hb); have n4_ := amZ (ziY (g := gb172) (o := .cells #[.slice Ao13 t166.length co13, u173001] 31 (0, 0)) bkZ hb); have n5_ := amZ (zfY bwZ hb); clear HO_173000; clear HO_173001; clear BK163; clear BK164; clear BK172; clear HB; have HO_173000 := n0_; have HO_173001 := n1_; have BK163 := n2_; have BK164 := n3_; have BK172 := n4_; have HB := n5_; clear n0_ n1_ n2_ n3_ n4_ n5_; (try clear hb); (try clear hb2); (try clear hk); (try clear hi); have p27 : 0 ≤ (0 : Int) := (by omega); have q27 : 0 < t175.size := (by have : (0 : Int) < (t175.size : Int) := odZ; omega); have hx27 : ∀ h : 0 < t175.size, ((t175[0]'h).toNat : Int) = bt t175 0 := bt_at t175 0; clear p27; have qi27 : (0 < (t175.size : Int)) = True := eq_true odZ; replace q27 := eq_true q27))
                 have n0_ := amZ (Kd.S_drew HO_173000.out)
                 have n1_ := amZ (Kd.S_drew HO_173001.out)
                 have n2_ := amZ (zeY BK163.out)
                 have n3_ := amZ (zeY BK164.out)
                 have n4_ := amZ (zeY BK172.out)
                 have n5_ := amZ (below_drew1 HB.out)
                 clear HO_173000
                 clear HO_173001
                 clear BK163
                 clear BK164
                 clear BK172
                 clear HB
                 have HO_173000 := n0_
                 have HO_173001 := n1_
                 have BK163 := n2_
                 have BK164 := n3_
                 have BK172 := n4_
                 have HB := n5_
                 clear n0_ n1_ n2_ n3_ n4_ n5_
                 obtain ⟨Ao51, co51, eo51⟩ := Kd.S_slice HO_173001.out
                 (first | subst eo51 | (injection eo51 with f1_ f2_ f3_; have f4_ := f1_.symm; have f5_ := f3_.symm; clear f1_ f2_ f3_; subst f4_; subst f5_))
                 have p178 : 0 ≤ (x4_1 : Int) := odZ
                 have q178 : x4_1 < (x173001_2.length : Int) := odZ
                 obtain ⟨ad178, A178_2, c178_2, A178_3, c178_3, e178, hx178_0, hx178_1, hx178_2, hx178_3, hl178_2, hi178_2, hl178_3, hi178_3⟩ := at_T52 (Kd.S_reads' HO_173001.out).2.2 x4_1 p178 q178
                 cases e178
                 obtain ⟨ce178, hce178, hMe178, hcc178⟩ := Kd.S_get HO_173001.out z52 x4_1 p178 (by first | exact q178 | exact odZ | (have e_ := (Kd.S_reads' HO_173001.out).1; omega))
                 obtain ⟨ve178_2, ve178_3, rfl, ge178_2, ge178_3⟩ := k52_openM hMe178
                 have hv178_2 := hcc178 2 _ rfl
                 rw [add_field _ _ 2 (by omega)] at hv178_2
                 replace hv178_2 := Option.some.inj (hv178_2.symm.trans hx178_2)
                 rw [hv178_2] at ge178_2
                 have HL178_2 := amZ (show Kd.R k54 54 _ _ _ _ ((rd_T52 x173001_2 x4_1).f2) from ge178_2)
                 clear hv178_2 ge178_2
                 have HX178_2 := amZ hx178_2
                 have hv178_3 := hcc178 3 _ rfl
                 rw [add_field _ _ 3 (by omega)] at hv178_3
                 replace hv178_3 := Option.some.inj (hv178_3.symm.trans hx178_3)
                 rw [hv178_3] at ge178_3
                 have HL178_3 := amZ (show Kd.R k57 57 _ _ _ _ ((rd_T52 x173001_2 x4_1).f3) from ge178_3)
                 clear hv178_3 ge178_3
                 have HX178_3 := amZ hx178_3
                 clear hcc178 hce178
                 have HR178_2 := amZ hi178_2
                 have HC178_2 := amZ hl178_2
                 clear hi178_2 hl178_2
                 have HR178_3 := amZ hi178_3
                 have HC178_3 := amZ hl178_3
                 clear hi178_3 hl178_3
                 replace p178 := eq_true p178
                 replace q178 := eq_true q178
                 have p179 : 0 ≤ (x6_2 : Int) := odZ
                 have q179 : x6_2 < (((rd_T52 l0_1 x4_1).f3).length : Int) := odZ
                 obtain ⟨ad179, e179, hx179_0, hx179_1, hx179_2⟩ := at_T57 HR173_3.out x6_2 p179 q179
                 have hw179_2 := hx179_2
                 have hw179_1 := hx179_1
                 have hw179_0 := hx179_0
                 obtain rfl : ad174 = ad179 := (by injection e179)
                 replace hx179_0 := (HB.out.cell (World.block_lt_of_cell? w _ hx179_0)).trans hx179_0
                 replace hx179_1 := (HB.out.cell (World.block_lt_of_cell? w _ hx179_1)).trans hx179_1
                 replace hx179_2 := (HB.out.cell (World.block_lt_of_cell? w _ hx179_2)).trans hx179_2
                 replace p179 := eq_true p179
                 replace q179 := eq_true q179
                 refine start_ (n := 17) (S := fun w' => w'.cell? ⟨gb172, 0, none⟩ = some (.slice Ao13 t166.length co13) ∧ w'.cell? ⟨gb172, 1, none⟩ = some (.slice (some ad178) x173001_2.length co51) ∧ w'.cell? (ad178.add ((x4_1).toNat * 4)) = some (.int .i64 ((rd_T52 x173001_2 x4_1).f0)) ∧ w'.cell? ⟨(ad178.add ((x4_1).toNat * 4)).block, (ad178.add ((x4_1).toNat * 4)).off + 1, none⟩ = some (.int .i64 ((rd_T52 x173001_2 x4_1).f1)) ∧ w'.cell? ⟨(ad178.add ((x4_1).toNat * 4)).block, (ad178.add ((x4_1).toNat * 4)).off + 2, none⟩ = some (.slice A178_2 ((rd_T52 x173001_2 x4_1).f2).length c178_2) ∧ w'.cell? ⟨(ad178.add ((x4_1).toNat * 4)).block, (ad178.add ((x4_1).toNat * 4)).off + 3, none⟩ = some (.slice A178_3 ((rd_T52 x173001_2 x4_1).f3).length c178_3) ∧ w'.cell? (ad174.add ((x6_2).toNat * 3)) = some (.int .i64 ((rd_T57 ((rd_T52 l0_1 x4_1).f3) x6_2).f0)) ∧ w'.cell? ⟨(ad174.add ((x6_2).toNat * 3)).block, (ad174.add ((x6_2).toNat * 3)).off + 1, none⟩ = some (.int .i64 ((rd_T57 ((rd_T52 l0_1 x4_1).f3) x6_2).f1)) ∧ w'.cell? ⟨(ad174.add ((x6_2).toNat * 3)).block, (ad174.add ((x6_2).toNat * 3)).off + 2, none⟩ = some (.int .i64 ((rd_T57 ((rd_T52 l0_1 x4_1).f3) x6_2).f2))) (ds := [16]) #[false, false, false, false, false, false, false, false, false, false, false, false, false, false, false, false, false] (by kernel_rfl) rfl rfl ⟨(zaY BK172.out 0).trans rfl, (zaY BK172.out 1).trans rfl, hx178_0, hx178_1, hx178_2, hx178_3, ((HB.out.cell (World.block_lt_of_cell? w _ hw179_0)).trans hw179_0), ((HB.out.cell (World.block_lt_of_cell? w _ hw179_1)).trans hw179_1), ((HB.out.cell (World.block_lt_of_cell? w _ hw179_2)).trans hw179_2)⟩ (fun hHeld => ?_); refine with_tabW spec_Thread.tab13 spec_Thread.bits13 (fun HT_ HW_ => ?_)
                 generalize w49.drew = w50 at HO_173000 HO_173001 BK163 BK164 BK172 HB HL178_2 HL178_3 HR178_2 HR178_3 HX178_2 HX178_3 hx178_0 hx178_1 hx178_2 hx178_3 hx179_0 hx179_1 hx179_2 hHeld ⊢
                 refine pure_ (i := 0) (N := some 48) (v := ?_) (a' := ?_) #[true, false, false, false, false, false, false, false, false, false, false, false, false, false, false, false, false] rfl rfl (any_of HT_.out (by kernel_rfl)) (fun _ _ _ h => h) (Or.inl ⟨by rfl, ?_⟩) ?_ ?_
                 rotate_left
                 ·
                  intro w'
                  go_simp
                  with_reducible rfl
                 rotate_left
                 ·
                  simp only [Act.put, List.setIfInBounds_toArray, List.set_cons_zero, List.set_cons_succ, i64_w, i32_w]
                  rfl
                 refine pure_ (i := 2) (N := some 50) (v := ?_) (a' := ?_) #[true, false, true, false, false, false, false, false, false, false, false, false, false, false, false, false, false] rfl rfl (any_of HT_.out (by kernel_rfl)) (fun _ _ _ h => h) (Or.inl ⟨by rfl, ?_⟩) ?_ ?_
                 rotate_left
                 ·
                  intro w'
                  go_simp
                  with_reducible rfl
                 rotate_left
                 ·
                  simp only [Act.put, List.setIfInBounds_toArray, List.set_cons_zero, List.set_cons_succ, i64_w, i32_w]
                  rfl
                 refine pure_ (i := 6) (N := some 54) (v := ?_) (a' := ?_) #[true, false, true, false, false, false, true, false, false, false, false, false, false, false, false, false, false] rfl rfl (any_of HT_.out (by kernel_rfl)) (fun _ _ _ h => h) (Or.inl ⟨by rfl, ?_⟩) ?_ ?_
                 rotate_left
                 ·
                  intro w'
                  go_simp
                  with_reducible rfl
                 rotate_left
                 ·
                  simp only [Act.put, List.setIfInBounds_toArray, List.set_cons_zero, List.set_cons_succ, i64_w, i32_w]
                  rfl
                 refine pure_ (i := 7) (N := some 55) (v := ?_) (a' := ?_) #[true, false, true, false, false, false, true, true, false, false, false, false, false, false, false, false, false] rfl rfl (any_of HT_.out (by kernel_rfl)) (fun _ _ _ h => h) (Or.inl ⟨by rfl, ?_⟩) ?_ ?_
                 rotate_left
                 ·
                  intro w'
                  go_simp
                  with_reducible rfl
                 rotate_left
                 ·
                  simp only [Act.put, List.setIfInBounds_toArray, List.set_cons_zero, List.set_cons_succ, i64_w, i32_w]
                  rfl
                 refine pure_ (i := 8) (N := some 56) (v := ?_) (a' := ?_) #[true, false, true, false, false, false, true, true, true, false, false, false, false, false, false, false, false] rfl rfl (any_of HT_.out (by kernel_rfl)) (fun _ _ _ h => h) (Or.inl ⟨by rfl, ?_⟩) ?_ ?_
                 rotate_left
                 ·
                  intro w'
                  go_simp
                  with_reducible rfl
                 rotate_left
                 ·
                  simp only [Act.put, List.setIfInBounds_toArray, List.set_cons_zero, List.set_cons_succ, i64_w, i32_w]
                  rfl
                 refine pure_ (i := 9) (N := some 57) (v := ?_) (a' := ?_) #[true, false, true, false, false, false, true, true, true, true, false, false, false, false, false, false, false] rfl rfl (any_of HT_.out (by kernel_rfl)) (fun _ _ _ h => h) (Or.inl ⟨by rfl, ?_⟩) ?_ ?_
                 rotate_left
                 ·
                  intro w'
                  go_simp
                  with_reducible rfl
                 rotate_left
                 ·
                  simp only [Act.put, List.setIfInBounds_toArray, List.set_cons_zero, List.set_cons_succ, i64_w, i32_w]
                  rfl
                 refine pure_ (i := 10) (N := some 58) (v := ?_) (a' := ?_) #[true, false, true, false, false, false, true, true, true, true, true, false, false, false, false, false, false] rfl rfl (any_of HT_.out (by kernel_rfl)) (fun _ _ _ h => h) (Or.inl ⟨by rfl, ?_⟩) ?_ ?_
                 rotate_left
                 ·
                  intro w'
                  go_simp
                  with_reducible rfl
                 rotate_left
                 ·
                  simp only [Act.put, List.setIfInBounds_toArray, List.set_cons_zero, List.set_cons_succ, i64_w, i32_w]
                  rfl
                 refine pure_ (i := 11) (N := some 59) (v := ?_) (a' := ?_) #[true, false, true, false, false, false, true, true, true, true, true, true, false, false, false, false, false] rfl rfl (any_of HT_.out (by kernel_rfl)) (fun _ _ _ h => h) (Or.inl ⟨by rfl, ?_⟩) ?_ ?_
                 rotate_left
                 ·
                  intro w'
                  go_simp
                  with_reducible rfl
                 rotate_left
                 ·
                  simp only [Act.put, List.setIfInBounds_toArray, List.set_cons_zero, List.set_cons_succ, i64_w, i32_w]
                  rfl
                 refine take_ (i := 1) (N := some 49) (v := ?_) (a' := ?_) #[true, true, true, false, false, false, true, true, true, true, true, true, false, false, false, false, false] rfl rfl (take_ofW HT_.out HW_.out (by kernel_rfl)) (fun _ _ _ h => h) (Or.inl ⟨by rfl, ?_⟩) hHeld ?_ ?_
                 rotate_left
                 ·
                  rintro w' ⟨s0, s1, s2, s3, s4, s5, s6, s7, s8⟩
                  go_simp
                  with_reducible rfl
                 rotate_left
                 ·
                  simp only [Act.put, List.setIfInBounds_toArray, List.set_cons_zero, List.set_cons_succ, i64_w, i32_w]
                  rfl
                 refine pure_ (i := 3) (N := some 51) (v := ?_) (a' := ?_) #[true, true, true, true, false, false, true, true, true, true, true, true, false, false, false, false, false] rfl rfl (any_of HT_.out (by kernel_rfl)) (fun _ _ _ h => h) (Or.inl ⟨by rfl, ?_⟩) ?_ ?_
                 rotate_left
                 ·
                  intro w'
                  go_simp
                  with_reducible rfl
                 rotate_left
                 ·
                  simp only [Act.put, List.setIfInBounds_toArray, List.set_cons_zero, List.set_cons_succ, i64_w, i32_w]
                  rfl
                 refine pure_ (i := 4) (N := some 52) (v := ?_) (a' := ?_) #[true, true, true, true, true, false, true, true, true, true, true, true, false, false, false, false, false] rfl rfl (any_of HT_.out (by kernel_rfl)) (fun _ _ _ h => h) (Or.inl ⟨by rfl, ?_⟩) ?_ ?_
                 rotate_left
                 ·
                  intro w'
                  go_simp
                  with_reducible rfl
                 rotate_left
                 ·
                  simp only [Act.put, List.setIfInBounds_toArray, List.set_cons_zero, List.set_cons_succ, i64_w, i32_w]
                  rfl
                 refine take_ (i := 5) (N := some 53) (v := ?_) (a' := ?_) #[true, true, true, true, true, true, true, true, true, true, true, true, false, false, false, false, false] rfl rfl (take_ofW HT_.out HW_.out (by kernel_rfl)) (fun _ _ _ h => h) (Or.inl ⟨by rfl, ?_⟩) hHeld ?_ ?_
                 rotate_left
                 ·
                  rintro w' ⟨s0, s1, s2, s3, s4, s5, s6, s7, s8⟩
                  go_simp
                  with_reducible rfl
                 rotate_left
                 ·
                  simp only [Act.put, List.setIfInBounds_toArray, List.set_cons_zero, List.set_cons_succ, i64_w, i32_w]
                  rfl
                 refine take_ (i := 12) (N := some 60) (v := ?_) (a' := ?_) #[true, true, true, true, true, true, true, true, true, true, true, true, true, false, false, false, false] rfl rfl (take_ofW HT_.out HW_.out (by kernel_rfl)) (fun _ _ _ h => h) (Or.inl ⟨by rfl, ?_⟩) hHeld ?_ ?_
                 rotate_left
                 ·
                  rintro w' ⟨s0, s1, s2, s3, s4, s5, s6, s7, s8⟩
                  go_simp
                  with_reducible rfl
                 rotate_left
                 ·
                  simp only [Act.put, List.setIfInBounds_toArray, List.set_cons_zero, List.set_cons_succ, i64_w, i32_w]
                  rfl
                 refine one_ (i := 13) (N := some 61) #[true, true, true, true, true, true, true, true, true, true, true, true, true, true, false, false, false] rfl rfl (one_of HT_.out (by kernel_rfl)) (by decide) (fun K hK => ?_)
                 refine goes_ Try.func45 (by kernel_rfl) rfl #[.slice (some ad174) ((rd_T52 l0_1 x4_1).f3).length c173_3, .int .i64 ((rd_T57 ((rd_T52 l0_1 x4_1).f3) x6_2).f1)] (by rfl) rfl rfl (by (try simp only [List.map_toArray, List.map_cons, List.map_nil]); first | done | rfl | (simp only [List.length_drop, List.length_take]; rfl)) ?_
                 with_reducible refine (spec_l5last.calls k2 _ _ ((rd_T52 l0_1 x4_1).f3) ((rd_T57 ((rd_T52 l0_1 x4_1).f3) x6_2).f1) t180 _ ?side1 ?side2 A31.out).mono ?_
                 (case side1 => repeat (first | exact (Kd.C_below HR173_3.out HB.out) | (with_reducible refine Kd.C_alloc ?_ _) | (with_reducible refine Kd.C_drewN ?_ _) | (with_reducible refine Kd.C_drew ?_)))
                 (case side2 => exact HC173_3.out)
                 rintro e w' ⟨rfl, ⟨nd, rfl⟩⟩
                 refine ⟨_, rfl, ?_⟩
                 have p33 : 0 ≤ (x6_2 : Int) := odZ
                 have q33 : (x6_2 : Int) < ((((rd_T52 x173001_2 x4_1).f3).length : Int) : Int) := odZ
                 obtain ⟨go33, co33, eo33, gb33, gl33, cl33, HG33⟩ := Kd.R_form HL178_3.out (by omega)
                 (first | cases eo33 | (injection eo33 with ea_ en_ ec_; (first | subst ea_ | (injection ea_ with ea_; subst ea_)); subst ec_; clear en_))
                 have GB33 := amZ gb33
                 have GG33 := amZ HG33
                 clear gb33 gl33 HG33
                 obtain ⟨ce33, hcl33, hM33, hcc33, hfr33⟩ := Kd.R_elem HL178_3.out z57 (x6_2 : Int) p33 q33
                 obtain rfl := k57_openM hM33
                 have hx33_0 : World.cell? _ ⟨go33, (x6_2 : Int).toNat * 3, none⟩ = some (.int .i64 ((rd_T57 ((rd_T52 x173001_2 x4_1).f3) x6_2).f0)) := hcc33 0 _ rfl
                 have hx33_1 : World.cell? _ ⟨go33, (x6_2 : Int).toNat * 3 + 1, none⟩ = some (.int .i64 ((rd_T57 ((rd_T52 x173001_2 x4_1).f3) x6_2).f1)) := hcc33 1 _ rfl
                 have hx33_2 : World.cell? _ ⟨go33, (x6_2 : Int).toNat * 3 + 2, none⟩ = some (.int .i64 ((rd_T57 ((rd_T52 x173001_2 x4_1).f3) x6_2).f2)) := hcc33 2 _ rfl
                 have hf33_0 : World.frozen? _ ⟨go33, (x6_2 : Int).toNat * 3, none⟩ = false := hfr33 0
                 have hf33_1 : World.frozen? _ ⟨go33, (x6_2 : Int).toNat * 3 + 1, none⟩ = false := hfr33 1
                 have hf33_2 : World.frozen? _ ⟨go33, (x6_2 : Int).toNat * 3 + 2, none⟩ = false := hfr33 2
                 clear hcl33 hcc33 hfr33 hM33
                 replace p33 := eq_true p33
                 replace q33 := eq_true q33
                 have hq52 : (x4_1 : Int) < (x173001_2.length : Int) := (by have h_ : (x4_1 : Int) < ((x173001_2.length : Int) : Int) := odZ; first | exact h_ | (have e_ := (Kd.S_reads' HO_173001.out).1; omega) | simpa only [List.length_set, List.length_set] using h_)
                 obtain ⟨oki52, ce52, hcl52, hM52, hcc52, hok52, hbk52⟩ := Kd.S_borrow HO_173001.out z52 (x4_1 : Int) odZ hq52
                 obtain ⟨ve52_2, ve52_3, rfl, ge52_2, ge52_3⟩ := k52_openM hM52
                 have hv52 := hcc52 3 _ rfl
                 rw [add_field _ _ 3 (by omega)] at hv52
                 replace hv52 := Option.some.inj (hv52.symm.trans HX178_3.out)
                 subst hv52
                 clear hcc52 hcl52
                 replace ge52_3 := (show Kd.R k57 57 _ _ _ _ ((rd_T52 x173001_2 x4_1).f3) from ge52_3)
                 obtain ⟨cf52, hcl52, hN52, hcc52, hfr52⟩ := Kd.R_elem ge52_3 z57 (x6_2 : Int) odZ (by have h_ : (x6_2 : Int) < ((((rd_T52 x173001_2 x4_1).f3).length : Int) : Int) := odZ; first | exact h_ | (have e_ := (Kd.R_reads' HR178_3.out).1; omega) | simpa using h_)
                 obtain rfl := k57_openM hN52
                 have HP52 := Kd.R_seg ge52_3 (x6_2 : Int) odZ (by have h_ : (x6_2 : Int) < ((((rd_T52 x173001_2 x4_1).f3).length : Int) : Int) := odZ; first | exact h_ | (have e_ := (Kd.R_reads' HR178_3.out).1; omega) | simpa using h_) (seg := [.int .i64 t180]) (j := 1) hcl52 hcc52 (show 2 ≤ 3 from by decide) (x' := (⟨(rd_T57 ((rd_T52 x173001_2 x4_1).f3) x6_2).f0, t180, (rd_T57 ((rd_T52 x173001_2 x4_1).f3) x6_2).f2⟩ : S57)) (k57_mkM _ _ _ (⟨(rd_T57 ((rd_T52 x173001_2 x4_1).f3) x6_2).f0, t180, (rd_T57 ((rd_T52 x173001_2 x4_1).f3) x6_2).f2⟩ : S57)) (fun _ hk => hk)
                 clear hcl52 hcc52 hfr52 hN52
                 rw [← Ny181.out] at HP52
                 have HS52 := hbk52 HP52.2 (fun k_ e_ => by injection e_ with e_; subst e_; exact ge52_3.1 _ rfl) (x' := (⟨(rd_T52 x173001_2 x4_1).f0, (rd_T52 x173001_2 x4_1).f1, (rd_T52 x173001_2 x4_1).f2, y181⟩ : S52)) (k52_mkM _ _ _ (⟨(rd_T52 x173001_2 x4_1).f0, (rd_T52 x173001_2 x4_1).f1, (rd_T52 x173001_2 x4_1).f2, y181⟩ : S52) (Kd.R_over' (v := (.slice (some ⟨go33, 0, none⟩) ((rd_T52 x173001_2 x4_1).f3).length c178_3)) ge52_2 (Kd.R_typed ge52_3) (by decide) HP52.2) HP52.1)
                 rw [← Ny183.out] at HS52
                 have HQ52 := amZ HS52
                 clear HP52 HS52 hbk52 hok52
                 refine hK.out _ _ ⟨(zaY BK172.out 0).trans rfl, (zaY BK172.out 1).trans rfl, hHeld.2.2.1, hHeld.2.2.2.1, hHeld.2.2.2.2.1, hHeld.2.2.2.2.2.1, ((HB.out.cell (World.block_lt_of_cell? w _ hw179_0)).trans hw179_0), ((HB.out.cell (World.block_lt_of_cell? w _ hw179_1)).trans hw179_1), ((HB.out.cell (World.block_lt_of_cell? w _ hw179_2)).trans hw179_2)⟩ (fun hHeld => ?_)
                 clear hK K
                 refine norm_ (a' := ?_) ?_ ?_
                 rotate_left
                 ·
                  show Act.put _ (some 61) _ = _
                  simp only [Act.put, List.setIfInBounds_toArray, List.set_cons_zero, List.set_cons_succ, i64_w, i32_w]
                  rfl
                 refine pure_ (i := 14) (N := some 62) (v := ?_) (a' := ?_) #[true, true, true, true, true, true, true, true, true, true, true, true, true, true, true, false, false] rfl rfl (any_of HT_.out (by kernel_rfl)) (fun _ _ _ h => h) (Or.inl ⟨by rfl, ?_⟩) ?_ ?_
                 rotate_left
                 ·
                  intro w'
                  go_simp
                  with_reducible rfl
                 rotate_left
                 ·
                  simp only [Act.put, List.setIfInBounds_toArray, List.set_cons_zero, List.set_cons_succ, i64_w, i32_w]
                  rfl
                 refine pure_ (i := 15) (N := some 63) (v := ?_) (a' := ?_) #[true, true, true, true, true, true, true, true, true, true, true, true, true, true, true, true, false] rfl rfl (any_of HT_.out (by kernel_rfl)) (fun _ _ _ h => h) (Or.inl ⟨by rfl, ?_⟩) ?_ ?_
                 rotate_left
                 ·
                  intro w'
                  go_simp
                  with_reducible rfl
                 rotate_left
                 ·
                  simp only [Act.put, List.setIfInBounds_toArray, List.set_cons_zero, List.set_cons_succ, i64_w, i32_w]
                  rfl
                 refine last_ (i := 16) (N := none) #[true, true, true, true, true, true, true, true, true, true, true, true, true, true, true, true, true] rfl rfl (one_of HT_.out (by kernel_rfl)) (by decide) (fun K hK => ?_)
                 refine skip_ (w1 := ?_) (by rfl) rfl ?_ ?_
                 rotate_left
                 ·
                  go_simp
                  rfl
                 refine hK.out _ _ ?_
                 clear hK K
                 refine done_ (done_of HT_.out (by kernel_rfl)) ?_
                 have p35 : 0 ≤ (1 : Int) := (by omega)
                 have q35 : 1 < t175.size := (by have : (1 : Int) < (t175.size : Int) := odZ; omega)
                 have hx35 : ∀ h : 1 < t175.size, ((t175[1]'h).toNat : Int) = bt t175 1 := bt_at t175 1
                 clear p35
                 have qi35 : (1 < (t175.size : Int)) = True := eq_true odZ
                 replace q35 := eq_true q35
                 try go_wp2
                 go_roundg k2
                 case measure => have := HK1.out; have := HK2.out; omega
                 case rel => exact ⟨(wrap64 (x6_2 + 1)), (y183), (.slice (some ad178) x173001_2.length co51), (by first | rfl | (simp; done) | (simp [*]; done)), H', ⟨by have := HK1.out; have := HK2.out; omega⟩, ⟨by (with_reducible repeat (first | apply Kd.S_alloc | apply Kd.S_drewN | apply Kd.S_drew)); exact Kd.S_mono (Kd.S_far (p := ⟨go33, (x6_2 : Int).toNat * 3 + 1, none⟩) (Kd.S_types HO_173000.out GG33.out (by decide)) (fun _ hk => hk.2) (.int .i64 t180)) (fun _ hk => trivial)⟩, ⟨by (with_reducible repeat (first | apply Kd.S_alloc | apply Kd.S_drewN | apply Kd.S_drew)); exact HQ52.out⟩, ⟨by (with_reducible repeat (first | refine zdY ?_ _ | refine zeY ?_ | refine zcY ?_ _)); refine zjY ?_ (by have h_ := Kd.R_ne HL178_3.out BK163.out (by decide); intro e_; exact h_ (by rw [e_]; rfl)) _; (with_reducible repeat (first | refine zdY ?_ _ | refine zeY ?_ | refine zcY ?_ _)); exact BK163.out⟩, ⟨by (with_reducible repeat (first | refine zdY ?_ _ | refine zeY ?_ | refine zcY ?_ _)); refine zjY ?_ (by have h_ := Kd.R_ne HL178_3.out BK164.out (by decide); intro e_; exact h_ (by rw [e_]; rfl)) _; (with_reducible repeat (first | refine zdY ?_ _ | refine zeY ?_ | refine zcY ?_ _)); exact BK164.out⟩, ⟨by (with_reducible repeat (first | refine zdY ?_ _ | refine zeY ?_ | refine zcY ?_ _)); refine zjY ?_ (by have h_ := Kd.R_ne HL178_3.out BK172.out (by decide); intro e_; exact h_ (by rw [e_]; rfl)) _; (with_reducible repeat (first | refine zdY ?_ _ | refine zeY ?_ | refine zcY ?_ _)); exact BK172.out⟩, ⟨by repeat (first | (with_reducible first | exact HB.out | apply znY | apply pw_below_drewN | apply below_drew1 | refine below_set ?_ GB33.out | refine below_set ?_ GE163.out | refine below_set ?_ GE164.out | refine below_set ?_ GE172.out) | exact HB.out)⟩⟩
               ·
                rw [if_neg c34] at H
                exact absurd H (by simp)
              ·
               rw [if_neg c32] at H
               exact absurd H (by simp)
             ·
              rw [if_neg c30] at H
              exact absurd H (by simp)
            ·
             rw [if_neg c29] at H
             exact absurd H (by simp)
           ·
            rw [if_neg c28] at H
            have c28b0 : ((bt t175 0) == 116) = false := beq_eq_false_iff_ne.mpr c28
            have c28b1 : ((bt t175 0) != 116) = true := bne_iff_ne.mpr c28
            by_cases c54 : 1 < (t175.size : Int)
            ·
             rw [if_pos c54] at H
             have c54b0 : decide (1 < (t175.size : Int)) = true := decide_eq_true c54
             have c54b1 : decide (1 < t175.size) = true := decide_eq_true (by omega)
             clear c54
             by_cases c56 : (bt t175 1) = 116
             ·
              rw [if_pos c56] at H
              have c56b0 : ((bt t175 1) == 116) = true := beq_iff_eq.mpr c56
              have c56b1 : ((bt t175 1) != 116) = false := bne_eq_false_iff_eq.mpr c56
              clear c56
              by_cases c57 : 0 ≤ x4_1
              ·
               rw [if_pos c57] at H
               have c57b0 : decide (0 ≤ x4_1) = true := decide_eq_true c57
               clear c57
               by_cases c58 : x4_1 < (x173001_2.length : Int)
               ·
                rw [if_pos c58] at H
                have c58b0 : decide (x4_1 < (x173001_2.length : Int)) = true := decide_eq_true c58
                clear c58
                replace H := Option.bind_eq_some_iff.mp H
                obtain ⟨t192, A590, H⟩ := H
                replace H : (if x6_2 < (((rd_T52 x173001_2 x4_1).f3).length : Int) then (spec_Thread.l1 k2 x4_1 ((rd_T52 l0_1 x4_1).f3) (wrap64 (x6_2 + 1)) l0_0 l0_1 t166 (x173001_2.set (x4_1 : Int).toNat (⟨(rd_T52 x173001_2 x4_1).f0, (rd_T52 x173001_2 x4_1).f1, (rd_T52 x173001_2 x4_1).f2, (((rd_T52 x173001_2 x4_1).f3).set (x6_2 : Int).toNat (⟨(rd_T57 ((rd_T52 x173001_2 x4_1).f3) x6_2).f0, (rd_T57 ((rd_T52 x173001_2 x4_1).f3) x6_2).f1, t192⟩ : S57))⟩ : S52))) else (none)) = some (r1, r2) := H
                have A59 := amZ A590
                clear A590
                by_cases c60 : x6_2 < (((rd_T52 x173001_2 x4_1).f3).length : Int)
                ·
                 rw [if_pos c60] at H
                 have c60b0 : decide (x6_2 < (((rd_T52 x173001_2 x4_1).f3).length : Int)) = true := decide_eq_true c60
                 clear c60
                 obtain ⟨y193, hy193⟩ : ∃ y_ : List (S57), y_ = (((rd_T52 x173001_2 x4_1).f3).set (x6_2 : Int).toNat (⟨(rd_T57 ((rd_T52 x173001_2 x4_1).f3) x6_2).f0, (rd_T57 ((rd_T52 x173001_2 x4_1).f3) x6_2).f1, t192⟩ : S57)) := ⟨_, rfl⟩
                 replace H : (spec_Thread.l1 k2 x4_1 ((rd_T52 l0_1 x4_1).f3) (wrap64 (x6_2 + 1)) l0_0 l0_1 t166 (x173001_2.set (x4_1 : Int).toNat (⟨(rd_T52 x173001_2 x4_1).f0, (rd_T52 x173001_2 x4_1).f1, (rd_T52 x173001_2 x4_1).f2, y193⟩ : S52))) = some (r1, r2) := by first | (rw [hy193]; with_reducible exact H) | (have H2_ := (Option.bind_some _ _).symm.trans H; rw [hy193]; with_reducible exact H2_) | (have H2_ := (Option.bind_some _ _).symm.trans H; with_reducible exact H2_) | with_reducible exact H | (rw [hy193]; exact H) | exact H
                 have Ny193 := amZ hy193
                 clear hy193
                 obtain ⟨y195, hy195⟩ : ∃ y_ : List (S52), y_ = (x173001_2.set (x4_1 : Int).toNat (⟨(rd_T52 x173001_2 x4_1).f0, (rd_T52 x173001_2 x4_1).f1, (rd_T52 x173001_2 x4_1).f2, y193⟩ : S52)) := ⟨_, rfl⟩
                 replace H : (spec_Thread.l1 k2 x4_1 ((rd_T52 l0_1 x4_1).f3) (wrap64 (x6_2 + 1)) l0_0 l0_1 t166 y195) = some (r1, r2) := by first | (rw [hy195]; with_reducible exact H) | (have H2_ := (Option.bind_some _ _).symm.trans H; rw [hy195]; with_reducible exact H2_) | (have H2_ := (Option.bind_some _ _).symm.trans H; with_reducible exact H2_) | with_reducible exact H | (rw [hy195]; exact H) | exact H
                 have Ny195 := amZ hy195
                 clear hy195
                 have H' := amZ H
                 clear H
                 have p174 : 0 ≤ (x6_2 : Int) := odZ
                 have q174 : x6_2 < (((rd_T52 l0_1 x4_1).f3).length : Int) := odZ
                 obtain ⟨ad174, e174, hx174_0, hx174_1, hx174_2⟩ := at_T57 HR173_3.out x6_2 p174 q174
                 cases e174
                 replace hx174_0 := (HB.out.cell (World.block_lt_of_cell? w _ hx174_0)).trans hx174_0
                 replace hx174_1 := (HB.out.cell (World.block_lt_of_cell? w _ hx174_1)).trans hx174_1
                 replace hx174_2 := (HB.out.cell (World.block_lt_of_cell? w _ hx174_2)).trans hx174_2
                 replace p174 := eq_true p174
                 replace q174 := eq_true q174
                 try go_wp2_with (first | ((with_reducible refine gate_callee (f := 44) rfl ?_); refine goesL_ (some 41) rfl rfl Try.func44 (by kernel_rfl) rfl #[.int .i64 ((rd_T57 ((rd_T52 l0_1 x4_1).f3) x6_2).f0)] rfl (by (try simp only [List.map_toArray, List.map_cons, List.map_nil]); first | done | rfl | (simp only [List.length_drop, List.length_take]; rfl)) ?_; (with_reducible refine (spec_l4row.calls ((rd_T57 ((rd_T52 l0_1 x4_1).f3) x6_2).f0) t175 t176 t177 _ A25.out).mono ?_); rintro e w62 ⟨rfl, hb⟩; refine ⟨_, rfl, ?_⟩; have n0_ := amZ (Kd.S_below (by (with_reducible repeat (first | apply Kd.S_alloc | apply Kd.S_drewN | apply Kd.S_drew)); exact HO_173000.out) hb); have n1_ := amZ (Kd.S_below (by (with_reducible repeat (first | apply Kd.S_alloc | apply Kd.S_drewN | apply Kd.S_drew)); exact HO_173001.out) hb); have n2_ := amZ (ziY (g := gb163) (o := .cells #[.slice A0_0 l0_0.length c0_0, .slice (some ad173) l0_1.length c0_1] 31 (0, 0)) bkZ hb); have n3_ := amZ (ziY (g := gb164) (o := .cells #[.slice none 0 0, .slice none 0 0] 31 (0, 0)) bkZ hb); have n4_ := amZ (ziY (g := gb172) (o := .cells #[.slice Ao13 t166.length co13, u173001] 31 (0, 0)) bkZ hb); have n5_ := amZ (zfY bwZ hb); clear HO_173000; clear HO_173001; clear BK163; clear BK164; clear BK172; clear HB; have HO_173000 := n0_; have HO_173001 := n1_; have BK163 := n2_; have BK164 := n3_; have BK172 := n4_; have HB := n5_; clear n0_ n1_ n2_ n3_ n4_ n5_; (try clear hb); (try clear hb2); (try clear hk); (try clear hi); have p27 : 0 ≤ (0 : Int) := (by omega); have q27 : 0 < t175.size := (by have : (0 : Int) < (t175.size : Int) := odZ; omega); have hx27 : ∀ h : 0 < t175.size, ((t175[0]'h).toNat : Int) = bt t175 0 := bt_at t175 0; clear p27; have qi27 : (0 < (t175.size : Int)) = True := eq_true odZ; replace q27 := eq_true q27; have p55 : 0 ≤ (1 : Int) := (by omega); have q55 : 1 < t175.size := (by have : (1 : Int) < (t175.size : Int) := odZ; omega); have hx55 : ∀ h : 1 < t175.size, ((t175[1]'h).toNat : Int) = bt t175 1 := bt_at t175 1; clear p55; have qi55 : (1 < (t175.size : Int)) = True := eq_true odZ; replace q55 := eq_true q55))
                 have n0_ := amZ (Kd.S_drew HO_173000.out)
                 have n1_ := amZ (Kd.S_drew HO_173001.out)
                 have n2_ := amZ (zeY BK163.out)
                 have n3_ := amZ (zeY BK164.out)
                 have n4_ := amZ (zeY BK172.out)
                 have n5_ := amZ (below_drew1 HB.out)
                 clear HO_173000
                 clear HO_173001
                 clear BK163
                 clear BK164
                 clear BK172
                 clear HB
                 have HO_173000 := n0_
                 have HO_173001 := n1_
                 have BK163 := n2_
                 have BK164 := n3_
                 have BK172 := n4_
                 have HB := n5_
                 clear n0_ n1_ n2_ n3_ n4_ n5_
                 obtain ⟨Ao64, co64, eo64⟩ := Kd.S_slice HO_173001.out
                 (first | subst eo64 | (injection eo64 with f1_ f2_ f3_; have f4_ := f1_.symm; have f5_ := f3_.symm; clear f1_ f2_ f3_; subst f4_; subst f5_))
                 have p190 : 0 ≤ (x4_1 : Int) := odZ
                 have q190 : x4_1 < (x173001_2.length : Int) := odZ
                 obtain ⟨ad190, A190_2, c190_2, A190_3, c190_3, e190, hx190_0, hx190_1, hx190_2, hx190_3, hl190_2, hi190_2, hl190_3, hi190_3⟩ := at_T52 (Kd.S_reads' HO_173001.out).2.2 x4_1 p190 q190
                 cases e190
                 obtain ⟨ce190, hce190, hMe190, hcc190⟩ := Kd.S_get HO_173001.out z52 x4_1 p190 (by first | exact q190 | exact odZ | (have e_ := (Kd.S_reads' HO_173001.out).1; omega))
                 obtain ⟨ve190_2, ve190_3, rfl, ge190_2, ge190_3⟩ := k52_openM hMe190
                 have hv190_2 := hcc190 2 _ rfl
                 rw [add_field _ _ 2 (by omega)] at hv190_2
                 replace hv190_2 := Option.some.inj (hv190_2.symm.trans hx190_2)
                 rw [hv190_2] at ge190_2
                 have HL190_2 := amZ (show Kd.R k54 54 _ _ _ _ ((rd_T52 x173001_2 x4_1).f2) from ge190_2)
                 clear hv190_2 ge190_2
                 have HX190_2 := amZ hx190_2
                 have hv190_3 := hcc190 3 _ rfl
                 rw [add_field _ _ 3 (by omega)] at hv190_3
                 replace hv190_3 := Option.some.inj (hv190_3.symm.trans hx190_3)
                 rw [hv190_3] at ge190_3
                 have HL190_3 := amZ (show Kd.R k57 57 _ _ _ _ ((rd_T52 x173001_2 x4_1).f3) from ge190_3)
                 clear hv190_3 ge190_3
                 have HX190_3 := amZ hx190_3
                 clear hcc190 hce190
                 have HR190_2 := amZ hi190_2
                 have HC190_2 := amZ hl190_2
                 clear hi190_2 hl190_2
                 have HR190_3 := amZ hi190_3
                 have HC190_3 := amZ hl190_3
                 clear hi190_3 hl190_3
                 replace p190 := eq_true p190
                 replace q190 := eq_true q190
                 have p191 : 0 ≤ (x6_2 : Int) := odZ
                 have q191 : x6_2 < (((rd_T52 l0_1 x4_1).f3).length : Int) := odZ
                 obtain ⟨ad191, e191, hx191_0, hx191_1, hx191_2⟩ := at_T57 HR173_3.out x6_2 p191 q191
                 have hw191_2 := hx191_2
                 have hw191_1 := hx191_1
                 have hw191_0 := hx191_0
                 obtain rfl : ad174 = ad191 := (by injection e191)
                 replace hx191_0 := (HB.out.cell (World.block_lt_of_cell? w _ hx191_0)).trans hx191_0
                 replace hx191_1 := (HB.out.cell (World.block_lt_of_cell? w _ hx191_1)).trans hx191_1
                 replace hx191_2 := (HB.out.cell (World.block_lt_of_cell? w _ hx191_2)).trans hx191_2
                 replace p191 := eq_true p191
                 replace q191 := eq_true q191
                 refine start_ (n := 17) (S := fun w' => w'.cell? ⟨gb172, 0, none⟩ = some (.slice Ao13 t166.length co13) ∧ w'.cell? ⟨gb172, 1, none⟩ = some (.slice (some ad190) x173001_2.length co64) ∧ w'.cell? (ad190.add ((x4_1).toNat * 4)) = some (.int .i64 ((rd_T52 x173001_2 x4_1).f0)) ∧ w'.cell? ⟨(ad190.add ((x4_1).toNat * 4)).block, (ad190.add ((x4_1).toNat * 4)).off + 1, none⟩ = some (.int .i64 ((rd_T52 x173001_2 x4_1).f1)) ∧ w'.cell? ⟨(ad190.add ((x4_1).toNat * 4)).block, (ad190.add ((x4_1).toNat * 4)).off + 2, none⟩ = some (.slice A190_2 ((rd_T52 x173001_2 x4_1).f2).length c190_2) ∧ w'.cell? ⟨(ad190.add ((x4_1).toNat * 4)).block, (ad190.add ((x4_1).toNat * 4)).off + 3, none⟩ = some (.slice A190_3 ((rd_T52 x173001_2 x4_1).f3).length c190_3) ∧ w'.cell? (ad174.add ((x6_2).toNat * 3)) = some (.int .i64 ((rd_T57 ((rd_T52 l0_1 x4_1).f3) x6_2).f0)) ∧ w'.cell? ⟨(ad174.add ((x6_2).toNat * 3)).block, (ad174.add ((x6_2).toNat * 3)).off + 1, none⟩ = some (.int .i64 ((rd_T57 ((rd_T52 l0_1 x4_1).f3) x6_2).f1)) ∧ w'.cell? ⟨(ad174.add ((x6_2).toNat * 3)).block, (ad174.add ((x6_2).toNat * 3)).off + 2, none⟩ = some (.int .i64 ((rd_T57 ((rd_T52 l0_1 x4_1).f3) x6_2).f2))) (ds := [16]) #[false, false, false, false, false, false, false, false, false, false, false, false, false, false, false, false, false] (by kernel_rfl) rfl rfl ⟨(zaY BK172.out 0).trans rfl, (zaY BK172.out 1).trans rfl, hx190_0, hx190_1, hx190_2, hx190_3, ((HB.out.cell (World.block_lt_of_cell? w _ hw191_0)).trans hw191_0), ((HB.out.cell (World.block_lt_of_cell? w _ hw191_1)).trans hw191_1), ((HB.out.cell (World.block_lt_of_cell? w _ hw191_2)).trans hw191_2)⟩ (fun hHeld => ?_); refine with_tabW spec_Thread.tab15 spec_Thread.bits15 (fun HT_ HW_ => ?_)
                 generalize w62.drew = w63 at HO_173000 HO_173001 BK163 BK164 BK172 HB HL190_2 HL190_3 HR190_2 HR190_3 HX190_2 HX190_3 hx190_0 hx190_1 hx190_2 hx190_3 hx191_0 hx191_1 hx191_2 hHeld ⊢
                 refine pure_ (i := 0) (N := some 67) (v := ?_) (a' := ?_) #[true, false, false, false, false, false, false, false, false, false, false, false, false, false, false, false, false] rfl rfl (any_of HT_.out (by kernel_rfl)) (fun _ _ _ h => h) (Or.inl ⟨by rfl, ?_⟩) ?_ ?_
                 rotate_left
                 ·
                  intro w'
                  go_simp
                  with_reducible rfl
                 rotate_left
                 ·
                  simp only [Act.put, List.setIfInBounds_toArray, List.set_cons_zero, List.set_cons_succ, i64_w, i32_w]
                  rfl
                 refine pure_ (i := 2) (N := some 69) (v := ?_) (a' := ?_) #[true, false, true, false, false, false, false, false, false, false, false, false, false, false, false, false, false] rfl rfl (any_of HT_.out (by kernel_rfl)) (fun _ _ _ h => h) (Or.inl ⟨by rfl, ?_⟩) ?_ ?_
                 rotate_left
                 ·
                  intro w'
                  go_simp
                  with_reducible rfl
                 rotate_left
                 ·
                  simp only [Act.put, List.setIfInBounds_toArray, List.set_cons_zero, List.set_cons_succ, i64_w, i32_w]
                  rfl
                 refine pure_ (i := 6) (N := some 73) (v := ?_) (a' := ?_) #[true, false, true, false, false, false, true, false, false, false, false, false, false, false, false, false, false] rfl rfl (any_of HT_.out (by kernel_rfl)) (fun _ _ _ h => h) (Or.inl ⟨by rfl, ?_⟩) ?_ ?_
                 rotate_left
                 ·
                  intro w'
                  go_simp
                  with_reducible rfl
                 rotate_left
                 ·
                  simp only [Act.put, List.setIfInBounds_toArray, List.set_cons_zero, List.set_cons_succ, i64_w, i32_w]
                  rfl
                 refine pure_ (i := 7) (N := some 74) (v := ?_) (a' := ?_) #[true, false, true, false, false, false, true, true, false, false, false, false, false, false, false, false, false] rfl rfl (any_of HT_.out (by kernel_rfl)) (fun _ _ _ h => h) (Or.inl ⟨by rfl, ?_⟩) ?_ ?_
                 rotate_left
                 ·
                  intro w'
                  go_simp
                  with_reducible rfl
                 rotate_left
                 ·
                  simp only [Act.put, List.setIfInBounds_toArray, List.set_cons_zero, List.set_cons_succ, i64_w, i32_w]
                  rfl
                 refine pure_ (i := 8) (N := some 75) (v := ?_) (a' := ?_) #[true, false, true, false, false, false, true, true, true, false, false, false, false, false, false, false, false] rfl rfl (any_of HT_.out (by kernel_rfl)) (fun _ _ _ h => h) (Or.inl ⟨by rfl, ?_⟩) ?_ ?_
                 rotate_left
                 ·
                  intro w'
                  go_simp
                  with_reducible rfl
                 rotate_left
                 ·
                  simp only [Act.put, List.setIfInBounds_toArray, List.set_cons_zero, List.set_cons_succ, i64_w, i32_w]
                  rfl
                 refine pure_ (i := 9) (N := some 76) (v := ?_) (a' := ?_) #[true, false, true, false, false, false, true, true, true, true, false, false, false, false, false, false, false] rfl rfl (any_of HT_.out (by kernel_rfl)) (fun _ _ _ h => h) (Or.inl ⟨by rfl, ?_⟩) ?_ ?_
                 rotate_left
                 ·
                  intro w'
                  go_simp
                  with_reducible rfl
                 rotate_left
                 ·
                  simp only [Act.put, List.setIfInBounds_toArray, List.set_cons_zero, List.set_cons_succ, i64_w, i32_w]
                  rfl
                 refine pure_ (i := 10) (N := some 77) (v := ?_) (a' := ?_) #[true, false, true, false, false, false, true, true, true, true, true, false, false, false, false, false, false] rfl rfl (any_of HT_.out (by kernel_rfl)) (fun _ _ _ h => h) (Or.inl ⟨by rfl, ?_⟩) ?_ ?_
                 rotate_left
                 ·
                  intro w'
                  go_simp
                  with_reducible rfl
                 rotate_left
                 ·
                  simp only [Act.put, List.setIfInBounds_toArray, List.set_cons_zero, List.set_cons_succ, i64_w, i32_w]
                  rfl
                 refine pure_ (i := 11) (N := some 78) (v := ?_) (a' := ?_) #[true, false, true, false, false, false, true, true, true, true, true, true, false, false, false, false, false] rfl rfl (any_of HT_.out (by kernel_rfl)) (fun _ _ _ h => h) (Or.inl ⟨by rfl, ?_⟩) ?_ ?_
                 rotate_left
                 ·
                  intro w'
                  go_simp
                  with_reducible rfl
                 rotate_left
                 ·
                  simp only [Act.put, List.setIfInBounds_toArray, List.set_cons_zero, List.set_cons_succ, i64_w, i32_w]
                  rfl
                 refine take_ (i := 1) (N := some 68) (v := ?_) (a' := ?_) #[true, true, true, false, false, false, true, true, true, true, true, true, false, false, false, false, false] rfl rfl (take_ofW HT_.out HW_.out (by kernel_rfl)) (fun _ _ _ h => h) (Or.inl ⟨by rfl, ?_⟩) hHeld ?_ ?_
                 rotate_left
                 ·
                  rintro w' ⟨s0, s1, s2, s3, s4, s5, s6, s7, s8⟩
                  go_simp
                  with_reducible rfl
                 rotate_left
                 ·
                  simp only [Act.put, List.setIfInBounds_toArray, List.set_cons_zero, List.set_cons_succ, i64_w, i32_w]
                  rfl
                 refine pure_ (i := 3) (N := some 70) (v := ?_) (a' := ?_) #[true, true, true, true, false, false, true, true, true, true, true, true, false, false, false, false, false] rfl rfl (any_of HT_.out (by kernel_rfl)) (fun _ _ _ h => h) (Or.inl ⟨by rfl, ?_⟩) ?_ ?_
                 rotate_left
                 ·
                  intro w'
                  go_simp
                  with_reducible rfl
                 rotate_left
                 ·
                  simp only [Act.put, List.setIfInBounds_toArray, List.set_cons_zero, List.set_cons_succ, i64_w, i32_w]
                  rfl
                 refine pure_ (i := 4) (N := some 71) (v := ?_) (a' := ?_) #[true, true, true, true, true, false, true, true, true, true, true, true, false, false, false, false, false] rfl rfl (any_of HT_.out (by kernel_rfl)) (fun _ _ _ h => h) (Or.inl ⟨by rfl, ?_⟩) ?_ ?_
                 rotate_left
                 ·
                  intro w'
                  go_simp
                  with_reducible rfl
                 rotate_left
                 ·
                  simp only [Act.put, List.setIfInBounds_toArray, List.set_cons_zero, List.set_cons_succ, i64_w, i32_w]
                  rfl
                 refine take_ (i := 5) (N := some 72) (v := ?_) (a' := ?_) #[true, true, true, true, true, true, true, true, true, true, true, true, false, false, false, false, false] rfl rfl (take_ofW HT_.out HW_.out (by kernel_rfl)) (fun _ _ _ h => h) (Or.inl ⟨by rfl, ?_⟩) hHeld ?_ ?_
                 rotate_left
                 ·
                  rintro w' ⟨s0, s1, s2, s3, s4, s5, s6, s7, s8⟩
                  go_simp
                  with_reducible rfl
                 rotate_left
                 ·
                  simp only [Act.put, List.setIfInBounds_toArray, List.set_cons_zero, List.set_cons_succ, i64_w, i32_w]
                  rfl
                 refine take_ (i := 12) (N := some 79) (v := ?_) (a' := ?_) #[true, true, true, true, true, true, true, true, true, true, true, true, true, false, false, false, false] rfl rfl (take_ofW HT_.out HW_.out (by kernel_rfl)) (fun _ _ _ h => h) (Or.inl ⟨by rfl, ?_⟩) hHeld ?_ ?_
                 rotate_left
                 ·
                  rintro w' ⟨s0, s1, s2, s3, s4, s5, s6, s7, s8⟩
                  go_simp
                  with_reducible rfl
                 rotate_left
                 ·
                  simp only [Act.put, List.setIfInBounds_toArray, List.set_cons_zero, List.set_cons_succ, i64_w, i32_w]
                  rfl
                 refine one_ (i := 13) (N := some 80) #[true, true, true, true, true, true, true, true, true, true, true, true, true, true, false, false, false] rfl rfl (one_of HT_.out (by kernel_rfl)) (by decide) (fun K hK => ?_)
                 refine goes_ Try.func45 (by kernel_rfl) rfl #[.slice (some ad174) ((rd_T52 l0_1 x4_1).f3).length c173_3, .int .i64 ((rd_T57 ((rd_T52 l0_1 x4_1).f3) x6_2).f2)] (by rfl) rfl rfl (by (try simp only [List.map_toArray, List.map_cons, List.map_nil]); first | done | rfl | (simp only [List.length_drop, List.length_take]; rfl)) ?_
                 with_reducible refine (spec_l5last.calls k2 _ _ ((rd_T52 l0_1 x4_1).f3) ((rd_T57 ((rd_T52 l0_1 x4_1).f3) x6_2).f2) t192 _ ?side1 ?side2 A59.out).mono ?_
                 (case side1 => repeat (first | exact (Kd.C_below HR173_3.out HB.out) | (with_reducible refine Kd.C_alloc ?_ _) | (with_reducible refine Kd.C_drewN ?_ _) | (with_reducible refine Kd.C_drew ?_)))
                 (case side2 => exact HC173_3.out)
                 rintro e w' ⟨rfl, ⟨nd, rfl⟩⟩
                 refine ⟨_, rfl, ?_⟩
                 have p61 : 0 ≤ (x6_2 : Int) := odZ
                 have q61 : (x6_2 : Int) < ((((rd_T52 x173001_2 x4_1).f3).length : Int) : Int) := odZ
                 obtain ⟨go61, co61, eo61, gb61, gl61, cl61, HG61⟩ := Kd.R_form HL190_3.out (by omega)
                 (first | cases eo61 | (injection eo61 with ea_ en_ ec_; (first | subst ea_ | (injection ea_ with ea_; subst ea_)); subst ec_; clear en_))
                 have GB61 := amZ gb61
                 have GG61 := amZ HG61
                 clear gb61 gl61 HG61
                 obtain ⟨ce61, hcl61, hM61, hcc61, hfr61⟩ := Kd.R_elem HL190_3.out z57 (x6_2 : Int) p61 q61
                 obtain rfl := k57_openM hM61
                 have hx61_0 : World.cell? _ ⟨go61, (x6_2 : Int).toNat * 3, none⟩ = some (.int .i64 ((rd_T57 ((rd_T52 x173001_2 x4_1).f3) x6_2).f0)) := hcc61 0 _ rfl
                 have hx61_1 : World.cell? _ ⟨go61, (x6_2 : Int).toNat * 3 + 1, none⟩ = some (.int .i64 ((rd_T57 ((rd_T52 x173001_2 x4_1).f3) x6_2).f1)) := hcc61 1 _ rfl
                 have hx61_2 : World.cell? _ ⟨go61, (x6_2 : Int).toNat * 3 + 2, none⟩ = some (.int .i64 ((rd_T57 ((rd_T52 x173001_2 x4_1).f3) x6_2).f2)) := hcc61 2 _ rfl
                 have hf61_0 : World.frozen? _ ⟨go61, (x6_2 : Int).toNat * 3, none⟩ = false := hfr61 0
                 have hf61_1 : World.frozen? _ ⟨go61, (x6_2 : Int).toNat * 3 + 1, none⟩ = false := hfr61 1
                 have hf61_2 : World.frozen? _ ⟨go61, (x6_2 : Int).toNat * 3 + 2, none⟩ = false := hfr61 2
                 clear hcl61 hcc61 hfr61 hM61
                 replace p61 := eq_true p61
                 replace q61 := eq_true q61
                 have hq65 : (x4_1 : Int) < (x173001_2.length : Int) := (by have h_ : (x4_1 : Int) < ((x173001_2.length : Int) : Int) := odZ; first | exact h_ | (have e_ := (Kd.S_reads' HO_173001.out).1; omega) | simpa only [List.length_set, List.length_set] using h_)
                 obtain ⟨oki65, ce65, hcl65, hM65, hcc65, hok65, hbk65⟩ := Kd.S_borrow HO_173001.out z52 (x4_1 : Int) odZ hq65
                 obtain ⟨ve65_2, ve65_3, rfl, ge65_2, ge65_3⟩ := k52_openM hM65
                 have hv65 := hcc65 3 _ rfl
                 rw [add_field _ _ 3 (by omega)] at hv65
                 replace hv65 := Option.some.inj (hv65.symm.trans HX190_3.out)
                 subst hv65
                 clear hcc65 hcl65
                 replace ge65_3 := (show Kd.R k57 57 _ _ _ _ ((rd_T52 x173001_2 x4_1).f3) from ge65_3)
                 obtain ⟨cf65, hcl65, hN65, hcc65, hfr65⟩ := Kd.R_elem ge65_3 z57 (x6_2 : Int) odZ (by have h_ : (x6_2 : Int) < ((((rd_T52 x173001_2 x4_1).f3).length : Int) : Int) := odZ; first | exact h_ | (have e_ := (Kd.R_reads' HR190_3.out).1; omega) | simpa using h_)
                 obtain rfl := k57_openM hN65
                 have HP65 := Kd.R_seg ge65_3 (x6_2 : Int) odZ (by have h_ : (x6_2 : Int) < ((((rd_T52 x173001_2 x4_1).f3).length : Int) : Int) := odZ; first | exact h_ | (have e_ := (Kd.R_reads' HR190_3.out).1; omega) | simpa using h_) (seg := [.int .i64 t192]) (j := 2) hcl65 hcc65 (show 3 ≤ 3 from by decide) (x' := (⟨(rd_T57 ((rd_T52 x173001_2 x4_1).f3) x6_2).f0, (rd_T57 ((rd_T52 x173001_2 x4_1).f3) x6_2).f1, t192⟩ : S57)) (k57_mkM _ _ _ (⟨(rd_T57 ((rd_T52 x173001_2 x4_1).f3) x6_2).f0, (rd_T57 ((rd_T52 x173001_2 x4_1).f3) x6_2).f1, t192⟩ : S57)) (fun _ hk => hk)
                 clear hcl65 hcc65 hfr65 hN65
                 rw [← Ny193.out] at HP65
                 have HS65 := hbk65 HP65.2 (fun k_ e_ => by injection e_ with e_; subst e_; exact ge65_3.1 _ rfl) (x' := (⟨(rd_T52 x173001_2 x4_1).f0, (rd_T52 x173001_2 x4_1).f1, (rd_T52 x173001_2 x4_1).f2, y193⟩ : S52)) (k52_mkM _ _ _ (⟨(rd_T52 x173001_2 x4_1).f0, (rd_T52 x173001_2 x4_1).f1, (rd_T52 x173001_2 x4_1).f2, y193⟩ : S52) (Kd.R_over' (v := (.slice (some ⟨go61, 0, none⟩) ((rd_T52 x173001_2 x4_1).f3).length c190_3)) ge65_2 (Kd.R_typed ge65_3) (by decide) HP65.2) HP65.1)
                 rw [← Ny195.out] at HS65
                 have HQ65 := amZ HS65
                 clear HP65 HS65 hbk65 hok65
                 refine hK.out _ _ ⟨(zaY BK172.out 0).trans rfl, (zaY BK172.out 1).trans rfl, hHeld.2.2.1, hHeld.2.2.2.1, hHeld.2.2.2.2.1, hHeld.2.2.2.2.2.1, ((HB.out.cell (World.block_lt_of_cell? w _ hw191_0)).trans hw191_0), ((HB.out.cell (World.block_lt_of_cell? w _ hw191_1)).trans hw191_1), ((HB.out.cell (World.block_lt_of_cell? w _ hw191_2)).trans hw191_2)⟩ (fun hHeld => ?_)
                 clear hK K
                 refine norm_ (a' := ?_) ?_ ?_
                 rotate_left
                 ·
                  show Act.put _ (some 80) _ = _
                  simp only [Act.put, List.setIfInBounds_toArray, List.set_cons_zero, List.set_cons_succ, i64_w, i32_w]
                  rfl
                 refine pure_ (i := 14) (N := some 81) (v := ?_) (a' := ?_) #[true, true, true, true, true, true, true, true, true, true, true, true, true, true, true, false, false] rfl rfl (any_of HT_.out (by kernel_rfl)) (fun _ _ _ h => h) (Or.inl ⟨by rfl, ?_⟩) ?_ ?_
                 rotate_left
                 ·
                  intro w'
                  go_simp
                  with_reducible rfl
                 rotate_left
                 ·
                  simp only [Act.put, List.setIfInBounds_toArray, List.set_cons_zero, List.set_cons_succ, i64_w, i32_w]
                  rfl
                 refine pure_ (i := 15) (N := some 82) (v := ?_) (a' := ?_) #[true, true, true, true, true, true, true, true, true, true, true, true, true, true, true, true, false] rfl rfl (any_of HT_.out (by kernel_rfl)) (fun _ _ _ h => h) (Or.inl ⟨by rfl, ?_⟩) ?_ ?_
                 rotate_left
                 ·
                  intro w'
                  go_simp
                  with_reducible rfl
                 rotate_left
                 ·
                  simp only [Act.put, List.setIfInBounds_toArray, List.set_cons_zero, List.set_cons_succ, i64_w, i32_w]
                  rfl
                 refine last_ (i := 16) (N := none) #[true, true, true, true, true, true, true, true, true, true, true, true, true, true, true, true, true] rfl rfl (one_of HT_.out (by kernel_rfl)) (by decide) (fun K hK => ?_)
                 refine skip_ (w1 := ?_) (by rfl) rfl ?_ ?_
                 rotate_left
                 ·
                  go_simp
                  rfl
                 refine hK.out _ _ ?_
                 clear hK K
                 refine done_ (done_of HT_.out (by kernel_rfl)) ?_
                 try go_wp2
                 go_roundg k2
                 case measure => have := HK1.out; have := HK2.out; omega
                 case rel => exact ⟨(wrap64 (x6_2 + 1)), (y195), (.slice (some ad190) x173001_2.length co64), (by first | rfl | (simp; done) | (simp [*]; done)), H', ⟨by have := HK1.out; have := HK2.out; omega⟩, ⟨by (with_reducible repeat (first | apply Kd.S_alloc | apply Kd.S_drewN | apply Kd.S_drew)); exact Kd.S_mono (Kd.S_far (p := ⟨go61, (x6_2 : Int).toNat * 3 + 2, none⟩) (Kd.S_types HO_173000.out GG61.out (by decide)) (fun _ hk => hk.2) (.int .i64 t192)) (fun _ hk => trivial)⟩, ⟨by (with_reducible repeat (first | apply Kd.S_alloc | apply Kd.S_drewN | apply Kd.S_drew)); exact HQ65.out⟩, ⟨by (with_reducible repeat (first | refine zdY ?_ _ | refine zeY ?_ | refine zcY ?_ _)); refine zjY ?_ (by have h_ := Kd.R_ne HL190_3.out BK163.out (by decide); intro e_; exact h_ (by rw [e_]; rfl)) _; (with_reducible repeat (first | refine zdY ?_ _ | refine zeY ?_ | refine zcY ?_ _)); exact BK163.out⟩, ⟨by (with_reducible repeat (first | refine zdY ?_ _ | refine zeY ?_ | refine zcY ?_ _)); refine zjY ?_ (by have h_ := Kd.R_ne HL190_3.out BK164.out (by decide); intro e_; exact h_ (by rw [e_]; rfl)) _; (with_reducible repeat (first | refine zdY ?_ _ | refine zeY ?_ | refine zcY ?_ _)); exact BK164.out⟩, ⟨by (with_reducible repeat (first | refine zdY ?_ _ | refine zeY ?_ | refine zcY ?_ _)); refine zjY ?_ (by have h_ := Kd.R_ne HL190_3.out BK172.out (by decide); intro e_; exact h_ (by rw [e_]; rfl)) _; (with_reducible repeat (first | refine zdY ?_ _ | refine zeY ?_ | refine zcY ?_ _)); exact BK172.out⟩, ⟨by repeat (first | (with_reducible first | exact HB.out | apply znY | apply pw_below_drewN | apply below_drew1 | refine below_set ?_ GB61.out | refine below_set ?_ GE163.out | refine below_set ?_ GE164.out | refine below_set ?_ GE172.out) | exact HB.out)⟩⟩
                ·
                 rw [if_neg c60] at H
                 exact absurd H (by simp)
               ·
                rw [if_neg c58] at H
                exact absurd H (by simp)
              ·
               rw [if_neg c57] at H
               exact absurd H (by simp)
             ·
              rw [if_neg c56] at H
              have c56b0 : ((bt t175 1) == 116) = false := beq_eq_false_iff_ne.mpr c56
              have c56b1 : ((bt t175 1) != 116) = true := bne_iff_ne.mpr c56
              have H' := amZ H
              clear H
              have p174 : 0 ≤ (x6_2 : Int) := odZ
              have q174 : x6_2 < (((rd_T52 l0_1 x4_1).f3).length : Int) := odZ
              obtain ⟨ad174, e174, hx174_0, hx174_1, hx174_2⟩ := at_T57 HR173_3.out x6_2 p174 q174
              cases e174
              replace hx174_0 := (HB.out.cell (World.block_lt_of_cell? w _ hx174_0)).trans hx174_0
              replace hx174_1 := (HB.out.cell (World.block_lt_of_cell? w _ hx174_1)).trans hx174_1
              replace hx174_2 := (HB.out.cell (World.block_lt_of_cell? w _ hx174_2)).trans hx174_2
              replace p174 := eq_true p174
              replace q174 := eq_true q174
              go_wp2_with (first | ((with_reducible refine gate_callee (f := 44) rfl ?_); refine goesL_ (some 41) rfl rfl Try.func44 (by kernel_rfl) rfl #[.int .i64 ((rd_T57 ((rd_T52 l0_1 x4_1).f3) x6_2).f0)] rfl (by (try simp only [List.map_toArray, List.map_cons, List.map_nil]); first | done | rfl | (simp only [List.length_drop, List.length_take]; rfl)) ?_; (with_reducible refine (spec_l4row.calls ((rd_T57 ((rd_T52 l0_1 x4_1).f3) x6_2).f0) t175 t176 t177 _ A25.out).mono ?_); rintro e w67 ⟨rfl, hb⟩; refine ⟨_, rfl, ?_⟩; have n0_ := amZ (Kd.S_below (by (with_reducible repeat (first | apply Kd.S_alloc | apply Kd.S_drewN | apply Kd.S_drew)); exact HO_173000.out) hb); have n1_ := amZ (Kd.S_below (by (with_reducible repeat (first | apply Kd.S_alloc | apply Kd.S_drewN | apply Kd.S_drew)); exact HO_173001.out) hb); have n2_ := amZ (ziY (g := gb163) (o := .cells #[.slice A0_0 l0_0.length c0_0, .slice (some ad173) l0_1.length c0_1] 31 (0, 0)) bkZ hb); have n3_ := amZ (ziY (g := gb164) (o := .cells #[.slice none 0 0, .slice none 0 0] 31 (0, 0)) bkZ hb); have n4_ := amZ (ziY (g := gb172) (o := .cells #[.slice Ao13 t166.length co13, u173001] 31 (0, 0)) bkZ hb); have n5_ := amZ (zfY bwZ hb); clear HO_173000; clear HO_173001; clear BK163; clear BK164; clear BK172; clear HB; have HO_173000 := n0_; have HO_173001 := n1_; have BK163 := n2_; have BK164 := n3_; have BK172 := n4_; have HB := n5_; clear n0_ n1_ n2_ n3_ n4_ n5_; (try clear hb); (try clear hb2); (try clear hk); (try clear hi); have p27 : 0 ≤ (0 : Int) := (by omega); have q27 : 0 < t175.size := (by have : (0 : Int) < (t175.size : Int) := odZ; omega); have hx27 : ∀ h : 0 < t175.size, ((t175[0]'h).toNat : Int) = bt t175 0 := bt_at t175 0; clear p27; have qi27 : (0 < (t175.size : Int)) = True := eq_true odZ; replace q27 := eq_true q27; have p55 : 0 ≤ (1 : Int) := (by omega); have q55 : 1 < t175.size := (by have : (1 : Int) < (t175.size : Int) := odZ; omega); have hx55 : ∀ h : 1 < t175.size, ((t175[1]'h).toNat : Int) = bt t175 1 := bt_at t175 1; clear p55; have qi55 : (1 < (t175.size : Int)) = True := eq_true odZ; replace q55 := eq_true q55))
              go_roundg k2
              case measure => have := HK1.out; have := HK2.out; omega
              case rel => exact ⟨(wrap64 (x6_2 + 1)), (x173001_2), (u173001), (by first | rfl | (simp; done) | (simp [*]; done)), H', ⟨by have := HK1.out; have := HK2.out; omega⟩, ⟨by (with_reducible repeat (first | apply Kd.S_alloc | apply Kd.S_drewN | apply Kd.S_drew)); exact HO_173000.out⟩, ⟨by (with_reducible repeat (first | apply Kd.S_alloc | apply Kd.S_drewN | apply Kd.S_drew)); exact HO_173001.out⟩, ⟨by (with_reducible repeat (first | refine zdY ?_ _ | refine zeY ?_ | refine zcY ?_ _)); exact BK163.out⟩, ⟨by (with_reducible repeat (first | refine zdY ?_ _ | refine zeY ?_ | refine zcY ?_ _)); exact BK164.out⟩, ⟨by (with_reducible repeat (first | refine zdY ?_ _ | refine zeY ?_ | refine zcY ?_ _)); exact BK172.out⟩, ⟨bwZ⟩⟩
            ·
             rw [if_neg c54] at H
             exact absurd H (by simp)
          ·
           rw [if_neg c26] at H
           exact absurd H (by simp)
         ·
          rw [if_neg c24] at H
          exact absurd H (by simp)
        ·
         rw [if_neg c23] at H
         have c23b0 : decide (x6_2 < (((rd_T52 l0_1 x4_1).f3).length : Int)) = false := decide_eq_false c23
         clear c23
         have H' := amZ H
         clear H
         go_wp2
         go_roundg k2
         case measure => have := HK1.out; have := HK2.out; omega
         case rel => exact ⟨(wrap64 (x4_1 + 1)), (x173001_2), (u173001), (by first | rfl | (simp; done) | (simp [*]; done)), H', ⟨by have := HK1.out; have := HK2.out; omega⟩, ⟨by (with_reducible repeat (first | apply Kd.S_alloc | apply Kd.S_drewN | apply Kd.S_drew)); exact HO_173000.out⟩, ⟨by (with_reducible repeat (first | apply Kd.S_alloc | apply Kd.S_drewN | apply Kd.S_drew)); exact HO_173001.out⟩, ⟨by (with_reducible repeat (first | refine zdY ?_ _ | refine zeY ?_ | refine zcY ?_ _)); exact BK163.out⟩, ⟨by (with_reducible repeat (first | refine zdY ?_ _ | refine zeY ?_ | refine zcY ?_ _)); exact BK164.out⟩, ⟨by (with_reducible repeat (first | refine zdY ?_ _ | refine zeY ?_ | refine zcY ?_ _)); exact BK172.out⟩, ⟨bwZ⟩⟩
     ·
      rw [if_neg c19] at H
      exact absurd H (by simp)
    ·
     rw [if_neg c18] at H
     have c18b0 : decide (x4_1 < (l0_1.length : Int)) = false := decide_eq_false c18
     clear c18
     simp only [Option.some.injEq, Prod.mk.injEq] at H
     obtain ⟨rfl, rfl⟩ := H
     have hnb68 := NB163_164.out
     have hnc68 := NB164_163.out
     have hnb69 := NB163_172.out
     have hnc69 := NB172_163.out
     have hcz70_0 : wr.cell? ⟨gb163, 0, none⟩ = some (.slice A0_0 l0_0.length c0_0) := (zaY BK163.out 0).trans rfl
     have hcz70_1 : wr.cell? ⟨gb163, 1, none⟩ = some (.slice A0_1 l0_1.length c0_1) := (zaY BK163.out 1).trans rfl
     have hfz70_0 := zbY BK163.out 0
     have hfz70_1 := zbY BK163.out 1
     have hnb71 := NB172_164.out
     have hnc71 := NB164_172.out
     have hcz72_0 : wr.cell? ⟨gb172, 0, none⟩ = some (.slice Ao13 t166.length co13) := (zaY BK172.out 0).trans rfl
     have hcz72_1 : wr.cell? ⟨gb172, 1, none⟩ = some (u173001) := (zaY BK172.out 1).trans rfl
     have hfz72_0 := zbY BK172.out 0
     have hfz72_1 := zbY BK172.out 1
     have hcz73_0 : wr.cell? ⟨gb164, 0, none⟩ = some (.slice none 0 0) := (zaY BK164.out 0).trans rfl
     have hcz73_1 : wr.cell? ⟨gb164, 1, none⟩ = some (.slice none 0 0) := (zaY BK164.out 1).trans rfl
     have hfz73_0 := zbY BK164.out 0
     have hfz73_1 := zbY BK164.out 1
     obtain ⟨Ao74, co74, eo74⟩ := Kd.S_slice HO_173001.out
     subst eo74
     go_wp2
     refine bodyPost_ret (results_cell_row rfl _ _ gb164 31 #[.slice Ao13 t166.length co13, .slice Ao74 x173001_1.length co74] (0, 0) _ rfl (by (with_reducible repeat (first | refine zdY ?_ _ | refine zeY ?_ | refine zcY ?_ _)); refine blk_put (cs := #[.slice Ao13 t166.length co13, .slice none 0 0]) ?_ 1 _ rfl; (with_reducible repeat (first | refine zdY ?_ _ | refine zeY ?_ | refine zcY ?_ _)); refine blk_put (cs := #[.slice none 0 0, .slice none 0 0]) ?_ 0 _ rfl; (with_reducible repeat (first | refine zdY ?_ _ | refine zeY ?_ | refine zcY ?_ _)); exact BK164.out) Try.underlying31 rfl (by kernel_rfl)) rfl ?_
     exact ⟨_, _, by first | rfl | (simp [zmY, zlY] <;> rfl) | (simp [*, zmY, zlY] <;> rfl), by (with_reducible repeat (first | apply Kd.S_alloc | apply Kd.S_drewN | apply Kd.S_drew)); exact Kd.S_mono (Kd.S_far (p := ⟨gb164, 1, none⟩) (Kd.S_far (p := ⟨gb164, 0, none⟩) (Kd.S_types HO_173000.out BK164.out (by decide)) (fun _ hk => hk.2) (.slice Ao13 t166.length co13)) (fun _ hk => hk.2) (.slice Ao74 x173001_1.length co74)) (fun _ hk => trivial), by (with_reducible repeat (first | apply Kd.S_alloc | apply Kd.S_drewN | apply Kd.S_drew)); exact Kd.S_mono (Kd.S_far (p := ⟨gb164, 1, none⟩) (Kd.S_far (p := ⟨gb164, 0, none⟩) (Kd.S_types HO_173001.out BK164.out (by decide)) (fun _ hk => hk.2) (.slice Ao13 t166.length co13)) (fun _ hk => hk.2) (.slice Ao74 x173001_1.length co74)) (fun _ hk => trivial), bwZ⟩
 ·
  replace c3 := Bool.eq_false_iff.mpr c3
  subst c3
  have H1 : (some (([] : List (S48)), ([] : List (S52)))) = some (r1, r2) := by rw [if_neg (show ¬ (false = true) by decide)] at H; exact H
  clear H
  have H := H1
  clear H1
  simp only [Option.some.injEq, Prod.mk.injEq] at H
  obtain ⟨rfl, rfl⟩ := H
  go_enter Try.func18, Try.ntmps18
  go_wp2_with (first | ((with_reducible refine gate_dst (N := 1) rfl ?_); refine box_event ?hg (N := 1) ?hd (cs := #[.slice A0_0 l0_0.length c0_0, .slice A0_1 l0_1.length c0_1]) (t := 31) ?hr ?_; (case hd => rfl); (case hg => rfl); (case hr => first | (go_simp; done) | (go_simp; rfl)); intro gb163 hg w75 hbox hb; have n0_ := amZ (zfY bwZ hb); have n1_ := amZ (hbox); have n2_ := amZ ((by rw [hg]; exact (zhY bwZ) : w.heap.size ≤ gb163)); have n3_ := amZ ((by rw [hg]; exact (zhY bwZ) : w.heap.size ≤ gb163)); clear HB; have HB := n0_; have BK163 := n1_; have GW163 := n2_; have GE163 := n3_; clear n0_ n1_ n2_ n3_; clear hb hbox hg) | ((with_reducible refine gate_dst (N := 2) rfl ?_); refine box_event ?hg (N := 2) ?hd (cs := #[.slice none 0 0, .slice none 0 0]) (t := 31) ?hr ?_; (case hd => rfl); (case hg => rfl); (case hr => first | (go_simp; done) | (go_simp; rfl)); intro gb164 hg w76 hbox hb; have n0_ := amZ (ziY (g := gb163) (o := .cells #[.slice A0_0 l0_0.length c0_0, .slice A0_1 l0_1.length c0_1] 31 (0, 0)) bkZ hb); have n1_ := amZ (zfY bwZ hb); have n2_ := amZ (hbox); have n3_ := amZ ((by rw [hg]; exact (zhY bwZ) : w.heap.size ≤ gb164)); have n4_ := amZ ((by rw [hg]; exact (zhY bwZ) : w.heap.size ≤ gb164)); have n5_ := amZ ((by rw [hg]; exact Nat.ne_of_lt (zkY (g := gb163) (o := .cells #[.slice A0_0 l0_0.length c0_0, .slice A0_1 l0_1.length c0_1] 31 (0, 0)) bkZ) : gb163 ≠ gb164)); have n6_ := amZ ((by rw [hg]; exact Nat.ne_of_gt (zkY (g := gb163) (o := .cells #[.slice A0_0 l0_0.length c0_0, .slice A0_1 l0_1.length c0_1] 31 (0, 0)) bkZ) : gb164 ≠ gb163)); clear BK163; clear HB; have BK163 := n0_; have HB := n1_; have BK164 := n2_; have GW164 := n3_; have GE164 := n4_; have NB163_164 := n5_; have NB164_163 := n6_; clear n0_ n1_ n2_ n3_ n4_ n5_ n6_; clear hb hbox hg; have hnb77 := NB163_164.out; have hnc77 := NB164_163.out; have hcz78_0 : w76.cell? ⟨gb163, 0, none⟩ = some (.slice A0_0 l0_0.length c0_0) := (zaY BK163.out 0).trans rfl; have hcz78_1 : w76.cell? ⟨gb163, 1, none⟩ = some (.slice A0_1 l0_1.length c0_1) := (zaY BK163.out 1).trans rfl; have hfz78_0 := zbY BK163.out 0; have hfz78_1 := zbY BK163.out 1) | ((with_reducible refine gate_callee (f := 8) rfl ?_); refine goesL_ (some 11) rfl rfl Try.func8 (by kernel_rfl) rfl #[.agg #[.slice A0_0 l0_0.length c0_0, .slice A0_1 l0_1.length c0_1]] rfl (by (try simp only [List.map_toArray, List.map_cons, List.map_nil]); first | done | rfl | (simp only [List.length_drop, List.length_take]; rfl)) ?_; (with_reducible refine (spec_Check.calls k _ _ l0_0 _ _ l0_1 false _ ?side1 ?side2 ?side3 ?side4 A2.out).mono ?_); (case side1 => repeat (first | exact (Kd.C_below HR0_0.out HB.out) | (with_reducible refine Kd.C_alloc ?_ _) | (with_reducible refine Kd.C_drewN ?_ _) | (with_reducible refine Kd.C_drew ?_))); (case side2 => exact HC0_0.out); (case side3 => repeat (first | exact (Kd.C_below HR0_1.out HB.out) | (with_reducible refine Kd.C_alloc ?_ _) | (with_reducible refine Kd.C_drewN ?_ _) | (with_reducible refine Kd.C_drew ?_))); (case side4 => exact HC0_1.out); rintro e w79 ⟨rfl, hb⟩; refine ⟨_, rfl, ?_⟩; have n0_ := amZ (ziY (g := gb163) (o := .cells #[.slice A0_0 l0_0.length c0_0, .slice A0_1 l0_1.length c0_1] 31 (0, 0)) bkZ hb); have n1_ := amZ (ziY (g := gb164) (o := .cells #[.slice none 0 0, .slice none 0 0] 31 (0, 0)) bkZ hb); have n2_ := amZ (zfY bwZ hb); clear BK163; clear BK164; clear HB; have BK163 := n0_; have BK164 := n1_; have HB := n2_; clear n0_ n1_ n2_; (try clear hb); (try clear hb2); (try clear hk); (try clear hi); have hcz80_0 : w79.cell? ⟨gb164, 0, none⟩ = some (.slice none 0 0) := (zaY BK164.out 0).trans rfl; have hcz80_1 : w79.cell? ⟨gb164, 1, none⟩ = some (.slice none 0 0) := (zaY BK164.out 1).trans rfl; have hfz80_0 := zbY BK164.out 0; have hfz80_1 := zbY BK164.out 1))
  refine bodyPost_ret (results_cell_row rfl _ _ gb164 31 #[.slice none 0 0, .slice none 0 0] (0, 0) _ rfl (by (with_reducible repeat (first | refine zdY ?_ _ | refine zeY ?_ | refine zcY ?_ _)); refine blk_put (cs := #[.slice none 0 0, .slice none 0 0]) ?_ 1 _ rfl; (with_reducible repeat (first | refine zdY ?_ _ | refine zeY ?_ | refine zcY ?_ _)); refine blk_put (cs := #[.slice none 0 0, .slice none 0 0]) ?_ 0 _ rfl; (with_reducible repeat (first | refine zdY ?_ _ | refine zeY ?_ | refine zcY ?_ _)); exact BK164.out) Try.underlying31 rfl (by kernel_rfl)) rfl ?_
  exact ⟨_, _, by first | rfl | (simp [zmY, zlY] <;> rfl) | (simp [*, zmY, zlY] <;> rfl), by first | exact Kd.S_nil _ _ _ _ _ | exact Kd.N_nil _ _ _ _ _ | exact Kd.V_nil _ _ _ _ _ | exact Kd.Q_nil _ _ _ _ _ | exact Kd.R_nil _ _ _ _ _, by first | exact Kd.S_nil _ _ _ _ _ | exact Kd.N_nil _ _ _ _ _ | exact Kd.V_nil _ _ _ _ _ | exact Kd.Q_nil _ _ _ _ _ | exact Kd.R_nil _ _ _ _ _, bwZ⟩
end Go.Proofs.Ytmmpiojekgfdjaa.C
