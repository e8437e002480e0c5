/- A part of the proof. -/
import Derived.Test.YtogffkekgfkhkaaZvCx0
import Derived.Test.YtogffkekgfkhkaaZvCx2
import Derived.Test.YtogffkekgfkhkaaZvCx4
import Derived.Test.YtogffkekgfkhkaaZvCx5
import Derived.Test.YtogffkekgfkhkaaZvK
namespace Go.Proofs.Ytogffkekgfkhkaa.C
open Go.RowKit Go.Proofs.YtogffkekgfkhkaaW.PrintWords Go.Proofs.YtogffkekgfkhkaaW.PrintLast Go.Proofs.YtogffkekgfkhkaaW.PrintMore
set_option linter.unusedVariables false
set_option linter.unusedSimpArgs false
mutual
def spec_l3good.j0 : Nat → List (S34) → Int → Bool → ByteArray → Bool → Int → Int → List Int → List (List Int) → Int → Option (Bool)
 | 0, _, _, _, _, _, _, _, _, _, _ => none
 | k + 1, x0, x1, x2, x8, x42, x150000, x150001, x150002, x150003, x150004 => if x42 = true then (some false) else (if x150000 = 8 then (spec_l3good.j1 k x0 x1 x2 x8 (!x2) x150000 x150001 x150002 x150003 x150004) else (spec_l3good.j1 k x0 x1 x2 x8 false x150000 x150001 x150002 x150003 x150004))
def spec_l3good.j1 : Nat → List (S34) → Int → Bool → ByteArray → Bool → Int → Int → List Int → List (List Int) → Int → Option (Bool)
 | 0, _, _, _, _, _, _, _, _, _, _ => none
 | k + 1, x0, x1, x2, x8, x49, x150000, x150001, x150002, x150003, x150004 => if x49 = true then (some false) else (if x150000 = 4 then (spec_l3good.j2 k x0 x1 x8 x2 true x150000 x150001 x150002 x150003 x150004) else (if x150000 = 5 then (spec_l3good.j2 k x0 x1 x8 x2 true x150000 x150001 x150002 x150003 x150004) else (spec_l3good.j2 k x0 x1 x8 x2 (x150000 == 7) x150000 x150001 x150002 x150003 x150004)))
def spec_l3good.j2 : Nat → List (S34) → Int → ByteArray → Bool → Bool → Int → Int → List Int → List (List Int) → Int → Option (Bool)
 | 0, _, _, _, _, _, _, _, _, _, _ => none
 | k + 1, x0, x1, x8, x9, x63, x150000, x150001, x150002, x150003, x150004 => if x63 = true then (spec_l3good.j3 k x0 x1 x8 true x150000 x150001 x150002 x150003 x150004) else (spec_l3good.j3 k x0 x1 x8 x9 x150000 x150001 x150002 x150003 x150004)
def spec_l3good.j3 : Nat → List (S34) → Int → ByteArray → Bool → Int → Int → List Int → List (List Int) → Int → Option (Bool)
 | 0, _, _, _, _, _, _, _, _, _ => none
 | k + 1, x0, x1, x8, x9, x150000, x150001, x150002, x150003, x150004 => if x150000 = 19 then (spec_l3good.j4 k x0 x1 x8 false x150000 x150001 x150002 x150003 x150004) else (spec_l3good.j4 k x0 x1 x8 x9 x150000 x150001 x150002 x150003 x150004)
def spec_l3good.j4 : Nat → List (S34) → Int → ByteArray → Bool → Int → Int → List Int → List (List Int) → Int → Option (Bool)
 | 0, _, _, _, _, _, _, _, _, _ => none
 | k + 1, x0, x1, x8, x9, x150000, x150001, x150002, x150003, x150004 => (spec_l3kids.f k x0 x1).bind fun t152 => (spec_l3good.l0 k x0 x8 x9 t152 0 x150000 x150001 x150002 x150003 x150004)
def spec_l3good.l0 : Nat → List (S34) → ByteArray → Bool → List Int → Int → Int → Int → List Int → List (List Int) → Int → Option (Bool)
 | 0, _, _, _, _, _, _, _, _, _, _ => none
 | k + 1, x0, x8, x9, x10, x11, x150000, x150001, x150002, x150003, x150004 => if x11 < (x10.length : Int) then (if 0 ≤ x11 then (if 0 ≤ (rd x10 x11) then (if (rd x10 x11) < (x0.length : Int) then (if x11 < (x8.size : Int) then ((spec_l3fits.f (bt x8 x11) ((rd_T34 x0 (rd x10 x11)).f0)).bind fun t157 => (if t157 = true then ((spec_l3good.f k x0 (rd x10 x11) x9).bind fun t159 => (spec_l3good.j6 k x0 x8 x9 x10 x11 ((rd_T34 x0 (rd x10 x11)).f0) (!t159) x150000 x150001 x150002 x150003 x150004)) else (spec_l3good.j6 k x0 x8 x9 x10 x11 ((rd_T34 x0 (rd x10 x11)).f0) true x150000 x150001 x150002 x150003 x150004))) else (none)) else (none)) else (none)) else (none)) else (some true)
def spec_l3good.j6 : Nat → List (S34) → ByteArray → Bool → List Int → Int → Int → Bool → Int → Int → List Int → List (List Int) → Int → Option (Bool)
 | 0, _, _, _, _, _, _, _, _, _, _, _, _ => none
 | k + 1, x0, x8, x9, x10, x11, x12, x99, x150000, x150001, x150002, x150003, x150004 => if x99 = true then (some false) else (if x150000 = 0 then (if x12 = 9 then (if x11 < (wrap64 ((x10.length : Int) - 1)) then (some false) else (spec_l3good.l0 k x0 x8 x9 x10 (wrap64 (x11 + 1)) x150000 x150001 x150002 x150003 x150004)) else (if x12 = 8 then (if x11 < (wrap64 ((x10.length : Int) - 1)) then (some false) else (spec_l3good.l0 k x0 x8 x9 x10 (wrap64 (x11 + 1)) x150000 x150001 x150002 x150003 x150004)) else (spec_l3good.l0 k x0 x8 x9 x10 (wrap64 (x11 + 1)) x150000 x150001 x150002 x150003 x150004))) else (spec_l3good.l0 k x0 x8 x9 x10 (wrap64 (x11 + 1)) x150000 x150001 x150002 x150003 x150004))
def spec_l3good.f : Nat → List (S34) → Int → Bool → Option (Bool)
 | 0, _, _, _ => none
 | k + 1, l0, a1, a2 => if 0 ≤ a1 then (if a1 < (l0.length : Int) then ((spec_l3shape.f k ((rd_T34 l0 a1).f0) ((rd_T34 l0 a1).f1) ((rd_T34 l0 a1).f2) ((rd_T34 l0 a1).f3) ((rd_T34 l0 a1).f4)).bind fun t150 => (if ((rd_T34 l0 a1).f0) < 0 then (spec_l3good.j0 k l0 a1 a2 t150 true ((rd_T34 l0 a1).f0) ((rd_T34 l0 a1).f1) ((rd_T34 l0 a1).f2) ((rd_T34 l0 a1).f3) ((rd_T34 l0 a1).f4)) else (if ((rd_T34 l0 a1).f0) > 26 then (spec_l3good.j0 k l0 a1 a2 t150 true ((rd_T34 l0 a1).f0) ((rd_T34 l0 a1).f1) ((rd_T34 l0 a1).f2) ((rd_T34 l0 a1).f3) ((rd_T34 l0 a1).f4)) else ((spec_l3fields.f k ((rd_T34 l0 a1).f0) ((rd_T34 l0 a1).f1) ((rd_T34 l0 a1).f2) ((rd_T34 l0 a1).f3) ((rd_T34 l0 a1).f4)).bind fun t151 => (if t151 = true then (if (t150.size : Int) = ((rd_T34 l0 a1).f4) then (spec_l3good.j0 k l0 a1 a2 t150 (t150.toList == ([63] : List UInt8)) ((rd_T34 l0 a1).f0) ((rd_T34 l0 a1).f1) ((rd_T34 l0 a1).f2) ((rd_T34 l0 a1).f3) ((rd_T34 l0 a1).f4)) else (spec_l3good.j0 k l0 a1 a2 t150 true ((rd_T34 l0 a1).f0) ((rd_T34 l0 a1).f1) ((rd_T34 l0 a1).f2) ((rd_T34 l0 a1).f3) ((rd_T34 l0 a1).f4))) else (spec_l3good.j0 k l0 a1 a2 t150 true ((rd_T34 l0 a1).f0) ((rd_T34 l0 a1).f1) ((rd_T34 l0 a1).f2) ((rd_T34 l0 a1).f3) ((rd_T34 l0 a1).f4))))))) else (none)) else (none)
end
set_option maxHeartbeats 8000000 in
set_option maxRecDepth 100000 in
theorem spec_l3good.calls (k : Nat) : ∀ (A0 : Option Addr) (c0 : Nat) (l0 : List (S34)) (a1 : Int) (a2 : Bool) (r : Bool) (w : World) (hr0 : Kd.C k34 w A0 l0.length l0) (hc0 : l0.length ≤ c0) (h : spec_l3good.f k l0 a1 a2 = some r),
  Calls Try.prog 11 #[.slice A0 l0.length c0, .int .i64 a1, .bool a2] w fun e w' => e = .returned (.bool r) ∧ Below w.heap.size w w' := by
 induction k using Nat.strongRecOn with
 | _ k ih =>
 intro A0 c0 l0 a1 a2 r w hr0 hc0 h
 cases k with
 | zero => exact absurd h (by simp [spec_l3good.f])
 | succ k =>
 simp only [spec_l3good.f] at h
 have hu34 := Try.underlying34
 have HR0 := Aside0.mk hr0
 have HC0 := Aside0.mk hc0
 clear hr0 hc0
 have HB := Aside0.mk (Below.refl w.heap.size w)
 have H : (if 0 ≤ a1 then (if a1 < (l0.length : Int) then ((spec_l3shape.f k ((rd_T34 l0 a1).f0) ((rd_T34 l0 a1).f1) ((rd_T34 l0 a1).f2) ((rd_T34 l0 a1).f3) ((rd_T34 l0 a1).f4)).bind fun t150 => (if ((rd_T34 l0 a1).f0) < 0 then (spec_l3good.j0 k l0 a1 a2 t150 true ((rd_T34 l0 a1).f0) ((rd_T34 l0 a1).f1) ((rd_T34 l0 a1).f2) ((rd_T34 l0 a1).f3) ((rd_T34 l0 a1).f4)) else (if ((rd_T34 l0 a1).f0) > 26 then (spec_l3good.j0 k l0 a1 a2 t150 true ((rd_T34 l0 a1).f0) ((rd_T34 l0 a1).f1) ((rd_T34 l0 a1).f2) ((rd_T34 l0 a1).f3) ((rd_T34 l0 a1).f4)) else ((spec_l3fields.f k ((rd_T34 l0 a1).f0) ((rd_T34 l0 a1).f1) ((rd_T34 l0 a1).f2) ((rd_T34 l0 a1).f3) ((rd_T34 l0 a1).f4)).bind fun t151 => (if t151 = true then (if (t150.size : Int) = ((rd_T34 l0 a1).f4) then (spec_l3good.j0 k l0 a1 a2 t150 (t150.toList == ([63] : List UInt8)) ((rd_T34 l0 a1).f0) ((rd_T34 l0 a1).f1) ((rd_T34 l0 a1).f2) ((rd_T34 l0 a1).f3) ((rd_T34 l0 a1).f4)) else (spec_l3good.j0 k l0 a1 a2 t150 true ((rd_T34 l0 a1).f0) ((rd_T34 l0 a1).f1) ((rd_T34 l0 a1).f2) ((rd_T34 l0 a1).f3) ((rd_T34 l0 a1).f4))) else (spec_l3good.j0 k l0 a1 a2 t150 true ((rd_T34 l0 a1).f0) ((rd_T34 l0 a1).f1) ((rd_T34 l0 a1).f2) ((rd_T34 l0 a1).f3) ((rd_T34 l0 a1).f4))))))) else (none)) else (none)) = some r := h
 clear h
 by_cases c4 : 0 ≤ a1
 ·
  rw [if_pos c4] at H
  have c4b0 : decide (0 ≤ a1) = true := decide_eq_true c4
  clear c4
  by_cases c5 : a1 < (l0.length : Int)
  ·
   rw [if_pos c5] at H
   have c5b0 : decide (a1 < (l0.length : Int)) = true := decide_eq_true c5
   clear c5
   replace H := Option.bind_eq_some_iff.mp H
   obtain ⟨t150, A60, H⟩ := H
   replace H : (if ((rd_T34 l0 a1).f0) < 0 then (spec_l3good.j0 k l0 a1 a2 t150 true ((rd_T34 l0 a1).f0) ((rd_T34 l0 a1).f1) ((rd_T34 l0 a1).f2) ((rd_T34 l0 a1).f3) ((rd_T34 l0 a1).f4)) else (if ((rd_T34 l0 a1).f0) > 26 then (spec_l3good.j0 k l0 a1 a2 t150 true ((rd_T34 l0 a1).f0) ((rd_T34 l0 a1).f1) ((rd_T34 l0 a1).f2) ((rd_T34 l0 a1).f3) ((rd_T34 l0 a1).f4)) else ((spec_l3fields.f k ((rd_T34 l0 a1).f0) ((rd_T34 l0 a1).f1) ((rd_T34 l0 a1).f2) ((rd_T34 l0 a1).f3) ((rd_T34 l0 a1).f4)).bind fun t151 => (if t151 = true then (if (t150.size : Int) = ((rd_T34 l0 a1).f4) then (spec_l3good.j0 k l0 a1 a2 t150 (t150.toList == ([63] : List UInt8)) ((rd_T34 l0 a1).f0) ((rd_T34 l0 a1).f1) ((rd_T34 l0 a1).f2) ((rd_T34 l0 a1).f3) ((rd_T34 l0 a1).f4)) else (spec_l3good.j0 k l0 a1 a2 t150 true ((rd_T34 l0 a1).f0) ((rd_T34 l0 a1).f1) ((rd_T34 l0 a1).f2) ((rd_T34 l0 a1).f3) ((rd_T34 l0 a1).f4))) else (spec_l3good.j0 k l0 a1 a2 t150 true ((rd_T34 l0 a1).f0) ((rd_T34 l0 a1).f1) ((rd_T34 l0 a1).f2) ((rd_T34 l0 a1).f3) ((rd_T34 l0 a1).f4)))))) = some r := H
   have A6 := Aside0.mk A60
   clear A60
   have HC7 := Aside0.mk H
   clear H
   have p148 : 0 ≤ (a1 : Int) := odZ
   have q148 : a1 < (l0.length : Int) := odZ
   obtain ⟨ad148, A148_2, c148_2, A148_3, c148_3, e148, hx148_0, hx148_1, hx148_2, hx148_3, hx148_4, hl148_2, hi148_2, hl148_3, hi148_3⟩ := at_T34 HR0.out a1 p148 q148
   cases e148
   have HR148_2 := Aside0.mk hi148_2
   have HC148_2 := Aside0.mk hl148_2
   clear hi148_2 hl148_2
   have HR148_3 := Aside0.mk hi148_3
   have HC148_3 := Aside0.mk hl148_3
   clear hi148_3 hl148_3
   replace p148 := eq_true p148
   replace q148 := eq_true q148
   go_enter Try.func11, Try.ntmps11
   go_upto_region 3 with (first | ((with_reducible refine gate_dst (N := 7) rfl ?_); (try (refine gate_guard (by rfl) ?_; dsimp only)); refine box_event ?hg (N := 7) ?hd (cs := #[.int .i64 0, .int .i64 0, .slice none 0 0, .slice none 0 0, .int .i64 0]) (t := 34) ?hr ?_; (case hd => rfl); (case hg => rfl); (case hr => first | (go_simp; done) | (go_simp; rfl)); intro gb149 hg w8 hbox hb; have n0_ := Aside0.mk (below_step bwZ hb); have n1_ := Aside0.mk (hbox); have n2_ := Aside0.mk ((by rw [hg]; exact (below_size bwZ) : w.heap.size ≤ gb149)); have n3_ := Aside0.mk ((by rw [hg]; exact (below_size bwZ) : w.heap.size ≤ gb149)); clear HB; have HB := n0_; have BK149 := n1_; have GW149 := n2_; have GE149 := n3_; clear n0_ n1_ n2_ n3_; clear hb hbox hg; have hcz9_0 : w8.cell? ⟨gb149, 0, none⟩ = some (.int .i64 0) := (blk_cell BK149.out 0).trans rfl; have hcz9_1 : w8.cell? ⟨gb149, 1, none⟩ = some (.int .i64 0) := (blk_cell BK149.out 1).trans rfl; have hcz9_2 : w8.cell? ⟨gb149, 2, none⟩ = some (.slice none 0 0) := (blk_cell BK149.out 2).trans rfl; have hcz9_3 : w8.cell? ⟨gb149, 3, none⟩ = some (.slice none 0 0) := (blk_cell BK149.out 3).trans rfl; have hcz9_4 : w8.cell? ⟨gb149, 4, none⟩ = some (.int .i64 0) := (blk_cell BK149.out 4).trans rfl; have hfz9_0 := blk_frozen BK149.out 0; have hfz9_1 := blk_frozen BK149.out 1; have hfz9_2 := blk_frozen BK149.out 2; have hfz9_3 := blk_frozen BK149.out 3; have hfz9_4 := blk_frozen BK149.out 4) | ((with_reducible refine gate_callee (f := 17) rfl ?_); refine goesL_ (some 18) rfl rfl Try.func17 (by kernel_rfl) rfl #[.agg #[.int .i64 ((rd_T34 l0 a1).f0), .int .i64 ((rd_T34 l0 a1).f1), .slice A148_2 ((rd_T34 l0 a1).f2).length c148_2, .slice A148_3 ((rd_T34 l0 a1).f3).length c148_3, .int .i64 ((rd_T34 l0 a1).f4)]] rfl (by (try simp only [List.map_toArray, List.map_cons, List.map_nil]); first | done | rfl | (simp only [List.length_drop, List.length_take]; rfl)) ?_; (with_reducible refine (spec_l3shape.calls k ((rd_T34 l0 a1).f0) ((rd_T34 l0 a1).f1) _ _ ((rd_T34 l0 a1).f2) _ _ ((rd_T34 l0 a1).f3) ((rd_T34 l0 a1).f4) t150 _ ?side1 ?side2 ?side3 ?side4 A6.out).mono ?_); (case side1 => exact Kd.C_below HR148_2.out bwZ); (case side2 => exact HC148_2.out); (case side3 => exact Kd.C_below HR148_3.out bwZ); (case side4 => exact HC148_3.out); rintro e w10 ⟨rfl, hb⟩; refine ⟨_, rfl, ?_⟩; have n0_ := Aside0.mk (blk_below (g := gb149) (o := .cells #[.int .i64 ((rd_T34 l0 a1).f0), .int .i64 ((rd_T34 l0 a1).f1), .slice A148_2 ((rd_T34 l0 a1).f2).length c148_2, .slice A148_3 ((rd_T34 l0 a1).f3).length c148_3, .int .i64 ((rd_T34 l0 a1).f4)] 34 (0, 0)) (by (with_reducible repeat (first | refine blk_drewN ?_ _ | refine blk_drew ?_ | refine blk_alloc ?_ _)); refine blk_put (cs := #[.int .i64 ((rd_T34 l0 a1).f0), .int .i64 ((rd_T34 l0 a1).f1), .slice A148_2 ((rd_T34 l0 a1).f2).length c148_2, .slice A148_3 ((rd_T34 l0 a1).f3).length c148_3, .int .i64 0]) ?_ 4 _ rfl; (with_reducible repeat (first | refine blk_drewN ?_ _ | refine blk_drew ?_ | refine blk_alloc ?_ _)); refine blk_put (cs := #[.int .i64 ((rd_T34 l0 a1).f0), .int .i64 ((rd_T34 l0 a1).f1), .slice A148_2 ((rd_T34 l0 a1).f2).length c148_2, .slice none 0 0, .int .i64 0]) ?_ 3 _ rfl; (with_reducible repeat (first | refine blk_drewN ?_ _ | refine blk_drew ?_ | refine blk_alloc ?_ _)); refine blk_put (cs := #[.int .i64 ((rd_T34 l0 a1).f0), .int .i64 ((rd_T34 l0 a1).f1), .slice none 0 0, .slice none 0 0, .int .i64 0]) ?_ 2 _ rfl; (with_reducible repeat (first | refine blk_drewN ?_ _ | refine blk_drew ?_ | refine blk_alloc ?_ _)); refine blk_put (cs := #[.int .i64 ((rd_T34 l0 a1).f0), .int .i64 0, .slice none 0 0, .slice none 0 0, .int .i64 0]) ?_ 1 _ rfl; (with_reducible repeat (first | refine blk_drewN ?_ _ | refine blk_drew ?_ | refine blk_alloc ?_ _)); refine blk_put (cs := #[.int .i64 0, .int .i64 0, .slice none 0 0, .slice none 0 0, .int .i64 0]) ?_ 0 _ rfl; (with_reducible repeat (first | refine blk_drewN ?_ _ | refine blk_drew ?_ | refine blk_alloc ?_ _)); exact BK149.out) hb); have n1_ := Aside0.mk (below_step bwZ hb); clear BK149; clear HB; have BK149 := n0_; have HB := n1_; clear n0_ n1_; (try clear hb); (try clear hb2); (try clear hk); (try clear hi)))
   (try simp only [Act.put, List.setIfInBounds_toArray, List.set_cons_zero, List.set_cons_succ])
   go_cut [42] (fun v42 wc => ∃ (kq : Nat) (x42_6 : Bool), v42 = .bool x42_6 ∧ Aside0 (spec_l3good.j0 kq l0 a1 a2 t150 x42_6 ((rd_T34 l0 a1).f0) ((rd_T34 l0 a1).f1) ((rd_T34 l0 a1).f2) ((rd_T34 l0 a1).f3) ((rd_T34 l0 a1).f4) = some r) ∧ Aside0 (kq ≤ k) ∧ Aside0 (wc.heap[gb149]? = some (.cells #[.int .i64 ((rd_T34 l0 a1).f0), .int .i64 ((rd_T34 l0 a1).f1), (.slice A148_2 ((rd_T34 l0 a1).f2).length c148_2), (.slice A148_3 ((rd_T34 l0 a1).f3).length c148_3), .int .i64 ((rd_T34 l0 a1).f4)] 34 (0, 0))) ∧ Aside0 (Below w.heap.size w wc))
   case first =>
    have H := HC7.out
    clear HC7
    by_cases c11 : ((rd_T34 l0 a1).f0) < 0
    ·
     rw [if_pos c11] at H
     have c11b0 : decide (((rd_T34 l0 a1).f0) < 0) = true := decide_eq_true c11
     clear c11
     (first | rw [c11b0] | (simp only [i64_w, i32_w]; rw [c11b0]) | skip)
     have H' := Aside0.mk H
     clear H
     have hcz12_0 : w10.cell? ⟨gb149, 0, none⟩ = some (.int .i64 ((rd_T34 l0 a1).f0)) := (blk_cell BK149.out 0).trans rfl
     have hcz12_1 : w10.cell? ⟨gb149, 1, none⟩ = some (.int .i64 ((rd_T34 l0 a1).f1)) := (blk_cell BK149.out 1).trans rfl
     have hcz12_2 : w10.cell? ⟨gb149, 2, none⟩ = some (.slice A148_2 ((rd_T34 l0 a1).f2).length c148_2) := (blk_cell BK149.out 2).trans rfl
     have hcz12_3 : w10.cell? ⟨gb149, 3, none⟩ = some (.slice A148_3 ((rd_T34 l0 a1).f3).length c148_3) := (blk_cell BK149.out 3).trans rfl
     have hcz12_4 : w10.cell? ⟨gb149, 4, none⟩ = some (.int .i64 ((rd_T34 l0 a1).f4)) := (blk_cell BK149.out 4).trans rfl
     have hfz12_0 := blk_frozen BK149.out 0
     have hfz12_1 := blk_frozen BK149.out 1
     have hfz12_2 := blk_frozen BK149.out 2
     have hfz12_3 := blk_frozen BK149.out 3
     have hfz12_4 := blk_frozen BK149.out 4
     go_wp2
     go_meet
     case rel => exact ⟨_, (true), (by first | rfl | (simp; done) | (simp [*]; done)), H', ⟨by first | omega | exact Nat.le_refl _⟩, ⟨by (with_reducible repeat (first | refine blk_drewN ?_ _ | refine blk_drew ?_ | refine blk_alloc ?_ _)); exact BK149.out⟩, ⟨bwZ⟩⟩
    ·
     rw [if_neg c11] at H
     have c11b0 : decide (((rd_T34 l0 a1).f0) < 0) = false := decide_eq_false c11
     clear c11
     (first | rw [c11b0] | (simp only [i64_w, i32_w]; rw [c11b0]) | skip)
     by_cases c13 : ((rd_T34 l0 a1).f0) > 26
     ·
      rw [if_pos c13] at H
      have c13b0 : decide (26 < ((rd_T34 l0 a1).f0)) = true := decide_eq_true c13
      clear c13
      have H' := Aside0.mk H
      clear H
      have hcz14_0 : w10.cell? ⟨gb149, 0, none⟩ = some (.int .i64 ((rd_T34 l0 a1).f0)) := (blk_cell BK149.out 0).trans rfl
      have hcz14_1 : w10.cell? ⟨gb149, 1, none⟩ = some (.int .i64 ((rd_T34 l0 a1).f1)) := (blk_cell BK149.out 1).trans rfl
      have hcz14_2 : w10.cell? ⟨gb149, 2, none⟩ = some (.slice A148_2 ((rd_T34 l0 a1).f2).length c148_2) := (blk_cell BK149.out 2).trans rfl
      have hcz14_3 : w10.cell? ⟨gb149, 3, none⟩ = some (.slice A148_3 ((rd_T34 l0 a1).f3).length c148_3) := (blk_cell BK149.out 3).trans rfl
      have hcz14_4 : w10.cell? ⟨gb149, 4, none⟩ = some (.int .i64 ((rd_T34 l0 a1).f4)) := (blk_cell BK149.out 4).trans rfl
      have hfz14_0 := blk_frozen BK149.out 0
      have hfz14_1 := blk_frozen BK149.out 1
      have hfz14_2 := blk_frozen BK149.out 2
      have hfz14_3 := blk_frozen BK149.out 3
      have hfz14_4 := blk_frozen BK149.out 4
      go_wp2
      go_meet
      case rel => exact ⟨_, (true), (by first | rfl | (simp; done) | (simp [*]; done)), H', ⟨by first | omega | exact Nat.le_refl _⟩, ⟨by (with_reducible repeat (first | refine blk_drewN ?_ _ | refine blk_drew ?_ | refine blk_alloc ?_ _)); exact BK149.out⟩, ⟨bwZ⟩⟩
     ·
      rw [if_neg c13] at H
      have c13b0 : decide (26 < ((rd_T34 l0 a1).f0)) = false := decide_eq_false c13
      clear c13
      replace H := Option.bind_eq_some_iff.mp H
      obtain ⟨t151, A150, H⟩ := H
      replace H : (if t151 = true then (if (t150.size : Int) = ((rd_T34 l0 a1).f4) then (spec_l3good.j0 k l0 a1 a2 t150 (t150.toList == ([63] : List UInt8)) ((rd_T34 l0 a1).f0) ((rd_T34 l0 a1).f1) ((rd_T34 l0 a1).f2) ((rd_T34 l0 a1).f3) ((rd_T34 l0 a1).f4)) else (spec_l3good.j0 k l0 a1 a2 t150 true ((rd_T34 l0 a1).f0) ((rd_T34 l0 a1).f1) ((rd_T34 l0 a1).f2) ((rd_T34 l0 a1).f3) ((rd_T34 l0 a1).f4))) else (spec_l3good.j0 k l0 a1 a2 t150 true ((rd_T34 l0 a1).f0) ((rd_T34 l0 a1).f1) ((rd_T34 l0 a1).f2) ((rd_T34 l0 a1).f3) ((rd_T34 l0 a1).f4))) = some r := H
      have A15 := Aside0.mk A150
      clear A150
      by_cases c16 : t151 = true
      ·
       subst c16
       have H1 : (if (t150.size : Int) = ((rd_T34 l0 a1).f4) then (spec_l3good.j0 k l0 a1 a2 t150 (t150.toList == ([63] : List UInt8)) ((rd_T34 l0 a1).f0) ((rd_T34 l0 a1).f1) ((rd_T34 l0 a1).f2) ((rd_T34 l0 a1).f3) ((rd_T34 l0 a1).f4)) else (spec_l3good.j0 k l0 a1 a2 t150 true ((rd_T34 l0 a1).f0) ((rd_T34 l0 a1).f1) ((rd_T34 l0 a1).f2) ((rd_T34 l0 a1).f3) ((rd_T34 l0 a1).f4))) = some r := by rw [if_pos rfl] at H; exact H
       clear H
       have H := H1
       clear H1
       by_cases c17 : (t150.size : Int) = ((rd_T34 l0 a1).f4)
       ·
        rw [if_pos c17] at H
        have c17b0 : ((t150.size : Int) == ((rd_T34 l0 a1).f4)) = true := beq_iff_eq.mpr c17
        have c17b1 : ((t150.size : Int) != ((rd_T34 l0 a1).f4)) = false := bne_eq_false_iff_eq.mpr c17
        clear c17
        have H' := Aside0.mk H
        clear H
        have hcz18_0 : w10.cell? ⟨gb149, 0, none⟩ = some (.int .i64 ((rd_T34 l0 a1).f0)) := (blk_cell BK149.out 0).trans rfl
        have hcz18_1 : w10.cell? ⟨gb149, 1, none⟩ = some (.int .i64 ((rd_T34 l0 a1).f1)) := (blk_cell BK149.out 1).trans rfl
        have hcz18_2 : w10.cell? ⟨gb149, 2, none⟩ = some (.slice A148_2 ((rd_T34 l0 a1).f2).length c148_2) := (blk_cell BK149.out 2).trans rfl
        have hcz18_3 : w10.cell? ⟨gb149, 3, none⟩ = some (.slice A148_3 ((rd_T34 l0 a1).f3).length c148_3) := (blk_cell BK149.out 3).trans rfl
        have hcz18_4 : w10.cell? ⟨gb149, 4, none⟩ = some (.int .i64 ((rd_T34 l0 a1).f4)) := (blk_cell BK149.out 4).trans rfl
        have hfz18_0 := blk_frozen BK149.out 0
        have hfz18_1 := blk_frozen BK149.out 1
        have hfz18_2 := blk_frozen BK149.out 2
        have hfz18_3 := blk_frozen BK149.out 3
        have hfz18_4 := blk_frozen BK149.out 4
        go_wp2_with (first | (go_at_call 18; (with_reducible refine (spec_l3fields.calls k ((rd_T34 l0 a1).f0) ((rd_T34 l0 a1).f1) _ _ ((rd_T34 l0 a1).f2) _ _ ((rd_T34 l0 a1).f3) ((rd_T34 l0 a1).f4) true _ ?side1 ?side2 ?side3 ?side4 A15.out).mono ?_); (case side1 => repeat (first | exact (Kd.C_below HR148_2.out HB.out) | (with_reducible refine Kd.C_alloc ?_ _) | (with_reducible refine Kd.C_drewN ?_ _) | (with_reducible refine Kd.C_drew ?_))); (case side2 => exact HC148_2.out); (case side3 => repeat (first | exact (Kd.C_below HR148_3.out HB.out) | (with_reducible refine Kd.C_alloc ?_ _) | (with_reducible refine Kd.C_drewN ?_ _) | (with_reducible refine Kd.C_drew ?_))); (case side4 => exact HC148_3.out); rintro e w19 ⟨rfl, hb⟩; have n0_ := Aside0.mk (blk_below (g := gb149) (o := .cells #[.int .i64 ((rd_T34 l0 a1).f0), .int .i64 ((rd_T34 l0 a1).f1), .slice A148_2 ((rd_T34 l0 a1).f2).length c148_2, .slice A148_3 ((rd_T34 l0 a1).f3).length c148_3, .int .i64 ((rd_T34 l0 a1).f4)] 34 (0, 0)) bkZ hb); have n1_ := Aside0.mk (below_step bwZ hb); clear BK149; clear HB; have BK149 := n0_; have HB := n1_; clear n0_ n1_; (try clear hb); (try clear hb2); (try clear hk); (try clear hi); have hcz20_0 : w19.cell? ⟨gb149, 0, none⟩ = some (.int .i64 ((rd_T34 l0 a1).f0)) := (blk_cell BK149.out 0).trans rfl; have hcz20_1 : w19.cell? ⟨gb149, 1, none⟩ = some (.int .i64 ((rd_T34 l0 a1).f1)) := (blk_cell BK149.out 1).trans rfl; have hcz20_2 : w19.cell? ⟨gb149, 2, none⟩ = some (.slice A148_2 ((rd_T34 l0 a1).f2).length c148_2) := (blk_cell BK149.out 2).trans rfl; have hcz20_3 : w19.cell? ⟨gb149, 3, none⟩ = some (.slice A148_3 ((rd_T34 l0 a1).f3).length c148_3) := (blk_cell BK149.out 3).trans rfl; have hcz20_4 : w19.cell? ⟨gb149, 4, none⟩ = some (.int .i64 ((rd_T34 l0 a1).f4)) := (blk_cell BK149.out 4).trans rfl; have hfz20_0 := blk_frozen BK149.out 0; have hfz20_1 := blk_frozen BK149.out 1; have hfz20_2 := blk_frozen BK149.out 2; have hfz20_3 := blk_frozen BK149.out 3; have hfz20_4 := blk_frozen BK149.out 4))
        go_meet
        case rel => exact ⟨_, ((t150.toList == ([63] : List UInt8))), (by first | rfl | (simp; done) | (simp [*]; done)), H', ⟨by first | omega | exact Nat.le_refl _⟩, ⟨by (with_reducible repeat (first | refine blk_drewN ?_ _ | refine blk_drew ?_ | refine blk_alloc ?_ _)); exact BK149.out⟩, ⟨bwZ⟩⟩
       ·
        rw [if_neg c17] at H
        have c17b0 : ((t150.size : Int) == ((rd_T34 l0 a1).f4)) = false := beq_eq_false_iff_ne.mpr c17
        have c17b1 : ((t150.size : Int) != ((rd_T34 l0 a1).f4)) = true := bne_iff_ne.mpr c17
        have H' := Aside0.mk H
        clear H
        have hcz21_0 : w10.cell? ⟨gb149, 0, none⟩ = some (.int .i64 ((rd_T34 l0 a1).f0)) := (blk_cell BK149.out 0).trans rfl
        have hcz21_1 : w10.cell? ⟨gb149, 1, none⟩ = some (.int .i64 ((rd_T34 l0 a1).f1)) := (blk_cell BK149.out 1).trans rfl
        have hcz21_2 : w10.cell? ⟨gb149, 2, none⟩ = some (.slice A148_2 ((rd_T34 l0 a1).f2).length c148_2) := (blk_cell BK149.out 2).trans rfl
        have hcz21_3 : w10.cell? ⟨gb149, 3, none⟩ = some (.slice A148_3 ((rd_T34 l0 a1).f3).length c148_3) := (blk_cell BK149.out 3).trans rfl
        have hcz21_4 : w10.cell? ⟨gb149, 4, none⟩ = some (.int .i64 ((rd_T34 l0 a1).f4)) := (blk_cell BK149.out 4).trans rfl
        have hfz21_0 := blk_frozen BK149.out 0
        have hfz21_1 := blk_frozen BK149.out 1
        have hfz21_2 := blk_frozen BK149.out 2
        have hfz21_3 := blk_frozen BK149.out 3
        have hfz21_4 := blk_frozen BK149.out 4
        go_wp2_with (first | (go_at_call 18; (with_reducible refine (spec_l3fields.calls k ((rd_T34 l0 a1).f0) ((rd_T34 l0 a1).f1) _ _ ((rd_T34 l0 a1).f2) _ _ ((rd_T34 l0 a1).f3) ((rd_T34 l0 a1).f4) true _ ?side1 ?side2 ?side3 ?side4 A15.out).mono ?_); (case side1 => repeat (first | exact (Kd.C_below HR148_2.out HB.out) | (with_reducible refine Kd.C_alloc ?_ _) | (with_reducible refine Kd.C_drewN ?_ _) | (with_reducible refine Kd.C_drew ?_))); (case side2 => exact HC148_2.out); (case side3 => repeat (first | exact (Kd.C_below HR148_3.out HB.out) | (with_reducible refine Kd.C_alloc ?_ _) | (with_reducible refine Kd.C_drewN ?_ _) | (with_reducible refine Kd.C_drew ?_))); (case side4 => exact HC148_3.out); rintro e w22 ⟨rfl, hb⟩; have n0_ := Aside0.mk (blk_below (g := gb149) (o := .cells #[.int .i64 ((rd_T34 l0 a1).f0), .int .i64 ((rd_T34 l0 a1).f1), .slice A148_2 ((rd_T34 l0 a1).f2).length c148_2, .slice A148_3 ((rd_T34 l0 a1).f3).length c148_3, .int .i64 ((rd_T34 l0 a1).f4)] 34 (0, 0)) bkZ hb); have n1_ := Aside0.mk (below_step bwZ hb); clear BK149; clear HB; have BK149 := n0_; have HB := n1_; clear n0_ n1_; (try clear hb); (try clear hb2); (try clear hk); (try clear hi); have hcz23_0 : w22.cell? ⟨gb149, 0, none⟩ = some (.int .i64 ((rd_T34 l0 a1).f0)) := (blk_cell BK149.out 0).trans rfl; have hcz23_1 : w22.cell? ⟨gb149, 1, none⟩ = some (.int .i64 ((rd_T34 l0 a1).f1)) := (blk_cell BK149.out 1).trans rfl; have hcz23_2 : w22.cell? ⟨gb149, 2, none⟩ = some (.slice A148_2 ((rd_T34 l0 a1).f2).length c148_2) := (blk_cell BK149.out 2).trans rfl; have hcz23_3 : w22.cell? ⟨gb149, 3, none⟩ = some (.slice A148_3 ((rd_T34 l0 a1).f3).length c148_3) := (blk_cell BK149.out 3).trans rfl; have hcz23_4 : w22.cell? ⟨gb149, 4, none⟩ = some (.int .i64 ((rd_T34 l0 a1).f4)) := (blk_cell BK149.out 4).trans rfl; have hfz23_0 := blk_frozen BK149.out 0; have hfz23_1 := blk_frozen BK149.out 1; have hfz23_2 := blk_frozen BK149.out 2; have hfz23_3 := blk_frozen BK149.out 3; have hfz23_4 := blk_frozen BK149.out 4))
        go_meet
        case rel => exact ⟨_, (true), (by first | rfl | (simp; done) | (simp [*]; done)), H', ⟨by first | omega | exact Nat.le_refl _⟩, ⟨by (with_reducible repeat (first | refine blk_drewN ?_ _ | refine blk_drew ?_ | refine blk_alloc ?_ _)); exact BK149.out⟩, ⟨bwZ⟩⟩
      ·
       replace c16 := Bool.eq_false_iff.mpr c16
       subst c16
       have H1 : (spec_l3good.j0 k l0 a1 a2 t150 true ((rd_T34 l0 a1).f0) ((rd_T34 l0 a1).f1) ((rd_T34 l0 a1).f2) ((rd_T34 l0 a1).f3) ((rd_T34 l0 a1).f4)) = some r := by rw [if_neg (show ¬ (false = true) by decide)] at H; exact H
       clear H
       have H := H1
       clear H1
       have H' := Aside0.mk H
       clear H
       have hcz24_0 : w10.cell? ⟨gb149, 0, none⟩ = some (.int .i64 ((rd_T34 l0 a1).f0)) := (blk_cell BK149.out 0).trans rfl
       have hcz24_1 : w10.cell? ⟨gb149, 1, none⟩ = some (.int .i64 ((rd_T34 l0 a1).f1)) := (blk_cell BK149.out 1).trans rfl
       have hcz24_2 : w10.cell? ⟨gb149, 2, none⟩ = some (.slice A148_2 ((rd_T34 l0 a1).f2).length c148_2) := (blk_cell BK149.out 2).trans rfl
       have hcz24_3 : w10.cell? ⟨gb149, 3, none⟩ = some (.slice A148_3 ((rd_T34 l0 a1).f3).length c148_3) := (blk_cell BK149.out 3).trans rfl
       have hcz24_4 : w10.cell? ⟨gb149, 4, none⟩ = some (.int .i64 ((rd_T34 l0 a1).f4)) := (blk_cell BK149.out 4).trans rfl
       have hfz24_0 := blk_frozen BK149.out 0
       have hfz24_1 := blk_frozen BK149.out 1
       have hfz24_2 := blk_frozen BK149.out 2
       have hfz24_3 := blk_frozen BK149.out 3
       have hfz24_4 := blk_frozen BK149.out 4
       go_wp2_with (first | (go_at_call 18; (with_reducible refine (spec_l3fields.calls k ((rd_T34 l0 a1).f0) ((rd_T34 l0 a1).f1) _ _ ((rd_T34 l0 a1).f2) _ _ ((rd_T34 l0 a1).f3) ((rd_T34 l0 a1).f4) false _ ?side1 ?side2 ?side3 ?side4 A15.out).mono ?_); (case side1 => repeat (first | exact (Kd.C_below HR148_2.out HB.out) | (with_reducible refine Kd.C_alloc ?_ _) | (with_reducible refine Kd.C_drewN ?_ _) | (with_reducible refine Kd.C_drew ?_))); (case side2 => exact HC148_2.out); (case side3 => repeat (first | exact (Kd.C_below HR148_3.out HB.out) | (with_reducible refine Kd.C_alloc ?_ _) | (with_reducible refine Kd.C_drewN ?_ _) | (with_reducible refine Kd.C_drew ?_))); (case side4 => exact HC148_3.out); rintro e w25 ⟨rfl, hb⟩; have n0_ := Aside0.mk (blk_below (g := gb149) (o := .cells #[.int .i64 ((rd_T34 l0 a1).f0), .int .i64 ((rd_T34 l0 a1).f1), .slice A148_2 ((rd_T34 l0 a1).f2).length c148_2, .slice A148_3 ((rd_T34 l0 a1).f3).length c148_3, .int .i64 ((rd_T34 l0 a1).f4)] 34 (0, 0)) bkZ hb); have n1_ := Aside0.mk (below_step bwZ hb); clear BK149; clear HB; have BK149 := n0_; have HB := n1_; clear n0_ n1_; (try clear hb); (try clear hb2); (try clear hk); (try clear hi)))
       go_meet
       case rel => exact ⟨_, (true), (by first | rfl | (simp; done) | (simp [*]; done)), H', ⟨by first | omega | exact Nat.le_refl _⟩, ⟨by (with_reducible repeat (first | refine blk_drewN ?_ _ | refine blk_drew ?_ | refine blk_alloc ?_ _)); exact BK149.out⟩, ⟨bwZ⟩⟩
   case rest =>
    clear HC7
    try clear c1
    try clear p1
    try clear q1
    try clear hx1
    try clear p2
    try clear c4
    try clear c4b0
    try clear c5
    try clear c5b0
    try clear c11
    try clear c11b0
    try clear c13
    try clear c13b0
    try clear c14
    try clear p14
    try clear q14
    try clear hx14
    try clear c16
    try clear c17
    try clear c17b0
    try clear c17b1
    try clear hcz12_0
    try clear hcz12_1
    try clear hcz12_2
    try clear hcz12_3
    try clear hcz12_4
    try clear hcz14_0
    try clear hcz14_1
    try clear hcz14_2
    try clear hcz14_3
    try clear hcz14_4
    try clear hcz18_0
    try clear hcz18_1
    try clear hcz18_2
    try clear hcz18_3
    try clear hcz18_4
    try clear hcz20_0
    try clear hcz20_1
    try clear hcz20_2
    try clear hcz20_3
    try clear hcz20_4
    try clear hcz21_0
    try clear hcz21_1
    try clear hcz21_2
    try clear hcz21_3
    try clear hcz21_4
    try clear hcz23_0
    try clear hcz23_1
    try clear hcz23_2
    try clear hcz23_3
    try clear hcz23_4
    try clear hcz24_0
    try clear hcz24_1
    try clear hcz24_2
    try clear hcz24_3
    try clear hcz24_4
    try clear hcz9_0
    try clear hcz9_1
    try clear hcz9_2
    try clear hcz9_3
    try clear hcz9_4
    try clear hfz12_0
    try clear hfz12_1
    try clear hfz12_2
    try clear hfz12_3
    try clear hfz12_4
    try clear hfz14_0
    try clear hfz14_1
    try clear hfz14_2
    try clear hfz14_3
    try clear hfz14_4
    try clear hfz18_0
    try clear hfz18_1
    try clear hfz18_2
    try clear hfz18_3
    try clear hfz18_4
    try clear hfz20_0
    try clear hfz20_1
    try clear hfz20_2
    try clear hfz20_3
    try clear hfz20_4
    try clear hfz21_0
    try clear hfz21_1
    try clear hfz21_2
    try clear hfz21_3
    try clear hfz21_4
    try clear hfz23_0
    try clear hfz23_1
    try clear hfz23_2
    try clear hfz23_3
    try clear hfz23_4
    try clear hfz24_0
    try clear hfz24_1
    try clear hfz24_2
    try clear hfz24_3
    try clear hfz24_4
    try clear hfz9_0
    try clear hfz9_1
    try clear hfz9_2
    try clear hfz9_3
    try clear hfz9_4
    try clear hx148_0
    try clear hx148_1
    try clear hx148_2
    try clear hx148_3
    try clear hx148_4
    try clear p148
    try clear q148
    obtain ⟨kq, x42_6, rfl, HA, HJ6, BK149, HB⟩ := hcut
    cases kq with
    | zero => exact absurd HA.out (by simp [spec_l3good.j0])
    | succ kj6 =>
     have H := HA.out
     clear HA
     simp only [spec_l3good.j0] at H
     by_cases c26 : x42_6 = true
     ·
      subst c26
      have H1 : (some false) = some r := by rw [if_pos rfl] at H; exact H
      clear H
      have H := H1
      clear H1
      obtain rfl := Option.some.inj H
      go_wp2
      go_ret
      exact ⟨by first | rfl | (simp [errW_none, errW_some] <;> rfl) | (simp [*, errW_none, errW_some] <;> rfl), bwZ⟩
     ·
      replace c26 := Bool.eq_false_iff.mpr c26
      subst c26
      have H1 : (if ((rd_T34 l0 a1).f0) = 8 then (spec_l3good.j1 kj6 l0 a1 a2 t150 (!a2) ((rd_T34 l0 a1).f0) ((rd_T34 l0 a1).f1) ((rd_T34 l0 a1).f2) ((rd_T34 l0 a1).f3) ((rd_T34 l0 a1).f4)) else (spec_l3good.j1 kj6 l0 a1 a2 t150 false ((rd_T34 l0 a1).f0) ((rd_T34 l0 a1).f1) ((rd_T34 l0 a1).f2) ((rd_T34 l0 a1).f3) ((rd_T34 l0 a1).f4))) = some r := by rw [if_neg (show ¬ (false = true) by decide)] at H; exact H
      clear H
      have H := H1
      clear H1
      have HC27 := Aside0.mk H
      clear H
      go_upto_region 5 with (fail)
      go_cut [49] (fun v49 wc => ∃ (kq : Nat) (x49_26 : Bool), v49 = .bool x49_26 ∧ Aside0 (spec_l3good.j1 kq l0 a1 a2 t150 x49_26 ((rd_T34 l0 a1).f0) ((rd_T34 l0 a1).f1) ((rd_T34 l0 a1).f2) ((rd_T34 l0 a1).f3) ((rd_T34 l0 a1).f4) = some r) ∧ Aside0 (kq ≤ kj6) ∧ Aside0 (wc.heap[gb149]? = some (.cells #[.int .i64 ((rd_T34 l0 a1).f0), .int .i64 ((rd_T34 l0 a1).f1), (.slice A148_2 ((rd_T34 l0 a1).f2).length c148_2), (.slice A148_3 ((rd_T34 l0 a1).f3).length c148_3), .int .i64 ((rd_T34 l0 a1).f4)] 34 (0, 0))) ∧ Aside0 (Below w.heap.size w wc))
      case first =>
       have H := HC27.out
       clear HC27
       by_cases c28 : ((rd_T34 l0 a1).f0) = 8
       ·
        rw [if_pos c28] at H
        have c28b0 : (((rd_T34 l0 a1).f0) == 8) = true := beq_iff_eq.mpr c28
        have c28b1 : (((rd_T34 l0 a1).f0) != 8) = false := bne_eq_false_iff_eq.mpr c28
        clear c28
        (first | rw [c28b0] | (simp only [i64_w, i32_w]; rw [c28b0]) | skip)
        have H' := Aside0.mk H
        clear H
        have hcz29_0 : wc.cell? ⟨gb149, 0, none⟩ = some (.int .i64 ((rd_T34 l0 a1).f0)) := (blk_cell BK149.out 0).trans rfl
        have hcz29_1 : wc.cell? ⟨gb149, 1, none⟩ = some (.int .i64 ((rd_T34 l0 a1).f1)) := (blk_cell BK149.out 1).trans rfl
        have hcz29_2 : wc.cell? ⟨gb149, 2, none⟩ = some (.slice A148_2 ((rd_T34 l0 a1).f2).length c148_2) := (blk_cell BK149.out 2).trans rfl
        have hcz29_3 : wc.cell? ⟨gb149, 3, none⟩ = some (.slice A148_3 ((rd_T34 l0 a1).f3).length c148_3) := (blk_cell BK149.out 3).trans rfl
        have hcz29_4 : wc.cell? ⟨gb149, 4, none⟩ = some (.int .i64 ((rd_T34 l0 a1).f4)) := (blk_cell BK149.out 4).trans rfl
        have hfz29_0 := blk_frozen BK149.out 0
        have hfz29_1 := blk_frozen BK149.out 1
        have hfz29_2 := blk_frozen BK149.out 2
        have hfz29_3 := blk_frozen BK149.out 3
        have hfz29_4 := blk_frozen BK149.out 4
        go_wp2
        go_meet
        case rel => exact ⟨_, (!a2), (by first | rfl | (simp; done) | (simp [*]; done)), H', ⟨by have := HJ6.out; first | omega | exact Nat.le_refl _⟩, ⟨by (with_reducible repeat (first | refine blk_drewN ?_ _ | refine blk_drew ?_ | refine blk_alloc ?_ _)); exact BK149.out⟩, ⟨bwZ⟩⟩
       ·
        rw [if_neg c28] at H
        have c28b0 : (((rd_T34 l0 a1).f0) == 8) = false := beq_eq_false_iff_ne.mpr c28
        have c28b1 : (((rd_T34 l0 a1).f0) != 8) = true := bne_iff_ne.mpr c28
        (first | rw [c28b0] | (simp only [i64_w, i32_w]; rw [c28b0]) | skip)
        have H' := Aside0.mk H
        clear H
        have hcz30_0 : wc.cell? ⟨gb149, 0, none⟩ = some (.int .i64 ((rd_T34 l0 a1).f0)) := (blk_cell BK149.out 0).trans rfl
        have hcz30_1 : wc.cell? ⟨gb149, 1, none⟩ = some (.int .i64 ((rd_T34 l0 a1).f1)) := (blk_cell BK149.out 1).trans rfl
        have hcz30_2 : wc.cell? ⟨gb149, 2, none⟩ = some (.slice A148_2 ((rd_T34 l0 a1).f2).length c148_2) := (blk_cell BK149.out 2).trans rfl
        have hcz30_3 : wc.cell? ⟨gb149, 3, none⟩ = some (.slice A148_3 ((rd_T34 l0 a1).f3).length c148_3) := (blk_cell BK149.out 3).trans rfl
        have hcz30_4 : wc.cell? ⟨gb149, 4, none⟩ = some (.int .i64 ((rd_T34 l0 a1).f4)) := (blk_cell BK149.out 4).trans rfl
        have hfz30_0 := blk_frozen BK149.out 0
        have hfz30_1 := blk_frozen BK149.out 1
        have hfz30_2 := blk_frozen BK149.out 2
        have hfz30_3 := blk_frozen BK149.out 3
        have hfz30_4 := blk_frozen BK149.out 4
        go_wp2
        go_meet
        case rel => exact ⟨_, (false), (by first | rfl | (simp; done) | (simp [*]; done)), H', ⟨by have := HJ6.out; first | omega | exact Nat.le_refl _⟩, ⟨by (with_reducible repeat (first | refine blk_drewN ?_ _ | refine blk_drew ?_ | refine blk_alloc ?_ _)); exact BK149.out⟩, ⟨bwZ⟩⟩
      case rest =>
       clear HC27
       try clear c1
       try clear p1
       try clear q1
       try clear hx1
       try clear c2
       try clear p2
       try clear c4
       try clear c4b0
       try clear c5
       try clear c5b0
       try clear c11
       try clear c11b0
       try clear c13
       try clear c13b0
       try clear c14
       try clear p14
       try clear q14
       try clear hx14
       try clear c16
       try clear c17
       try clear c17b0
       try clear c17b1
       try clear c26
       try clear c28
       try clear c28b0
       try clear c28b1
       try clear hcz12_0
       try clear hcz12_1
       try clear hcz12_2
       try clear hcz12_3
       try clear hcz12_4
       try clear hcz14_0
       try clear hcz14_1
       try clear hcz14_2
       try clear hcz14_3
       try clear hcz14_4
       try clear hcz18_0
       try clear hcz18_1
       try clear hcz18_2
       try clear hcz18_3
       try clear hcz18_4
       try clear hcz20_0
       try clear hcz20_1
       try clear hcz20_2
       try clear hcz20_3
       try clear hcz20_4
       try clear hcz21_0
       try clear hcz21_1
       try clear hcz21_2
       try clear hcz21_3
       try clear hcz21_4
       try clear hcz23_0
       try clear hcz23_1
       try clear hcz23_2
       try clear hcz23_3
       try clear hcz23_4
       try clear hcz24_0
       try clear hcz24_1
       try clear hcz24_2
       try clear hcz24_3
       try clear hcz24_4
       try clear hcz29_0
       try clear hcz29_1
       try clear hcz29_2
       try clear hcz29_3
       try clear hcz29_4
       try clear hcz30_0
       try clear hcz30_1
       try clear hcz30_2
       try clear hcz30_3
       try clear hcz30_4
       try clear hcz9_0
       try clear hcz9_1
       try clear hcz9_2
       try clear hcz9_3
       try clear hcz9_4
       try clear hfz12_0
       try clear hfz12_1
       try clear hfz12_2
       try clear hfz12_3
       try clear hfz12_4
       try clear hfz14_0
       try clear hfz14_1
       try clear hfz14_2
       try clear hfz14_3
       try clear hfz14_4
       try clear hfz18_0
       try clear hfz18_1
       try clear hfz18_2
       try clear hfz18_3
       try clear hfz18_4
       try clear hfz20_0
       try clear hfz20_1
       try clear hfz20_2
       try clear hfz20_3
       try clear hfz20_4
       try clear hfz21_0
       try clear hfz21_1
       try clear hfz21_2
       try clear hfz21_3
       try clear hfz21_4
       try clear hfz23_0
       try clear hfz23_1
       try clear hfz23_2
       try clear hfz23_3
       try clear hfz23_4
       try clear hfz24_0
       try clear hfz24_1
       try clear hfz24_2
       try clear hfz24_3
       try clear hfz24_4
       try clear hfz29_0
       try clear hfz29_1
       try clear hfz29_2
       try clear hfz29_3
       try clear hfz29_4
       try clear hfz30_0
       try clear hfz30_1
       try clear hfz30_2
       try clear hfz30_3
       try clear hfz30_4
       try clear hfz9_0
       try clear hfz9_1
       try clear hfz9_2
       try clear hfz9_3
       try clear hfz9_4
       try clear hx148_0
       try clear hx148_1
       try clear hx148_2
       try clear hx148_3
       try clear hx148_4
       try clear p1
       try clear p14
       try clear p148
       try clear p2
       try clear q1
       try clear q14
       try clear q148
       obtain ⟨kq, x49_26, rfl, HA, HJ26, BK149, HB⟩ := hcut
       cases kq with
       | zero => exact absurd HA.out (by simp [spec_l3good.j1])
       | succ kj26 =>
        have H := HA.out
        clear HA
        simp only [spec_l3good.j1] at H
        by_cases c31 : x49_26 = true
        ·
         subst c31
         have H1 : (some false) = some r := by rw [if_pos rfl] at H; exact H
         clear H
         have H := H1
         clear H1
         obtain rfl := Option.some.inj H
         go_wp2
         go_ret
         exact ⟨by first | rfl | (simp [errW_none, errW_some] <;> rfl) | (simp [*, errW_none, errW_some] <;> rfl), bwZ⟩
        ·
         replace c31 := Bool.eq_false_iff.mpr c31
         subst c31
         have H1 : (if ((rd_T34 l0 a1).f0) = 4 then (spec_l3good.j2 kj26 l0 a1 t150 a2 true ((rd_T34 l0 a1).f0) ((rd_T34 l0 a1).f1) ((rd_T34 l0 a1).f2) ((rd_T34 l0 a1).f3) ((rd_T34 l0 a1).f4)) else (if ((rd_T34 l0 a1).f0) = 5 then (spec_l3good.j2 kj26 l0 a1 t150 a2 true ((rd_T34 l0 a1).f0) ((rd_T34 l0 a1).f1) ((rd_T34 l0 a1).f2) ((rd_T34 l0 a1).f3) ((rd_T34 l0 a1).f4)) else (spec_l3good.j2 kj26 l0 a1 t150 a2 (((rd_T34 l0 a1).f0) == 7) ((rd_T34 l0 a1).f0) ((rd_T34 l0 a1).f1) ((rd_T34 l0 a1).f2) ((rd_T34 l0 a1).f3) ((rd_T34 l0 a1).f4)))) = some r := by rw [if_neg (show ¬ (false = true) by decide)] at H; exact H
         clear H
         have H := H1
         clear H1
         have HC32 := Aside0.mk H
         clear H
         go_upto_region 8 with (fail)
         go_cut [63] (fun v63 wc => ∃ (kq : Nat) (x63_31 : Bool), v63 = .bool x63_31 ∧ Aside0 (spec_l3good.j2 kq l0 a1 t150 a2 x63_31 ((rd_T34 l0 a1).f0) ((rd_T34 l0 a1).f1) ((rd_T34 l0 a1).f2) ((rd_T34 l0 a1).f3) ((rd_T34 l0 a1).f4) = some r) ∧ Aside0 (kq ≤ kj26) ∧ Aside0 (wc.heap[gb149]? = some (.cells #[.int .i64 ((rd_T34 l0 a1).f0), .int .i64 ((rd_T34 l0 a1).f1), (.slice A148_2 ((rd_T34 l0 a1).f2).length c148_2), (.slice A148_3 ((rd_T34 l0 a1).f3).length c148_3), .int .i64 ((rd_T34 l0 a1).f4)] 34 (0, 0))) ∧ Aside0 (Below w.heap.size w wc))
         case first =>
          have H := HC32.out
          clear HC32
          by_cases c33 : ((rd_T34 l0 a1).f0) = 4
          ·
           rw [if_pos c33] at H
           have c33b0 : (((rd_T34 l0 a1).f0) == 4) = true := beq_iff_eq.mpr c33
           have c33b1 : (((rd_T34 l0 a1).f0) != 4) = false := bne_eq_false_iff_eq.mpr c33
           clear c33
           (first | rw [c33b0] | (simp only [i64_w, i32_w]; rw [c33b0]) | skip)
           have H' := Aside0.mk H
           clear H
           have hcz34_0 : wc.cell? ⟨gb149, 0, none⟩ = some (.int .i64 ((rd_T34 l0 a1).f0)) := (blk_cell BK149.out 0).trans rfl
           have hcz34_1 : wc.cell? ⟨gb149, 1, none⟩ = some (.int .i64 ((rd_T34 l0 a1).f1)) := (blk_cell BK149.out 1).trans rfl
           have hcz34_2 : wc.cell? ⟨gb149, 2, none⟩ = some (.slice A148_2 ((rd_T34 l0 a1).f2).length c148_2) := (blk_cell BK149.out 2).trans rfl
           have hcz34_3 : wc.cell? ⟨gb149, 3, none⟩ = some (.slice A148_3 ((rd_T34 l0 a1).f3).length c148_3) := (blk_cell BK149.out 3).trans rfl
           have hcz34_4 : wc.cell? ⟨gb149, 4, none⟩ = some (.int .i64 ((rd_T34 l0 a1).f4)) := (blk_cell BK149.out 4).trans rfl
           have hfz34_0 := blk_frozen BK149.out 0
           have hfz34_1 := blk_frozen BK149.out 1
           have hfz34_2 := blk_frozen BK149.out 2
           have hfz34_3 := blk_frozen BK149.out 3
           have hfz34_4 := blk_frozen BK149.out 4
           go_wp2
           go_meet
           case rel => exact ⟨_, (true), (by first | rfl | (simp; done) | (simp [*]; done)), H', ⟨by have := HJ6.out; have := HJ26.out; first | omega | exact Nat.le_refl _⟩, ⟨by (with_reducible repeat (first | refine blk_drewN ?_ _ | refine blk_drew ?_ | refine blk_alloc ?_ _)); exact BK149.out⟩, ⟨bwZ⟩⟩
          ·
           rw [if_neg c33] at H
           have c33b0 : (((rd_T34 l0 a1).f0) == 4) = false := beq_eq_false_iff_ne.mpr c33
           have c33b1 : (((rd_T34 l0 a1).f0) != 4) = true := bne_iff_ne.mpr c33
           (first | rw [c33b0] | (simp only [i64_w, i32_w]; rw [c33b0]) | skip)
           by_cases c35 : ((rd_T34 l0 a1).f0) = 5
           ·
            rw [if_pos c35] at H
            have c35b0 : (((rd_T34 l0 a1).f0) == 5) = true := beq_iff_eq.mpr c35
            have c35b1 : (((rd_T34 l0 a1).f0) != 5) = false := bne_eq_false_iff_eq.mpr c35
            clear c35
            have H' := Aside0.mk H
            clear H
            have hcz36_0 : wc.cell? ⟨gb149, 0, none⟩ = some (.int .i64 ((rd_T34 l0 a1).f0)) := (blk_cell BK149.out 0).trans rfl
            have hcz36_1 : wc.cell? ⟨gb149, 1, none⟩ = some (.int .i64 ((rd_T34 l0 a1).f1)) := (blk_cell BK149.out 1).trans rfl
            have hcz36_2 : wc.cell? ⟨gb149, 2, none⟩ = some (.slice A148_2 ((rd_T34 l0 a1).f2).length c148_2) := (blk_cell BK149.out 2).trans rfl
            have hcz36_3 : wc.cell? ⟨gb149, 3, none⟩ = some (.slice A148_3 ((rd_T34 l0 a1).f3).length c148_3) := (blk_cell BK149.out 3).trans rfl
            have hcz36_4 : wc.cell? ⟨gb149, 4, none⟩ = some (.int .i64 ((rd_T34 l0 a1).f4)) := (blk_cell BK149.out 4).trans rfl
            have hfz36_0 := blk_frozen BK149.out 0
            have hfz36_1 := blk_frozen BK149.out 1
            have hfz36_2 := blk_frozen BK149.out 2
            have hfz36_3 := blk_frozen BK149.out 3
            have hfz36_4 := blk_frozen BK149.out 4
            go_wp2
            go_meet
            case rel => exact ⟨_, (true), (by first | rfl | (simp; done) | (simp [*]; done)), H', ⟨by have := HJ6.out; have := HJ26.out; first | omega | exact Nat.le_refl _⟩, ⟨by (with_reducible repeat (first | refine blk_drewN ?_ _ | refine blk_drew ?_ | refine blk_alloc ?_ _)); exact BK149.out⟩, ⟨bwZ⟩⟩
           ·
            rw [if_neg c35] at H
            have c35b0 : (((rd_T34 l0 a1).f0) == 5) = false := beq_eq_false_iff_ne.mpr c35
            have c35b1 : (((rd_T34 l0 a1).f0) != 5) = true := bne_iff_ne.mpr c35
            have H' := Aside0.mk H
            clear H
            have hcz37_0 : wc.cell? ⟨gb149, 0, none⟩ = some (.int .i64 ((rd_T34 l0 a1).f0)) := (blk_cell BK149.out 0).trans rfl
            have hcz37_1 : wc.cell? ⟨gb149, 1, none⟩ = some (.int .i64 ((rd_T34 l0 a1).f1)) := (blk_cell BK149.out 1).trans rfl
            have hcz37_2 : wc.cell? ⟨gb149, 2, none⟩ = some (.slice A148_2 ((rd_T34 l0 a1).f2).length c148_2) := (blk_cell BK149.out 2).trans rfl
            have hcz37_3 : wc.cell? ⟨gb149, 3, none⟩ = some (.slice A148_3 ((rd_T34 l0 a1).f3).length c148_3) := (blk_cell BK149.out 3).trans rfl
            have hcz37_4 : wc.cell? ⟨gb149, 4, none⟩ = some (.int .i64 ((rd_T34 l0 a1).f4)) := (blk_cell BK149.out 4).trans rfl
            have hfz37_0 := blk_frozen BK149.out 0
            have hfz37_1 := blk_frozen BK149.out 1
            have hfz37_2 := blk_frozen BK149.out 2
            have hfz37_3 := blk_frozen BK149.out 3
            have hfz37_4 := blk_frozen BK149.out 4
            go_wp2
            go_meet
            case rel => exact ⟨_, ((((rd_T34 l0 a1).f0) == 7)), (by first | rfl | (simp; done) | (simp [*]; done)), H', ⟨by have := HJ6.out; have := HJ26.out; first | omega | exact Nat.le_refl _⟩, ⟨by (with_reducible repeat (first | refine blk_drewN ?_ _ | refine blk_drew ?_ | refine blk_alloc ?_ _)); exact BK149.out⟩, ⟨bwZ⟩⟩
         case rest =>
          clear HC32
          try clear c1
          try clear p1
          try clear q1
          try clear hx1
          try clear c2
          try clear p2
          try clear c3
          try clear c4
          try clear c4b0
          try clear c5
          try clear c5b0
          try clear c11
          try clear c11b0
          try clear c13
          try clear c13b0
          try clear c14
          try clear p14
          try clear q14
          try clear hx14
          try clear c16
          try clear c17
          try clear c17b0
          try clear c17b1
          try clear c26
          try clear c28
          try clear c28b0
          try clear c28b1
          try clear c31
          try clear c33
          try clear c33b0
          try clear c33b1
          try clear c35
          try clear c35b0
          try clear c35b1
          try clear hcz12_0
          try clear hcz12_1
          try clear hcz12_2
          try clear hcz12_3
          try clear hcz12_4
          try clear hcz14_0
          try clear hcz14_1
          try clear hcz14_2
          try clear hcz14_3
          try clear hcz14_4
          try clear hcz18_0
          try clear hcz18_1
          try clear hcz18_2
          try clear hcz18_3
          try clear hcz18_4
          try clear hcz20_0
          try clear hcz20_1
          try clear hcz20_2
          try clear hcz20_3
          try clear hcz20_4
          try clear hcz21_0
          try clear hcz21_1
          try clear hcz21_2
          try clear hcz21_3
          try clear hcz21_4
          try clear hcz23_0
          try clear hcz23_1
          try clear hcz23_2
          try clear hcz23_3
          try clear hcz23_4
          try clear hcz24_0
          try clear hcz24_1
          try clear hcz24_2
          try clear hcz24_3
          try clear hcz24_4
          try clear hcz29_0
          try clear hcz29_1
          try clear hcz29_2
          try clear hcz29_3
          try clear hcz29_4
          try clear hcz30_0
          try clear hcz30_1
          try clear hcz30_2
          try clear hcz30_3
          try clear hcz30_4
          try clear hcz34_0
          try clear hcz34_1
          try clear hcz34_2
          try clear hcz34_3
          try clear hcz34_4
          try clear hcz36_0
          try clear hcz36_1
          try clear hcz36_2
          try clear hcz36_3
          try clear hcz36_4
          try clear hcz37_0
          try clear hcz37_1
          try clear hcz37_2
          try clear hcz37_3
          try clear hcz37_4
          try clear hcz9_0
          try clear hcz9_1
          try clear hcz9_2
          try clear hcz9_3
          try clear hcz9_4
          try clear hfz12_0
          try clear hfz12_1
          try clear hfz12_2
          try clear hfz12_3
          try clear hfz12_4
          try clear hfz14_0
          try clear hfz14_1
          try clear hfz14_2
          try clear hfz14_3
          try clear hfz14_4
          try clear hfz18_0
          try clear hfz18_1
          try clear hfz18_2
          try clear hfz18_3
          try clear hfz18_4
          try clear hfz20_0
          try clear hfz20_1
          try clear hfz20_2
          try clear hfz20_3
          try clear hfz20_4
          try clear hfz21_0
          try clear hfz21_1
          try clear hfz21_2
          try clear hfz21_3
          try clear hfz21_4
          try clear hfz23_0
          try clear hfz23_1
          try clear hfz23_2
          try clear hfz23_3
          try clear hfz23_4
          try clear hfz24_0
          try clear hfz24_1
          try clear hfz24_2
          try clear hfz24_3
          try clear hfz24_4
          try clear hfz29_0
          try clear hfz29_1
          try clear hfz29_2
          try clear hfz29_3
          try clear hfz29_4
          try clear hfz30_0
          try clear hfz30_1
          try clear hfz30_2
          try clear hfz30_3
          try clear hfz30_4
          try clear hfz34_0
          try clear hfz34_1
          try clear hfz34_2
          try clear hfz34_3
          try clear hfz34_4
          try clear hfz36_0
          try clear hfz36_1
          try clear hfz36_2
          try clear hfz36_3
          try clear hfz36_4
          try clear hfz37_0
          try clear hfz37_1
          try clear hfz37_2
          try clear hfz37_3
          try clear hfz37_4
          try clear hfz9_0
          try clear hfz9_1
          try clear hfz9_2
          try clear hfz9_3
          try clear hfz9_4
          try clear hx148_0
          try clear hx148_1
          try clear hx148_2
          try clear hx148_3
          try clear hx148_4
          try clear p1
          try clear p14
          try clear p148
          try clear p2
          try clear q1
          try clear q14
          try clear q148
          obtain ⟨kq, x63_31, rfl, HA, HJ31, BK149, HB⟩ := hcut
          cases kq with
          | zero => exact absurd HA.out (by simp [spec_l3good.j2])
          | succ kj31 =>
           have H := HA.out
           clear HA
           simp only [spec_l3good.j2] at H
           have HC38 := Aside0.mk H
           clear H
           go_upto_if 63 with (fail)
           go_cut [9] (fun v9 wc => ∃ (kq : Nat) (x9_37 : Bool), v9 = .bool x9_37 ∧ Aside0 (spec_l3good.j3 kq l0 a1 t150 x9_37 ((rd_T34 l0 a1).f0) ((rd_T34 l0 a1).f1) ((rd_T34 l0 a1).f2) ((rd_T34 l0 a1).f3) ((rd_T34 l0 a1).f4) = some r) ∧ Aside0 (kq ≤ kj31) ∧ Aside0 (wc.heap[gb149]? = some (.cells #[.int .i64 ((rd_T34 l0 a1).f0), .int .i64 ((rd_T34 l0 a1).f1), (.slice A148_2 ((rd_T34 l0 a1).f2).length c148_2), (.slice A148_3 ((rd_T34 l0 a1).f3).length c148_3), .int .i64 ((rd_T34 l0 a1).f4)] 34 (0, 0))) ∧ Aside0 (Below w.heap.size w wc))
           case first =>
            have H := HC38.out
            clear HC38
            by_cases c39 : x63_31 = true
            ·
             subst c39
             have H1 : (spec_l3good.j3 kj31 l0 a1 t150 true ((rd_T34 l0 a1).f0) ((rd_T34 l0 a1).f1) ((rd_T34 l0 a1).f2) ((rd_T34 l0 a1).f3) ((rd_T34 l0 a1).f4)) = some r := by rw [if_pos rfl] at H; exact H
             clear H
             have H := H1
             clear H1
             have H' := Aside0.mk H
             clear H
             go_wp2
             go_meet
             case rel => exact ⟨_, (true), (by first | rfl | (simp; done) | (simp [*]; done)), H', ⟨by have := HJ6.out; have := HJ26.out; have := HJ31.out; first | omega | exact Nat.le_refl _⟩, ⟨by (with_reducible repeat (first | refine blk_drewN ?_ _ | refine blk_drew ?_ | refine blk_alloc ?_ _)); exact BK149.out⟩, ⟨bwZ⟩⟩
            ·
             replace c39 := Bool.eq_false_iff.mpr c39
             subst c39
             have H1 : (spec_l3good.j3 kj31 l0 a1 t150 a2 ((rd_T34 l0 a1).f0) ((rd_T34 l0 a1).f1) ((rd_T34 l0 a1).f2) ((rd_T34 l0 a1).f3) ((rd_T34 l0 a1).f4)) = some r := by rw [if_neg (show ¬ (false = true) by decide)] at H; exact H
             clear H
             have H := H1
             clear H1
             have H' := Aside0.mk H
             clear H
             go_wp2
             go_meet
             case rel => exact ⟨_, (a2), (by first | rfl | (simp; done) | (simp [*]; done)), H', ⟨by have := HJ6.out; have := HJ26.out; have := HJ31.out; first | omega | exact Nat.le_refl _⟩, ⟨by (with_reducible repeat (first | refine blk_drewN ?_ _ | refine blk_drew ?_ | refine blk_alloc ?_ _)); exact BK149.out⟩, ⟨bwZ⟩⟩
           case rest =>
            clear HC38
            try clear c1
            try clear p1
            try clear q1
            try clear hx1
            try clear c2
            try clear p2
            try clear c3
            try clear c4
            try clear c4b0
            try clear c5
            try clear c5b0
            try clear c11
            try clear c11b0
            try clear c13
            try clear c13b0
            try clear c14
            try clear p14
            try clear q14
            try clear hx14
            try clear c16
            try clear c17
            try clear c17b0
            try clear c17b1
            try clear c26
            try clear c28
            try clear c28b0
            try clear c28b1
            try clear c31
            try clear c33
            try clear c33b0
            try clear c33b1
            try clear c35
            try clear c35b0
            try clear c35b1
            try clear c39
            try clear hcz12_0
            try clear hcz12_1
            try clear hcz12_2
            try clear hcz12_3
            try clear hcz12_4
            try clear hcz14_0
            try clear hcz14_1
            try clear hcz14_2
            try clear hcz14_3
            try clear hcz14_4
            try clear hcz18_0
            try clear hcz18_1
            try clear hcz18_2
            try clear hcz18_3
            try clear hcz18_4
            try clear hcz20_0
            try clear hcz20_1
            try clear hcz20_2
            try clear hcz20_3
            try clear hcz20_4
            try clear hcz21_0
            try clear hcz21_1
            try clear hcz21_2
            try clear hcz21_3
            try clear hcz21_4
            try clear hcz23_0
            try clear hcz23_1
            try clear hcz23_2
            try clear hcz23_3
            try clear hcz23_4
            try clear hcz24_0
            try clear hcz24_1
            try clear hcz24_2
            try clear hcz24_3
            try clear hcz24_4
            try clear hcz29_0
            try clear hcz29_1
            try clear hcz29_2
            try clear hcz29_3
            try clear hcz29_4
            try clear hcz30_0
            try clear hcz30_1
            try clear hcz30_2
            try clear hcz30_3
            try clear hcz30_4
            try clear hcz34_0
            try clear hcz34_1
            try clear hcz34_2
            try clear hcz34_3
            try clear hcz34_4
            try clear hcz36_0
            try clear hcz36_1
            try clear hcz36_2
            try clear hcz36_3
            try clear hcz36_4
            try clear hcz37_0
            try clear hcz37_1
            try clear hcz37_2
            try clear hcz37_3
            try clear hcz37_4
            try clear hcz9_0
            try clear hcz9_1
            try clear hcz9_2
            try clear hcz9_3
            try clear hcz9_4
            try clear hfz12_0
            try clear hfz12_1
            try clear hfz12_2
            try clear hfz12_3
            try clear hfz12_4
            try clear hfz14_0
            try clear hfz14_1
            try clear hfz14_2
            try clear hfz14_3
            try clear hfz14_4
            try clear hfz18_0
            try clear hfz18_1
            try clear hfz18_2
            try clear hfz18_3
            try clear hfz18_4
            try clear hfz20_0
            try clear hfz20_1
            try clear hfz20_2
            try clear hfz20_3
            try clear hfz20_4
            try clear hfz21_0
            try clear hfz21_1
            try clear hfz21_2
            try clear hfz21_3
            try clear hfz21_4
            try clear hfz23_0
            try clear hfz23_1
            try clear hfz23_2
            try clear hfz23_3
            try clear hfz23_4
            try clear hfz24_0
            try clear hfz24_1
            try clear hfz24_2
            try clear hfz24_3
            try clear hfz24_4
            try clear hfz29_0
            try clear hfz29_1
            try clear hfz29_2
            try clear hfz29_3
            try clear hfz29_4
            try clear hfz30_0
            try clear hfz30_1
            try clear hfz30_2
            try clear hfz30_3
            try clear hfz30_4
            try clear hfz34_0
            try clear hfz34_1
            try clear hfz34_2
            try clear hfz34_3
            try clear hfz34_4
            try clear hfz36_0
            try clear hfz36_1
            try clear hfz36_2
            try clear hfz36_3
            try clear hfz36_4
            try clear hfz37_0
            try clear hfz37_1
            try clear hfz37_2
            try clear hfz37_3
            try clear hfz37_4
            try clear hfz9_0
            try clear hfz9_1
            try clear hfz9_2
            try clear hfz9_3
            try clear hfz9_4
            try clear hx148_0
            try clear hx148_1
            try clear hx148_2
            try clear hx148_3
            try clear hx148_4
            try clear p1
            try clear p14
            try clear p148
            try clear p2
            try clear q1
            try clear q14
            try clear q148
            obtain ⟨kq, x9_37, rfl, HA, HJ37, BK149, HB⟩ := hcut
            cases kq with
            | zero => exact absurd HA.out (by simp [spec_l3good.j3])
            | succ kj37 =>
             have H := HA.out
             clear HA
             simp only [spec_l3good.j3] at H
             have HC40 := Aside0.mk H
             clear H
             have hcz41_0 : wc.cell? ⟨gb149, 0, none⟩ = some (.int .i64 ((rd_T34 l0 a1).f0)) := (blk_cell BK149.out 0).trans rfl
             have hcz41_1 : wc.cell? ⟨gb149, 1, none⟩ = some (.int .i64 ((rd_T34 l0 a1).f1)) := (blk_cell BK149.out 1).trans rfl
             have hcz41_2 : wc.cell? ⟨gb149, 2, none⟩ = some (.slice A148_2 ((rd_T34 l0 a1).f2).length c148_2) := (blk_cell BK149.out 2).trans rfl
             have hcz41_3 : wc.cell? ⟨gb149, 3, none⟩ = some (.slice A148_3 ((rd_T34 l0 a1).f3).length c148_3) := (blk_cell BK149.out 3).trans rfl
             have hcz41_4 : wc.cell? ⟨gb149, 4, none⟩ = some (.int .i64 ((rd_T34 l0 a1).f4)) := (blk_cell BK149.out 4).trans rfl
             have hfz41_0 := blk_frozen BK149.out 0
             have hfz41_1 := blk_frozen BK149.out 1
             have hfz41_2 := blk_frozen BK149.out 2
             have hfz41_3 := blk_frozen BK149.out 3
             have hfz41_4 := blk_frozen BK149.out 4
             go_upto_if 66 with (fail)
             go_cut [9] (fun v9 wc => ∃ (kq : Nat) (x9_39 : Bool), v9 = .bool x9_39 ∧ Aside0 (spec_l3good.j4 kq l0 a1 t150 x9_39 ((rd_T34 l0 a1).f0) ((rd_T34 l0 a1).f1) ((rd_T34 l0 a1).f2) ((rd_T34 l0 a1).f3) ((rd_T34 l0 a1).f4) = some r) ∧ Aside0 (kq ≤ kj37) ∧ Aside0 (wc.heap[gb149]? = some (.cells #[.int .i64 ((rd_T34 l0 a1).f0), .int .i64 ((rd_T34 l0 a1).f1), (.slice A148_2 ((rd_T34 l0 a1).f2).length c148_2), (.slice A148_3 ((rd_T34 l0 a1).f3).length c148_3), .int .i64 ((rd_T34 l0 a1).f4)] 34 (0, 0))) ∧ Aside0 (Below w.heap.size w wc))
             case first =>
              have H := HC40.out
              clear HC40
              by_cases c42 : ((rd_T34 l0 a1).f0) = 19
              ·
               rw [if_pos c42] at H
               have c42b0 : (((rd_T34 l0 a1).f0) == 19) = true := beq_iff_eq.mpr c42
               have c42b1 : (((rd_T34 l0 a1).f0) != 19) = false := bne_eq_false_iff_eq.mpr c42
               clear c42
               (first | rw [c42b0] | (simp only [i64_w, i32_w]; rw [c42b0]) | skip)
               have H' := Aside0.mk H
               clear H
               go_wp2
               go_meet
               case rel => exact ⟨_, (false), (by first | rfl | (simp; done) | (simp [*]; done)), H', ⟨by have := HJ6.out; have := HJ26.out; have := HJ31.out; have := HJ37.out; first | omega | exact Nat.le_refl _⟩, ⟨by (with_reducible repeat (first | refine blk_drewN ?_ _ | refine blk_drew ?_ | refine blk_alloc ?_ _)); exact BK149.out⟩, ⟨bwZ⟩⟩
              ·
               rw [if_neg c42] at H
               have c42b0 : (((rd_T34 l0 a1).f0) == 19) = false := beq_eq_false_iff_ne.mpr c42
               have c42b1 : (((rd_T34 l0 a1).f0) != 19) = true := bne_iff_ne.mpr c42
               (first | rw [c42b0] | (simp only [i64_w, i32_w]; rw [c42b0]) | skip)
               have H' := Aside0.mk H
               clear H
               go_wp2
               go_meet
               case rel => exact ⟨_, (x9_37), (by first | rfl | (simp; done) | (simp [*]; done)), H', ⟨by have := HJ6.out; have := HJ26.out; have := HJ31.out; have := HJ37.out; first | omega | exact Nat.le_refl _⟩, ⟨by (with_reducible repeat (first | refine blk_drewN ?_ _ | refine blk_drew ?_ | refine blk_alloc ?_ _)); exact BK149.out⟩, ⟨bwZ⟩⟩
             case rest =>
              clear HC40
              try clear c1
              try clear p1
              try clear q1
              try clear hx1
              try clear c2
              try clear p2
              try clear c3
              try clear c4
              try clear c4b0
              try clear c5
              try clear c5b0
              try clear c11
              try clear c11b0
              try clear c13
              try clear c13b0
              try clear c14
              try clear p14
              try clear q14
              try clear hx14
              try clear c16
              try clear c17
              try clear c17b0
              try clear c17b1
              try clear c26
              try clear c28
              try clear c28b0
              try clear c28b1
              try clear c31
              try clear c33
              try clear c33b0
              try clear c33b1
              try clear c35
              try clear c35b0
              try clear c35b1
              try clear c39
              try clear c42
              try clear c42b0
              try clear c42b1
              try clear hcz12_0
              try clear hcz12_1
              try clear hcz12_2
              try clear hcz12_3
              try clear hcz12_4
              try clear hcz14_0
              try clear hcz14_1
              try clear hcz14_2
              try clear hcz14_3
              try clear hcz14_4
              try clear hcz18_0
              try clear hcz18_1
              try clear hcz18_2
              try clear hcz18_3
              try clear hcz18_4
              try clear hcz20_0
              try clear hcz20_1
              try clear hcz20_2
              try clear hcz20_3
              try clear hcz20_4
              try clear hcz21_0
              try clear hcz21_1
              try clear hcz21_2
              try clear hcz21_3
              try clear hcz21_4
              try clear hcz23_0
              try clear hcz23_1
              try clear hcz23_2
              try clear hcz23_3
              try clear hcz23_4
              try clear hcz24_0
              try clear hcz24_1
              try clear hcz24_2
              try clear hcz24_3
              try clear hcz24_4
              try clear hcz29_0
              try clear hcz29_1
              try clear hcz29_2
              try clear hcz29_3
              try clear hcz29_4
              try clear hcz30_0
              try clear hcz30_1
              try clear hcz30_2
              try clear hcz30_3
              try clear hcz30_4
              try clear hcz34_0
              try clear hcz34_1
              try clear hcz34_2
              try clear hcz34_3
              try clear hcz34_4
              try clear hcz36_0
              try clear hcz36_1
              try clear hcz36_2
              try clear hcz36_3
              try clear hcz36_4
              try clear hcz37_0
              try clear hcz37_1
              try clear hcz37_2
              try clear hcz37_3
              try clear hcz37_4
              try clear hcz41_0
              try clear hcz41_1
              try clear hcz41_2
              try clear hcz41_3
              try clear hcz41_4
              try clear hcz9_0
              try clear hcz9_1
              try clear hcz9_2
              try clear hcz9_3
              try clear hcz9_4
              try clear hfz12_0
              try clear hfz12_1
              try clear hfz12_2
              try clear hfz12_3
              try clear hfz12_4
              try clear hfz14_0
              try clear hfz14_1
              try clear hfz14_2
              try clear hfz14_3
              try clear hfz14_4
              try clear hfz18_0
              try clear hfz18_1
              try clear hfz18_2
              try clear hfz18_3
              try clear hfz18_4
              try clear hfz20_0
              try clear hfz20_1
              try clear hfz20_2
              try clear hfz20_3
              try clear hfz20_4
              try clear hfz21_0
              try clear hfz21_1
              try clear hfz21_2
              try clear hfz21_3
              try clear hfz21_4
              try clear hfz23_0
              try clear hfz23_1
              try clear hfz23_2
              try clear hfz23_3
              try clear hfz23_4
              try clear hfz24_0
              try clear hfz24_1
              try clear hfz24_2
              try clear hfz24_3
              try clear hfz24_4
              try clear hfz29_0
              try clear hfz29_1
              try clear hfz29_2
              try clear hfz29_3
              try clear hfz29_4
              try clear hfz30_0
              try clear hfz30_1
              try clear hfz30_2
              try clear hfz30_3
              try clear hfz30_4
              try clear hfz34_0
              try clear hfz34_1
              try clear hfz34_2
              try clear hfz34_3
              try clear hfz34_4
              try clear hfz36_0
              try clear hfz36_1
              try clear hfz36_2
              try clear hfz36_3
              try clear hfz36_4
              try clear hfz37_0
              try clear hfz37_1
              try clear hfz37_2
              try clear hfz37_3
              try clear hfz37_4
              try clear hfz41_0
              try clear hfz41_1
              try clear hfz41_2
              try clear hfz41_3
              try clear hfz41_4
              try clear hfz9_0
              try clear hfz9_1
              try clear hfz9_2
              try clear hfz9_3
              try clear hfz9_4
              try clear hx148_0
              try clear hx148_1
              try clear hx148_2
              try clear hx148_3
              try clear hx148_4
              try clear p1
              try clear p14
              try clear p148
              try clear p2
              try clear q1
              try clear q14
              try clear q148
              obtain ⟨kq, x9_39, rfl, HA, HJ39, BK149, HB⟩ := hcut
              cases kq with
              | zero => exact absurd HA.out (by simp [spec_l3good.j4])
              | succ kj39 =>
               have H := HA.out
               clear HA
               simp only [spec_l3good.j4] at H
               replace H := Option.bind_eq_some_iff.mp H
               obtain ⟨t152, A430, H⟩ := H
               replace H : (spec_l3good.l0 kj39 l0 t150 x9_39 t152 0 ((rd_T34 l0 a1).f0) ((rd_T34 l0 a1).f1) ((rd_T34 l0 a1).f2) ((rd_T34 l0 a1).f3) ((rd_T34 l0 a1).f4)) = some r := H
               have A43 := Aside0.mk A430
               clear A430
               have H' := Aside0.mk H
               clear H
               go_wp2_with (first | ((with_reducible refine gate_callee (f := 19) rfl ?_); refine goesL_ (some 69) rfl rfl Try.func19 (by kernel_rfl) rfl #[.slice (some ad148) l0.length c0, .int .i64 a1] rfl (by (try simp only [List.map_toArray, List.map_cons, List.map_nil]); first | done | rfl | (simp only [List.length_drop, List.length_take]; rfl)) ?_; (with_reducible refine (spec_l3kids.calls kj39 _ _ l0 a1 t152 _ ?side1 ?side2 A43.out).mono ?_); (case side1 => repeat (first | exact (Kd.C_below HR0.out HB.out) | (with_reducible refine Kd.C_alloc ?_ _) | (with_reducible refine Kd.C_drewN ?_ _) | (with_reducible refine Kd.C_drew ?_))); (case side2 => exact HC0.out); rintro e w44 ⟨v153, rfl, ho0, hb⟩; refine ⟨_, rfl, ?_⟩; have n0_ := Aside0.mk (Kd.R_lower ho0 (below_size bwZ)); have n1_ := Aside0.mk (blk_below (g := gb149) (o := .cells #[.int .i64 ((rd_T34 l0 a1).f0), .int .i64 ((rd_T34 l0 a1).f1), .slice A148_2 ((rd_T34 l0 a1).f2).length c148_2, .slice A148_3 ((rd_T34 l0 a1).f3).length c148_3, .int .i64 ((rd_T34 l0 a1).f4)] 34 (0, 0)) bkZ hb); have n2_ := Aside0.mk (below_step bwZ hb); clear BK149; clear HB; have HO154 := n0_; have BK149 := n1_; have HB := n2_; clear n0_ n1_ n2_; (try clear hb); (try clear hb2); (try clear hk); (try clear hi); (try clear ho0)))
               go_loopg [11] kj39 (fun kq v11 w' => ∃ (x11_6 : Int), v11 = .int .i64 x11_6 ∧ Aside0 (spec_l3good.l0 kq l0 t150 x9_39 t152 x11_6 ((rd_T34 l0 a1).f0) ((rd_T34 l0 a1).f1) ((rd_T34 l0 a1).f2) ((rd_T34 l0 a1).f3) ((rd_T34 l0 a1).f4) = some r) ∧ Aside0 (kq ≤ kj39) ∧ Aside0 (Kd.R (Kd.int .i64) 3 w' w.heap.size (fun _ => True) v153 t152) ∧ Aside0 (w'.heap[gb149]? = some (.cells #[.int .i64 ((rd_T34 l0 a1).f0), .int .i64 ((rd_T34 l0 a1).f1), (.slice A148_2 ((rd_T34 l0 a1).f2).length c148_2), (.slice A148_3 ((rd_T34 l0 a1).f3).length c148_3), .int .i64 ((rd_T34 l0 a1).f4)] 34 (0, 0))) ∧ Aside0 (Below w.heap.size w w'))
               case atStart => exact ⟨(0), (by first | rfl | (simp; done) | (simp [*]; done)), H', ⟨Nat.le_refl _⟩, ⟨by (with_reducible repeat (first | apply Kd.R_alloc | apply Kd.R_drewN | apply Kd.R_drew)); exact HO154.out⟩, ⟨by (with_reducible repeat (first | refine blk_drewN ?_ _ | refine blk_drew ?_ | refine blk_alloc ?_ _)); exact BK149.out⟩, ⟨bwZ⟩⟩
               case round =>
                clear H'
                try clear c1
                try clear p1
                try clear q1
                try clear hx1
                try clear c2
                try clear p2
                try clear c3
                try clear c4
                try clear c4b0
                try clear c5
                try clear c5b0
                try clear c11
                try clear c11b0
                try clear c13
                try clear c13b0
                try clear c14
                try clear p14
                try clear q14
                try clear hx14
                try clear c16
                try clear c17
                try clear c17b0
                try clear c17b1
                try clear c19
                try clear c26
                try clear c28
                try clear c28b0
                try clear c28b1
                try clear c31
                try clear c33
                try clear c33b0
                try clear c33b1
                try clear c35
                try clear c35b0
                try clear c35b1
                try clear c39
                try clear c42
                try clear c42b0
                try clear c42b1
                try clear hcz12_0
                try clear hcz12_1
                try clear hcz12_2
                try clear hcz12_3
                try clear hcz12_4
                try clear hcz14_0
                try clear hcz14_1
                try clear hcz14_2
                try clear hcz14_3
                try clear hcz14_4
                try clear hcz18_0
                try clear hcz18_1
                try clear hcz18_2
                try clear hcz18_3
                try clear hcz18_4
                try clear hcz20_0
                try clear hcz20_1
                try clear hcz20_2
                try clear hcz20_3
                try clear hcz20_4
                try clear hcz21_0
                try clear hcz21_1
                try clear hcz21_2
                try clear hcz21_3
                try clear hcz21_4
                try clear hcz23_0
                try clear hcz23_1
                try clear hcz23_2
                try clear hcz23_3
                try clear hcz23_4
                try clear hcz24_0
                try clear hcz24_1
                try clear hcz24_2
                try clear hcz24_3
                try clear hcz24_4
                try clear hcz29_0
                try clear hcz29_1
                try clear hcz29_2
                try clear hcz29_3
                try clear hcz29_4
                try clear hcz30_0
                try clear hcz30_1
                try clear hcz30_2
                try clear hcz30_3
                try clear hcz30_4
                try clear hcz34_0
                try clear hcz34_1
                try clear hcz34_2
                try clear hcz34_3
                try clear hcz34_4
                try clear hcz36_0
                try clear hcz36_1
                try clear hcz36_2
                try clear hcz36_3
                try clear hcz36_4
                try clear hcz37_0
                try clear hcz37_1
                try clear hcz37_2
                try clear hcz37_3
                try clear hcz37_4
                try clear hcz41_0
                try clear hcz41_1
                try clear hcz41_2
                try clear hcz41_3
                try clear hcz41_4
                try clear hcz9_0
                try clear hcz9_1
                try clear hcz9_2
                try clear hcz9_3
                try clear hcz9_4
                try clear hfz12_0
                try clear hfz12_1
                try clear hfz12_2
                try clear hfz12_3
                try clear hfz12_4
                try clear hfz14_0
                try clear hfz14_1
                try clear hfz14_2
                try clear hfz14_3
                try clear hfz14_4
                try clear hfz18_0
                try clear hfz18_1
                try clear hfz18_2
                try clear hfz18_3
                try clear hfz18_4
                try clear hfz20_0
                try clear hfz20_1
                try clear hfz20_2
                try clear hfz20_3
                try clear hfz20_4
                try clear hfz21_0
                try clear hfz21_1
                try clear hfz21_2
                try clear hfz21_3
                try clear hfz21_4
                try clear hfz23_0
                try clear hfz23_1
                try clear hfz23_2
                try clear hfz23_3
                try clear hfz23_4
                try clear hfz24_0
                try clear hfz24_1
                try clear hfz24_2
                try clear hfz24_3
                try clear hfz24_4
                try clear hfz29_0
                try clear hfz29_1
                try clear hfz29_2
                try clear hfz29_3
                try clear hfz29_4
                try clear hfz30_0
                try clear hfz30_1
                try clear hfz30_2
                try clear hfz30_3
                try clear hfz30_4
                try clear hfz34_0
                try clear hfz34_1
                try clear hfz34_2
                try clear hfz34_3
                try clear hfz34_4
                try clear hfz36_0
                try clear hfz36_1
                try clear hfz36_2
                try clear hfz36_3
                try clear hfz36_4
                try clear hfz37_0
                try clear hfz37_1
                try clear hfz37_2
                try clear hfz37_3
                try clear hfz37_4
                try clear hfz41_0
                try clear hfz41_1
                try clear hfz41_2
                try clear hfz41_3
                try clear hfz41_4
                try clear hfz9_0
                try clear hfz9_1
                try clear hfz9_2
                try clear hfz9_3
                try clear hfz9_4
                try clear hx148_0
                try clear hx148_1
                try clear hx148_2
                try clear hx148_3
                try clear hx148_4
                try clear p1
                try clear p14
                try clear p148
                try clear p2
                try clear q1
                try clear q14
                try clear q148
                obtain ⟨x11_6, rfl, HA, HK6, HO_10, BK149, HB⟩ := hrel
                cases gk with
                | zero => exact absurd HA.out (by simp [spec_l3good.l0])
                | succ k6 =>
                 have H := HA.out
                 clear HA
                 simp only [spec_l3good.l0] at H
                 by_cases c45 : x11_6 < (t152.length : Int)
                 ·
                  rw [if_pos c45] at H
                  have c45b0 : decide (x11_6 < (t152.length : Int)) = true := decide_eq_true c45
                  clear c45
                  by_cases c46 : 0 ≤ x11_6
                  ·
                   rw [if_pos c46] at H
                   have c46b0 : decide (0 ≤ x11_6) = true := decide_eq_true c46
                   clear c46
                   by_cases c47 : 0 ≤ (rd t152 x11_6)
                   ·
                    rw [if_pos c47] at H
                    have c47b0 : decide (0 ≤ (rd t152 x11_6)) = true := decide_eq_true c47
                    clear c47
                    by_cases c48 : (rd t152 x11_6) < (l0.length : Int)
                    ·
                     rw [if_pos c48] at H
                     have c48b0 : decide ((rd t152 x11_6) < (l0.length : Int)) = true := decide_eq_true c48
                     clear c48
                     have HC49 := Aside0.mk H
                     clear H
                     obtain ⟨Ao50, co50, eo50⟩ := Kd.R_slice HO_10.out
                     subst eo50
                     have p155 : 0 ≤ (x11_6 : Int) := odZ
                     have q155 : x11_6 < (t152.length : Int) := odZ
                     obtain ⟨ad155, e155, hx155_0⟩ := Kd.at_int (Kd.R_reads' HO_10.out).2.2 x11_6 p155 q155
                     cases e155
                     replace p155 := eq_true p155
                     replace q155 := eq_true q155
                     have p156 : 0 ≤ ((rd t152 x11_6) : Int) := odZ
                     have q156 : (rd t152 x11_6) < (l0.length : Int) := odZ
                     obtain ⟨ad156, A156_2, c156_2, A156_3, c156_3, e156, hx156_0, hx156_1, hx156_2, hx156_3, hx156_4, hl156_2, hi156_2, hl156_3, hi156_3⟩ := at_T34 HR0.out (rd t152 x11_6) p156 q156
                     obtain rfl : ad148 = ad156 := (by injection e156)
                     replace hx156_0 := (HB.out.cell (World.block_lt_of_cell? w _ hx156_0)).trans hx156_0
                     replace hx156_1 := (HB.out.cell (World.block_lt_of_cell? w _ hx156_1)).trans hx156_1
                     replace hx156_2 := (HB.out.cell (World.block_lt_of_cell? w _ hx156_2)).trans hx156_2
                     replace hx156_3 := (HB.out.cell (World.block_lt_of_cell? w _ hx156_3)).trans hx156_3
                     replace hx156_4 := (HB.out.cell (World.block_lt_of_cell? w _ hx156_4)).trans hx156_4
                     have HR156_2 := Aside0.mk hi156_2
                     have HC156_2 := Aside0.mk hl156_2
                     clear hi156_2 hl156_2
                     have HR156_3 := Aside0.mk hi156_3
                     have HC156_3 := Aside0.mk hl156_3
                     clear hi156_3 hl156_3
                     replace p156 := eq_true p156
                     replace q156 := eq_true q156
                     go_upto_region 17 with (fail)
                     go_cut [99] (fun v99 wc => ∃ (kq : Nat) (x99_48 : Bool), v99 = .bool x99_48 ∧ Aside0 (spec_l3good.j6 kq l0 t150 x9_39 t152 x11_6 ((rd_T34 l0 (rd t152 x11_6)).f0) x99_48 ((rd_T34 l0 a1).f0) ((rd_T34 l0 a1).f1) ((rd_T34 l0 a1).f2) ((rd_T34 l0 a1).f3) ((rd_T34 l0 a1).f4) = some r) ∧ Aside0 (kq ≤ k6) ∧ Aside0 (Kd.R (Kd.int .i64) 3 wc w.heap.size (fun _ => True) (.slice (some ad155) t152.length co50) t152) ∧ Aside0 (wc.heap[gb149]? = some (.cells #[.int .i64 ((rd_T34 l0 a1).f0), .int .i64 ((rd_T34 l0 a1).f1), (.slice A148_2 ((rd_T34 l0 a1).f2).length c148_2), (.slice A148_3 ((rd_T34 l0 a1).f3).length c148_3), .int .i64 ((rd_T34 l0 a1).f4)] 34 (0, 0))) ∧ Aside0 (Below w.heap.size w wc))
                     case first =>
                      have H := HC49.out
                      clear HC49
                      by_cases c51 : x11_6 < (t150.size : Int)
                      ·
                       rw [if_pos c51] at H
                       have c51b0 : decide (x11_6 < (t150.size : Int)) = true := decide_eq_true c51
                       clear c51
                       (first | rw [c51b0] | (simp only [i64_w, i32_w]; rw [c51b0]) | skip)
                       replace H := Option.bind_eq_some_iff.mp H
                       obtain ⟨t157, A530, H⟩ := H
                       replace H : (if t157 = true then ((spec_l3good.f k6 l0 (rd t152 x11_6) x9_39).bind fun t159 => (spec_l3good.j6 k6 l0 t150 x9_39 t152 x11_6 ((rd_T34 l0 (rd t152 x11_6)).f0) (!t159) ((rd_T34 l0 a1).f0) ((rd_T34 l0 a1).f1) ((rd_T34 l0 a1).f2) ((rd_T34 l0 a1).f3) ((rd_T34 l0 a1).f4))) else (spec_l3good.j6 k6 l0 t150 x9_39 t152 x11_6 ((rd_T34 l0 (rd t152 x11_6)).f0) true ((rd_T34 l0 a1).f0) ((rd_T34 l0 a1).f1) ((rd_T34 l0 a1).f2) ((rd_T34 l0 a1).f3) ((rd_T34 l0 a1).f4))) = some r := H
                       have A53 := Aside0.mk A530
                       clear A530
                       by_cases c54 : t157 = true
                       ·
                        subst c54
                        have H1 : ((spec_l3good.f k6 l0 (rd t152 x11_6) x9_39).bind fun t159 => (spec_l3good.j6 k6 l0 t150 x9_39 t152 x11_6 ((rd_T34 l0 (rd t152 x11_6)).f0) (!t159) ((rd_T34 l0 a1).f0) ((rd_T34 l0 a1).f1) ((rd_T34 l0 a1).f2) ((rd_T34 l0 a1).f3) ((rd_T34 l0 a1).f4))) = some r := by rw [if_pos rfl] at H; exact H
                        clear H
                        have H := H1
                        clear H1
                        replace H := Option.bind_eq_some_iff.mp H
                        obtain ⟨t159, A550, H⟩ := H
                        replace H : (spec_l3good.j6 k6 l0 t150 x9_39 t152 x11_6 ((rd_T34 l0 (rd t152 x11_6)).f0) (!t159) ((rd_T34 l0 a1).f0) ((rd_T34 l0 a1).f1) ((rd_T34 l0 a1).f2) ((rd_T34 l0 a1).f3) ((rd_T34 l0 a1).f4)) = some r := H
                        have A55 := Aside0.mk A550
                        clear A550
                        have H' := Aside0.mk H
                        clear H
                        have p52 : 0 ≤ (x11_6 : Int) := odZ
                        have q52 : x11_6 < (t150.size : Int) := odZ
                        have hx52 := bt_at t150 x11_6
                        replace p52 := eq_true p52
                        replace q52 := eq_true q52
                        go_wp2_with (first | ((with_reducible refine gate_callee (f := 20) rfl ?_); refine goesL_ (some 88) rfl rfl Try.func20 (by kernel_rfl) rfl #[.int .u8 (bt t150 x11_6), .int .i64 ((rd_T34 l0 (rd t152 x11_6)).f0)] rfl (by (try simp only [List.map_toArray, List.map_cons, List.map_nil]); first | done | rfl | (simp only [List.length_drop, List.length_take]; rfl)) ?_; (with_reducible refine (spec_l3fits.calls (bt t150 x11_6) ((rd_T34 l0 (rd t152 x11_6)).f0) true _ A53.out).mono ?_); rintro e w' ⟨rfl, ⟨nd, rfl⟩⟩; refine ⟨_, rfl, ?_⟩; have p158 : 0 ≤ (x11_6 : Int) := odZ; have q158 : x11_6 < (t152.length : Int) := odZ; obtain ⟨ad158, e158, hx158_0⟩ := Kd.at_int (Kd.R_reads' HO_10.out).2.2 x11_6 p158 q158; obtain rfl : ad155 = ad158 := (by injection e158); replace p158 := eq_true p158; replace q158 := eq_true q158) | (go_at_call 11; (with_reducible refine (ih k6 (by have := HJ6.out; have := HJ26.out; have := HJ31.out; have := HJ37.out; have := HJ39.out; have := HK6.out; omega) _ _ l0 (rd t152 x11_6) x9_39 t159 _ ?side1 ?side2 A55.out).mono ?_); (case side1 => repeat (first | exact (Kd.C_below HR0.out bwZ) | (with_reducible refine Kd.C_alloc ?_ _) | (with_reducible refine Kd.C_drewN ?_ _) | (with_reducible refine Kd.C_drew ?_))); (case side2 => exact HC0.out); rintro e w56 ⟨rfl, hb⟩; have n0_ := Aside0.mk (Kd.R_below (by (with_reducible repeat (first | apply Kd.R_alloc | apply Kd.R_drewN | apply Kd.R_drew)); exact HO_10.out) hb); have n1_ := Aside0.mk (blk_below (g := gb149) (o := .cells #[.int .i64 ((rd_T34 l0 a1).f0), .int .i64 ((rd_T34 l0 a1).f1), .slice A148_2 ((rd_T34 l0 a1).f2).length c148_2, .slice A148_3 ((rd_T34 l0 a1).f3).length c148_3, .int .i64 ((rd_T34 l0 a1).f4)] 34 (0, 0)) bkZ hb); have n2_ := Aside0.mk (below_step bwZ hb); clear HO_10; clear BK149; clear HB; have HO_10 := n0_; have BK149 := n1_; have HB := n2_; clear n0_ n1_ n2_; (try clear hb); (try clear hb2); (try clear hk); (try clear hi)))
                        go_meet
                        case rel => exact ⟨_, (!t159), (by first | rfl | (simp; done) | (simp [*]; done)), H', ⟨by have := HJ6.out; have := HJ26.out; have := HJ31.out; have := HJ37.out; have := HJ39.out; have := HK6.out; first | omega | exact Nat.le_refl _⟩, ⟨by (with_reducible repeat (first | apply Kd.R_alloc | apply Kd.R_drewN | apply Kd.R_drew)); exact HO_10.out⟩, ⟨by (with_reducible repeat (first | refine blk_drewN ?_ _ | refine blk_drew ?_ | refine blk_alloc ?_ _)); exact BK149.out⟩, ⟨bwZ⟩⟩
                       ·
                        replace c54 := Bool.eq_false_iff.mpr c54
                        subst c54
                        have H1 : (spec_l3good.j6 k6 l0 t150 x9_39 t152 x11_6 ((rd_T34 l0 (rd t152 x11_6)).f0) true ((rd_T34 l0 a1).f0) ((rd_T34 l0 a1).f1) ((rd_T34 l0 a1).f2) ((rd_T34 l0 a1).f3) ((rd_T34 l0 a1).f4)) = some r := by rw [if_neg (show ¬ (false = true) by decide)] at H; exact H
                        clear H
                        have H := H1
                        clear H1
                        have H' := Aside0.mk H
                        clear H
                        have p52 : 0 ≤ (x11_6 : Int) := odZ
                        have q52 : x11_6 < (t150.size : Int) := odZ
                        have hx52 := bt_at t150 x11_6
                        replace p52 := eq_true p52
                        replace q52 := eq_true q52
                        go_wp2_with (first | ((with_reducible refine gate_callee (f := 20) rfl ?_); refine goesL_ (some 88) rfl rfl Try.func20 (by kernel_rfl) rfl #[.int .u8 (bt t150 x11_6), .int .i64 ((rd_T34 l0 (rd t152 x11_6)).f0)] rfl (by (try simp only [List.map_toArray, List.map_cons, List.map_nil]); first | done | rfl | (simp only [List.length_drop, List.length_take]; rfl)) ?_; (with_reducible refine (spec_l3fits.calls (bt t150 x11_6) ((rd_T34 l0 (rd t152 x11_6)).f0) false _ A53.out).mono ?_); rintro e w' ⟨rfl, ⟨nd, rfl⟩⟩; refine ⟨_, rfl, ?_⟩))
                        go_meet
                        case rel => exact ⟨_, (true), (by first | rfl | (simp; done) | (simp [*]; done)), H', ⟨by have := HJ6.out; have := HJ26.out; have := HJ31.out; have := HJ37.out; have := HJ39.out; have := HK6.out; first | omega | exact Nat.le_refl _⟩, ⟨by (with_reducible repeat (first | apply Kd.R_alloc | apply Kd.R_drewN | apply Kd.R_drew)); exact HO_10.out⟩, ⟨by (with_reducible repeat (first | refine blk_drewN ?_ _ | refine blk_drew ?_ | refine blk_alloc ?_ _)); exact BK149.out⟩, ⟨bwZ⟩⟩
                      ·
                       rw [if_neg c51] at H
                       exact absurd H (by simp)
                     case rest =>
                      clear HC49
                      try clear c1
                      try clear p1
                      try clear q1
                      try clear hx1
                      try clear c2
                      try clear p2
                      try clear c3
                      try clear c4
                      try clear c4b0
                      try clear c5
                      try clear c5b0
                      try clear p5
                      try clear q5
                      try clear hx5
                      try clear c11
                      try clear c11b0
                      try clear c13
                      try clear c13b0
                      try clear c14
                      try clear p14
                      try clear q14
                      try clear hx14
                      try clear c15
                      try clear p15
                      try clear q15
                      try clear hx15
                      try clear c16
                      try clear c17
                      try clear c17b0
                      try clear c17b1
                      try clear c19
                      try clear c20
                      try clear c26
                      try clear c28
                      try clear c28b0
                      try clear c28b1
                      try clear c31
                      try clear c33
                      try clear c33b0
                      try clear c33b1
                      try clear c35
                      try clear c35b0
                      try clear c35b1
                      try clear c39
                      try clear c42
                      try clear c42b0
                      try clear c42b1
                      try clear c45
                      try clear c45b0
                      try clear c46
                      try clear c46b0
                      try clear c47
                      try clear c47b0
                      try clear c48
                      try clear c48b0
                      try clear c51
                      try clear c51b0
                      try clear p52
                      try clear q52
                      try clear hx52
                      try clear c54
                      try clear hcz12_0
                      try clear hcz12_1
                      try clear hcz12_2
                      try clear hcz12_3
                      try clear hcz12_4
                      try clear hcz14_0
                      try clear hcz14_1
                      try clear hcz14_2
                      try clear hcz14_3
                      try clear hcz14_4
                      try clear hcz18_0
                      try clear hcz18_1
                      try clear hcz18_2
                      try clear hcz18_3
                      try clear hcz18_4
                      try clear hcz20_0
                      try clear hcz20_1
                      try clear hcz20_2
                      try clear hcz20_3
                      try clear hcz20_4
                      try clear hcz21_0
                      try clear hcz21_1
                      try clear hcz21_2
                      try clear hcz21_3
                      try clear hcz21_4
                      try clear hcz23_0
                      try clear hcz23_1
                      try clear hcz23_2
                      try clear hcz23_3
                      try clear hcz23_4
                      try clear hcz24_0
                      try clear hcz24_1
                      try clear hcz24_2
                      try clear hcz24_3
                      try clear hcz24_4
                      try clear hcz29_0
                      try clear hcz29_1
                      try clear hcz29_2
                      try clear hcz29_3
                      try clear hcz29_4
                      try clear hcz30_0
                      try clear hcz30_1
                      try clear hcz30_2
                      try clear hcz30_3
                      try clear hcz30_4
                      try clear hcz34_0
                      try clear hcz34_1
                      try clear hcz34_2
                      try clear hcz34_3
                      try clear hcz34_4
                      try clear hcz36_0
                      try clear hcz36_1
                      try clear hcz36_2
                      try clear hcz36_3
                      try clear hcz36_4
                      try clear hcz37_0
                      try clear hcz37_1
                      try clear hcz37_2
                      try clear hcz37_3
                      try clear hcz37_4
                      try clear hcz41_0
                      try clear hcz41_1
                      try clear hcz41_2
                      try clear hcz41_3
                      try clear hcz41_4
                      try clear hcz9_0
                      try clear hcz9_1
                      try clear hcz9_2
                      try clear hcz9_3
                      try clear hcz9_4
                      try clear hfz12_0
                      try clear hfz12_1
                      try clear hfz12_2
                      try clear hfz12_3
                      try clear hfz12_4
                      try clear hfz14_0
                      try clear hfz14_1
                      try clear hfz14_2
                      try clear hfz14_3
                      try clear hfz14_4
                      try clear hfz18_0
                      try clear hfz18_1
                      try clear hfz18_2
                      try clear hfz18_3
                      try clear hfz18_4
                      try clear hfz20_0
                      try clear hfz20_1
                      try clear hfz20_2
                      try clear hfz20_3
                      try clear hfz20_4
                      try clear hfz21_0
                      try clear hfz21_1
                      try clear hfz21_2
                      try clear hfz21_3
                      try clear hfz21_4
                      try clear hfz23_0
                      try clear hfz23_1
                      try clear hfz23_2
                      try clear hfz23_3
                      try clear hfz23_4
                      try clear hfz24_0
                      try clear hfz24_1
                      try clear hfz24_2
                      try clear hfz24_3
                      try clear hfz24_4
                      try clear hfz29_0
                      try clear hfz29_1
                      try clear hfz29_2
                      try clear hfz29_3
                      try clear hfz29_4
                      try clear hfz30_0
                      try clear hfz30_1
                      try clear hfz30_2
                      try clear hfz30_3
                      try clear hfz30_4
                      try clear hfz34_0
                      try clear hfz34_1
                      try clear hfz34_2
                      try clear hfz34_3
                      try clear hfz34_4
                      try clear hfz36_0
                      try clear hfz36_1
                      try clear hfz36_2
                      try clear hfz36_3
                      try clear hfz36_4
                      try clear hfz37_0
                      try clear hfz37_1
                      try clear hfz37_2
                      try clear hfz37_3
                      try clear hfz37_4
                      try clear hfz41_0
                      try clear hfz41_1
                      try clear hfz41_2
                      try clear hfz41_3
                      try clear hfz41_4
                      try clear hfz9_0
                      try clear hfz9_1
                      try clear hfz9_2
                      try clear hfz9_3
                      try clear hfz9_4
                      try clear hx148_0
                      try clear hx148_1
                      try clear hx148_2
                      try clear hx148_3
                      try clear hx148_4
                      try clear hx155_0
                      try clear hx156_0
                      try clear hx156_1
                      try clear hx156_2
                      try clear hx156_3
                      try clear hx156_4
                      try clear hx158_0
                      try clear p1
                      try clear p14
                      try clear p148
                      try clear p155
                      try clear p156
                      try clear p158
                      try clear p2
                      try clear p52
                      try clear q1
                      try clear q14
                      try clear q148
                      try clear q155
                      try clear q156
                      try clear q158
                      try clear q52
                      obtain ⟨kq, x99_48, rfl, HA, HJ48, HO_10, BK149, HB⟩ := hcut
                      cases kq with
                      | zero => exact absurd HA.out (by simp [spec_l3good.j6])
                      | succ kj48 =>
                       have H := HA.out
                       clear HA
                       simp only [spec_l3good.j6] at H
                       by_cases c57 : x99_48 = true
                       ·
                        subst c57
                        have H1 : (some false) = some r := by rw [if_pos rfl] at H; exact H
                        clear H
                        have H := H1
                        clear H1
                        obtain rfl := Option.some.inj H
                        go_wp2
                        go_ret
                        exact ⟨by first | rfl | (simp [errW_none, errW_some] <;> rfl) | (simp [*, errW_none, errW_some] <;> rfl), bwZ⟩
                       ·
                        replace c57 := Bool.eq_false_iff.mpr c57
                        subst c57
                        have H1 : (if ((rd_T34 l0 a1).f0) = 0 then (if ((rd_T34 l0 (rd t152 x11_6)).f0) = 9 then (if x11_6 < (wrap64 ((t152.length : Int) - 1)) then (some false) else (spec_l3good.l0 kj48 l0 t150 x9_39 t152 (wrap64 (x11_6 + 1)) ((rd_T34 l0 a1).f0) ((rd_T34 l0 a1).f1) ((rd_T34 l0 a1).f2) ((rd_T34 l0 a1).f3) ((rd_T34 l0 a1).f4))) else (if ((rd_T34 l0 (rd t152 x11_6)).f0) = 8 then (if x11_6 < (wrap64 ((t152.length : Int) - 1)) then (some false) else (spec_l3good.l0 kj48 l0 t150 x9_39 t152 (wrap64 (x11_6 + 1)) ((rd_T34 l0 a1).f0) ((rd_T34 l0 a1).f1) ((rd_T34 l0 a1).f2) ((rd_T34 l0 a1).f3) ((rd_T34 l0 a1).f4))) else (spec_l3good.l0 kj48 l0 t150 x9_39 t152 (wrap64 (x11_6 + 1)) ((rd_T34 l0 a1).f0) ((rd_T34 l0 a1).f1) ((rd_T34 l0 a1).f2) ((rd_T34 l0 a1).f3) ((rd_T34 l0 a1).f4)))) else (spec_l3good.l0 kj48 l0 t150 x9_39 t152 (wrap64 (x11_6 + 1)) ((rd_T34 l0 a1).f0) ((rd_T34 l0 a1).f1) ((rd_T34 l0 a1).f2) ((rd_T34 l0 a1).f3) ((rd_T34 l0 a1).f4))) = some r := by rw [if_neg (show ¬ (false = true) by decide)] at H; exact H
                        clear H
                        have H := H1
                        clear H1
                        by_cases c58 : ((rd_T34 l0 a1).f0) = 0
                        ·
                         rw [if_pos c58] at H
                         have c58b0 : (((rd_T34 l0 a1).f0) == 0) = true := beq_iff_eq.mpr c58
                         have c58b1 : (((rd_T34 l0 a1).f0) != 0) = false := bne_eq_false_iff_eq.mpr c58
                         clear c58
                         by_cases c59 : ((rd_T34 l0 (rd t152 x11_6)).f0) = 9
                         ·
                          rw [if_pos c59] at H
                          have c59b0 : (((rd_T34 l0 (rd t152 x11_6)).f0) == 9) = true := beq_iff_eq.mpr c59
                          have c59b1 : (((rd_T34 l0 (rd t152 x11_6)).f0) != 9) = false := bne_eq_false_iff_eq.mpr c59
                          clear c59
                          by_cases c60 : x11_6 < (wrap64 ((t152.length : Int) - 1))
                          ·
                           rw [if_pos c60] at H
                           have c60b0 : decide (x11_6 < (wrap64 ((t152.length : Int) - 1))) = true := decide_eq_true c60
                           clear c60
                           obtain rfl := Option.some.inj H
                           have hcz61_0 : wc.cell? ⟨gb149, 0, none⟩ = some (.int .i64 ((rd_T34 l0 a1).f0)) := (blk_cell BK149.out 0).trans rfl
                           have hcz61_1 : wc.cell? ⟨gb149, 1, none⟩ = some (.int .i64 ((rd_T34 l0 a1).f1)) := (blk_cell BK149.out 1).trans rfl
                           have hcz61_2 : wc.cell? ⟨gb149, 2, none⟩ = some (.slice A148_2 ((rd_T34 l0 a1).f2).length c148_2) := (blk_cell BK149.out 2).trans rfl
                           have hcz61_3 : wc.cell? ⟨gb149, 3, none⟩ = some (.slice A148_3 ((rd_T34 l0 a1).f3).length c148_3) := (blk_cell BK149.out 3).trans rfl
                           have hcz61_4 : wc.cell? ⟨gb149, 4, none⟩ = some (.int .i64 ((rd_T34 l0 a1).f4)) := (blk_cell BK149.out 4).trans rfl
                           have hfz61_0 := blk_frozen BK149.out 0
                           have hfz61_1 := blk_frozen BK149.out 1
                           have hfz61_2 := blk_frozen BK149.out 2
                           have hfz61_3 := blk_frozen BK149.out 3
                           have hfz61_4 := blk_frozen BK149.out 4
                           go_wp2
                           go_ret
                           exact ⟨by first | rfl | (simp [errW_none, errW_some] <;> rfl) | (simp [*, errW_none, errW_some] <;> rfl), bwZ⟩
                          ·
                           rw [if_neg c60] at H
                           have c60b0 : decide (x11_6 < (wrap64 ((t152.length : Int) - 1))) = false := decide_eq_false c60
                           clear c60
                           have H' := Aside0.mk H
                           clear H
                           have hcz62_0 : wc.cell? ⟨gb149, 0, none⟩ = some (.int .i64 ((rd_T34 l0 a1).f0)) := (blk_cell BK149.out 0).trans rfl
                           have hcz62_1 : wc.cell? ⟨gb149, 1, none⟩ = some (.int .i64 ((rd_T34 l0 a1).f1)) := (blk_cell BK149.out 1).trans rfl
                           have hcz62_2 : wc.cell? ⟨gb149, 2, none⟩ = some (.slice A148_2 ((rd_T34 l0 a1).f2).length c148_2) := (blk_cell BK149.out 2).trans rfl
                           have hcz62_3 : wc.cell? ⟨gb149, 3, none⟩ = some (.slice A148_3 ((rd_T34 l0 a1).f3).length c148_3) := (blk_cell BK149.out 3).trans rfl
                           have hcz62_4 : wc.cell? ⟨gb149, 4, none⟩ = some (.int .i64 ((rd_T34 l0 a1).f4)) := (blk_cell BK149.out 4).trans rfl
                           have hfz62_0 := blk_frozen BK149.out 0
                           have hfz62_1 := blk_frozen BK149.out 1
                           have hfz62_2 := blk_frozen BK149.out 2
                           have hfz62_3 := blk_frozen BK149.out 3
                           have hfz62_4 := blk_frozen BK149.out 4
                           go_wp2
                           go_roundg kj48
                           case measure => have := HJ6.out; have := HJ26.out; have := HJ31.out; have := HJ37.out; have := HJ39.out; have := HK6.out; have := HJ48.out; omega
                           case rel => exact ⟨(wrap64 (x11_6 + 1)), (by first | rfl | (simp; done) | (simp [*]; done)), H', ⟨by have := HJ6.out; have := HJ26.out; have := HJ31.out; have := HJ37.out; have := HJ39.out; have := HK6.out; have := HJ48.out; omega⟩, ⟨by (with_reducible repeat (first | apply Kd.R_alloc | apply Kd.R_drewN | apply Kd.R_drew)); exact HO_10.out⟩, ⟨by (with_reducible repeat (first | refine blk_drewN ?_ _ | refine blk_drew ?_ | refine blk_alloc ?_ _)); exact BK149.out⟩, ⟨bwZ⟩⟩
                         ·
                          rw [if_neg c59] at H
                          have c59b0 : (((rd_T34 l0 (rd t152 x11_6)).f0) == 9) = false := beq_eq_false_iff_ne.mpr c59
                          have c59b1 : (((rd_T34 l0 (rd t152 x11_6)).f0) != 9) = true := bne_iff_ne.mpr c59
                          by_cases c63 : ((rd_T34 l0 (rd t152 x11_6)).f0) = 8
                          ·
                           rw [if_pos c63] at H
                           have c63b0 : (((rd_T34 l0 (rd t152 x11_6)).f0) == 8) = true := beq_iff_eq.mpr c63
                           have c63b1 : (((rd_T34 l0 (rd t152 x11_6)).f0) != 8) = false := bne_eq_false_iff_eq.mpr c63
                           clear c63
                           by_cases c64 : x11_6 < (wrap64 ((t152.length : Int) - 1))
                           ·
                            rw [if_pos c64] at H
                            have c64b0 : decide (x11_6 < (wrap64 ((t152.length : Int) - 1))) = true := decide_eq_true c64
                            clear c64
                            obtain rfl := Option.some.inj H
                            have hcz65_0 : wc.cell? ⟨gb149, 0, none⟩ = some (.int .i64 ((rd_T34 l0 a1).f0)) := (blk_cell BK149.out 0).trans rfl
                            have hcz65_1 : wc.cell? ⟨gb149, 1, none⟩ = some (.int .i64 ((rd_T34 l0 a1).f1)) := (blk_cell BK149.out 1).trans rfl
                            have hcz65_2 : wc.cell? ⟨gb149, 2, none⟩ = some (.slice A148_2 ((rd_T34 l0 a1).f2).length c148_2) := (blk_cell BK149.out 2).trans rfl
                            have hcz65_3 : wc.cell? ⟨gb149, 3, none⟩ = some (.slice A148_3 ((rd_T34 l0 a1).f3).length c148_3) := (blk_cell BK149.out 3).trans rfl
                            have hcz65_4 : wc.cell? ⟨gb149, 4, none⟩ = some (.int .i64 ((rd_T34 l0 a1).f4)) := (blk_cell BK149.out 4).trans rfl
                            have hfz65_0 := blk_frozen BK149.out 0
                            have hfz65_1 := blk_frozen BK149.out 1
                            have hfz65_2 := blk_frozen BK149.out 2
                            have hfz65_3 := blk_frozen BK149.out 3
                            have hfz65_4 := blk_frozen BK149.out 4
                            go_wp2
                            go_ret
                            exact ⟨by first | rfl | (simp [errW_none, errW_some] <;> rfl) | (simp [*, errW_none, errW_some] <;> rfl), bwZ⟩
                           ·
                            rw [if_neg c64] at H
                            have c64b0 : decide (x11_6 < (wrap64 ((t152.length : Int) - 1))) = false := decide_eq_false c64
                            clear c64
                            have H' := Aside0.mk H
                            clear H
                            have hcz66_0 : wc.cell? ⟨gb149, 0, none⟩ = some (.int .i64 ((rd_T34 l0 a1).f0)) := (blk_cell BK149.out 0).trans rfl
                            have hcz66_1 : wc.cell? ⟨gb149, 1, none⟩ = some (.int .i64 ((rd_T34 l0 a1).f1)) := (blk_cell BK149.out 1).trans rfl
                            have hcz66_2 : wc.cell? ⟨gb149, 2, none⟩ = some (.slice A148_2 ((rd_T34 l0 a1).f2).length c148_2) := (blk_cell BK149.out 2).trans rfl
                            have hcz66_3 : wc.cell? ⟨gb149, 3, none⟩ = some (.slice A148_3 ((rd_T34 l0 a1).f3).length c148_3) := (blk_cell BK149.out 3).trans rfl
                            have hcz66_4 : wc.cell? ⟨gb149, 4, none⟩ = some (.int .i64 ((rd_T34 l0 a1).f4)) := (blk_cell BK149.out 4).trans rfl
                            have hfz66_0 := blk_frozen BK149.out 0
                            have hfz66_1 := blk_frozen BK149.out 1
                            have hfz66_2 := blk_frozen BK149.out 2
                            have hfz66_3 := blk_frozen BK149.out 3
                            have hfz66_4 := blk_frozen BK149.out 4
                            go_wp2
                            go_roundg kj48
                            case measure => have := HJ6.out; have := HJ26.out; have := HJ31.out; have := HJ37.out; have := HJ39.out; have := HK6.out; have := HJ48.out; omega
                            case rel => exact ⟨(wrap64 (x11_6 + 1)), (by first | rfl | (simp; done) | (simp [*]; done)), H', ⟨by have := HJ6.out; have := HJ26.out; have := HJ31.out; have := HJ37.out; have := HJ39.out; have := HK6.out; have := HJ48.out; omega⟩, ⟨by (with_reducible repeat (first | apply Kd.R_alloc | apply Kd.R_drewN | apply Kd.R_drew)); exact HO_10.out⟩, ⟨by (with_reducible repeat (first | refine blk_drewN ?_ _ | refine blk_drew ?_ | refine blk_alloc ?_ _)); exact BK149.out⟩, ⟨bwZ⟩⟩
                          ·
                           rw [if_neg c63] at H
                           have c63b0 : (((rd_T34 l0 (rd t152 x11_6)).f0) == 8) = false := beq_eq_false_iff_ne.mpr c63
                           have c63b1 : (((rd_T34 l0 (rd t152 x11_6)).f0) != 8) = true := bne_iff_ne.mpr c63
                           have H' := Aside0.mk H
                           clear H
                           have hcz67_0 : wc.cell? ⟨gb149, 0, none⟩ = some (.int .i64 ((rd_T34 l0 a1).f0)) := (blk_cell BK149.out 0).trans rfl
                           have hcz67_1 : wc.cell? ⟨gb149, 1, none⟩ = some (.int .i64 ((rd_T34 l0 a1).f1)) := (blk_cell BK149.out 1).trans rfl
                           have hcz67_2 : wc.cell? ⟨gb149, 2, none⟩ = some (.slice A148_2 ((rd_T34 l0 a1).f2).length c148_2) := (blk_cell BK149.out 2).trans rfl
                           have hcz67_3 : wc.cell? ⟨gb149, 3, none⟩ = some (.slice A148_3 ((rd_T34 l0 a1).f3).length c148_3) := (blk_cell BK149.out 3).trans rfl
                           have hcz67_4 : wc.cell? ⟨gb149, 4, none⟩ = some (.int .i64 ((rd_T34 l0 a1).f4)) := (blk_cell BK149.out 4).trans rfl
                           have hfz67_0 := blk_frozen BK149.out 0
                           have hfz67_1 := blk_frozen BK149.out 1
                           have hfz67_2 := blk_frozen BK149.out 2
                           have hfz67_3 := blk_frozen BK149.out 3
                           have hfz67_4 := blk_frozen BK149.out 4
                           go_wp2
                           go_roundg kj48
                           case measure => have := HJ6.out; have := HJ26.out; have := HJ31.out; have := HJ37.out; have := HJ39.out; have := HK6.out; have := HJ48.out; omega
                           case rel => exact ⟨(wrap64 (x11_6 + 1)), (by first | rfl | (simp; done) | (simp [*]; done)), H', ⟨by have := HJ6.out; have := HJ26.out; have := HJ31.out; have := HJ37.out; have := HJ39.out; have := HK6.out; have := HJ48.out; omega⟩, ⟨by (with_reducible repeat (first | apply Kd.R_alloc | apply Kd.R_drewN | apply Kd.R_drew)); exact HO_10.out⟩, ⟨by (with_reducible repeat (first | refine blk_drewN ?_ _ | refine blk_drew ?_ | refine blk_alloc ?_ _)); exact BK149.out⟩, ⟨bwZ⟩⟩
                        ·
                         rw [if_neg c58] at H
                         have c58b0 : (((rd_T34 l0 a1).f0) == 0) = false := beq_eq_false_iff_ne.mpr c58
                         have c58b1 : (((rd_T34 l0 a1).f0) != 0) = true := bne_iff_ne.mpr c58
                         have H' := Aside0.mk H
                         clear H
                         have hcz68_0 : wc.cell? ⟨gb149, 0, none⟩ = some (.int .i64 ((rd_T34 l0 a1).f0)) := (blk_cell BK149.out 0).trans rfl
                         have hcz68_1 : wc.cell? ⟨gb149, 1, none⟩ = some (.int .i64 ((rd_T34 l0 a1).f1)) := (blk_cell BK149.out 1).trans rfl
                         have hcz68_2 : wc.cell? ⟨gb149, 2, none⟩ = some (.slice A148_2 ((rd_T34 l0 a1).f2).length c148_2) := (blk_cell BK149.out 2).trans rfl
                         have hcz68_3 : wc.cell? ⟨gb149, 3, none⟩ = some (.slice A148_3 ((rd_T34 l0 a1).f3).length c148_3) := (blk_cell BK149.out 3).trans rfl
                         have hcz68_4 : wc.cell? ⟨gb149, 4, none⟩ = some (.int .i64 ((rd_T34 l0 a1).f4)) := (blk_cell BK149.out 4).trans rfl
                         have hfz68_0 := blk_frozen BK149.out 0
                         have hfz68_1 := blk_frozen BK149.out 1
                         have hfz68_2 := blk_frozen BK149.out 2
                         have hfz68_3 := blk_frozen BK149.out 3
                         have hfz68_4 := blk_frozen BK149.out 4
                         go_wp2
                         go_roundg kj48
                         case measure => have := HJ6.out; have := HJ26.out; have := HJ31.out; have := HJ37.out; have := HJ39.out; have := HK6.out; have := HJ48.out; omega
                         case rel => exact ⟨(wrap64 (x11_6 + 1)), (by first | rfl | (simp; done) | (simp [*]; done)), H', ⟨by have := HJ6.out; have := HJ26.out; have := HJ31.out; have := HJ37.out; have := HJ39.out; have := HK6.out; have := HJ48.out; omega⟩, ⟨by (with_reducible repeat (first | apply Kd.R_alloc | apply Kd.R_drewN | apply Kd.R_drew)); exact HO_10.out⟩, ⟨by (with_reducible repeat (first | refine blk_drewN ?_ _ | refine blk_drew ?_ | refine blk_alloc ?_ _)); exact BK149.out⟩, ⟨bwZ⟩⟩
                    ·
                     rw [if_neg c48] at H
                     exact absurd H (by simp)
                   ·
                    rw [if_neg c47] at H
                    exact absurd H (by simp)
                  ·
                   rw [if_neg c46] at H
                   exact absurd H (by simp)
                 ·
                  rw [if_neg c45] at H
                  have c45b0 : decide (x11_6 < (t152.length : Int)) = false := decide_eq_false c45
                  clear c45
                  obtain rfl := Option.some.inj H
                  obtain ⟨Ao69, co69, eo69⟩ := Kd.R_slice HO_10.out
                  subst eo69
                  go_wp2
                  go_ret
                  exact ⟨by first | rfl | (simp [errW_none, errW_some] <;> rfl) | (simp [*, errW_none, errW_some] <;> rfl), bwZ⟩
  ·
   rw [if_neg c5] at H
   exact absurd H (by simp)
 ·
  rw [if_neg c4] at H
  exact absurd H (by simp)
end Go.Proofs.Ytogffkekgfkhkaa.C
