/- A part of the proof. -/
import Derived.Test.YtmmpiojekgfdjaaDoorZpCx0
import Derived.Test.YtmmpiojekgfdjaaDoorZpK
namespace Go.Proofs.YtmmpiojekgfdjaaDoor.C
open Go.RowKit YtmmpiojekgfdjaaDoorW.PrintWords YtmmpiojekgfdjaaDoorW.PrintLast
set_option linter.unusedVariables false
set_option linter.unusedSimpArgs false
def laws_toByteS.l0 : Nat → List Int → List Int → Int → Option (List Int)
 | 0, _, _, _ => none
 | k + 1, x0, x3, x4 => if x4 < (x0.length : Int) then (if 0 ≤ x4 then (if x4 < (x3.length : Int) then (laws_toByteS.l0 k x0 (x3.set (x4 : Int).toNat (rd x0 x4)) (wrap64 (x4 + 1))) else (none)) else (none)) else (some x3)
def laws_toByteS.f (k : Nat) (l0 : List Int) : Option (List Int) := if 0 ≤ (l0.length : Int) then (if ((l0.length : Int) : Int).toNat ≤ 281474976710656 then (laws_toByteS.l0 k l0 (List.replicate ((l0.length : Int) : Int).toNat 0) 0) else (none)) else (none)
set_option maxHeartbeats 8000000 in
set_option maxRecDepth 100000 in
theorem laws_toByteS.calls (k : Nat) (A0 : Option Addr) (c0 : Nat) (l0 : List Int) (r : List Int) (w : World) (hr0 : Kd.C (Kd.int .u8) w A0 l0.length l0) (hc0 : l0.length ≤ c0) (h : laws_toByteS.f k l0 = some r) :
  Calls Tryd.prog 59 #[.slice A0 l0.length c0] w fun e w' => ∃ v0_ : Value, e = .returned (v0_) ∧ Kd.R (Kd.int .u8) 5 w' w.heap.size (fun _ => True) v0_ r ∧ Below w.heap.size w w' := by
 have HR0 := amZ hr0
 have HC0 := amZ hc0
 clear hr0 hc0
 have HB := amZ (Below.refl w.heap.size w)
 have H : (if 0 ≤ (l0.length : Int) then (if ((l0.length : Int) : Int).toNat ≤ 281474976710656 then (laws_toByteS.l0 k l0 (List.replicate ((l0.length : Int) : Int).toNat 0) 0) else (none)) else (none)) = some r := h
 clear h
 by_cases c2 : 0 ≤ (l0.length : Int)
 ·
  rw [if_pos c2] at H
  have c2b0 := eq_true c2
  have c2b1 : decide (0 ≤ (l0.length : Int)) = true := decide_eq_true c2
  clear c2
  by_cases c3 : ((l0.length : Int) : Int).toNat ≤ 281474976710656
  ·
   rw [if_pos c3] at H
   have c3b0 := eq_true c3
   have c3b1 : decide (((l0.length : Int) : Int).toNat ≤ 281474976710656) = true := decide_eq_true c3
   clear c3
   obtain ⟨y254, hy254⟩ : ∃ y_ : List Int, y_ = (List.replicate ((l0.length : Int) : Int).toNat 0) := ⟨_, rfl⟩
   replace H : (laws_toByteS.l0 k l0 y254 0) = some r := by first | (rw [hy254]; with_reducible exact H) | (have H2_ := (Option.bind_some _ _).symm.trans H; rw [hy254]; with_reducible exact H2_) | (have H2_ := (Option.bind_some _ _).symm.trans H; with_reducible exact H2_) | with_reducible exact H | (rw [hy254]; exact H) | exact H
   have Ny254 := amZ hy254
   clear hy254
   have H' := amZ H
   clear H
   go_enter Tryd.func59, Tryd.ntmps59
   go_wp2_with (first | ((with_reducible refine zmY (N := 7) rfl ?_); refine Kd.R_make (Kd.int .u8) _ 5 rfl (N := 7) rfl 27 _ _ rfl (l0.length : Int) rfl rfl Tryd.underlying27 (.int .u8 0) 1 info5 rfl (by decide) (by omega) 0 (ok := fun _ => True) (okp := fun _ => True) rfl (fun _ hk => hk) trivial odZ (Nat.le_trans (Nat.mul_le_mul_right _ (odZ : (l0.length : Int).toNat ≤ 281474976710656)) (by omega)) (Below.refl _ _) (Nat.le_refl _) ?_; intro v255 w4 ho5 hb hg_ hnew_; clear hg_ hnew_; (first | rw [← Ny254.out] at ho5 | (simp only [Int.reduceToNat] at ho5; rw [← Ny254.out] at ho5)); have n0_ := amZ (Kd.R_lower ho5 (zgY bwZ)); have n1_ := amZ (zcY bwZ hb); clear HB; have HO256 := n0_; have HB := n1_; clear n0_ n1_; clear hb ho5))
   go_loopg [4] k (fun kq v4 w' => ∃ (x3_1 : List Int) (x4_1 : Int), v4 = .int .i64 x4_1 ∧ Aside0 (laws_toByteS.l0 kq l0 x3_1 x4_1 = some r) ∧ Aside0 (kq ≤ k) ∧ Aside0 (Kd.R (Kd.int .u8) 5 w' w.heap.size (fun _ => True) v255 x3_1) ∧ Aside0 (Below w.heap.size w w'))
   case atStart => exact ⟨(y254), (0), (by first | rfl | (simp; done) | (simp [*]; done)), H', ⟨Nat.le_refl _⟩, ⟨by (with_reducible repeat (first | apply Kd.R_alloc | apply Kd.R_drewN | apply Kd.R_drew)); exact HO256.out⟩, ⟨bwZ⟩⟩
   case round =>
    clear H'
    try clear c2
    try clear c2b0
    try clear c2b1
    try clear p2
    try clear c3
    try clear c3b0
    try clear c3b1
    try clear c5
    obtain ⟨x3_1, x4_1, rfl, HA, HK1, HO_3, HB⟩ := hrel
    cases gk with
    | zero => exact absurd HA.out (by simp [laws_toByteS.l0])
    | succ k1 =>
     have H := HA.out
     clear HA
     simp only [laws_toByteS.l0] at H
     by_cases c6 : x4_1 < (l0.length : Int)
     ·
      rw [if_pos c6] at H
      have c6b0 : decide (x4_1 < (l0.length : Int)) = true := decide_eq_true c6
      clear c6
      by_cases c7 : 0 ≤ x4_1
      ·
       rw [if_pos c7] at H
       have c7b0 : decide (0 ≤ x4_1) = true := decide_eq_true c7
       clear c7
       by_cases c8 : x4_1 < (x3_1.length : Int)
       ·
        rw [if_pos c8] at H
        have c8b0 : decide (x4_1 < (x3_1.length : Int)) = true := decide_eq_true c8
        clear c8
        obtain ⟨y258, hy258⟩ : ∃ y_ : List Int, y_ = (x3_1.set (x4_1 : Int).toNat (rd l0 x4_1)) := ⟨_, rfl⟩
        replace H : (laws_toByteS.l0 k1 l0 y258 (wrap64 (x4_1 + 1))) = some r := by first | (rw [hy258]; with_reducible exact H) | (have H2_ := (Option.bind_some _ _).symm.trans H; rw [hy258]; with_reducible exact H2_) | (have H2_ := (Option.bind_some _ _).symm.trans H; with_reducible exact H2_) | with_reducible exact H | (rw [hy258]; exact H) | exact H
        have Ny258 := amZ hy258
        clear hy258
        have H' := amZ H
        clear H
        have p257 : 0 ≤ (x4_1 : Int) := odZ
        have q257 : x4_1 < (l0.length : Int) := odZ
        obtain ⟨ad257, e257, hx257_0⟩ := Kd.at_int HR0.out x4_1 p257 q257
        cases e257
        replace hx257_0 := (HB.out.cell (World.block_lt_of_cell? w _ hx257_0)).trans hx257_0
        replace p257 := eq_true p257
        replace q257 := eq_true q257
        have p9 : 0 ≤ (x4_1 : Int) := odZ
        have q9 : (x4_1 : Int) < ((x3_1.length : Int) : Int) := odZ
        obtain ⟨go9, co9, eo9, gb9, gl9, cl9, HG9⟩ := Kd.R_form HO_3.out (by omega)
        (first | cases eo9 | (injection eo9 with ea_ en_ ec_; (first | subst ea_ | (injection ea_ with ea_; subst ea_)); subst ec_; clear en_))
        have GB9 := amZ gb9
        have GG9 := amZ HG9
        clear gb9 gl9 HG9
        obtain ⟨hx9_0, hf9_0⟩ := Kd.R_celln 0 HO_3.out (x4_1 : Int) p9 q9
        replace p9 := eq_true p9
        replace q9 := eq_true q9
        have HP10 := Kd.R_putg HO_3.out (x4_1 : Int) (rd l0 x4_1)
        go_wp2_with (first | ((with_reducible refine gate_store (t := 5) (p := 20) rfl ?_); refine store_event (t := 5) (p := 20) (v := ?vo_w11) (w1 := (wr.setCell ⟨go9, (x4_1 : Int).toNat, none⟩ (.int .u8 (rd l0 x4_1)))) ?hg ?ho ?hn ?hr ?_; (case ho => rfl); (case hg => rfl); (case hn => rfl); (case hr => first | (go_simp; done) | (go_simp; rfl)); intro w11 hw; have hg : wr.grownBy w11 (some go9) := (by rw [hw]; exact HP10.2); have hp_ : Kd.R (Kd.int .u8) 5 w11 w.heap.size (fun _ => True) (.slice (some ⟨go9, 0, none⟩) x3_1.length co9) y258 := (by rw [hw, Ny258.out]; exact HP10.1); clear HP10; have n0_ := amZ (hp_); have n1_ := amZ ((by rw [hw]; exact below_set (HB.out) GB9.out : Below w.heap.size w w11)); clear HO_3; clear HB; have HO_3 := n0_; have HB := n1_; clear n0_ n1_; clear hg hw hp_))
        go_roundg k1
        case measure => have := HK1.out; omega
        case rel => exact ⟨(y258), (wrap64 (x4_1 + 1)), (by first | rfl | (simp; done) | (simp [*]; done)), H', ⟨by have := HK1.out; omega⟩, ⟨by (with_reducible repeat (first | apply Kd.R_alloc | apply Kd.R_drewN | apply Kd.R_drew)); exact HO_3.out⟩, ⟨bwZ⟩⟩
       ·
        rw [if_neg c8] at H
        exact absurd H (by simp)
      ·
       rw [if_neg c7] at H
       exact absurd H (by simp)
     ·
      rw [if_neg c6] at H
      have c6b0 : decide (x4_1 < (l0.length : Int)) = false := decide_eq_false c6
      clear c6
      obtain rfl := Option.some.inj H
      go_wp2
      go_ret
      exact ⟨_, by first | rfl | (simp [zjY, ziY] <;> rfl) | (simp [*, zjY, ziY] <;> rfl), by (with_reducible repeat (first | apply Kd.R_alloc | apply Kd.R_drewN | apply Kd.R_drew)); exact HO_3.out, bwZ⟩
  ·
   rw [if_neg c3] at H
   exact absurd H (by simp)
 ·
  rw [if_neg c2] at H
  exact absurd H (by simp)
def laws_toConst.f (k : Nat) (a0_0 : Bool) (a0_1 : Int) (l0_2 : List Int) : Option (Bool × Int × List Int) := (laws_toByteS.f k l0_2).bind fun t262 => (some (a0_0, a0_1, t262))
set_option maxHeartbeats 8000000 in
set_option maxRecDepth 100000 in
theorem laws_toConst.calls (k : Nat) (a0_0 : Bool) (a0_1 : Int) (A0_2 : Option Addr) (c0_2 : Nat) (l0_2 : List Int) (r1 : Bool) (r2 : Int) (r3 : List Int) (w : World) (hr0_2 : Kd.C (Kd.int .u8) w A0_2 l0_2.length l0_2) (hc0_2 : l0_2.length ≤ c0_2) (h : laws_toConst.f k a0_0 a0_1 l0_2 = some (r1, r2, r3)) :
  Calls Tryd.prog 40 #[.agg #[.bool a0_0, .int .i64 a0_1, .slice A0_2 l0_2.length c0_2]] w fun e w' => ∃ v2_ : Value, e = .returned (.agg #[.bool r1, .int .i64 r2, v2_]) ∧ Kd.R (Kd.int .u8) 5 w' w.heap.size (fun _ => True) v2_ r3 ∧ Below w.heap.size w w' := by
 have hu77 := Tryd.underlying77
 have hu69 := Tryd.underlying69
 have HR0_2 := amZ hr0_2
 have HC0_2 := amZ hc0_2
 clear hr0_2 hc0_2
 have HB := amZ (Below.refl w.heap.size w)
 have H : ((laws_toByteS.f k l0_2).bind fun t262 => (some (a0_0, a0_1, t262))) = some (r1, r2, r3) := h
 clear h
 replace H := Option.bind_eq_some_iff.mp H
 obtain ⟨t262, A20, H⟩ := H
 replace H : (some (a0_0, a0_1, t262)) = some (r1, r2, r3) := H
 have A2 := amZ A20
 clear A20
 simp only [Option.some.injEq, Prod.mk.injEq] at H
 obtain ⟨rfl, rfl, rfl⟩ := H
 go_enter Tryd.func40, Tryd.ntmps40
 go_wp2_with (first | ((with_reducible refine zmY (N := 1) rfl ?_); refine znY ?hg (N := 1) ?hd (cs := #[.bool a0_0, .int .i64 a0_1, .slice A0_2 l0_2.length c0_2]) (t := 77) ?hr ?_; (case hd => rfl); (case hg => rfl); (case hr => first | (go_simp; done) | (go_simp; rfl)); intro gb259 hg w3 hbox hb; have n0_ := amZ (zcY bwZ hb); have n1_ := amZ (hbox); have n2_ := amZ ((by rw [hg]; exact (zgY bwZ) : w.heap.size ≤ gb259)); have n3_ := amZ ((by rw [hg]; exact (zgY bwZ) : w.heap.size ≤ gb259)); clear HB; have HB := n0_; have BK259 := n1_; have GW259 := n2_; have GE259 := n3_; clear n0_ n1_ n2_ n3_; clear hb hbox hg) | ((with_reducible refine zmY (N := 2) rfl ?_); refine znY ?hg (N := 2) ?hd (cs := #[.bool false, .int .i64 0, .slice none 0 0]) (t := 69) ?hr ?_; (case hd => rfl); (case hg => rfl); (case hr => first | (go_simp; done) | (go_simp; rfl)); intro gb260 hg w4 hbox hb; have n0_ := amZ (zkY (g := gb259) (o := .cells #[.bool a0_0, .int .i64 a0_1, .slice A0_2 l0_2.length c0_2] 77 (0, 0)) bkZ hb); have n1_ := amZ (zcY bwZ hb); have n2_ := amZ (hbox); have n3_ := amZ ((by rw [hg]; exact (zgY bwZ) : w.heap.size ≤ gb260)); have n4_ := amZ ((by rw [hg]; exact (zgY bwZ) : w.heap.size ≤ gb260)); have n5_ := amZ ((by rw [hg]; exact Nat.ne_of_lt (zlY (g := gb259) (o := .cells #[.bool a0_0, .int .i64 a0_1, .slice A0_2 l0_2.length c0_2] 77 (0, 0)) bkZ) : gb259 ≠ gb260)); have n6_ := amZ ((by rw [hg]; exact Nat.ne_of_gt (zlY (g := gb259) (o := .cells #[.bool a0_0, .int .i64 a0_1, .slice A0_2 l0_2.length c0_2] 77 (0, 0)) bkZ) : gb260 ≠ gb259)); clear BK259; clear HB; have BK259 := n0_; have HB := n1_; have BK260 := n2_; have GW260 := n3_; have GE260 := n4_; have NB259_260 := n5_; have NB260_259 := n6_; clear n0_ n1_ n2_ n3_ n4_ n5_ n6_; clear hb hbox hg) | ((with_reducible refine zmY (N := 3) rfl ?_); refine znY ?hg (N := 3) ?hd (cs := #[.bool false, .int .i64 0, .slice none 0 0]) (t := 69) ?hr ?_; (case hd => rfl); (case hg => rfl); (case hr => first | (go_simp; done) | (go_simp; rfl)); intro gb261 hg w5 hbox hb; have n0_ := amZ (zkY (g := gb259) (o := .cells #[.bool a0_0, .int .i64 a0_1, .slice A0_2 l0_2.length c0_2] 77 (0, 0)) bkZ hb); have n1_ := amZ (zkY (g := gb260) (o := .cells #[.bool false, .int .i64 0, .slice none 0 0] 69 (0, 0)) bkZ hb); have n2_ := amZ (zcY bwZ hb); have n3_ := amZ (hbox); have n4_ := amZ ((by rw [hg]; exact (zgY bwZ) : w.heap.size ≤ gb261)); have n5_ := amZ ((by rw [hg]; exact (zgY bwZ) : w.heap.size ≤ gb261)); have n6_ := amZ ((by rw [hg]; exact Nat.ne_of_lt (zlY (g := gb259) (o := .cells #[.bool a0_0, .int .i64 a0_1, .slice A0_2 l0_2.length c0_2] 77 (0, 0)) bkZ) : gb259 ≠ gb261)); have n7_ := amZ ((by rw [hg]; exact Nat.ne_of_gt (zlY (g := gb259) (o := .cells #[.bool a0_0, .int .i64 a0_1, .slice A0_2 l0_2.length c0_2] 77 (0, 0)) bkZ) : gb261 ≠ gb259)); have n8_ := amZ ((by rw [hg]; exact Nat.ne_of_lt (zlY (g := gb260) (o := .cells #[.bool false, .int .i64 0, .slice none 0 0] 69 (0, 0)) bkZ) : gb260 ≠ gb261)); have n9_ := amZ ((by rw [hg]; exact Nat.ne_of_gt (zlY (g := gb260) (o := .cells #[.bool false, .int .i64 0, .slice none 0 0] 69 (0, 0)) bkZ) : gb261 ≠ gb260)); clear BK259; clear BK260; clear HB; have BK259 := n0_; have BK260 := n1_; have HB := n2_; have BK261 := n3_; have GW261 := n4_; have GE261 := n5_; have NB259_261 := n6_; have NB261_259 := n7_; have NB260_261 := n8_; have NB261_260 := n9_; clear n0_ n1_ n2_ n3_ n4_ n5_ n6_ n7_ n8_ n9_; clear hb hbox hg; have hnb6 := NB259_260.out; have hnc6 := NB260_259.out; have hnb7 := NB259_261.out; have hnc7 := NB261_259.out; have hcz8_0 : w5.cell? ⟨gb259, 0, none⟩ = some (.bool a0_0) := (zaY BK259.out 0).trans rfl; have hcz8_1 : w5.cell? ⟨gb259, 1, none⟩ = some (.int .i64 a0_1) := (zaY BK259.out 1).trans rfl; have hcz8_2 : w5.cell? ⟨gb259, 2, none⟩ = some (.slice A0_2 l0_2.length c0_2) := (zaY BK259.out 2).trans rfl; have hfz8_0 := zbY BK259.out 0; have hfz8_1 := zbY BK259.out 1; have hfz8_2 := zbY BK259.out 2; have hnb9 := NB261_260.out; have hnc9 := NB260_261.out; have hcz10_0 : w5.cell? ⟨gb261, 0, none⟩ = some (.bool false) := (zaY BK261.out 0).trans rfl; have hcz10_1 : w5.cell? ⟨gb261, 1, none⟩ = some (.int .i64 0) := (zaY BK261.out 1).trans rfl; have hcz10_2 : w5.cell? ⟨gb261, 2, none⟩ = some (.slice none 0 0) := (zaY BK261.out 2).trans rfl; have hfz10_0 := zbY BK261.out 0; have hfz10_1 := zbY BK261.out 1; have hfz10_2 := zbY BK261.out 2) | ((with_reducible refine gate_callee (f := 59) rfl ?_); refine goesL_ (some 12) rfl rfl Tryd.func59 (by kernel_rfl) rfl #[.slice A0_2 l0_2.length c0_2] rfl (by (try simp only [List.map_toArray, List.map_cons, List.map_nil]); first | done | rfl | (simp only [List.length_drop, List.length_take]; rfl)) ?_; (with_reducible refine (laws_toByteS.calls k _ _ l0_2 t262 _ ?side1 ?side2 A2.out).mono ?_); (case side1 => exact Kd.C_below HR0_2.out bwZ); (case side2 => exact HC0_2.out); rintro e w11 ⟨v263, rfl, ho0, hb⟩; refine ⟨_, rfl, ?_⟩; have n0_ := amZ (Kd.R_lower ho0 (zgY bwZ)); have n1_ := amZ (zkY (g := gb259) (o := .cells #[.bool a0_0, .int .i64 a0_1, .slice A0_2 l0_2.length c0_2] 77 (0, 0)) (by (with_reducible repeat (first | refine zeY ?_ _ | refine zhY ?_ | refine zfY ?_ _)); refine blk_far ?_ NB259_261.out _; (with_reducible repeat (first | refine zeY ?_ _ | refine zhY ?_ | refine zfY ?_ _)); refine blk_far ?_ NB259_261.out _; (with_reducible repeat (first | refine zeY ?_ _ | refine zhY ?_ | refine zfY ?_ _)); exact BK259.out) hb); have n2_ := amZ (zkY (g := gb260) (o := .cells #[.bool false, .int .i64 0, .slice none 0 0] 69 (0, 0)) (by (with_reducible repeat (first | refine zeY ?_ _ | refine zhY ?_ | refine zfY ?_ _)); refine blk_far ?_ NB260_261.out _; (with_reducible repeat (first | refine zeY ?_ _ | refine zhY ?_ | refine zfY ?_ _)); refine blk_far ?_ NB260_261.out _; (with_reducible repeat (first | refine zeY ?_ _ | refine zhY ?_ | refine zfY ?_ _)); exact BK260.out) hb); have n3_ := amZ (zkY (g := gb261) (o := .cells #[.bool a0_0, .int .i64 a0_1, .slice none 0 0] 69 (0, 0)) (by (with_reducible repeat (first | refine zeY ?_ _ | refine zhY ?_ | refine zfY ?_ _)); refine blk_put (cs := #[.bool a0_0, .int .i64 0, .slice none 0 0]) ?_ 1 _ rfl; (with_reducible repeat (first | refine zeY ?_ _ | refine zhY ?_ | refine zfY ?_ _)); refine blk_put (cs := #[.bool false, .int .i64 0, .slice none 0 0]) ?_ 0 _ rfl; (with_reducible repeat (first | refine zeY ?_ _ | refine zhY ?_ | refine zfY ?_ _)); exact BK261.out) hb); have n4_ := amZ (zcY bwZ hb); clear BK259; clear BK260; clear BK261; clear HB; have HO264 := n0_; have BK259 := n1_; have BK260 := n2_; have BK261 := n3_; have HB := n4_; clear n0_ n1_ n2_ n3_ n4_; (try clear hb); (try clear hb2); (try clear hk); (try clear hi); (try clear ho0); obtain ⟨Ao12, co12, eo12⟩ := Kd.R_slice HO264.out; subst eo12; have hcz13_0 : w11.cell? ⟨gb261, 0, none⟩ = some (.bool a0_0) := (zaY BK261.out 0).trans rfl; have hcz13_1 : w11.cell? ⟨gb261, 1, none⟩ = some (.int .i64 a0_1) := (zaY BK261.out 1).trans rfl; have hcz13_2 : w11.cell? ⟨gb261, 2, none⟩ = some (.slice none 0 0) := (zaY BK261.out 2).trans rfl; have hfz13_0 := zbY BK261.out 0; have hfz13_1 := zbY BK261.out 1; have hfz13_2 := zbY BK261.out 2; have hcz14_0 : w11.cell? ⟨gb260, 0, none⟩ = some (.bool false) := (zaY BK260.out 0).trans rfl; have hcz14_1 : w11.cell? ⟨gb260, 1, none⟩ = some (.int .i64 0) := (zaY BK260.out 1).trans rfl; have hcz14_2 : w11.cell? ⟨gb260, 2, none⟩ = some (.slice none 0 0) := (zaY BK260.out 2).trans rfl; have hfz14_0 := zbY BK260.out 0; have hfz14_1 := zbY BK260.out 1; have hfz14_2 := zbY BK260.out 2))
 refine bodyPost_ret (results_cell_row rfl _ _ gb260 69 #[.bool a0_0, .int .i64 a0_1, .slice Ao12 t262.length co12] (0, 0) _ rfl (by (with_reducible repeat (first | refine zeY ?_ _ | refine zhY ?_ | refine zfY ?_ _)); refine blk_put (cs := #[.bool a0_0, .int .i64 a0_1, .slice none 0 0]) ?_ 2 _ rfl; (with_reducible repeat (first | refine zeY ?_ _ | refine zhY ?_ | refine zfY ?_ _)); refine blk_put (cs := #[.bool a0_0, .int .i64 0, .slice none 0 0]) ?_ 1 _ rfl; (with_reducible repeat (first | refine zeY ?_ _ | refine zhY ?_ | refine zfY ?_ _)); refine blk_put (cs := #[.bool false, .int .i64 0, .slice none 0 0]) ?_ 0 _ rfl; (with_reducible repeat (first | refine zeY ?_ _ | refine zhY ?_ | refine zfY ?_ _)); refine blk_far ?_ NB260_261.out _; (with_reducible repeat (first | refine zeY ?_ _ | refine zhY ?_ | refine zfY ?_ _)); exact BK260.out) Tryd.underlying69 rfl (by kernel_rfl)) rfl ?_
 exact ⟨_, by first | rfl | (simp [zjY, ziY] <;> rfl) | (simp [*, zjY, ziY] <;> rfl), by (with_reducible repeat (first | apply Kd.R_alloc | apply Kd.R_drewN | apply Kd.R_drew)); exact Kd.R_mono (Kd.R_far (p := ⟨gb260, 2, none⟩) (Kd.R_far (p := ⟨gb260, 1, none⟩) (Kd.R_far (p := ⟨gb260, 0, none⟩) (Kd.R_far (p := ⟨gb261, 2, none⟩) (Kd.R_types (Kd.R_types HO264.out BK261.out (by decide)) BK260.out (by decide)) (fun _ hk => hk.1.2) (.slice Ao12 t262.length co12)) (fun _ hk => hk.2) (.bool a0_0)) (fun _ hk => hk.2) (.int .i64 a0_1)) (fun _ hk => hk.2) (.slice Ao12 t262.length co12)) (fun _ hk => trivial), bwZ⟩
def laws_toConstS.l0 : Nat → List (S77) → List (S69) → Int → Option ((List (S69)))
 | 0, _, _, _ => none
 | k + 1, x0, x3, x4 => if x4 < (x0.length : Int) then (if 0 ≤ x4 then ((laws_toConst.f k ((rd_T77 x0 x4).f0) ((rd_T77 x0 x4).f1) ((rd_T77 x0 x4).f2)).bind fun bt269 => (if x4 < (x3.length : Int) then (laws_toConstS.l0 k x0 (x3.set (x4 : Int).toNat (⟨bt269.1, bt269.2.1, bt269.2.2⟩ : S69)) (wrap64 (x4 + 1))) else (none))) else (none)) else (some x3)
def laws_toConstS.f (k : Nat) (l0 : List (S77)) : Option ((List (S69))) := if 0 ≤ (l0.length : Int) then (if ((l0.length : Int) : Int).toNat ≤ 7036874417766 then (laws_toConstS.l0 k l0 (List.replicate ((l0.length : Int) : Int).toNat z69) 0) else (none)) else (none)
set_option maxHeartbeats 8000000 in
set_option maxRecDepth 100000 in
theorem laws_toConstS.calls (k : Nat) (A0 : Option Addr) (c0 : Nat) (l0 : List (S77)) (r : List (S69)) (w : World) (hr0 : Kd.C k77 w A0 l0.length l0) (hc0 : l0.length ≤ c0) (h : laws_toConstS.f k l0 = some r) :
  Calls Tryd.prog 18 #[.slice A0 l0.length c0] w fun e w' => ∃ v0_ : Value, e = .returned (v0_) ∧ Kd.S k69 69 w' w.heap.size (fun _ => True) v0_ r ∧ Below w.heap.size w w' := by
 have hu77 := Tryd.underlying77
 have hu69 := Tryd.underlying69
 have HR0 := amZ hr0
 have HC0 := amZ hc0
 clear hr0 hc0
 have HB := amZ (Below.refl w.heap.size w)
 have H : (if 0 ≤ (l0.length : Int) then (if ((l0.length : Int) : Int).toNat ≤ 7036874417766 then (laws_toConstS.l0 k l0 (List.replicate ((l0.length : Int) : Int).toNat z69) 0) else (none)) else (none)) = some r := h
 clear h
 by_cases c2 : 0 ≤ (l0.length : Int)
 ·
  rw [if_pos c2] at H
  have c2b0 := eq_true c2
  have c2b1 : decide (0 ≤ (l0.length : Int)) = true := decide_eq_true c2
  clear c2
  by_cases c3 : ((l0.length : Int) : Int).toNat ≤ 7036874417766
  ·
   rw [if_pos c3] at H
   have c3b0 := eq_true c3
   have c3b1 : decide (((l0.length : Int) : Int).toNat ≤ 7036874417766) = true := decide_eq_true c3
   clear c3
   obtain ⟨y265, hy265⟩ : ∃ y_ : List (S69), y_ = (List.replicate ((l0.length : Int) : Int).toNat z69) := ⟨_, rfl⟩
   replace H : (laws_toConstS.l0 k l0 y265 0) = some r := by first | (rw [hy265]; with_reducible exact H) | (have H2_ := (Option.bind_some _ _).symm.trans H; rw [hy265]; with_reducible exact H2_) | (have H2_ := (Option.bind_some _ _).symm.trans H; with_reducible exact H2_) | with_reducible exact H | (rw [hy265]; exact H) | exact H
   have Ny265 := amZ hy265
   clear hy265
   have H' := amZ H
   clear H
   go_enter Tryd.func18, Tryd.ntmps18
   go_wp2_with (first | ((with_reducible refine zmY (N := 7) rfl ?_); refine Kd.S_make k69 _ 69 rfl (N := 7) rfl 29 _ _ rfl (l0.length : Int) rfl rfl Tryd.underlying29 (.agg #[(.bool false), (.int .i64 0), (.slice none 0 0)]) 40 info69 rfl (by decide) (by omega) z69 (ok := fun _ => True) (okp := fun _ => True) (k69_mkM _ _ _ z69 (Kd.R_nil _ _ _ _ _)) (fun _ hk => hk) trivial odZ (Nat.le_trans (Nat.mul_le_mul_right _ (odZ : (l0.length : Int).toNat ≤ 7036874417766)) (by omega)) (Below.refl _ _) (Nat.le_refl _) ?_; intro v266 w4 ho5 hb hg_ hnew_; clear hg_ hnew_; (first | rw [← Ny265.out] at ho5 | (simp only [Int.reduceToNat] at ho5; rw [← Ny265.out] at ho5)); have n0_ := amZ (Kd.S_lower ho5 (zgY bwZ)); have n1_ := amZ (zcY bwZ hb); clear HB; have HO267 := n0_; have HB := n1_; clear n0_ n1_; clear hb ho5))
   go_loopg [4] k (fun kq v4 w' => ∃ (x3_1 : List (S69)) (x4_1 : Int), v4 = .int .i64 x4_1 ∧ Aside0 (laws_toConstS.l0 kq l0 x3_1 x4_1 = some r) ∧ Aside0 (kq ≤ k) ∧ Aside0 (Kd.S k69 69 w' w.heap.size (fun _ => True) v266 x3_1) ∧ Aside0 (Below w.heap.size w w'))
   case atStart => exact ⟨(y265), (0), (by first | rfl | (simp; done) | (simp [*]; done)), H', ⟨Nat.le_refl _⟩, ⟨by (with_reducible repeat (first | apply Kd.S_alloc | apply Kd.S_drewN | apply Kd.S_drew)); exact HO267.out⟩, ⟨bwZ⟩⟩
   case round =>
    clear H'
    try clear c1
    try clear c2
    try clear c2b0
    try clear c2b1
    try clear p2
    try clear c3
    try clear c3b0
    try clear c3b1
    obtain ⟨x3_1, x4_1, rfl, HA, HK1, HO_3, HB⟩ := hrel
    cases gk with
    | zero => exact absurd HA.out (by simp [laws_toConstS.l0])
    | succ k1 =>
     have H := HA.out
     clear HA
     simp only [laws_toConstS.l0] at H
     by_cases c6 : x4_1 < (l0.length : Int)
     ·
      rw [if_pos c6] at H
      have c6b0 : decide (x4_1 < (l0.length : Int)) = true := decide_eq_true c6
      clear c6
      by_cases c7 : 0 ≤ x4_1
      ·
       rw [if_pos c7] at H
       have c7b0 : decide (0 ≤ x4_1) = true := decide_eq_true c7
       clear c7
       replace H := Option.bind_eq_some_iff.mp H
       obtain ⟨⟨t269, t270, t271⟩, A80, H⟩ := H
       replace H : (if x4_1 < (x3_1.length : Int) then (laws_toConstS.l0 k1 l0 (x3_1.set (x4_1 : Int).toNat (⟨t269, t270, t271⟩ : S69)) (wrap64 (x4_1 + 1))) else (none)) = some r := H
       have A8 := amZ A80
       clear A80
       by_cases c9 : x4_1 < (x3_1.length : Int)
       ·
        rw [if_pos c9] at H
        have c9b0 : decide (x4_1 < (x3_1.length : Int)) = true := decide_eq_true c9
        clear c9
        obtain ⟨y274, hy274⟩ : ∃ y_ : List (S69), y_ = (x3_1.set (x4_1 : Int).toNat (⟨t269, t270, t271⟩ : S69)) := ⟨_, rfl⟩
        replace H : (laws_toConstS.l0 k1 l0 y274 (wrap64 (x4_1 + 1))) = some r := by first | (rw [hy274]; with_reducible exact H) | (have H2_ := (Option.bind_some _ _).symm.trans H; rw [hy274]; with_reducible exact H2_) | (have H2_ := (Option.bind_some _ _).symm.trans H; with_reducible exact H2_) | with_reducible exact H | (rw [hy274]; exact H) | exact H
        have Ny274 := amZ hy274
        clear hy274
        have H' := amZ H
        clear H
        have p268 : 0 ≤ (x4_1 : Int) := odZ
        have q268 : x4_1 < (l0.length : Int) := odZ
        obtain ⟨ad268, A268_2, c268_2, e268, hx268_0, hx268_1, hx268_2, hl268_2, hi268_2⟩ := at_T77 HR0.out x4_1 p268 q268
        cases e268
        replace hx268_0 := (HB.out.cell (World.block_lt_of_cell? w _ hx268_0)).trans hx268_0
        replace hx268_1 := (HB.out.cell (World.block_lt_of_cell? w _ hx268_1)).trans hx268_1
        replace hx268_2 := (HB.out.cell (World.block_lt_of_cell? w _ hx268_2)).trans hx268_2
        have HR268_2 := amZ hi268_2
        have HC268_2 := amZ hl268_2
        clear hi268_2 hl268_2
        replace p268 := eq_true p268
        replace q268 := eq_true q268
        go_wp2_with (first | ((with_reducible refine gate_callee (f := 40) rfl ?_); refine goesL_ (some 20) rfl rfl Tryd.func40 (by kernel_rfl) rfl #[.agg #[.bool ((rd_T77 l0 x4_1).f0), .int .i64 ((rd_T77 l0 x4_1).f1), .slice A268_2 ((rd_T77 l0 x4_1).f2).length c268_2]] rfl (by (try simp only [List.map_toArray, List.map_cons, List.map_nil]); first | done | rfl | (simp only [List.length_drop, List.length_take]; rfl)) ?_; (with_reducible refine (laws_toConst.calls k1 ((rd_T77 l0 x4_1).f0) ((rd_T77 l0 x4_1).f1) _ _ ((rd_T77 l0 x4_1).f2) t269 t270 t271 _ ?side1 ?side2 A8.out).mono ?_); (case side1 => repeat (first | exact (Kd.C_below HR268_2.out HB.out) | (with_reducible refine Kd.C_alloc ?_ _) | (with_reducible refine Kd.C_drewN ?_ _) | (with_reducible refine Kd.C_drew ?_))); (case side2 => exact HC268_2.out); rintro e w11 ⟨v272, rfl, ho0, hb⟩; refine ⟨_, rfl, ?_⟩; have n0_ := amZ (Kd.S_elder' (by (with_reducible repeat (first | apply Kd.S_alloc | apply Kd.S_drewN | apply Kd.S_drew)); exact HO_3.out) (Kd.R_base ho0) hb); have n1_ := amZ (Kd.R_lower ho0 (zgY bwZ)); have n2_ := amZ (zcY bwZ hb); clear HO_3; clear HB; have HO_3 := n0_; have HO273 := n1_; have HB := n2_; clear n0_ n1_ n2_; (try clear hb); (try clear hb2); (try clear hk); (try clear hi); (try clear ho0); have p10 : 0 ≤ (x4_1 : Int) := odZ; have q10 : (x4_1 : Int) < ((x3_1.length : Int) : Int) := odZ; obtain ⟨go10, co10, eo10, gb10, gl10, cl10, HG10⟩ := Kd.S_form HO_3.out (by omega); (first | cases eo10 | (injection eo10 with ea_ en_ ec_; (first | subst ea_ | (injection ea_ with ea_; subst ea_)); subst ec_; clear en_)); have GB10 := amZ gb10; have GG10 := amZ HG10; clear gb10 gl10 HG10; obtain ⟨_, ce10, hcl10, hM10, hcc10, hfr10, _, _⟩ := Kd.S_elem HO_3.out z69 (x4_1 : Int) p10 q10; obtain ⟨ve10_2, rfl, ge10_2⟩ := k69_openM hM10; have hx10_0 : w11.cell? ⟨go10, (x4_1 : Int).toNat * 3, none⟩ = some (.bool ((rd_T69 x3_1 x4_1).f0)) := hcc10 0 _ rfl; have hx10_1 : w11.cell? ⟨go10, (x4_1 : Int).toNat * 3 + 1, none⟩ = some (.int .i64 ((rd_T69 x3_1 x4_1).f1)) := hcc10 1 _ rfl; have hx10_2 : w11.cell? ⟨go10, (x4_1 : Int).toNat * 3 + 2, none⟩ = some (ve10_2) := hcc10 2 _ rfl; have hf10_0 : w11.frozen? ⟨go10, (x4_1 : Int).toNat * 3, none⟩ = false := hfr10 0; have hf10_1 : w11.frozen? ⟨go10, (x4_1 : Int).toNat * 3 + 1, none⟩ = false := hfr10 1; have hf10_2 : w11.frozen? ⟨go10, (x4_1 : Int).toNat * 3 + 2, none⟩ = false := hfr10 2; clear hcl10 hcc10 hfr10; (try clear hM10); replace p10 := eq_true p10; replace q10 := eq_true q10; have n_ := amZ (Kd.S_mono (ok' := (fun k_ => some k_ ≠ (v272 : Value).ownBlock)) HO_3.out (fun k_ hk => hk.2)); clear HO_3; have HO_3 := n_; clear n_; have HX12 := amZ (show Kd.S k69 69 w11 w.heap.size (fun k_ => ((fun _ => True)) k_ ∧ ¬ ((fun k_ => some k_ = (v272 : Value).ownBlock)) k_) (.slice (some ⟨go10, 0, none⟩) x3_1.length co10) x3_1 from (by (with_reducible repeat (first | apply Kd.S_alloc | apply Kd.S_drewN | apply Kd.S_drew)); exact Kd.S_mono HO_3.out (fun k_ hk => ⟨trivial, fun e_ => hk e_⟩))); obtain ⟨oki12, ce12, hcl12, hM12, hcc12, hfr12, hoki12, hH12⟩ := Kd.S_elem HX12.out z69 (x4_1 : Int) odZ (by have h_ : (x4_1 : Int) < ((x3_1.length : Int) : Int) := odZ; first | exact h_ | (have e_ := (Kd.S_reads' HO_3.out).1; omega) | simpa using h_); obtain ⟨ve12_2, rfl, ge12_2⟩ := k69_openM hM12; have HP12 := Kd.S_seg hH12 odZ (by have h_ : (x4_1 : Int) < ((x3_1.length : Int) : Int) := odZ; first | exact h_ | (have e_ := (Kd.S_reads' HO_3.out).1; omega) | simpa using h_) (seg := [.bool t269, .int .i64 t270, v272]) (j := 0) (show 3 ≤ 3 from by decide) (x' := (⟨t269, t270, t271⟩ : S69)) (k69_mkM _ _ _ (⟨t269, t270, t271⟩ : S69) (Kd.R_mono (Kd.R_tight rfl (Kd.R_mono (ok' := fun k_ => ((fun _ => True)) k_ ∧ k_ ≠ go10) (Kd.R_apart' (HO273.out) (Kd.S_typed HO_3.out) (by decide)) (fun k_ hk => ⟨trivial, fun e_ => (hk.2) (by rw [e_]; rfl)⟩))) (fun _ h_ => Or.inr (h_)))) (fun _ hk => hk) (fun k_ hk_ => ((Kd.R_mono (ok' := fun k_ => ((fun _ => True)) k_ ∧ k_ ≠ go10) (Kd.R_apart' (HO273.out) (Kd.S_typed HO_3.out) (by decide)) (fun k_ hk => ⟨trivial, fun e_ => (hk.2) (by rw [e_]; rfl)⟩))).1 k_ hk_.symm); have hx12_0 := hcc12 0 _ rfl; (try simp only [show (k69).sz = 3 from rfl, Nat.mul_one, Nat.add_zero] at hx12_0); have hf12_0 := hfr12 0; (try simp only [show (k69).sz = 3 from rfl, Nat.mul_one, Nat.add_zero] at hf12_0); have hx12_1 := hcc12 1 _ rfl; (try simp only [show (k69).sz = 3 from rfl, Nat.mul_one, Nat.add_zero] at hx12_1); have hf12_1 := hfr12 1; (try simp only [show (k69).sz = 3 from rfl, Nat.mul_one, Nat.add_zero] at hf12_1); have hx12_2 := hcc12 2 _ rfl; (try simp only [show (k69).sz = 3 from rfl, Nat.mul_one, Nat.add_zero] at hx12_2); have hf12_2 := hfr12 2; (try simp only [show (k69).sz = 3 from rfl, Nat.mul_one, Nat.add_zero] at hf12_2); clear hcl12 hcc12 hfr12; (try clear hM12); clear hoki12 hH12) | ((with_reducible refine gate_store (t := 69) (p := 21) rfl ?_); refine store_event (t := 69) (p := 21) (v := ?vo_w13) (w1 := (((w11.setCell ⟨go10, (x4_1 : Int).toNat * 3, none⟩ (.bool t269)).setCell ⟨go10, (x4_1 : Int).toNat * 3 + 1, none⟩ (.int .i64 t270)).setCell ⟨go10, (x4_1 : Int).toNat * 3 + 2, none⟩ (v272))) ?hg ?ho ?hn ?hr ?_; (case ho => rfl); (case hg => rfl); (case hn => rfl); (case hr => first | (go_simp; done) | (go_simp; rfl) | ((try (obtain ⟨A_, c_, e_⟩ := Kd.R_slice HO273.out; subst e_)); (try (obtain ⟨A_, c_, e_⟩ := Kd.S_slice HO273.out; subst e_)); (first | (go_simp; done) | (go_simp; rfl)))); intro w13 hw; have hg : w11.grownBy w13 (some go10) := (by rw [hw]; exact HP12.2); have hp_ : Kd.S k69 69 w13 w.heap.size (fun _ => True) (.slice (some ⟨go10, 0, none⟩) x3_1.length co10) y274 := (by rw [hw, Ny274.out]; exact HP12.1); clear HP12; have n0_ := amZ (hp_); have n1_ := amZ ((by rw [hw]; exact below_set (below_set (below_set (HB.out) GB10.out) GB10.out) GB10.out : Below w.heap.size w w13)); clear HO_3; clear HB; clear HO273; have HO_3 := n0_; have HB := n1_; clear n0_ n1_; clear hg hw hp_))
        go_roundg k1
        case measure => have := HK1.out; omega
        case rel => exact ⟨(y274), (wrap64 (x4_1 + 1)), (by first | rfl | (simp; done) | (simp [*]; done)), H', ⟨by have := HK1.out; omega⟩, ⟨by (with_reducible repeat (first | apply Kd.S_alloc | apply Kd.S_drewN | apply Kd.S_drew)); exact HO_3.out⟩, ⟨bwZ⟩⟩
       ·
        rw [if_neg c9] at H
        exact absurd H (by simp)
      ·
       rw [if_neg c7] at H
       exact absurd H (by simp)
     ·
      rw [if_neg c6] at H
      have c6b0 : decide (x4_1 < (l0.length : Int)) = false := decide_eq_false c6
      clear c6
      obtain rfl := Option.some.inj H
      go_wp2
      go_ret
      exact ⟨_, by first | rfl | (simp [zjY, ziY] <;> rfl) | (simp [*, zjY, ziY] <;> rfl), by (with_reducible repeat (first | apply Kd.S_alloc | apply Kd.S_drewN | apply Kd.S_drew)); exact HO_3.out, bwZ⟩
  ·
   rw [if_neg c3] at H
   exact absurd H (by simp)
 ·
  rw [if_neg c2] at H
  exact absurd H (by simp)
def laws_toCapture.f (a0_0 : Bool) (a0_1 : Int) : Option (Bool × Int) := some (a0_0, a0_1)
set_option maxHeartbeats 8000000 in
set_option maxRecDepth 100000 in
theorem laws_toCapture.calls (a0_0 : Bool) (a0_1 : Int) (r1 : Bool) (r2 : Int) (w : World) (h : laws_toCapture.f a0_0 a0_1 = some (r1, r2)) :
  Calls Tryd.prog 70 #[.agg #[.bool a0_0, .int .i64 a0_1]] w fun e w' => e = .returned (.agg #[.bool r1, .int .i64 r2]) ∧ Below w.heap.size w w' := by
 have hu131 := Tryd.underlying131
 have hu48 := Tryd.underlying48
 have HB := amZ (Below.refl w.heap.size w)
 have H : (some (a0_0, a0_1)) = some (r1, r2) := h
 clear h
 simp only [Option.some.injEq, Prod.mk.injEq] at H
 obtain ⟨rfl, rfl⟩ := H
 go_enter Tryd.func70, Tryd.ntmps70
 go_wp2_with (first | ((with_reducible refine zmY (N := 1) rfl ?_); refine znY ?hg (N := 1) ?hd (cs := #[.bool a0_0, .int .i64 a0_1]) (t := 131) ?hr ?_; (case hd => rfl); (case hg => rfl); (case hr => first | (go_simp; done) | (go_simp; rfl)); intro gb275 hg w2 hbox hb; have n0_ := amZ (zcY bwZ hb); have n1_ := amZ (hbox); have n2_ := amZ ((by rw [hg]; exact (zgY bwZ) : w.heap.size ≤ gb275)); have n3_ := amZ ((by rw [hg]; exact (zgY bwZ) : w.heap.size ≤ gb275)); clear HB; have HB := n0_; have BK275 := n1_; have GW275 := n2_; have GE275 := n3_; clear n0_ n1_ n2_ n3_; clear hb hbox hg) | ((with_reducible refine zmY (N := 2) rfl ?_); refine znY ?hg (N := 2) ?hd (cs := #[.bool false, .int .i64 0]) (t := 48) ?hr ?_; (case hd => rfl); (case hg => rfl); (case hr => first | (go_simp; done) | (go_simp; rfl)); intro gb276 hg w3 hbox hb; have n0_ := amZ (zkY (g := gb275) (o := .cells #[.bool a0_0, .int .i64 a0_1] 131 (0, 0)) bkZ hb); have n1_ := amZ (zcY bwZ hb); have n2_ := amZ (hbox); have n3_ := amZ ((by rw [hg]; exact (zgY bwZ) : w.heap.size ≤ gb276)); have n4_ := amZ ((by rw [hg]; exact (zgY bwZ) : w.heap.size ≤ gb276)); have n5_ := amZ ((by rw [hg]; exact Nat.ne_of_lt (zlY (g := gb275) (o := .cells #[.bool a0_0, .int .i64 a0_1] 131 (0, 0)) bkZ) : gb275 ≠ gb276)); have n6_ := amZ ((by rw [hg]; exact Nat.ne_of_gt (zlY (g := gb275) (o := .cells #[.bool a0_0, .int .i64 a0_1] 131 (0, 0)) bkZ) : gb276 ≠ gb275)); clear BK275; clear HB; have BK275 := n0_; have HB := n1_; have BK276 := n2_; have GW276 := n3_; have GE276 := n4_; have NB275_276 := n5_; have NB276_275 := n6_; clear n0_ n1_ n2_ n3_ n4_ n5_ n6_; clear hb hbox hg) | ((with_reducible refine zmY (N := 3) rfl ?_); refine znY ?hg (N := 3) ?hd (cs := #[.bool false, .int .i64 0]) (t := 48) ?hr ?_; (case hd => rfl); (case hg => rfl); (case hr => first | (go_simp; done) | (go_simp; rfl)); intro gb277 hg w4 hbox hb; have n0_ := amZ (zkY (g := gb275) (o := .cells #[.bool a0_0, .int .i64 a0_1] 131 (0, 0)) bkZ hb); have n1_ := amZ (zkY (g := gb276) (o := .cells #[.bool false, .int .i64 0] 48 (0, 0)) bkZ hb); have n2_ := amZ (zcY bwZ hb); have n3_ := amZ (hbox); have n4_ := amZ ((by rw [hg]; exact (zgY bwZ) : w.heap.size ≤ gb277)); have n5_ := amZ ((by rw [hg]; exact (zgY bwZ) : w.heap.size ≤ gb277)); have n6_ := amZ ((by rw [hg]; exact Nat.ne_of_lt (zlY (g := gb275) (o := .cells #[.bool a0_0, .int .i64 a0_1] 131 (0, 0)) bkZ) : gb275 ≠ gb277)); have n7_ := amZ ((by rw [hg]; exact Nat.ne_of_gt (zlY (g := gb275) (o := .cells #[.bool a0_0, .int .i64 a0_1] 131 (0, 0)) bkZ) : gb277 ≠ gb275)); have n8_ := amZ ((by rw [hg]; exact Nat.ne_of_lt (zlY (g := gb276) (o := .cells #[.bool false, .int .i64 0] 48 (0, 0)) bkZ) : gb276 ≠ gb277)); have n9_ := amZ ((by rw [hg]; exact Nat.ne_of_gt (zlY (g := gb276) (o := .cells #[.bool false, .int .i64 0] 48 (0, 0)) bkZ) : gb277 ≠ gb276)); clear BK275; clear BK276; clear HB; have BK275 := n0_; have BK276 := n1_; have HB := n2_; have BK277 := n3_; have GW277 := n4_; have GE277 := n5_; have NB275_277 := n6_; have NB277_275 := n7_; have NB276_277 := n8_; have NB277_276 := n9_; clear n0_ n1_ n2_ n3_ n4_ n5_ n6_ n7_ n8_ n9_; clear hb hbox hg; have hnb5 := NB275_276.out; have hnc5 := NB276_275.out; have hnb6 := NB275_277.out; have hnc6 := NB277_275.out; have hcz7_0 : w4.cell? ⟨gb275, 0, none⟩ = some (.bool a0_0) := (zaY BK275.out 0).trans rfl; have hcz7_1 : w4.cell? ⟨gb275, 1, none⟩ = some (.int .i64 a0_1) := (zaY BK275.out 1).trans rfl; have hfz7_0 := zbY BK275.out 0; have hfz7_1 := zbY BK275.out 1; have hnb8 := NB277_276.out; have hnc8 := NB276_277.out; have hcz9_0 : w4.cell? ⟨gb277, 0, none⟩ = some (.bool false) := (zaY BK277.out 0).trans rfl; have hcz9_1 : w4.cell? ⟨gb277, 1, none⟩ = some (.int .i64 0) := (zaY BK277.out 1).trans rfl; have hfz9_0 := zbY BK277.out 0; have hfz9_1 := zbY BK277.out 1; have hcz10_0 : w4.cell? ⟨gb276, 0, none⟩ = some (.bool false) := (zaY BK276.out 0).trans rfl; have hcz10_1 : w4.cell? ⟨gb276, 1, none⟩ = some (.int .i64 0) := (zaY BK276.out 1).trans rfl; have hfz10_0 := zbY BK276.out 0; have hfz10_1 := zbY BK276.out 1))
 refine bodyPost_ret (results_cell_row rfl _ _ gb276 48 #[.bool a0_0, .int .i64 a0_1] (0, 0) _ rfl (by (with_reducible repeat (first | refine zeY ?_ _ | refine zhY ?_ | refine zfY ?_ _)); refine blk_put (cs := #[.bool a0_0, .int .i64 0]) ?_ 1 _ rfl; (with_reducible repeat (first | refine zeY ?_ _ | refine zhY ?_ | refine zfY ?_ _)); refine blk_put (cs := #[.bool false, .int .i64 0]) ?_ 0 _ rfl; (with_reducible repeat (first | refine zeY ?_ _ | refine zhY ?_ | refine zfY ?_ _)); refine blk_far ?_ NB276_277.out _; (with_reducible repeat (first | refine zeY ?_ _ | refine zhY ?_ | refine zfY ?_ _)); refine blk_far ?_ NB276_277.out _; (with_reducible repeat (first | refine zeY ?_ _ | refine zhY ?_ | refine zfY ?_ _)); exact BK276.out) Tryd.underlying48 rfl (by kernel_rfl)) rfl ?_
 exact ⟨by first | rfl | (simp [zjY, ziY] <;> rfl) | (simp [*, zjY, ziY] <;> rfl), bwZ⟩
def laws_toCaptureS.l0 : Nat → List (S131) → List (S48) → Int → Option ((List (S48)))
 | 0, _, _, _ => none
 | k + 1, x0, x3, x4 => if x4 < (x0.length : Int) then (if 0 ≤ x4 then ((laws_toCapture.f ((rd_T131 x0 x4).f0) ((rd_T131 x0 x4).f1)).bind fun bt282 => (if x4 < (x3.length : Int) then (laws_toCaptureS.l0 k x0 (x3.set (x4 : Int).toNat (⟨bt282.1, bt282.2⟩ : S48)) (wrap64 (x4 + 1))) else (none))) else (none)) else (some x3)
def laws_toCaptureS.f (k : Nat) (l0 : List (S131)) : Option ((List (S48))) := if 0 ≤ (l0.length : Int) then (if ((l0.length : Int) : Int).toNat ≤ 17592186044416 then (laws_toCaptureS.l0 k l0 (List.replicate ((l0.length : Int) : Int).toNat z48) 0) else (none)) else (none)
set_option maxHeartbeats 8000000 in
set_option maxRecDepth 100000 in
theorem laws_toCaptureS.calls (k : Nat) (A0 : Option Addr) (c0 : Nat) (l0 : List (S131)) (r : List (S48)) (w : World) (hr0 : Kd.C k131 w A0 l0.length l0) (hc0 : l0.length ≤ c0) (h : laws_toCaptureS.f k l0 = some r) :
  Calls Tryd.prog 60 #[.slice A0 l0.length c0] w fun e w' => ∃ v0_ : Value, e = .returned (v0_) ∧ Kd.R k48 48 w' w.heap.size (fun _ => True) v0_ r ∧ Below w.heap.size w w' := by
 have hu131 := Tryd.underlying131
 have hu48 := Tryd.underlying48
 have HR0 := amZ hr0
 have HC0 := amZ hc0
 clear hr0 hc0
 have HB := amZ (Below.refl w.heap.size w)
 have H : (if 0 ≤ (l0.length : Int) then (if ((l0.length : Int) : Int).toNat ≤ 17592186044416 then (laws_toCaptureS.l0 k l0 (List.replicate ((l0.length : Int) : Int).toNat z48) 0) else (none)) else (none)) = some r := h
 clear h
 by_cases c2 : 0 ≤ (l0.length : Int)
 ·
  rw [if_pos c2] at H
  have c2b0 := eq_true c2
  have c2b1 : decide (0 ≤ (l0.length : Int)) = true := decide_eq_true c2
  clear c2
  by_cases c3 : ((l0.length : Int) : Int).toNat ≤ 17592186044416
  ·
   rw [if_pos c3] at H
   have c3b0 := eq_true c3
   have c3b1 : decide (((l0.length : Int) : Int).toNat ≤ 17592186044416) = true := decide_eq_true c3
   clear c3
   obtain ⟨y278, hy278⟩ : ∃ y_ : List (S48), y_ = (List.replicate ((l0.length : Int) : Int).toNat z48) := ⟨_, rfl⟩
   replace H : (laws_toCaptureS.l0 k l0 y278 0) = some r := by first | (rw [hy278]; with_reducible exact H) | (have H2_ := (Option.bind_some _ _).symm.trans H; rw [hy278]; with_reducible exact H2_) | (have H2_ := (Option.bind_some _ _).symm.trans H; with_reducible exact H2_) | with_reducible exact H | (rw [hy278]; exact H) | exact H
   have Ny278 := amZ hy278
   clear hy278
   have H' := amZ H
   clear H
   go_enter Tryd.func60, Tryd.ntmps60
   go_wp2_with (first | ((with_reducible refine zmY (N := 7) rfl ?_); refine Kd.R_make k48 _ 48 rfl (N := 7) rfl 42 _ _ rfl (l0.length : Int) rfl rfl Tryd.underlying42 (.agg #[(.bool false), (.int .i64 0)]) 16 info48 rfl (by decide) (by omega) z48 (ok := fun _ => True) (okp := fun _ => True) (k48_mkM _ _ _ z48 ) (fun _ hk => hk) trivial odZ (Nat.le_trans (Nat.mul_le_mul_right _ (odZ : (l0.length : Int).toNat ≤ 17592186044416)) (by omega)) (Below.refl _ _) (Nat.le_refl _) ?_; intro v279 w4 ho5 hb hg_ hnew_; clear hg_ hnew_; (first | rw [← Ny278.out] at ho5 | (simp only [Int.reduceToNat] at ho5; rw [← Ny278.out] at ho5)); have n0_ := amZ (Kd.R_lower ho5 (zgY bwZ)); have n1_ := amZ (zcY bwZ hb); clear HB; have HO280 := n0_; have HB := n1_; clear n0_ n1_; clear hb ho5))
   go_loopg [4] k (fun kq v4 w' => ∃ (x3_1 : List (S48)) (x4_1 : Int), v4 = .int .i64 x4_1 ∧ Aside0 (laws_toCaptureS.l0 kq l0 x3_1 x4_1 = some r) ∧ Aside0 (kq ≤ k) ∧ Aside0 (Kd.R k48 48 w' w.heap.size (fun _ => True) v279 x3_1) ∧ Aside0 (Below w.heap.size w w'))
   case atStart => exact ⟨(y278), (0), (by first | rfl | (simp; done) | (simp [*]; done)), H', ⟨Nat.le_refl _⟩, ⟨by (with_reducible repeat (first | apply Kd.R_alloc | apply Kd.R_drewN | apply Kd.R_drew)); exact HO280.out⟩, ⟨bwZ⟩⟩
   case round =>
    clear H'
    try clear c2
    try clear c2b0
    try clear c2b1
    try clear p2
    try clear c3
    try clear c3b0
    try clear c3b1
    obtain ⟨x3_1, x4_1, rfl, HA, HK1, HO_3, HB⟩ := hrel
    cases gk with
    | zero => exact absurd HA.out (by simp [laws_toCaptureS.l0])
    | succ k1 =>
     have H := HA.out
     clear HA
     simp only [laws_toCaptureS.l0] at H
     by_cases c6 : x4_1 < (l0.length : Int)
     ·
      rw [if_pos c6] at H
      have c6b0 : decide (x4_1 < (l0.length : Int)) = true := decide_eq_true c6
      clear c6
      by_cases c7 : 0 ≤ x4_1
      ·
       rw [if_pos c7] at H
       have c7b0 : decide (0 ≤ x4_1) = true := decide_eq_true c7
       clear c7
       replace H := Option.bind_eq_some_iff.mp H
       obtain ⟨⟨t282, t283⟩, A80, H⟩ := H
       replace H : (if x4_1 < (x3_1.length : Int) then (laws_toCaptureS.l0 k1 l0 (x3_1.set (x4_1 : Int).toNat (⟨t282, t283⟩ : S48)) (wrap64 (x4_1 + 1))) else (none)) = some r := H
       have A8 := amZ A80
       clear A80
       by_cases c9 : x4_1 < (x3_1.length : Int)
       ·
        rw [if_pos c9] at H
        have c9b0 : decide (x4_1 < (x3_1.length : Int)) = true := decide_eq_true c9
        clear c9
        obtain ⟨y284, hy284⟩ : ∃ y_ : List (S48), y_ = (x3_1.set (x4_1 : Int).toNat (⟨t282, t283⟩ : S48)) := ⟨_, rfl⟩
        replace H : (laws_toCaptureS.l0 k1 l0 y284 (wrap64 (x4_1 + 1))) = some r := by first | (rw [hy284]; with_reducible exact H) | (have H2_ := (Option.bind_some _ _).symm.trans H; rw [hy284]; with_reducible exact H2_) | (have H2_ := (Option.bind_some _ _).symm.trans H; with_reducible exact H2_) | with_reducible exact H | (rw [hy284]; exact H) | exact H
        have Ny284 := amZ hy284
        clear hy284
        have H' := amZ H
        clear H
        have p281 : 0 ≤ (x4_1 : Int) := odZ
        have q281 : x4_1 < (l0.length : Int) := odZ
        obtain ⟨ad281, e281, hx281_0, hx281_1⟩ := at_T131 HR0.out x4_1 p281 q281
        cases e281
        replace hx281_0 := (HB.out.cell (World.block_lt_of_cell? w _ hx281_0)).trans hx281_0
        replace hx281_1 := (HB.out.cell (World.block_lt_of_cell? w _ hx281_1)).trans hx281_1
        replace p281 := eq_true p281
        replace q281 := eq_true q281
        go_wp2_with (first | ((with_reducible refine gate_callee (f := 70) rfl ?_); refine goesL_ (some 20) rfl rfl Tryd.func70 (by kernel_rfl) rfl #[.agg #[.bool ((rd_T131 l0 x4_1).f0), .int .i64 ((rd_T131 l0 x4_1).f1)]] rfl (by (try simp only [List.map_toArray, List.map_cons, List.map_nil]); first | done | rfl | (simp only [List.length_drop, List.length_take]; rfl)) ?_; (with_reducible refine (laws_toCapture.calls ((rd_T131 l0 x4_1).f0) ((rd_T131 l0 x4_1).f1) t282 t283 _ A8.out).mono ?_); rintro e w11 ⟨rfl, hb⟩; refine ⟨_, rfl, ?_⟩; have n0_ := amZ (Kd.R_below (by (with_reducible repeat (first | apply Kd.R_alloc | apply Kd.R_drewN | apply Kd.R_drew)); exact HO_3.out) hb); have n1_ := amZ (zcY bwZ hb); clear HO_3; clear HB; have HO_3 := n0_; have HB := n1_; clear n0_ n1_; (try clear hb); (try clear hb2); (try clear hk); (try clear hi); have p10 : 0 ≤ (x4_1 : Int) := odZ; have q10 : (x4_1 : Int) < ((x3_1.length : Int) : Int) := odZ; obtain ⟨go10, co10, eo10, gb10, gl10, cl10, HG10⟩ := Kd.R_form HO_3.out (by omega); (first | cases eo10 | (injection eo10 with ea_ en_ ec_; (first | subst ea_ | (injection ea_ with ea_; subst ea_)); subst ec_; clear en_)); have GB10 := amZ gb10; have GG10 := amZ HG10; clear gb10 gl10 HG10; obtain ⟨ce10, hcl10, hM10, hcc10, hfr10⟩ := Kd.R_elem HO_3.out z48 (x4_1 : Int) p10 q10; obtain rfl := k48_openM hM10; have hx10_0 : w11.cell? ⟨go10, (x4_1 : Int).toNat * 2, none⟩ = some (.bool ((rd_T48 x3_1 x4_1).f0)) := hcc10 0 _ rfl; have hx10_1 : w11.cell? ⟨go10, (x4_1 : Int).toNat * 2 + 1, none⟩ = some (.int .i64 ((rd_T48 x3_1 x4_1).f1)) := hcc10 1 _ rfl; have hf10_0 : w11.frozen? ⟨go10, (x4_1 : Int).toNat * 2, none⟩ = false := hfr10 0; have hf10_1 : w11.frozen? ⟨go10, (x4_1 : Int).toNat * 2 + 1, none⟩ = false := hfr10 1; clear hcl10 hcc10 hfr10; (try clear hM10); replace p10 := eq_true p10; replace q10 := eq_true q10; have HX12 := amZ (show Kd.R k48 48 w11 w.heap.size (fun _ => True) (.slice (some ⟨go10, 0, none⟩) x3_1.length co10) x3_1 from (by (with_reducible repeat (first | apply Kd.R_alloc | apply Kd.R_drewN | apply Kd.R_drew)); exact HO_3.out)); obtain ⟨ce12, hcl12, hM12, hcc12, hfr12⟩ := Kd.R_elem HX12.out z48 (x4_1 : Int) odZ (by have h_ : (x4_1 : Int) < ((x3_1.length : Int) : Int) := odZ; first | exact h_ | (have e_ := (Kd.R_reads' HO_3.out).1; omega) | simpa using h_); obtain rfl := k48_openM hM12; have HP12 := Kd.R_seg HX12.out (x4_1 : Int) odZ (by have h_ : (x4_1 : Int) < ((x3_1.length : Int) : Int) := odZ; first | exact h_ | (have e_ := (Kd.R_reads' HO_3.out).1; omega) | simpa using h_) (seg := [.bool t282, .int .i64 t283]) (j := 0) hcl12 hcc12 (show 2 ≤ 2 from by decide) (x' := (⟨t282, t283⟩ : S48)) (k48_mkM _ _ _ (⟨t282, t283⟩ : S48) ) (fun _ hk => hk); have hx12_0 := hcc12 0 _ rfl; (try simp only [show (k48).sz = 2 from rfl, Nat.mul_one, Nat.add_zero] at hx12_0); have hf12_0 := hfr12 0; (try simp only [show (k48).sz = 2 from rfl, Nat.mul_one, Nat.add_zero] at hf12_0); have hx12_1 := hcc12 1 _ rfl; (try simp only [show (k48).sz = 2 from rfl, Nat.mul_one, Nat.add_zero] at hx12_1); have hf12_1 := hfr12 1; (try simp only [show (k48).sz = 2 from rfl, Nat.mul_one, Nat.add_zero] at hf12_1); clear hcl12 hcc12 hfr12; (try clear hM12)) | ((with_reducible refine gate_store (t := 48) (p := 21) rfl ?_); refine store_event (t := 48) (p := 21) (v := ?vo_w13) (w1 := ((w11.setCell ⟨go10, (x4_1 : Int).toNat * 2, none⟩ (.bool t282)).setCell ⟨go10, (x4_1 : Int).toNat * 2 + 1, none⟩ (.int .i64 t283))) ?hg ?ho ?hn ?hr ?_; (case ho => rfl); (case hg => rfl); (case hn => rfl); (case hr => first | (go_simp; done) | (go_simp; rfl)); intro w13 hw; have hg : w11.grownBy w13 (some go10) := (by rw [hw]; exact HP12.2); have hp_ : Kd.R k48 48 w13 w.heap.size (fun _ => True) (.slice (some ⟨go10, 0, none⟩) x3_1.length co10) y284 := (by rw [hw, Ny284.out]; exact HP12.1); clear HP12; have n0_ := amZ (hp_); have n1_ := amZ ((by rw [hw]; exact below_set (below_set (HB.out) GB10.out) GB10.out : Below w.heap.size w w13)); clear HO_3; clear HB; have HO_3 := n0_; have HB := n1_; clear n0_ n1_; clear hg hw hp_))
        go_roundg k1
        case measure => have := HK1.out; omega
        case rel => exact ⟨(y284), (wrap64 (x4_1 + 1)), (by first | rfl | (simp; done) | (simp [*]; done)), H', ⟨by have := HK1.out; omega⟩, ⟨by (with_reducible repeat (first | apply Kd.R_alloc | apply Kd.R_drewN | apply Kd.R_drew)); exact HO_3.out⟩, ⟨bwZ⟩⟩
       ·
        rw [if_neg c9] at H
        exact absurd H (by simp)
      ·
       rw [if_neg c7] at H
       exact absurd H (by simp)
     ·
      rw [if_neg c6] at H
      have c6b0 : decide (x4_1 < (l0.length : Int)) = false := decide_eq_false c6
      clear c6
      obtain rfl := Option.some.inj H
      go_wp2
      go_ret
      exact ⟨_, by first | rfl | (simp [zjY, ziY] <;> rfl) | (simp [*, zjY, ziY] <;> rfl), by (with_reducible repeat (first | apply Kd.R_alloc | apply Kd.R_drewN | apply Kd.R_drew)); exact HO_3.out, bwZ⟩
  ·
   rw [if_neg c3] at H
   exact absurd H (by simp)
 ·
  rw [if_neg c2] at H
  exact absurd H (by simp)
def laws_toIns.f (a0_0 : Int) (a0_1 : Int) (a0_2 : Int) : Option (Int × Int × Int) := some (a0_0, a0_1, a0_2)
set_option maxHeartbeats 8000000 in
set_option maxRecDepth 100000 in
theorem laws_toIns.calls (a0_0 : Int) (a0_1 : Int) (a0_2 : Int) (r1 : Int) (r2 : Int) (r3 : Int) (w : World) (h : laws_toIns.f a0_0 a0_1 a0_2 = some (r1, r2, r3)) :
  Calls Tryd.prog 71 #[.agg #[.int .i64 a0_0, .int .i64 a0_1, .int .i64 a0_2]] w fun e w' => e = .returned (.agg #[.int .i64 r1, .int .i64 r2, .int .i64 r3]) ∧ Below w.heap.size w w' := by
 have hu133 := Tryd.underlying133
 have hu51 := Tryd.underlying51
 have HB := amZ (Below.refl w.heap.size w)
 have H : (some (a0_0, a0_1, a0_2)) = some (r1, r2, r3) := h
 clear h
 simp only [Option.some.injEq, Prod.mk.injEq] at H
 obtain ⟨rfl, rfl, rfl⟩ := H
 go_enter Tryd.func71, Tryd.ntmps71
 go_wp2_with (first | ((with_reducible refine zmY (N := 1) rfl ?_); refine znY ?hg (N := 1) ?hd (cs := #[.int .i64 a0_0, .int .i64 a0_1, .int .i64 a0_2]) (t := 133) ?hr ?_; (case hd => rfl); (case hg => rfl); (case hr => first | (go_simp; done) | (go_simp; rfl)); intro gb285 hg w2 hbox hb; have n0_ := amZ (zcY bwZ hb); have n1_ := amZ (hbox); have n2_ := amZ ((by rw [hg]; exact (zgY bwZ) : w.heap.size ≤ gb285)); have n3_ := amZ ((by rw [hg]; exact (zgY bwZ) : w.heap.size ≤ gb285)); clear HB; have HB := n0_; have BK285 := n1_; have GW285 := n2_; have GE285 := n3_; clear n0_ n1_ n2_ n3_; clear hb hbox hg) | ((with_reducible refine zmY (N := 2) rfl ?_); refine znY ?hg (N := 2) ?hd (cs := #[.int .i64 0, .int .i64 0, .int .i64 0]) (t := 51) ?hr ?_; (case hd => rfl); (case hg => rfl); (case hr => first | (go_simp; done) | (go_simp; rfl)); intro gb286 hg w3 hbox hb; have n0_ := amZ (zkY (g := gb285) (o := .cells #[.int .i64 a0_0, .int .i64 a0_1, .int .i64 a0_2] 133 (0, 0)) bkZ hb); have n1_ := amZ (zcY bwZ hb); have n2_ := amZ (hbox); have n3_ := amZ ((by rw [hg]; exact (zgY bwZ) : w.heap.size ≤ gb286)); have n4_ := amZ ((by rw [hg]; exact (zgY bwZ) : w.heap.size ≤ gb286)); have n5_ := amZ ((by rw [hg]; exact Nat.ne_of_lt (zlY (g := gb285) (o := .cells #[.int .i64 a0_0, .int .i64 a0_1, .int .i64 a0_2] 133 (0, 0)) bkZ) : gb285 ≠ gb286)); have n6_ := amZ ((by rw [hg]; exact Nat.ne_of_gt (zlY (g := gb285) (o := .cells #[.int .i64 a0_0, .int .i64 a0_1, .int .i64 a0_2] 133 (0, 0)) bkZ) : gb286 ≠ gb285)); clear BK285; clear HB; have BK285 := n0_; have HB := n1_; have BK286 := n2_; have GW286 := n3_; have GE286 := n4_; have NB285_286 := n5_; have NB286_285 := n6_; clear n0_ n1_ n2_ n3_ n4_ n5_ n6_; clear hb hbox hg) | ((with_reducible refine zmY (N := 3) rfl ?_); refine znY ?hg (N := 3) ?hd (cs := #[.int .i64 0, .int .i64 0, .int .i64 0]) (t := 51) ?hr ?_; (case hd => rfl); (case hg => rfl); (case hr => first | (go_simp; done) | (go_simp; rfl)); intro gb287 hg w4 hbox hb; have n0_ := amZ (zkY (g := gb285) (o := .cells #[.int .i64 a0_0, .int .i64 a0_1, .int .i64 a0_2] 133 (0, 0)) bkZ hb); have n1_ := amZ (zkY (g := gb286) (o := .cells #[.int .i64 0, .int .i64 0, .int .i64 0] 51 (0, 0)) bkZ hb); have n2_ := amZ (zcY bwZ hb); have n3_ := amZ (hbox); have n4_ := amZ ((by rw [hg]; exact (zgY bwZ) : w.heap.size ≤ gb287)); have n5_ := amZ ((by rw [hg]; exact (zgY bwZ) : w.heap.size ≤ gb287)); have n6_ := amZ ((by rw [hg]; exact Nat.ne_of_lt (zlY (g := gb285) (o := .cells #[.int .i64 a0_0, .int .i64 a0_1, .int .i64 a0_2] 133 (0, 0)) bkZ) : gb285 ≠ gb287)); have n7_ := amZ ((by rw [hg]; exact Nat.ne_of_gt (zlY (g := gb285) (o := .cells #[.int .i64 a0_0, .int .i64 a0_1, .int .i64 a0_2] 133 (0, 0)) bkZ) : gb287 ≠ gb285)); have n8_ := amZ ((by rw [hg]; exact Nat.ne_of_lt (zlY (g := gb286) (o := .cells #[.int .i64 0, .int .i64 0, .int .i64 0] 51 (0, 0)) bkZ) : gb286 ≠ gb287)); have n9_ := amZ ((by rw [hg]; exact Nat.ne_of_gt (zlY (g := gb286) (o := .cells #[.int .i64 0, .int .i64 0, .int .i64 0] 51 (0, 0)) bkZ) : gb287 ≠ gb286)); clear BK285; clear BK286; clear HB; have BK285 := n0_; have BK286 := n1_; have HB := n2_; have BK287 := n3_; have GW287 := n4_; have GE287 := n5_; have NB285_287 := n6_; have NB287_285 := n7_; have NB286_287 := n8_; have NB287_286 := n9_; clear n0_ n1_ n2_ n3_ n4_ n5_ n6_ n7_ n8_ n9_; clear hb hbox hg; have hnb5 := NB285_286.out; have hnc5 := NB286_285.out; have hnb6 := NB285_287.out; have hnc6 := NB287_285.out; have hcz7_0 : w4.cell? ⟨gb285, 0, none⟩ = some (.int .i64 a0_0) := (zaY BK285.out 0).trans rfl; have hcz7_1 : w4.cell? ⟨gb285, 1, none⟩ = some (.int .i64 a0_1) := (zaY BK285.out 1).trans rfl; have hcz7_2 : w4.cell? ⟨gb285, 2, none⟩ = some (.int .i64 a0_2) := (zaY BK285.out 2).trans rfl; have hfz7_0 := zbY BK285.out 0; have hfz7_1 := zbY BK285.out 1; have hfz7_2 := zbY BK285.out 2; have hnb8 := NB287_286.out; have hnc8 := NB286_287.out; have hcz9_0 : w4.cell? ⟨gb287, 0, none⟩ = some (.int .i64 0) := (zaY BK287.out 0).trans rfl; have hcz9_1 : w4.cell? ⟨gb287, 1, none⟩ = some (.int .i64 0) := (zaY BK287.out 1).trans rfl; have hcz9_2 : w4.cell? ⟨gb287, 2, none⟩ = some (.int .i64 0) := (zaY BK287.out 2).trans rfl; have hfz9_0 := zbY BK287.out 0; have hfz9_1 := zbY BK287.out 1; have hfz9_2 := zbY BK287.out 2; have hcz10_0 : w4.cell? ⟨gb286, 0, none⟩ = some (.int .i64 0) := (zaY BK286.out 0).trans rfl; have hcz10_1 : w4.cell? ⟨gb286, 1, none⟩ = some (.int .i64 0) := (zaY BK286.out 1).trans rfl; have hcz10_2 : w4.cell? ⟨gb286, 2, none⟩ = some (.int .i64 0) := (zaY BK286.out 2).trans rfl; have hfz10_0 := zbY BK286.out 0; have hfz10_1 := zbY BK286.out 1; have hfz10_2 := zbY BK286.out 2))
 refine bodyPost_ret (results_cell_row rfl _ _ gb286 51 #[.int .i64 a0_0, .int .i64 a0_1, .int .i64 a0_2] (0, 0) _ rfl (by (with_reducible repeat (first | refine zeY ?_ _ | refine zhY ?_ | refine zfY ?_ _)); refine blk_put (cs := #[.int .i64 a0_0, .int .i64 a0_1, .int .i64 0]) ?_ 2 _ rfl; (with_reducible repeat (first | refine zeY ?_ _ | refine zhY ?_ | refine zfY ?_ _)); refine blk_put (cs := #[.int .i64 a0_0, .int .i64 0, .int .i64 0]) ?_ 1 _ rfl; (with_reducible repeat (first | refine zeY ?_ _ | refine zhY ?_ | refine zfY ?_ _)); refine blk_put (cs := #[.int .i64 0, .int .i64 0, .int .i64 0]) ?_ 0 _ rfl; (with_reducible repeat (first | refine zeY ?_ _ | refine zhY ?_ | refine zfY ?_ _)); refine blk_far ?_ NB286_287.out _; (with_reducible repeat (first | refine zeY ?_ _ | refine zhY ?_ | refine zfY ?_ _)); refine blk_far ?_ NB286_287.out _; (with_reducible repeat (first | refine zeY ?_ _ | refine zhY ?_ | refine zfY ?_ _)); refine blk_far ?_ NB286_287.out _; (with_reducible repeat (first | refine zeY ?_ _ | refine zhY ?_ | refine zfY ?_ _)); exact BK286.out) Tryd.underlying51 rfl (by kernel_rfl)) rfl ?_
 exact ⟨by first | rfl | (simp [zjY, ziY] <;> rfl) | (simp [*, zjY, ziY] <;> rfl), bwZ⟩
def laws_toInsS.l0 : Nat → List (S133) → List (S51) → Int → Option ((List (S51)))
 | 0, _, _, _ => none
 | k + 1, x0, x3, x4 => if x4 < (x0.length : Int) then (if 0 ≤ x4 then ((laws_toIns.f ((rd_T133 x0 x4).f0) ((rd_T133 x0 x4).f1) ((rd_T133 x0 x4).f2)).bind fun bt292 => (if x4 < (x3.length : Int) then (laws_toInsS.l0 k x0 (x3.set (x4 : Int).toNat (⟨bt292.1, bt292.2.1, bt292.2.2⟩ : S51)) (wrap64 (x4 + 1))) else (none))) else (none)) else (some x3)
def laws_toInsS.f (k : Nat) (l0 : List (S133)) : Option ((List (S51))) := if 0 ≤ (l0.length : Int) then (if ((l0.length : Int) : Int).toNat ≤ 11728124029610 then (laws_toInsS.l0 k l0 (List.replicate ((l0.length : Int) : Int).toNat z51) 0) else (none)) else (none)
set_option maxHeartbeats 8000000 in
set_option maxRecDepth 100000 in
theorem laws_toInsS.calls (k : Nat) (A0 : Option Addr) (c0 : Nat) (l0 : List (S133)) (r : List (S51)) (w : World) (hr0 : Kd.C k133 w A0 l0.length l0) (hc0 : l0.length ≤ c0) (h : laws_toInsS.f k l0 = some r) :
  Calls Tryd.prog 61 #[.slice A0 l0.length c0] w fun e w' => ∃ v0_ : Value, e = .returned (v0_) ∧ Kd.R k51 51 w' w.heap.size (fun _ => True) v0_ r ∧ Below w.heap.size w w' := by
 have hu133 := Tryd.underlying133
 have hu51 := Tryd.underlying51
 have HR0 := amZ hr0
 have HC0 := amZ hc0
 clear hr0 hc0
 have HB := amZ (Below.refl w.heap.size w)
 have H : (if 0 ≤ (l0.length : Int) then (if ((l0.length : Int) : Int).toNat ≤ 11728124029610 then (laws_toInsS.l0 k l0 (List.replicate ((l0.length : Int) : Int).toNat z51) 0) else (none)) else (none)) = some r := h
 clear h
 by_cases c2 : 0 ≤ (l0.length : Int)
 ·
  rw [if_pos c2] at H
  have c2b0 := eq_true c2
  have c2b1 : decide (0 ≤ (l0.length : Int)) = true := decide_eq_true c2
  clear c2
  by_cases c3 : ((l0.length : Int) : Int).toNat ≤ 11728124029610
  ·
   rw [if_pos c3] at H
   have c3b0 := eq_true c3
   have c3b1 : decide (((l0.length : Int) : Int).toNat ≤ 11728124029610) = true := decide_eq_true c3
   clear c3
   obtain ⟨y288, hy288⟩ : ∃ y_ : List (S51), y_ = (List.replicate ((l0.length : Int) : Int).toNat z51) := ⟨_, rfl⟩
   replace H : (laws_toInsS.l0 k l0 y288 0) = some r := by first | (rw [hy288]; with_reducible exact H) | (have H2_ := (Option.bind_some _ _).symm.trans H; rw [hy288]; with_reducible exact H2_) | (have H2_ := (Option.bind_some _ _).symm.trans H; with_reducible exact H2_) | with_reducible exact H | (rw [hy288]; exact H) | exact H
   have Ny288 := amZ hy288
   clear hy288
   have H' := amZ H
   clear H
   go_enter Tryd.func61, Tryd.ntmps61
   go_wp2_with (first | ((with_reducible refine zmY (N := 7) rfl ?_); refine Kd.R_make k51 _ 51 rfl (N := 7) rfl 43 _ _ rfl (l0.length : Int) rfl rfl Tryd.underlying43 (.agg #[(.int .i64 0), (.int .i64 0), (.int .i64 0)]) 24 info51 rfl (by decide) (by omega) z51 (ok := fun _ => True) (okp := fun _ => True) (k51_mkM _ _ _ z51 ) (fun _ hk => hk) trivial odZ (Nat.le_trans (Nat.mul_le_mul_right _ (odZ : (l0.length : Int).toNat ≤ 11728124029610)) (by omega)) (Below.refl _ _) (Nat.le_refl _) ?_; intro v289 w4 ho5 hb hg_ hnew_; clear hg_ hnew_; (first | rw [← Ny288.out] at ho5 | (simp only [Int.reduceToNat] at ho5; rw [← Ny288.out] at ho5)); have n0_ := amZ (Kd.R_lower ho5 (zgY bwZ)); have n1_ := amZ (zcY bwZ hb); clear HB; have HO290 := n0_; have HB := n1_; clear n0_ n1_; clear hb ho5))
   go_loopg [4] k (fun kq v4 w' => ∃ (x3_1 : List (S51)) (x4_1 : Int), v4 = .int .i64 x4_1 ∧ Aside0 (laws_toInsS.l0 kq l0 x3_1 x4_1 = some r) ∧ Aside0 (kq ≤ k) ∧ Aside0 (Kd.R k51 51 w' w.heap.size (fun _ => True) v289 x3_1) ∧ Aside0 (Below w.heap.size w w'))
   case atStart => exact ⟨(y288), (0), (by first | rfl | (simp; done) | (simp [*]; done)), H', ⟨Nat.le_refl _⟩, ⟨by (with_reducible repeat (first | apply Kd.R_alloc | apply Kd.R_drewN | apply Kd.R_drew)); exact HO290.out⟩, ⟨bwZ⟩⟩
   case round =>
    clear H'
    try clear c2
    try clear c2b0
    try clear c2b1
    try clear p2
    try clear c3
    try clear c3b0
    try clear c3b1
    obtain ⟨x3_1, x4_1, rfl, HA, HK1, HO_3, HB⟩ := hrel
    cases gk with
    | zero => exact absurd HA.out (by simp [laws_toInsS.l0])
    | succ k1 =>
     have H := HA.out
     clear HA
     simp only [laws_toInsS.l0] at H
     by_cases c6 : x4_1 < (l0.length : Int)
     ·
      rw [if_pos c6] at H
      have c6b0 : decide (x4_1 < (l0.length : Int)) = true := decide_eq_true c6
      clear c6
      by_cases c7 : 0 ≤ x4_1
      ·
       rw [if_pos c7] at H
       have c7b0 : decide (0 ≤ x4_1) = true := decide_eq_true c7
       clear c7
       replace H := Option.bind_eq_some_iff.mp H
       obtain ⟨⟨t292, t293, t294⟩, A80, H⟩ := H
       replace H : (if x4_1 < (x3_1.length : Int) then (laws_toInsS.l0 k1 l0 (x3_1.set (x4_1 : Int).toNat (⟨t292, t293, t294⟩ : S51)) (wrap64 (x4_1 + 1))) else (none)) = some r := H
       have A8 := amZ A80
       clear A80
       by_cases c9 : x4_1 < (x3_1.length : Int)
       ·
        rw [if_pos c9] at H
        have c9b0 : decide (x4_1 < (x3_1.length : Int)) = true := decide_eq_true c9
        clear c9
        obtain ⟨y295, hy295⟩ : ∃ y_ : List (S51), y_ = (x3_1.set (x4_1 : Int).toNat (⟨t292, t293, t294⟩ : S51)) := ⟨_, rfl⟩
        replace H : (laws_toInsS.l0 k1 l0 y295 (wrap64 (x4_1 + 1))) = some r := by first | (rw [hy295]; with_reducible exact H) | (have H2_ := (Option.bind_some _ _).symm.trans H; rw [hy295]; with_reducible exact H2_) | (have H2_ := (Option.bind_some _ _).symm.trans H; with_reducible exact H2_) | with_reducible exact H | (rw [hy295]; exact H) | exact H
        have Ny295 := amZ hy295
        clear hy295
        have H' := amZ H
        clear H
        have p291 : 0 ≤ (x4_1 : Int) := odZ
        have q291 : x4_1 < (l0.length : Int) := odZ
        obtain ⟨ad291, e291, hx291_0, hx291_1, hx291_2⟩ := at_T133 HR0.out x4_1 p291 q291
        cases e291
        replace hx291_0 := (HB.out.cell (World.block_lt_of_cell? w _ hx291_0)).trans hx291_0
        replace hx291_1 := (HB.out.cell (World.block_lt_of_cell? w _ hx291_1)).trans hx291_1
        replace hx291_2 := (HB.out.cell (World.block_lt_of_cell? w _ hx291_2)).trans hx291_2
        replace p291 := eq_true p291
        replace q291 := eq_true q291
        go_wp2_with (first | ((with_reducible refine gate_callee (f := 71) rfl ?_); refine goesL_ (some 20) rfl rfl Tryd.func71 (by kernel_rfl) rfl #[.agg #[.int .i64 ((rd_T133 l0 x4_1).f0), .int .i64 ((rd_T133 l0 x4_1).f1), .int .i64 ((rd_T133 l0 x4_1).f2)]] rfl (by (try simp only [List.map_toArray, List.map_cons, List.map_nil]); first | done | rfl | (simp only [List.length_drop, List.length_take]; rfl)) ?_; (with_reducible refine (laws_toIns.calls ((rd_T133 l0 x4_1).f0) ((rd_T133 l0 x4_1).f1) ((rd_T133 l0 x4_1).f2) t292 t293 t294 _ A8.out).mono ?_); rintro e w11 ⟨rfl, hb⟩; refine ⟨_, rfl, ?_⟩; have n0_ := amZ (Kd.R_below (by (with_reducible repeat (first | apply Kd.R_alloc | apply Kd.R_drewN | apply Kd.R_drew)); exact HO_3.out) hb); have n1_ := amZ (zcY bwZ hb); clear HO_3; clear HB; have HO_3 := n0_; have HB := n1_; clear n0_ n1_; (try clear hb); (try clear hb2); (try clear hk); (try clear hi); have p10 : 0 ≤ (x4_1 : Int) := odZ; have q10 : (x4_1 : Int) < ((x3_1.length : Int) : Int) := odZ; obtain ⟨go10, co10, eo10, gb10, gl10, cl10, HG10⟩ := Kd.R_form HO_3.out (by omega); (first | cases eo10 | (injection eo10 with ea_ en_ ec_; (first | subst ea_ | (injection ea_ with ea_; subst ea_)); subst ec_; clear en_)); have GB10 := amZ gb10; have GG10 := amZ HG10; clear gb10 gl10 HG10; obtain ⟨ce10, hcl10, hM10, hcc10, hfr10⟩ := Kd.R_elem HO_3.out z51 (x4_1 : Int) p10 q10; obtain rfl := k51_openM hM10; have hx10_0 : w11.cell? ⟨go10, (x4_1 : Int).toNat * 3, none⟩ = some (.int .i64 ((rd_T51 x3_1 x4_1).f0)) := hcc10 0 _ rfl; have hx10_1 : w11.cell? ⟨go10, (x4_1 : Int).toNat * 3 + 1, none⟩ = some (.int .i64 ((rd_T51 x3_1 x4_1).f1)) := hcc10 1 _ rfl; have hx10_2 : w11.cell? ⟨go10, (x4_1 : Int).toNat * 3 + 2, none⟩ = some (.int .i64 ((rd_T51 x3_1 x4_1).f2)) := hcc10 2 _ rfl; have hf10_0 : w11.frozen? ⟨go10, (x4_1 : Int).toNat * 3, none⟩ = false := hfr10 0; have hf10_1 : w11.frozen? ⟨go10, (x4_1 : Int).toNat * 3 + 1, none⟩ = false := hfr10 1; have hf10_2 : w11.frozen? ⟨go10, (x4_1 : Int).toNat * 3 + 2, none⟩ = false := hfr10 2; clear hcl10 hcc10 hfr10; (try clear hM10); replace p10 := eq_true p10; replace q10 := eq_true q10; have HX12 := amZ (show Kd.R k51 51 w11 w.heap.size (fun _ => True) (.slice (some ⟨go10, 0, none⟩) x3_1.length co10) x3_1 from (by (with_reducible repeat (first | apply Kd.R_alloc | apply Kd.R_drewN | apply Kd.R_drew)); exact HO_3.out)); obtain ⟨ce12, hcl12, hM12, hcc12, hfr12⟩ := Kd.R_elem HX12.out z51 (x4_1 : Int) odZ (by have h_ : (x4_1 : Int) < ((x3_1.length : Int) : Int) := odZ; first | exact h_ | (have e_ := (Kd.R_reads' HO_3.out).1; omega) | simpa using h_); obtain rfl := k51_openM hM12; have HP12 := Kd.R_seg HX12.out (x4_1 : Int) odZ (by have h_ : (x4_1 : Int) < ((x3_1.length : Int) : Int) := odZ; first | exact h_ | (have e_ := (Kd.R_reads' HO_3.out).1; omega) | simpa using h_) (seg := [.int .i64 t292, .int .i64 t293, .int .i64 t294]) (j := 0) hcl12 hcc12 (show 3 ≤ 3 from by decide) (x' := (⟨t292, t293, t294⟩ : S51)) (k51_mkM _ _ _ (⟨t292, t293, t294⟩ : S51) ) (fun _ hk => hk); have hx12_0 := hcc12 0 _ rfl; (try simp only [show (k51).sz = 3 from rfl, Nat.mul_one, Nat.add_zero] at hx12_0); have hf12_0 := hfr12 0; (try simp only [show (k51).sz = 3 from rfl, Nat.mul_one, Nat.add_zero] at hf12_0); have hx12_1 := hcc12 1 _ rfl; (try simp only [show (k51).sz = 3 from rfl, Nat.mul_one, Nat.add_zero] at hx12_1); have hf12_1 := hfr12 1; (try simp only [show (k51).sz = 3 from rfl, Nat.mul_one, Nat.add_zero] at hf12_1); have hx12_2 := hcc12 2 _ rfl; (try simp only [show (k51).sz = 3 from rfl, Nat.mul_one, Nat.add_zero] at hx12_2); have hf12_2 := hfr12 2; (try simp only [show (k51).sz = 3 from rfl, Nat.mul_one, Nat.add_zero] at hf12_2); clear hcl12 hcc12 hfr12; (try clear hM12)) | ((with_reducible refine gate_store (t := 51) (p := 21) rfl ?_); refine store_event (t := 51) (p := 21) (v := ?vo_w13) (w1 := (((w11.setCell ⟨go10, (x4_1 : Int).toNat * 3, none⟩ (.int .i64 t292)).setCell ⟨go10, (x4_1 : Int).toNat * 3 + 1, none⟩ (.int .i64 t293)).setCell ⟨go10, (x4_1 : Int).toNat * 3 + 2, none⟩ (.int .i64 t294))) ?hg ?ho ?hn ?hr ?_; (case ho => rfl); (case hg => rfl); (case hn => rfl); (case hr => first | (go_simp; done) | (go_simp; rfl)); intro w13 hw; have hg : w11.grownBy w13 (some go10) := (by rw [hw]; exact HP12.2); have hp_ : Kd.R k51 51 w13 w.heap.size (fun _ => True) (.slice (some ⟨go10, 0, none⟩) x3_1.length co10) y295 := (by rw [hw, Ny295.out]; exact HP12.1); clear HP12; have n0_ := amZ (hp_); have n1_ := amZ ((by rw [hw]; exact below_set (below_set (below_set (HB.out) GB10.out) GB10.out) GB10.out : Below w.heap.size w w13)); clear HO_3; clear HB; have HO_3 := n0_; have HB := n1_; clear n0_ n1_; clear hg hw hp_))
        go_roundg k1
        case measure => have := HK1.out; omega
        case rel => exact ⟨(y295), (wrap64 (x4_1 + 1)), (by first | rfl | (simp; done) | (simp [*]; done)), H', ⟨by have := HK1.out; omega⟩, ⟨by (with_reducible repeat (first | apply Kd.R_alloc | apply Kd.R_drewN | apply Kd.R_drew)); exact HO_3.out⟩, ⟨bwZ⟩⟩
       ·
        rw [if_neg c9] at H
        exact absurd H (by simp)
      ·
       rw [if_neg c7] at H
       exact absurd H (by simp)
     ·
      rw [if_neg c6] at H
      have c6b0 : decide (x4_1 < (l0.length : Int)) = false := decide_eq_false c6
      clear c6
      obtain rfl := Option.some.inj H
      go_wp2
      go_ret
      exact ⟨_, by first | rfl | (simp [zjY, ziY] <;> rfl) | (simp [*, zjY, ziY] <;> rfl), by (with_reducible repeat (first | apply Kd.R_alloc | apply Kd.R_drewN | apply Kd.R_drew)); exact HO_3.out, bwZ⟩
  ·
   rw [if_neg c3] at H
   exact absurd H (by simp)
 ·
  rw [if_neg c2] at H
  exact absurd H (by simp)
def laws_toProto.f (k : Nat) (a0_0 : Int) (a0_1 : Int) (l0_2 : List (S131)) (l0_3 : List (S133)) : Option (Int × Int × (List (S48)) × (List (S51))) := (laws_toCaptureS.f k l0_2).bind fun t299 => ((laws_toInsS.f k l0_3).bind fun t302 => (some (a0_0, a0_1, t299, t302)))
set_option maxHeartbeats 8000000 in
set_option maxRecDepth 100000 in
theorem laws_toProto.calls (k : Nat) (a0_0 : Int) (a0_1 : Int) (A0_2 : Option Addr) (c0_2 : Nat) (l0_2 : List (S131)) (A0_3 : Option Addr) (c0_3 : Nat) (l0_3 : List (S133)) (r1 : Int) (r2 : Int) (r3 : List (S48)) (r4 : List (S51)) (w : World) (hr0_2 : Kd.C k131 w A0_2 l0_2.length l0_2) (hc0_2 : l0_2.length ≤ c0_2) (hr0_3 : Kd.C k133 w A0_3 l0_3.length l0_3) (hc0_3 : l0_3.length ≤ c0_3) (h : laws_toProto.f k a0_0 a0_1 l0_2 l0_3 = some (r1, r2, r3, r4)) :
  Calls Tryd.prog 41 #[.agg #[.int .i64 a0_0, .int .i64 a0_1, .slice A0_2 l0_2.length c0_2, .slice A0_3 l0_3.length c0_3]] w fun e w' => ∃ v2_ v3_ : Value, e = .returned (.agg #[.int .i64 r1, .int .i64 r2, v2_, v3_]) ∧ Kd.R k48 48 w' w.heap.size (fun _ => True) v2_ r3 ∧ Kd.R k51 51 w' w.heap.size (fun _ => True) v3_ r4 ∧ Below w.heap.size w w' := by
 have hu82 := Tryd.underlying82
 have hu45 := Tryd.underlying45
 have HR0_2 := amZ hr0_2
 have HC0_2 := amZ hc0_2
 clear hr0_2 hc0_2
 have HR0_3 := amZ hr0_3
 have HC0_3 := amZ hc0_3
 clear hr0_3 hc0_3
 have HB := amZ (Below.refl w.heap.size w)
 have H : ((laws_toCaptureS.f k l0_2).bind fun t299 => ((laws_toInsS.f k l0_3).bind fun t302 => (some (a0_0, a0_1, t299, t302)))) = some (r1, r2, r3, r4) := h
 clear h
 replace H := Option.bind_eq_some_iff.mp H
 obtain ⟨t299, A20, H⟩ := H
 replace H : ((laws_toInsS.f k l0_3).bind fun t302 => (some (a0_0, a0_1, t299, t302))) = some (r1, r2, r3, r4) := H
 have A2 := amZ A20
 clear A20
 replace H := Option.bind_eq_some_iff.mp H
 obtain ⟨t302, A30, H⟩ := H
 replace H : (some (a0_0, a0_1, t299, t302)) = some (r1, r2, r3, r4) := H
 have A3 := amZ A30
 clear A30
 simp only [Option.some.injEq, Prod.mk.injEq] at H
 obtain ⟨rfl, rfl, rfl, rfl⟩ := H
 go_enter Tryd.func41, Tryd.ntmps41
 go_wp2_with (first | ((with_reducible refine zmY (N := 1) rfl ?_); refine znY ?hg (N := 1) ?hd (cs := #[.int .i64 a0_0, .int .i64 a0_1, .slice A0_2 l0_2.length c0_2, .slice A0_3 l0_3.length c0_3]) (t := 82) ?hr ?_; (case hd => rfl); (case hg => rfl); (case hr => first | (go_simp; done) | (go_simp; rfl)); intro gb296 hg w4 hbox hb; have n0_ := amZ (zcY bwZ hb); have n1_ := amZ (hbox); have n2_ := amZ ((by rw [hg]; exact (zgY bwZ) : w.heap.size ≤ gb296)); have n3_ := amZ ((by rw [hg]; exact (zgY bwZ) : w.heap.size ≤ gb296)); clear HB; have HB := n0_; have BK296 := n1_; have GW296 := n2_; have GE296 := n3_; clear n0_ n1_ n2_ n3_; clear hb hbox hg) | ((with_reducible refine zmY (N := 2) rfl ?_); refine znY ?hg (N := 2) ?hd (cs := #[.int .i64 0, .int .i64 0, .slice none 0 0, .slice none 0 0]) (t := 45) ?hr ?_; (case hd => rfl); (case hg => rfl); (case hr => first | (go_simp; done) | (go_simp; rfl)); intro gb297 hg w5 hbox hb; have n0_ := amZ (zkY (g := gb296) (o := .cells #[.int .i64 a0_0, .int .i64 a0_1, .slice A0_2 l0_2.length c0_2, .slice A0_3 l0_3.length c0_3] 82 (0, 0)) bkZ hb); have n1_ := amZ (zcY bwZ hb); have n2_ := amZ (hbox); have n3_ := amZ ((by rw [hg]; exact (zgY bwZ) : w.heap.size ≤ gb297)); have n4_ := amZ ((by rw [hg]; exact (zgY bwZ) : w.heap.size ≤ gb297)); have n5_ := amZ ((by rw [hg]; exact Nat.ne_of_lt (zlY (g := gb296) (o := .cells #[.int .i64 a0_0, .int .i64 a0_1, .slice A0_2 l0_2.length c0_2, .slice A0_3 l0_3.length c0_3] 82 (0, 0)) bkZ) : gb296 ≠ gb297)); have n6_ := amZ ((by rw [hg]; exact Nat.ne_of_gt (zlY (g := gb296) (o := .cells #[.int .i64 a0_0, .int .i64 a0_1, .slice A0_2 l0_2.length c0_2, .slice A0_3 l0_3.length c0_3] 82 (0, 0)) bkZ) : gb297 ≠ gb296)); clear BK296; clear HB; have BK296 := n0_; have HB := n1_; have BK297 := n2_; have GW297 := n3_; have GE297 := n4_; have NB296_297 := n5_; have NB297_296 := n6_; clear n0_ n1_ n2_ n3_ n4_ n5_ n6_; clear hb hbox hg) | ((with_reducible refine zmY (N := 3) rfl ?_); refine znY ?hg (N := 3) ?hd (cs := #[.int .i64 0, .int .i64 0, .slice none 0 0, .slice none 0 0]) (t := 45) ?hr ?_; (case hd => rfl); (case hg => rfl); (case hr => first | (go_simp; done) | (go_simp; rfl)); intro gb298 hg w6 hbox hb; have n0_ := amZ (zkY (g := gb296) (o := .cells #[.int .i64 a0_0, .int .i64 a0_1, .slice A0_2 l0_2.length c0_2, .slice A0_3 l0_3.length c0_3] 82 (0, 0)) bkZ hb); have n1_ := amZ (zkY (g := gb297) (o := .cells #[.int .i64 0, .int .i64 0, .slice none 0 0, .slice none 0 0] 45 (0, 0)) bkZ hb); have n2_ := amZ (zcY bwZ hb); have n3_ := amZ (hbox); have n4_ := amZ ((by rw [hg]; exact (zgY bwZ) : w.heap.size ≤ gb298)); have n5_ := amZ ((by rw [hg]; exact (zgY bwZ) : w.heap.size ≤ gb298)); have n6_ := amZ ((by rw [hg]; exact Nat.ne_of_lt (zlY (g := gb296) (o := .cells #[.int .i64 a0_0, .int .i64 a0_1, .slice A0_2 l0_2.length c0_2, .slice A0_3 l0_3.length c0_3] 82 (0, 0)) bkZ) : gb296 ≠ gb298)); have n7_ := amZ ((by rw [hg]; exact Nat.ne_of_gt (zlY (g := gb296) (o := .cells #[.int .i64 a0_0, .int .i64 a0_1, .slice A0_2 l0_2.length c0_2, .slice A0_3 l0_3.length c0_3] 82 (0, 0)) bkZ) : gb298 ≠ gb296)); have n8_ := amZ ((by rw [hg]; exact Nat.ne_of_lt (zlY (g := gb297) (o := .cells #[.int .i64 0, .int .i64 0, .slice none 0 0, .slice none 0 0] 45 (0, 0)) bkZ) : gb297 ≠ gb298)); have n9_ := amZ ((by rw [hg]; exact Nat.ne_of_gt (zlY (g := gb297) (o := .cells #[.int .i64 0, .int .i64 0, .slice none 0 0, .slice none 0 0] 45 (0, 0)) bkZ) : gb298 ≠ gb297)); clear BK296; clear BK297; clear HB; have BK296 := n0_; have BK297 := n1_; have HB := n2_; have BK298 := n3_; have GW298 := n4_; have GE298 := n5_; have NB296_298 := n6_; have NB298_296 := n7_; have NB297_298 := n8_; have NB298_297 := n9_; clear n0_ n1_ n2_ n3_ n4_ n5_ n6_ n7_ n8_ n9_; clear hb hbox hg; have hnb7 := NB296_297.out; have hnc7 := NB297_296.out; have hnb8 := NB296_298.out; have hnc8 := NB298_296.out; have hcz9_0 : w6.cell? ⟨gb296, 0, none⟩ = some (.int .i64 a0_0) := (zaY BK296.out 0).trans rfl; have hcz9_1 : w6.cell? ⟨gb296, 1, none⟩ = some (.int .i64 a0_1) := (zaY BK296.out 1).trans rfl; have hcz9_2 : w6.cell? ⟨gb296, 2, none⟩ = some (.slice A0_2 l0_2.length c0_2) := (zaY BK296.out 2).trans rfl; have hcz9_3 : w6.cell? ⟨gb296, 3, none⟩ = some (.slice A0_3 l0_3.length c0_3) := (zaY BK296.out 3).trans rfl; have hfz9_0 := zbY BK296.out 0; have hfz9_1 := zbY BK296.out 1; have hfz9_2 := zbY BK296.out 2; have hfz9_3 := zbY BK296.out 3; have hnb10 := NB298_297.out; have hnc10 := NB297_298.out; have hcz11_0 : w6.cell? ⟨gb298, 0, none⟩ = some (.int .i64 0) := (zaY BK298.out 0).trans rfl; have hcz11_1 : w6.cell? ⟨gb298, 1, none⟩ = some (.int .i64 0) := (zaY BK298.out 1).trans rfl; have hcz11_2 : w6.cell? ⟨gb298, 2, none⟩ = some (.slice none 0 0) := (zaY BK298.out 2).trans rfl; have hcz11_3 : w6.cell? ⟨gb298, 3, none⟩ = some (.slice none 0 0) := (zaY BK298.out 3).trans rfl; have hfz11_0 := zbY BK298.out 0; have hfz11_1 := zbY BK298.out 1; have hfz11_2 := zbY BK298.out 2; have hfz11_3 := zbY BK298.out 3) | ((with_reducible refine gate_callee (f := 60) rfl ?_); refine goesL_ (some 12) rfl rfl Tryd.func60 (by kernel_rfl) rfl #[.slice A0_2 l0_2.length c0_2] rfl (by (try simp only [List.map_toArray, List.map_cons, List.map_nil]); first | done | rfl | (simp only [List.length_drop, List.length_take]; rfl)) ?_; (with_reducible refine (laws_toCaptureS.calls k _ _ l0_2 t299 _ ?side1 ?side2 A2.out).mono ?_); (case side1 => exact Kd.C_below HR0_2.out bwZ); (case side2 => exact HC0_2.out); rintro e w12 ⟨v300, rfl, ho0, hb⟩; refine ⟨_, rfl, ?_⟩; have n0_ := amZ (Kd.R_lower ho0 (zgY bwZ)); have n1_ := amZ (zkY (g := gb296) (o := .cells #[.int .i64 a0_0, .int .i64 a0_1, .slice A0_2 l0_2.length c0_2, .slice A0_3 l0_3.length c0_3] 82 (0, 0)) (by (with_reducible repeat (first | refine zeY ?_ _ | refine zhY ?_ | refine zfY ?_ _)); refine blk_far ?_ NB296_298.out _; (with_reducible repeat (first | refine zeY ?_ _ | refine zhY ?_ | refine zfY ?_ _)); refine blk_far ?_ NB296_298.out _; (with_reducible repeat (first | refine zeY ?_ _ | refine zhY ?_ | refine zfY ?_ _)); exact BK296.out) hb); have n2_ := amZ (zkY (g := gb297) (o := .cells #[.int .i64 0, .int .i64 0, .slice none 0 0, .slice none 0 0] 45 (0, 0)) (by (with_reducible repeat (first | refine zeY ?_ _ | refine zhY ?_ | refine zfY ?_ _)); refine blk_far ?_ NB297_298.out _; (with_reducible repeat (first | refine zeY ?_ _ | refine zhY ?_ | refine zfY ?_ _)); refine blk_far ?_ NB297_298.out _; (with_reducible repeat (first | refine zeY ?_ _ | refine zhY ?_ | refine zfY ?_ _)); exact BK297.out) hb); have n3_ := amZ (zkY (g := gb298) (o := .cells #[.int .i64 a0_0, .int .i64 a0_1, .slice none 0 0, .slice none 0 0] 45 (0, 0)) (by (with_reducible repeat (first | refine zeY ?_ _ | refine zhY ?_ | refine zfY ?_ _)); refine blk_put (cs := #[.int .i64 a0_0, .int .i64 0, .slice none 0 0, .slice none 0 0]) ?_ 1 _ rfl; (with_reducible repeat (first | refine zeY ?_ _ | refine zhY ?_ | refine zfY ?_ _)); refine blk_put (cs := #[.int .i64 0, .int .i64 0, .slice none 0 0, .slice none 0 0]) ?_ 0 _ rfl; (with_reducible repeat (first | refine zeY ?_ _ | refine zhY ?_ | refine zfY ?_ _)); exact BK298.out) hb); have n4_ := amZ (zcY bwZ hb); clear BK296; clear BK297; clear BK298; clear HB; have HO301 := n0_; have BK296 := n1_; have BK297 := n2_; have BK298 := n3_; have HB := n4_; clear n0_ n1_ n2_ n3_ n4_; (try clear hb); (try clear hb2); (try clear hk); (try clear hi); (try clear ho0); obtain ⟨Ao13, co13, eo13⟩ := Kd.R_slice HO301.out; subst eo13; have hcz14_0 : w12.cell? ⟨gb298, 0, none⟩ = some (.int .i64 a0_0) := (zaY BK298.out 0).trans rfl; have hcz14_1 : w12.cell? ⟨gb298, 1, none⟩ = some (.int .i64 a0_1) := (zaY BK298.out 1).trans rfl; have hcz14_2 : w12.cell? ⟨gb298, 2, none⟩ = some (.slice none 0 0) := (zaY BK298.out 2).trans rfl; have hcz14_3 : w12.cell? ⟨gb298, 3, none⟩ = some (.slice none 0 0) := (zaY BK298.out 3).trans rfl; have hfz14_0 := zbY BK298.out 0; have hfz14_1 := zbY BK298.out 1; have hfz14_2 := zbY BK298.out 2; have hfz14_3 := zbY BK298.out 3; have hcz15_0 : w12.cell? ⟨gb296, 0, none⟩ = some (.int .i64 a0_0) := (zaY BK296.out 0).trans rfl; have hcz15_1 : w12.cell? ⟨gb296, 1, none⟩ = some (.int .i64 a0_1) := (zaY BK296.out 1).trans rfl; have hcz15_2 : w12.cell? ⟨gb296, 2, none⟩ = some (.slice A0_2 l0_2.length c0_2) := (zaY BK296.out 2).trans rfl; have hcz15_3 : w12.cell? ⟨gb296, 3, none⟩ = some (.slice A0_3 l0_3.length c0_3) := (zaY BK296.out 3).trans rfl; have hfz15_0 := zbY BK296.out 0; have hfz15_1 := zbY BK296.out 1; have hfz15_2 := zbY BK296.out 2; have hfz15_3 := zbY BK296.out 3) | ((with_reducible refine gate_callee (f := 61) rfl ?_); refine goesL_ (some 16) rfl rfl Tryd.func61 (by kernel_rfl) rfl #[.slice A0_3 l0_3.length c0_3] rfl (by (try simp only [List.map_toArray, List.map_cons, List.map_nil]); first | done | rfl | (simp only [List.length_drop, List.length_take]; rfl)) ?_; (with_reducible refine (laws_toInsS.calls k _ _ l0_3 t302 _ ?side1 ?side2 A3.out).mono ?_); (case side1 => exact Kd.C_below HR0_3.out bwZ); (case side2 => exact HC0_3.out); rintro e w16 ⟨v303, rfl, ho0, hb⟩; refine ⟨_, rfl, ?_⟩; have n0_ := amZ (Kd.R_below (by (with_reducible repeat (first | apply Kd.R_alloc | apply Kd.R_drewN | apply Kd.R_drew)); exact (Kd.R_mono (Kd.R_far (p := ⟨gb298, 2, none⟩) (Kd.R_types HO301.out BK298.out (by decide)) (fun _ hk => hk.2) (.slice Ao13 t299.length co13)) (fun _ h_ => h_.1))) hb); have n1_ := amZ (Kd.R_lower ho0 (zgY bwZ)); have n2_ := amZ (zkY (g := gb296) (o := .cells #[.int .i64 a0_0, .int .i64 a0_1, .slice A0_2 l0_2.length c0_2, .slice A0_3 l0_3.length c0_3] 82 (0, 0)) (by (with_reducible repeat (first | refine zeY ?_ _ | refine zhY ?_ | refine zfY ?_ _)); refine blk_far ?_ NB296_298.out _; (with_reducible repeat (first | refine zeY ?_ _ | refine zhY ?_ | refine zfY ?_ _)); exact BK296.out) hb); have n3_ := amZ (zkY (g := gb297) (o := .cells #[.int .i64 0, .int .i64 0, .slice none 0 0, .slice none 0 0] 45 (0, 0)) (by (with_reducible repeat (first | refine zeY ?_ _ | refine zhY ?_ | refine zfY ?_ _)); refine blk_far ?_ NB297_298.out _; (with_reducible repeat (first | refine zeY ?_ _ | refine zhY ?_ | refine zfY ?_ _)); exact BK297.out) hb); have n4_ := amZ (zkY (g := gb298) (o := .cells #[.int .i64 a0_0, .int .i64 a0_1, .slice Ao13 t299.length co13, .slice none 0 0] 45 (0, 0)) (by (with_reducible repeat (first | refine zeY ?_ _ | refine zhY ?_ | refine zfY ?_ _)); refine blk_put (cs := #[.int .i64 a0_0, .int .i64 a0_1, .slice none 0 0, .slice none 0 0]) ?_ 2 _ rfl; (with_reducible repeat (first | refine zeY ?_ _ | refine zhY ?_ | refine zfY ?_ _)); exact BK298.out) hb); have n5_ := amZ (zcY bwZ hb); clear HO301; clear BK296; clear BK297; clear BK298; clear HB; have HO301 := n0_; have HO304 := n1_; have BK296 := n2_; have BK297 := n3_; have BK298 := n4_; have HB := n5_; clear n0_ n1_ n2_ n3_ n4_ n5_; (try clear hb); (try clear hb2); (try clear hk); (try clear hi); (try clear ho0); obtain ⟨Ao17, co17, eo17⟩ := Kd.R_slice HO304.out; subst eo17; have hcz18_0 : w16.cell? ⟨gb298, 0, none⟩ = some (.int .i64 a0_0) := (zaY BK298.out 0).trans rfl; have hcz18_1 : w16.cell? ⟨gb298, 1, none⟩ = some (.int .i64 a0_1) := (zaY BK298.out 1).trans rfl; have hcz18_2 : w16.cell? ⟨gb298, 2, none⟩ = some (.slice Ao13 t299.length co13) := (zaY BK298.out 2).trans rfl; have hcz18_3 : w16.cell? ⟨gb298, 3, none⟩ = some (.slice none 0 0) := (zaY BK298.out 3).trans rfl; have hfz18_0 := zbY BK298.out 0; have hfz18_1 := zbY BK298.out 1; have hfz18_2 := zbY BK298.out 2; have hfz18_3 := zbY BK298.out 3; have hcz19_0 : w16.cell? ⟨gb297, 0, none⟩ = some (.int .i64 0) := (zaY BK297.out 0).trans rfl; have hcz19_1 : w16.cell? ⟨gb297, 1, none⟩ = some (.int .i64 0) := (zaY BK297.out 1).trans rfl; have hcz19_2 : w16.cell? ⟨gb297, 2, none⟩ = some (.slice none 0 0) := (zaY BK297.out 2).trans rfl; have hcz19_3 : w16.cell? ⟨gb297, 3, none⟩ = some (.slice none 0 0) := (zaY BK297.out 3).trans rfl; have hfz19_0 := zbY BK297.out 0; have hfz19_1 := zbY BK297.out 1; have hfz19_2 := zbY BK297.out 2; have hfz19_3 := zbY BK297.out 3))
 refine bodyPost_ret (results_cell_row rfl _ _ gb297 45 #[.int .i64 a0_0, .int .i64 a0_1, .slice Ao13 t299.length co13, .slice Ao17 t302.length co17] (0, 0) _ rfl (by (with_reducible repeat (first | refine zeY ?_ _ | refine zhY ?_ | refine zfY ?_ _)); refine blk_put (cs := #[.int .i64 a0_0, .int .i64 a0_1, .slice Ao13 t299.length co13, .slice none 0 0]) ?_ 3 _ rfl; (with_reducible repeat (first | refine zeY ?_ _ | refine zhY ?_ | refine zfY ?_ _)); refine blk_put (cs := #[.int .i64 a0_0, .int .i64 a0_1, .slice none 0 0, .slice none 0 0]) ?_ 2 _ rfl; (with_reducible repeat (first | refine zeY ?_ _ | refine zhY ?_ | refine zfY ?_ _)); refine blk_put (cs := #[.int .i64 a0_0, .int .i64 0, .slice none 0 0, .slice none 0 0]) ?_ 1 _ rfl; (with_reducible repeat (first | refine zeY ?_ _ | refine zhY ?_ | refine zfY ?_ _)); refine blk_put (cs := #[.int .i64 0, .int .i64 0, .slice none 0 0, .slice none 0 0]) ?_ 0 _ rfl; (with_reducible repeat (first | refine zeY ?_ _ | refine zhY ?_ | refine zfY ?_ _)); refine blk_far ?_ NB297_298.out _; (with_reducible repeat (first | refine zeY ?_ _ | refine zhY ?_ | refine zfY ?_ _)); exact BK297.out) Tryd.underlying45 rfl (by kernel_rfl)) rfl ?_
 exact ⟨_, _, by first | rfl | (simp [zjY, ziY] <;> rfl) | (simp [*, zjY, ziY] <;> rfl), by (with_reducible repeat (first | apply Kd.R_alloc | apply Kd.R_drewN | apply Kd.R_drew)); exact Kd.R_mono (Kd.R_far (p := ⟨gb297, 3, none⟩) (Kd.R_far (p := ⟨gb297, 2, none⟩) (Kd.R_far (p := ⟨gb297, 1, none⟩) (Kd.R_far (p := ⟨gb297, 0, none⟩) (Kd.R_far (p := ⟨gb298, 3, none⟩) (Kd.R_types (Kd.R_types HO301.out BK298.out (by decide)) BK297.out (by decide)) (fun _ hk => hk.1.2) (.slice Ao17 t302.length co17)) (fun _ hk => hk.2) (.int .i64 a0_0)) (fun _ hk => hk.2) (.int .i64 a0_1)) (fun _ hk => hk.2) (.slice Ao13 t299.length co13)) (fun _ hk => hk.2) (.slice Ao17 t302.length co17)) (fun _ hk => trivial), by (with_reducible repeat (first | apply Kd.R_alloc | apply Kd.R_drewN | apply Kd.R_drew)); exact Kd.R_mono (Kd.R_far (p := ⟨gb297, 3, none⟩) (Kd.R_far (p := ⟨gb297, 2, none⟩) (Kd.R_far (p := ⟨gb297, 1, none⟩) (Kd.R_far (p := ⟨gb297, 0, none⟩) (Kd.R_far (p := ⟨gb298, 3, none⟩) (Kd.R_types (Kd.R_types HO304.out BK298.out (by decide)) BK297.out (by decide)) (fun _ hk => hk.1.2) (.slice Ao17 t302.length co17)) (fun _ hk => hk.2) (.int .i64 a0_0)) (fun _ hk => hk.2) (.int .i64 a0_1)) (fun _ hk => hk.2) (.slice Ao13 t299.length co13)) (fun _ hk => hk.2) (.slice Ao17 t302.length co17)) (fun _ hk => trivial), bwZ⟩
def laws_toProtoS.l0 : Nat → List (S82) → List (S45) → Int → Option ((List (S45)))
 | 0, _, _, _ => none
 | k + 1, x0, x3, x4 => if x4 < (x0.length : Int) then (if 0 ≤ x4 then ((laws_toProto.f k ((rd_T82 x0 x4).f0) ((rd_T82 x0 x4).f1) ((rd_T82 x0 x4).f2) ((rd_T82 x0 x4).f3)).bind fun bt309 => (if x4 < (x3.length : Int) then (laws_toProtoS.l0 k x0 (x3.set (x4 : Int).toNat (⟨bt309.1, bt309.2.1, bt309.2.2.1, bt309.2.2.2⟩ : S45)) (wrap64 (x4 + 1))) else (none))) else (none)) else (some x3)
def laws_toProtoS.f (k : Nat) (l0 : List (S82)) : Option ((List (S45))) := if 0 ≤ (l0.length : Int) then (if ((l0.length : Int) : Int).toNat ≤ 4398046511104 then (laws_toProtoS.l0 k l0 (List.replicate ((l0.length : Int) : Int).toNat z45) 0) else (none)) else (none)
set_option maxHeartbeats 8000000 in
set_option maxRecDepth 100000 in
theorem laws_toProtoS.calls (k : Nat) (A0 : Option Addr) (c0 : Nat) (l0 : List (S82)) (r : List (S45)) (w : World) (hr0 : Kd.C k82 w A0 l0.length l0) (hc0 : l0.length ≤ c0) (h : laws_toProtoS.f k l0 = some r) :
  Calls Tryd.prog 19 #[.slice A0 l0.length c0] w fun e w' => ∃ v0_ : Value, e = .returned (v0_) ∧ Kd.S k45 45 w' w.heap.size (fun _ => True) v0_ r ∧ Below w.heap.size w w' := by
 have hu82 := Tryd.underlying82
 have hu45 := Tryd.underlying45
 have HR0 := amZ hr0
 have HC0 := amZ hc0
 clear hr0 hc0
 have HB := amZ (Below.refl w.heap.size w)
 have H : (if 0 ≤ (l0.length : Int) then (if ((l0.length : Int) : Int).toNat ≤ 4398046511104 then (laws_toProtoS.l0 k l0 (List.replicate ((l0.length : Int) : Int).toNat z45) 0) else (none)) else (none)) = some r := h
 clear h
 by_cases c2 : 0 ≤ (l0.length : Int)
 ·
  rw [if_pos c2] at H
  have c2b0 := eq_true c2
  have c2b1 : decide (0 ≤ (l0.length : Int)) = true := decide_eq_true c2
  clear c2
  by_cases c3 : ((l0.length : Int) : Int).toNat ≤ 4398046511104
  ·
   rw [if_pos c3] at H
   have c3b0 := eq_true c3
   have c3b1 : decide (((l0.length : Int) : Int).toNat ≤ 4398046511104) = true := decide_eq_true c3
   clear c3
   obtain ⟨y305, hy305⟩ : ∃ y_ : List (S45), y_ = (List.replicate ((l0.length : Int) : Int).toNat z45) := ⟨_, rfl⟩
   replace H : (laws_toProtoS.l0 k l0 y305 0) = some r := by first | (rw [hy305]; with_reducible exact H) | (have H2_ := (Option.bind_some _ _).symm.trans H; rw [hy305]; with_reducible exact H2_) | (have H2_ := (Option.bind_some _ _).symm.trans H; with_reducible exact H2_) | with_reducible exact H | (rw [hy305]; exact H) | exact H
   have Ny305 := amZ hy305
   clear hy305
   have H' := amZ H
   clear H
   go_enter Tryd.func19, Tryd.ntmps19
   go_wp2_with (first | ((with_reducible refine zmY (N := 7) rfl ?_); refine Kd.S_make k45 _ 45 rfl (N := 7) rfl 30 _ _ rfl (l0.length : Int) rfl rfl Tryd.underlying30 (.agg #[(.int .i64 0), (.int .i64 0), (.slice none 0 0), (.slice none 0 0)]) 64 info45 rfl (by decide) (by omega) z45 (ok := fun _ => True) (okp := fun _ => True) (k45_mkM _ _ _ z45 (Kd.R_nil _ _ _ _ _) (Kd.R_nil _ _ _ _ _)) (fun _ hk => hk) trivial odZ (Nat.le_trans (Nat.mul_le_mul_right _ (odZ : (l0.length : Int).toNat ≤ 4398046511104)) (by omega)) (Below.refl _ _) (Nat.le_refl _) ?_; intro v306 w4 ho5 hb hg_ hnew_; clear hg_ hnew_; (first | rw [← Ny305.out] at ho5 | (simp only [Int.reduceToNat] at ho5; rw [← Ny305.out] at ho5)); have n0_ := amZ (Kd.S_lower ho5 (zgY bwZ)); have n1_ := amZ (zcY bwZ hb); clear HB; have HO307 := n0_; have HB := n1_; clear n0_ n1_; clear hb ho5))
   go_loopg [4] k (fun kq v4 w' => ∃ (x3_1 : List (S45)) (x4_1 : Int), v4 = .int .i64 x4_1 ∧ Aside0 (laws_toProtoS.l0 kq l0 x3_1 x4_1 = some r) ∧ Aside0 (kq ≤ k) ∧ Aside0 (Kd.S k45 45 w' w.heap.size (fun _ => True) v306 x3_1) ∧ Aside0 (Below w.heap.size w w'))
   case atStart => exact ⟨(y305), (0), (by first | rfl | (simp; done) | (simp [*]; done)), H', ⟨Nat.le_refl _⟩, ⟨by (with_reducible repeat (first | apply Kd.S_alloc | apply Kd.S_drewN | apply Kd.S_drew)); exact HO307.out⟩, ⟨bwZ⟩⟩
   case round =>
    clear H'
    try clear c1
    try clear c2
    try clear c2b0
    try clear c2b1
    try clear p2
    try clear c3
    try clear c3b0
    try clear c3b1
    obtain ⟨x3_1, x4_1, rfl, HA, HK1, HO_3, HB⟩ := hrel
    cases gk with
    | zero => exact absurd HA.out (by simp [laws_toProtoS.l0])
    | succ k1 =>
     have H := HA.out
     clear HA
     simp only [laws_toProtoS.l0] at H
     by_cases c6 : x4_1 < (l0.length : Int)
     ·
      rw [if_pos c6] at H
      have c6b0 : decide (x4_1 < (l0.length : Int)) = true := decide_eq_true c6
      clear c6
      by_cases c7 : 0 ≤ x4_1
      ·
       rw [if_pos c7] at H
       have c7b0 : decide (0 ≤ x4_1) = true := decide_eq_true c7
       clear c7
       replace H := Option.bind_eq_some_iff.mp H
       obtain ⟨⟨t309, t310, t311, t314⟩, A80, H⟩ := H
       replace H : (if x4_1 < (x3_1.length : Int) then (laws_toProtoS.l0 k1 l0 (x3_1.set (x4_1 : Int).toNat (⟨t309, t310, t311, t314⟩ : S45)) (wrap64 (x4_1 + 1))) else (none)) = some r := H
       have A8 := amZ A80
       clear A80
       by_cases c9 : x4_1 < (x3_1.length : Int)
       ·
        rw [if_pos c9] at H
        have c9b0 : decide (x4_1 < (x3_1.length : Int)) = true := decide_eq_true c9
        clear c9
        obtain ⟨y317, hy317⟩ : ∃ y_ : List (S45), y_ = (x3_1.set (x4_1 : Int).toNat (⟨t309, t310, t311, t314⟩ : S45)) := ⟨_, rfl⟩
        replace H : (laws_toProtoS.l0 k1 l0 y317 (wrap64 (x4_1 + 1))) = some r := by first | (rw [hy317]; with_reducible exact H) | (have H2_ := (Option.bind_some _ _).symm.trans H; rw [hy317]; with_reducible exact H2_) | (have H2_ := (Option.bind_some _ _).symm.trans H; with_reducible exact H2_) | with_reducible exact H | (rw [hy317]; exact H) | exact H
        have Ny317 := amZ hy317
        clear hy317
        have H' := amZ H
        clear H
        have p308 : 0 ≤ (x4_1 : Int) := odZ
        have q308 : x4_1 < (l0.length : Int) := odZ
        obtain ⟨ad308, A308_2, c308_2, A308_3, c308_3, e308, hx308_0, hx308_1, hx308_2, hx308_3, hl308_2, hi308_2, hl308_3, hi308_3⟩ := at_T82 HR0.out x4_1 p308 q308
        cases e308
        replace hx308_0 := (HB.out.cell (World.block_lt_of_cell? w _ hx308_0)).trans hx308_0
        replace hx308_1 := (HB.out.cell (World.block_lt_of_cell? w _ hx308_1)).trans hx308_1
        replace hx308_2 := (HB.out.cell (World.block_lt_of_cell? w _ hx308_2)).trans hx308_2
        replace hx308_3 := (HB.out.cell (World.block_lt_of_cell? w _ hx308_3)).trans hx308_3
        have HR308_2 := amZ hi308_2
        have HC308_2 := amZ hl308_2
        clear hi308_2 hl308_2
        have HR308_3 := amZ hi308_3
        have HC308_3 := amZ hl308_3
        clear hi308_3 hl308_3
        replace p308 := eq_true p308
        replace q308 := eq_true q308
        go_wp2_with (first | ((with_reducible refine gate_callee (f := 41) rfl ?_); refine goesL_ (some 20) rfl rfl Tryd.func41 (by kernel_rfl) rfl #[.agg #[.int .i64 ((rd_T82 l0 x4_1).f0), .int .i64 ((rd_T82 l0 x4_1).f1), .slice A308_2 ((rd_T82 l0 x4_1).f2).length c308_2, .slice A308_3 ((rd_T82 l0 x4_1).f3).length c308_3]] rfl (by (try simp only [List.map_toArray, List.map_cons, List.map_nil]); first | done | rfl | (simp only [List.length_drop, List.length_take]; rfl)) ?_; (with_reducible refine (laws_toProto.calls k1 ((rd_T82 l0 x4_1).f0) ((rd_T82 l0 x4_1).f1) _ _ ((rd_T82 l0 x4_1).f2) _ _ ((rd_T82 l0 x4_1).f3) t309 t310 t311 t314 _ ?side1 ?side2 ?side3 ?side4 A8.out).mono ?_); (case side1 => repeat (first | exact (Kd.C_below HR308_2.out HB.out) | (with_reducible refine Kd.C_alloc ?_ _) | (with_reducible refine Kd.C_drewN ?_ _) | (with_reducible refine Kd.C_drew ?_))); (case side2 => exact HC308_2.out); (case side3 => repeat (first | exact (Kd.C_below HR308_3.out HB.out) | (with_reducible refine Kd.C_alloc ?_ _) | (with_reducible refine Kd.C_drewN ?_ _) | (with_reducible refine Kd.C_drew ?_))); (case side4 => exact HC308_3.out); rintro e w11 ⟨v312, v315, rfl, ho0, ho1, hb⟩; refine ⟨_, rfl, ?_⟩; have n0_ := amZ (Kd.S_mono (Kd.S_told (Kd.S_told (Kd.S_old (by (with_reducible repeat (first | apply Kd.S_alloc | apply Kd.S_drewN | apply Kd.S_drew)); exact HO_3.out) hb) (Kd.R_base ho0)) (Kd.R_base ho1)) (fun _ h_ => h_.1)); have n1_ := amZ (Kd.R_lower ho0 (zgY bwZ)); have n2_ := amZ (Kd.R_lower ho1 (zgY bwZ)); have n3_ := amZ (zcY bwZ hb); clear HO_3; clear HB; have HO_3 := n0_; have HO313 := n1_; have HO316 := n2_; have HB := n3_; clear n0_ n1_ n2_ n3_; (try clear hb); (try clear hb2); (try clear hk); (try clear hi); (try clear ho0); (try clear ho1); have p10 : 0 ≤ (x4_1 : Int) := odZ; have q10 : (x4_1 : Int) < ((x3_1.length : Int) : Int) := odZ; obtain ⟨go10, co10, eo10, gb10, gl10, cl10, HG10⟩ := Kd.S_form HO_3.out (by omega); (first | cases eo10 | (injection eo10 with ea_ en_ ec_; (first | subst ea_ | (injection ea_ with ea_; subst ea_)); subst ec_; clear en_)); have GB10 := amZ gb10; have GG10 := amZ HG10; clear gb10 gl10 HG10; obtain ⟨_, ce10, hcl10, hM10, hcc10, hfr10, _, _⟩ := Kd.S_elem HO_3.out z45 (x4_1 : Int) p10 q10; obtain ⟨ve10_2, ve10_3, rfl, ge10_2, ge10_3⟩ := k45_openM hM10; have hx10_0 : w11.cell? ⟨go10, (x4_1 : Int).toNat * 4, none⟩ = some (.int .i64 ((rd_T45 x3_1 x4_1).f0)) := hcc10 0 _ rfl; have hx10_1 : w11.cell? ⟨go10, (x4_1 : Int).toNat * 4 + 1, none⟩ = some (.int .i64 ((rd_T45 x3_1 x4_1).f1)) := hcc10 1 _ rfl; have hx10_2 : w11.cell? ⟨go10, (x4_1 : Int).toNat * 4 + 2, none⟩ = some (ve10_2) := hcc10 2 _ rfl; have hx10_3 : w11.cell? ⟨go10, (x4_1 : Int).toNat * 4 + 3, none⟩ = some (ve10_3) := hcc10 3 _ rfl; have hf10_0 : w11.frozen? ⟨go10, (x4_1 : Int).toNat * 4, none⟩ = false := hfr10 0; have hf10_1 : w11.frozen? ⟨go10, (x4_1 : Int).toNat * 4 + 1, none⟩ = false := hfr10 1; have hf10_2 : w11.frozen? ⟨go10, (x4_1 : Int).toNat * 4 + 2, none⟩ = false := hfr10 2; have hf10_3 : w11.frozen? ⟨go10, (x4_1 : Int).toNat * 4 + 3, none⟩ = false := hfr10 3; clear hcl10 hcc10 hfr10; (try clear hM10); replace p10 := eq_true p10; replace q10 := eq_true q10; have n_ := amZ (Kd.S_mono (ok' := (fun k_ => some k_ ≠ (v312 : Value).ownBlock ∧ some k_ ≠ (v315 : Value).ownBlock)) HO_3.out (fun k_ hk => ⟨hk.1.2, hk.2⟩)); clear HO_3; have HO_3 := n_; clear n_; have HX12 := amZ (show Kd.S k45 45 w11 w.heap.size (fun k_ => ((fun _ => True)) k_ ∧ ¬ ((fun k_ => some k_ = (v312 : Value).ownBlock ∨ some k_ = (v315 : Value).ownBlock)) k_) (.slice (some ⟨go10, 0, none⟩) x3_1.length co10) x3_1 from (by (with_reducible repeat (first | apply Kd.S_alloc | apply Kd.S_drewN | apply Kd.S_drew)); exact Kd.S_mono HO_3.out (fun k_ hk => ⟨trivial, fun e_ => e_.elim (fun h_ => hk.1 h_) (fun h_ => hk.2 h_)⟩))); obtain ⟨oki12, ce12, hcl12, hM12, hcc12, hfr12, hoki12, hH12⟩ := Kd.S_elem HX12.out z45 (x4_1 : Int) odZ (by have h_ : (x4_1 : Int) < ((x3_1.length : Int) : Int) := odZ; first | exact h_ | (have e_ := (Kd.S_reads' HO_3.out).1; omega) | simpa using h_); obtain ⟨ve12_2, ve12_3, rfl, ge12_2, ge12_3⟩ := k45_openM hM12; have HP12 := Kd.S_seg hH12 odZ (by have h_ : (x4_1 : Int) < ((x3_1.length : Int) : Int) := odZ; first | exact h_ | (have e_ := (Kd.S_reads' HO_3.out).1; omega) | simpa using h_) (seg := [.int .i64 t309, .int .i64 t310, v312, v315]) (j := 0) (show 4 ≤ 4 from by decide) (x' := (⟨t309, t310, t311, t314⟩ : S45)) (k45_mkM _ _ _ (⟨t309, t310, t311, t314⟩ : S45) (Kd.R_mono (Kd.R_tight rfl (Kd.R_mono (ok' := fun k_ => ((fun _ => True)) k_ ∧ k_ ≠ go10) (Kd.R_apart' (HO313.out) (Kd.S_typed HO_3.out) (by decide)) (fun k_ hk => ⟨trivial, fun e_ => (hk.2) (by rw [e_]; rfl)⟩))) (fun _ h_ => Or.inr (Or.inl h_))) (Kd.R_mono (Kd.R_tight rfl (Kd.R_mono (ok' := fun k_ => ((fun _ => True)) k_ ∧ k_ ≠ go10) (Kd.R_apart' (HO316.out) (Kd.S_typed HO_3.out) (by decide)) (fun k_ hk => ⟨trivial, fun e_ => (hk.2) (by rw [e_]; rfl)⟩))) (fun _ h_ => Or.inr (Or.inr (h_))))) (fun _ hk => hk) (fun k_ hk_ => hk_.elim (fun h_ => ((Kd.R_mono (ok' := fun k_ => ((fun _ => True)) k_ ∧ k_ ≠ go10) (Kd.R_apart' (HO313.out) (Kd.S_typed HO_3.out) (by decide)) (fun k_ hk => ⟨trivial, fun e_ => (hk.2) (by rw [e_]; rfl)⟩))).1 k_ h_.symm) (fun h_ => ((Kd.R_mono (ok' := fun k_ => ((fun _ => True)) k_ ∧ k_ ≠ go10) (Kd.R_apart' (HO316.out) (Kd.S_typed HO_3.out) (by decide)) (fun k_ hk => ⟨trivial, fun e_ => (hk.2) (by rw [e_]; rfl)⟩))).1 k_ h_.symm)); have hx12_0 := hcc12 0 _ rfl; (try simp only [show (k45).sz = 4 from rfl, Nat.mul_one, Nat.add_zero] at hx12_0); have hf12_0 := hfr12 0; (try simp only [show (k45).sz = 4 from rfl, Nat.mul_one, Nat.add_zero] at hf12_0); have hx12_1 := hcc12 1 _ rfl; (try simp only [show (k45).sz = 4 from rfl, Nat.mul_one, Nat.add_zero] at hx12_1); have hf12_1 := hfr12 1; (try simp only [show (k45).sz = 4 from rfl, Nat.mul_one, Nat.add_zero] at hf12_1); have hx12_2 := hcc12 2 _ rfl; (try simp only [show (k45).sz = 4 from rfl, Nat.mul_one, Nat.add_zero] at hx12_2); have hf12_2 := hfr12 2; (try simp only [show (k45).sz = 4 from rfl, Nat.mul_one, Nat.add_zero] at hf12_2); have hx12_3 := hcc12 3 _ rfl; (try simp only [show (k45).sz = 4 from rfl, Nat.mul_one, Nat.add_zero] at hx12_3); have hf12_3 := hfr12 3; (try simp only [show (k45).sz = 4 from rfl, Nat.mul_one, Nat.add_zero] at hf12_3); clear hcl12 hcc12 hfr12; (try clear hM12); clear hoki12 hH12) | ((with_reducible refine gate_store (t := 45) (p := 21) rfl ?_); refine store_event (t := 45) (p := 21) (v := ?vo_w13) (w1 := ((((w11.setCell ⟨go10, (x4_1 : Int).toNat * 4, none⟩ (.int .i64 t309)).setCell ⟨go10, (x4_1 : Int).toNat * 4 + 1, none⟩ (.int .i64 t310)).setCell ⟨go10, (x4_1 : Int).toNat * 4 + 2, none⟩ (v312)).setCell ⟨go10, (x4_1 : Int).toNat * 4 + 3, none⟩ (v315))) ?hg ?ho ?hn ?hr ?_; (case ho => rfl); (case hg => rfl); (case hn => rfl); (case hr => first | (go_simp; done) | (go_simp; rfl) | ((try (obtain ⟨A_, c_, e_⟩ := Kd.R_slice HO313.out; subst e_)); (try (obtain ⟨A_, c_, e_⟩ := Kd.R_slice HO316.out; subst e_)); (try (obtain ⟨A_, c_, e_⟩ := Kd.S_slice HO313.out; subst e_));  (try (obtain ⟨A_, c_, e_⟩ := Kd.S_slice HO316.out; subst e_)); (first | (go_simp; done) | (go_simp; rfl)))); intro w13 hw; have hg : w11.grownBy w13 (some go10) := (by rw [hw]; exact HP12.2); have hp_ : Kd.S k45 45 w13 w.heap.size (fun _ => True) (.slice (some ⟨go10, 0, none⟩) x3_1.length co10) y317 := (by rw [hw, Ny317.out]; exact HP12.1); clear HP12; have n0_ := amZ (hp_); have n1_ := amZ ((by rw [hw]; exact below_set (below_set (below_set (below_set (HB.out) GB10.out) GB10.out) GB10.out) GB10.out : Below w.heap.size w w13)); clear HO_3; clear HB; clear HO313; clear HO316; have HO_3 := n0_; have HB := n1_; clear n0_ n1_; clear hg hw hp_))
        go_roundg k1
        case measure => have := HK1.out; omega
        case rel => exact ⟨(y317), (wrap64 (x4_1 + 1)), (by first | rfl | (simp; done) | (simp [*]; done)), H', ⟨by have := HK1.out; omega⟩, ⟨by (with_reducible repeat (first | apply Kd.S_alloc | apply Kd.S_drewN | apply Kd.S_drew)); exact HO_3.out⟩, ⟨bwZ⟩⟩
       ·
        rw [if_neg c9] at H
        exact absurd H (by simp)
      ·
       rw [if_neg c7] at H
       exact absurd H (by simp)
     ·
      rw [if_neg c6] at H
      have c6b0 : decide (x4_1 < (l0.length : Int)) = false := decide_eq_false c6
      clear c6
      obtain rfl := Option.some.inj H
      go_wp2
      go_ret
      exact ⟨_, by first | rfl | (simp [zjY, ziY] <;> rfl) | (simp [*, zjY, ziY] <;> rfl), by (with_reducible repeat (first | apply Kd.S_alloc | apply Kd.S_drewN | apply Kd.S_drew)); exact HO_3.out, bwZ⟩
  ·
   rw [if_neg c3] at H
   exact absurd H (by simp)
 ·
  rw [if_neg c2] at H
  exact absurd H (by simp)
def laws_toProgram.f (k : Nat) (l0_0 : List (S77)) (l0_1 : List (S82)) : Option ((List (S69)) × (List (S45))) := (laws_toConstS.f k l0_0).bind fun t321 => ((laws_toProtoS.f k l0_1).bind fun t324 => (some (t321, t324)))
set_option maxHeartbeats 8000000 in
set_option maxRecDepth 100000 in
theorem laws_toProgram.calls (k : Nat) (A0_0 : Option Addr) (c0_0 : Nat) (l0_0 : List (S77)) (A0_1 : Option Addr) (c0_1 : Nat) (l0_1 : List (S82)) (r1 : List (S69)) (r2 : List (S45)) (w : World) (hr0_0 : Kd.C k77 w A0_0 l0_0.length l0_0) (hc0_0 : l0_0.length ≤ c0_0) (hr0_1 : Kd.C k82 w A0_1 l0_1.length l0_1) (hc0_1 : l0_1.length ≤ c0_1) (h : laws_toProgram.f k l0_0 l0_1 = some (r1, r2)) :
  Calls Tryd.prog 6 #[.agg #[.slice A0_0 l0_0.length c0_0, .slice A0_1 l0_1.length c0_1]] w fun e w' => ∃ v0_ v1_ : Value, e = .returned (.agg #[v0_, v1_]) ∧ Kd.S k69 69 w' w.heap.size (fun _ => True) v0_ r1 ∧ Kd.S k45 45 w' w.heap.size (fun _ => True) v1_ r2 ∧ Below w.heap.size w w' := by
 have hu25 := Tryd.underlying25
 have hu32 := Tryd.underlying32
 have HR0_0 := amZ hr0_0
 have HC0_0 := amZ hc0_0
 clear hr0_0 hc0_0
 have HR0_1 := amZ hr0_1
 have HC0_1 := amZ hc0_1
 clear hr0_1 hc0_1
 have HB := amZ (Below.refl w.heap.size w)
 have H : ((laws_toConstS.f k l0_0).bind fun t321 => ((laws_toProtoS.f k l0_1).bind fun t324 => (some (t321, t324)))) = some (r1, r2) := h
 clear h
 replace H := Option.bind_eq_some_iff.mp H
 obtain ⟨t321, A20, H⟩ := H
 replace H : ((laws_toProtoS.f k l0_1).bind fun t324 => (some (t321, t324))) = some (r1, r2) := H
 have A2 := amZ A20
 clear A20
 replace H := Option.bind_eq_some_iff.mp H
 obtain ⟨t324, A30, H⟩ := H
 replace H : (some (t321, t324)) = some (r1, r2) := H
 have A3 := amZ A30
 clear A30
 simp only [Option.some.injEq, Prod.mk.injEq] at H
 obtain ⟨rfl, rfl⟩ := H
 go_enter Tryd.func6, Tryd.ntmps6
 go_wp2_with (first | ((with_reducible refine zmY (N := 1) rfl ?_); refine znY ?hg (N := 1) ?hd (cs := #[.slice A0_0 l0_0.length c0_0, .slice A0_1 l0_1.length c0_1]) (t := 25) ?hr ?_; (case hd => rfl); (case hg => rfl); (case hr => first | (go_simp; done) | (go_simp; rfl)); intro gb318 hg w4 hbox hb; have n0_ := amZ (zcY bwZ hb); have n1_ := amZ (hbox); have n2_ := amZ ((by rw [hg]; exact (zgY bwZ) : w.heap.size ≤ gb318)); have n3_ := amZ ((by rw [hg]; exact (zgY bwZ) : w.heap.size ≤ gb318)); clear HB; have HB := n0_; have BK318 := n1_; have GW318 := n2_; have GE318 := n3_; clear n0_ n1_ n2_ n3_; clear hb hbox hg) | ((with_reducible refine zmY (N := 2) rfl ?_); refine znY ?hg (N := 2) ?hd (cs := #[.slice none 0 0, .slice none 0 0]) (t := 32) ?hr ?_; (case hd => rfl); (case hg => rfl); (case hr => first | (go_simp; done) | (go_simp; rfl)); intro gb319 hg w5 hbox hb; have n0_ := amZ (zkY (g := gb318) (o := .cells #[.slice A0_0 l0_0.length c0_0, .slice A0_1 l0_1.length c0_1] 25 (0, 0)) bkZ hb); have n1_ := amZ (zcY bwZ hb); have n2_ := amZ (hbox); have n3_ := amZ ((by rw [hg]; exact (zgY bwZ) : w.heap.size ≤ gb319)); have n4_ := amZ ((by rw [hg]; exact (zgY bwZ) : w.heap.size ≤ gb319)); have n5_ := amZ ((by rw [hg]; exact Nat.ne_of_lt (zlY (g := gb318) (o := .cells #[.slice A0_0 l0_0.length c0_0, .slice A0_1 l0_1.length c0_1] 25 (0, 0)) bkZ) : gb318 ≠ gb319)); have n6_ := amZ ((by rw [hg]; exact Nat.ne_of_gt (zlY (g := gb318) (o := .cells #[.slice A0_0 l0_0.length c0_0, .slice A0_1 l0_1.length c0_1] 25 (0, 0)) bkZ) : gb319 ≠ gb318)); clear BK318; clear HB; have BK318 := n0_; have HB := n1_; have BK319 := n2_; have GW319 := n3_; have GE319 := n4_; have NB318_319 := n5_; have NB319_318 := n6_; clear n0_ n1_ n2_ n3_ n4_ n5_ n6_; clear hb hbox hg) | ((with_reducible refine zmY (N := 3) rfl ?_); refine znY ?hg (N := 3) ?hd (cs := #[.slice none 0 0, .slice none 0 0]) (t := 32) ?hr ?_; (case hd => rfl); (case hg => rfl); (case hr => first | (go_simp; done) | (go_simp; rfl)); intro gb320 hg w6 hbox hb; have n0_ := amZ (zkY (g := gb318) (o := .cells #[.slice A0_0 l0_0.length c0_0, .slice A0_1 l0_1.length c0_1] 25 (0, 0)) bkZ hb); have n1_ := amZ (zkY (g := gb319) (o := .cells #[.slice none 0 0, .slice none 0 0] 32 (0, 0)) bkZ hb); have n2_ := amZ (zcY bwZ hb); have n3_ := amZ (hbox); have n4_ := amZ ((by rw [hg]; exact (zgY bwZ) : w.heap.size ≤ gb320)); have n5_ := amZ ((by rw [hg]; exact (zgY bwZ) : w.heap.size ≤ gb320)); have n6_ := amZ ((by rw [hg]; exact Nat.ne_of_lt (zlY (g := gb318) (o := .cells #[.slice A0_0 l0_0.length c0_0, .slice A0_1 l0_1.length c0_1] 25 (0, 0)) bkZ) : gb318 ≠ gb320)); have n7_ := amZ ((by rw [hg]; exact Nat.ne_of_gt (zlY (g := gb318) (o := .cells #[.slice A0_0 l0_0.length c0_0, .slice A0_1 l0_1.length c0_1] 25 (0, 0)) bkZ) : gb320 ≠ gb318)); have n8_ := amZ ((by rw [hg]; exact Nat.ne_of_lt (zlY (g := gb319) (o := .cells #[.slice none 0 0, .slice none 0 0] 32 (0, 0)) bkZ) : gb319 ≠ gb320)); have n9_ := amZ ((by rw [hg]; exact Nat.ne_of_gt (zlY (g := gb319) (o := .cells #[.slice none 0 0, .slice none 0 0] 32 (0, 0)) bkZ) : gb320 ≠ gb319)); clear BK318; clear BK319; clear HB; have BK318 := n0_; have BK319 := n1_; have HB := n2_; have BK320 := n3_; have GW320 := n4_; have GE320 := n5_; have NB318_320 := n6_; have NB320_318 := n7_; have NB319_320 := n8_; have NB320_319 := n9_; clear n0_ n1_ n2_ n3_ n4_ n5_ n6_ n7_ n8_ n9_; clear hb hbox hg; have hnb7 := NB318_319.out; have hnc7 := NB319_318.out; have hnb8 := NB318_320.out; have hnc8 := NB320_318.out; have hcz9_0 : w6.cell? ⟨gb318, 0, none⟩ = some (.slice A0_0 l0_0.length c0_0) := (zaY BK318.out 0).trans rfl; have hcz9_1 : w6.cell? ⟨gb318, 1, none⟩ = some (.slice A0_1 l0_1.length c0_1) := (zaY BK318.out 1).trans rfl; have hfz9_0 := zbY BK318.out 0; have hfz9_1 := zbY BK318.out 1) | ((with_reducible refine gate_callee (f := 18) rfl ?_); refine goesL_ (some 6) rfl rfl Tryd.func18 (by kernel_rfl) rfl #[.slice A0_0 l0_0.length c0_0] rfl (by (try simp only [List.map_toArray, List.map_cons, List.map_nil]); first | done | rfl | (simp only [List.length_drop, List.length_take]; rfl)) ?_; (with_reducible refine (laws_toConstS.calls k _ _ l0_0 t321 _ ?side1 ?side2 A2.out).mono ?_); (case side1 => repeat (first | exact (Kd.C_below HR0_0.out HB.out) | (with_reducible refine Kd.C_alloc ?_ _) | (with_reducible refine Kd.C_drewN ?_ _) | (with_reducible refine Kd.C_drew ?_))); (case side2 => exact HC0_0.out); rintro e w10 ⟨v322, rfl, ho0, hb⟩; refine ⟨_, rfl, ?_⟩; have n0_ := amZ (Kd.S_lower ho0 (zgY bwZ)); have n1_ := amZ (zkY (g := gb318) (o := .cells #[.slice A0_0 l0_0.length c0_0, .slice A0_1 l0_1.length c0_1] 25 (0, 0)) bkZ hb); have n2_ := amZ (zkY (g := gb319) (o := .cells #[.slice none 0 0, .slice none 0 0] 32 (0, 0)) bkZ hb); have n3_ := amZ (zkY (g := gb320) (o := .cells #[.slice none 0 0, .slice none 0 0] 32 (0, 0)) bkZ hb); have n4_ := amZ (zcY bwZ hb); clear BK318; clear BK319; clear BK320; clear HB; have HO323 := n0_; have BK318 := n1_; have BK319 := n2_; have BK320 := n3_; have HB := n4_; clear n0_ n1_ n2_ n3_ n4_; (try clear hb); (try clear hb2); (try clear hk); (try clear hi); (try clear ho0); obtain ⟨Ao11, co11, eo11⟩ := Kd.S_slice HO323.out; subst eo11; have hnb12 := NB320_319.out; have hnc12 := NB319_320.out; have hcz13_0 : w10.cell? ⟨gb320, 0, none⟩ = some (.slice none 0 0) := (zaY BK320.out 0).trans rfl; have hcz13_1 : w10.cell? ⟨gb320, 1, none⟩ = some (.slice none 0 0) := (zaY BK320.out 1).trans rfl; have hfz13_0 := zbY BK320.out 0; have hfz13_1 := zbY BK320.out 1; have hcz14_0 : w10.cell? ⟨gb318, 0, none⟩ = some (.slice A0_0 l0_0.length c0_0) := (zaY BK318.out 0).trans rfl; have hcz14_1 : w10.cell? ⟨gb318, 1, none⟩ = some (.slice A0_1 l0_1.length c0_1) := (zaY BK318.out 1).trans rfl; have hfz14_0 := zbY BK318.out 0; have hfz14_1 := zbY BK318.out 1) | ((with_reducible refine gate_callee (f := 19) rfl ?_); refine goesL_ (some 10) rfl rfl Tryd.func19 (by kernel_rfl) rfl #[.slice A0_1 l0_1.length c0_1] rfl (by (try simp only [List.map_toArray, List.map_cons, List.map_nil]); first | done | rfl | (simp only [List.length_drop, List.length_take]; rfl)) ?_; (with_reducible refine (laws_toProtoS.calls k _ _ l0_1 t324 _ ?side1 ?side2 A3.out).mono ?_); (case side1 => exact Kd.C_below HR0_1.out bwZ); (case side2 => exact HC0_1.out); rintro e w15 ⟨v325, rfl, ho0, hb⟩; refine ⟨_, rfl, ?_⟩; have n0_ := amZ (Kd.S_below (by (with_reducible repeat (first | apply Kd.S_alloc | apply Kd.S_drewN | apply Kd.S_drew)); exact (Kd.S_mono (Kd.S_far (p := ⟨gb320, 0, none⟩) (Kd.S_types HO323.out BK320.out (by decide)) (fun _ hk => hk.2) (.slice Ao11 t321.length co11)) (fun _ h_ => h_.1))) hb); have n1_ := amZ (Kd.S_lower ho0 (zgY bwZ)); have n2_ := amZ (zkY (g := gb318) (o := .cells #[.slice A0_0 l0_0.length c0_0, .slice A0_1 l0_1.length c0_1] 25 (0, 0)) (by (with_reducible repeat (first | refine zeY ?_ _ | refine zhY ?_ | refine zfY ?_ _)); refine blk_far ?_ NB318_320.out _; (with_reducible repeat (first | refine zeY ?_ _ | refine zhY ?_ | refine zfY ?_ _)); exact BK318.out) hb); have n3_ := amZ (zkY (g := gb319) (o := .cells #[.slice none 0 0, .slice none 0 0] 32 (0, 0)) (by (with_reducible repeat (first | refine zeY ?_ _ | refine zhY ?_ | refine zfY ?_ _)); refine blk_far ?_ NB319_320.out _; (with_reducible repeat (first | refine zeY ?_ _ | refine zhY ?_ | refine zfY ?_ _)); exact BK319.out) hb); have n4_ := amZ (zkY (g := gb320) (o := .cells #[.slice Ao11 t321.length co11, .slice none 0 0] 32 (0, 0)) (by (with_reducible repeat (first | refine zeY ?_ _ | refine zhY ?_ | refine zfY ?_ _)); refine blk_put (cs := #[.slice none 0 0, .slice none 0 0]) ?_ 0 _ rfl; (with_reducible repeat (first | refine zeY ?_ _ | refine zhY ?_ | refine zfY ?_ _)); exact BK320.out) hb); have n5_ := amZ (zcY bwZ hb); clear HO323; clear BK318; clear BK319; clear BK320; clear HB; have HO323 := n0_; have HO326 := n1_; have BK318 := n2_; have BK319 := n3_; have BK320 := n4_; have HB := n5_; clear n0_ n1_ n2_ n3_ n4_ n5_; (try clear hb); (try clear hb2); (try clear hk); (try clear hi); (try clear ho0); obtain ⟨Ao16, co16, eo16⟩ := Kd.S_slice HO326.out; subst eo16; have hcz17_0 : w15.cell? ⟨gb320, 0, none⟩ = some (.slice Ao11 t321.length co11) := (zaY BK320.out 0).trans rfl; have hcz17_1 : w15.cell? ⟨gb320, 1, none⟩ = some (.slice none 0 0) := (zaY BK320.out 1).trans rfl; have hfz17_0 := zbY BK320.out 0; have hfz17_1 := zbY BK320.out 1; have hcz18_0 : w15.cell? ⟨gb319, 0, none⟩ = some (.slice none 0 0) := (zaY BK319.out 0).trans rfl; have hcz18_1 : w15.cell? ⟨gb319, 1, none⟩ = some (.slice none 0 0) := (zaY BK319.out 1).trans rfl; have hfz18_0 := zbY BK319.out 0; have hfz18_1 := zbY BK319.out 1))
 refine bodyPost_ret (results_cell_row rfl _ _ gb319 32 #[.slice Ao11 t321.length co11, .slice Ao16 t324.length co16] (0, 0) _ rfl (by (with_reducible repeat (first | refine zeY ?_ _ | refine zhY ?_ | refine zfY ?_ _)); refine blk_put (cs := #[.slice Ao11 t321.length co11, .slice none 0 0]) ?_ 1 _ rfl; (with_reducible repeat (first | refine zeY ?_ _ | refine zhY ?_ | refine zfY ?_ _)); refine blk_put (cs := #[.slice none 0 0, .slice none 0 0]) ?_ 0 _ rfl; (with_reducible repeat (first | refine zeY ?_ _ | refine zhY ?_ | refine zfY ?_ _)); refine blk_far ?_ NB319_320.out _; (with_reducible repeat (first | refine zeY ?_ _ | refine zhY ?_ | refine zfY ?_ _)); exact BK319.out) Tryd.underlying32 rfl (by kernel_rfl)) rfl ?_
 exact ⟨_, _, by first | rfl | (simp [zjY, ziY] <;> rfl) | (simp [*, zjY, ziY] <;> rfl), by (with_reducible repeat (first | apply Kd.S_alloc | apply Kd.S_drewN | apply Kd.S_drew)); exact Kd.S_mono (Kd.S_far (p := ⟨gb319, 1, none⟩) (Kd.S_far (p := ⟨gb319, 0, none⟩) (Kd.S_far (p := ⟨gb320, 1, none⟩) (Kd.S_types (Kd.S_types HO323.out BK320.out (by decide)) BK319.out (by decide)) (fun _ hk => hk.1.2) (.slice Ao16 t324.length co16)) (fun _ hk => hk.2) (.slice Ao11 t321.length co11)) (fun _ hk => hk.2) (.slice Ao16 t324.length co16)) (fun _ hk => trivial), by (with_reducible repeat (first | apply Kd.S_alloc | apply Kd.S_drewN | apply Kd.S_drew)); exact Kd.S_mono (Kd.S_far (p := ⟨gb319, 1, none⟩) (Kd.S_far (p := ⟨gb319, 0, none⟩) (Kd.S_far (p := ⟨gb320, 1, none⟩) (Kd.S_types (Kd.S_types HO326.out BK320.out (by decide)) BK319.out (by decide)) (fun _ hk => hk.1.2) (.slice Ao16 t324.length co16)) (fun _ hk => hk.2) (.slice Ao11 t321.length co11)) (fun _ hk => hk.2) (.slice Ao16 t324.length co16)) (fun _ hk => trivial), bwZ⟩
end Go.Proofs.YtmmpiojekgfdjaaDoor.C
