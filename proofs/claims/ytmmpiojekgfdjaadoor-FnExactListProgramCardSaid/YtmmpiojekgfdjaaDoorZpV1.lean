/- Comparisons, sizes, marks. -/
import Derived.Test.YtmmpiojekgfdjaaDoorZpV0
import Derived.Test.YtmmpiojekgfdjaaDoorZpK
namespace Go.Proofs.YtmmpiojekgfdjaaDoor.C
open Go.RowKit YtmmpiojekgfdjaaDoorW.PrintWords YtmmpiojekgfdjaaDoorW.PrintLast
set_option linter.unusedVariables false
set_option linter.unusedSimpArgs false
theorem bcell {W w1 : World} (hb : Below W.heap.size W w1) : (∀ b o, b < W.heap.size → w1.cell? ⟨b, o, none⟩ = W.cell? ⟨b, o, none⟩) ∧ (∀ b o, b < W.heap.size → w1.frozen? ⟨b, o, none⟩ = W.frozen? ⟨b, o, none⟩) :=
 ⟨fun b o h => hb.cell (p := ⟨b, o, none⟩) h, fun b o h => hb.frozen (p := ⟨b, o, none⟩) h⟩
set_option maxHeartbeats 4000000 in
set_option maxRecDepth 100000 in
theorem eqByteS_same (A0 A1 : Option Addr) (c0 c1 : Nat) (l : List Int) (w : World) (h0 : Kd.C (Kd.int .u8) w A0 l.length l) (h1 : Kd.C (Kd.int .u8) w A1 l.length l) :
  Calls Tryd.prog 8 #[.slice A0 l.length c0, .slice A1 l.length c1] w fun e w' => e = .returned (.bool true) ∧ Below w.heap.size w w' := by
 have HM := amZ h0.2.1
 have H0 := amZ h0
 have H1 := amZ h1
 clear h0 h1
 go_enter Tryd.func8, Tryd.ntmps8
 go_wp2
 go_loopg [5] l.length (fun g v wr => ∃ j : Nat, v = .int .i64 (j : Int) ∧ Aside0 (j + g = l.length) ∧ Aside0 (Below w.heap.size w wr))
 case atStart => exact ⟨0, rfl, ⟨by omega⟩, ⟨Below.refl _ _⟩⟩
 case round =>
  obtain ⟨j, rfl, hj, HB⟩ := hrel
  by_cases hlt : j < l.length
  ·
   have p : 0 ≤ (j : Int) := by omega
   have q : (j : Int) < (l.length : Int) := by omega
   obtain ⟨ad, _, e, _, hK, hx⟩ := Kd.C_get H0.out (0 : Int) (j : Int) p q
   cases e
   cases hK
   obtain ⟨ad', _, e, _, hK, hy⟩ := Kd.C_get H1.out (0 : Int) (j : Int) p q
   cases e
   cases hK
   have hx0 := hx 0 _ rfl
   have hy0 := hy 0 _ rfl
   clear hx hy
   simp only [show (Kd.int .u8).sz = 1 from rfl, Int.toNat_natCast, Nat.mul_one, Nat.add_zero] at hx0 hy0
   have FX0 := cellB (zdY HB.out hx0)
   have FY0 := cellB (zdY HB.out hy0)
   have hdl : decide ((j : Int) < (l.length : Int)) = true := decide_eq_true q
   have hdn : decide (j < l.length) = true := decide_eq_true hlt
   replace p := eq_true p
   replace q := eq_true q
   have HL := amZ hlt
   clear hlt hx0 hy0
   go_wp2
   refine wp_region_below (by kernel_rfl) (by kernel_rfl) ?_
   repeat (go_big_quiet_step ((first | (intro hC; with_reducible rfl) | (intro hC; simp [go_sem, FX0 _ hC, FY0 _ hC]; with_reducible rfl))))
   refine wpQuiet_nil ?_
   intro W' hW'
   go_wp2_with fail
   go_roundg (l.length - (j + 1))
   case measure => have := hj.out; have := HL.out; omega
   case rel => exact ⟨j + 1, i64_next HL.out HM.out, ⟨by have := HL.out; omega⟩, ⟨zcY HB.out hW'⟩⟩
  ·
   have hdl : decide ((j : Int) < (l.length : Int)) = false := decide_eq_false (by omega)
   have hdn : decide (j < l.length) = false := decide_eq_false hlt
   clear hlt
   go_wp2
   go_ret
   exact ⟨rfl, HB.out⟩
set_option maxHeartbeats 4000000 in
set_option maxRecDepth 100000 in
theorem eqCapture_same (x : S48) (w : World) : Calls Tryd.prog 73 #[.agg #[.bool x.f0, .int .i64 x.f1], .agg #[.bool x.f0, .int .i64 x.f1]] w fun e w' => e = .returned (.bool true) ∧ Below w.heap.size w w' := by
 have HB := amZ ((((Below.refl w.heap.size w).alloc (Nat.le_refl _) (.cells #[.bool x.f0, .int .i64 x.f1] 48)).alloc (by simp) (.cells #[.bool x.f0, .int .i64 x.f1] 48)))
 go_enter Tryd.func73, Tryd.ntmps73
 go_wp2
 go_ret
 exact ⟨rfl, HB.out⟩
set_option maxHeartbeats 4000000 in
set_option maxRecDepth 100000 in
theorem eqCaptureS_same (A0 A1 : Option Addr) (c0 c1 : Nat) (l : List S48) (w : World) (h0 : Kd.C k48 w A0 l.length l) (h1 : Kd.C k48 w A1 l.length l) :
  Calls Tryd.prog 68 #[.slice A0 l.length c0, .slice A1 l.length c1] w fun e w' => e = .returned (.bool true) ∧ Below w.heap.size w w' := by
 have HM := amZ h0.2.1
 have H0 := amZ h0
 have H1 := amZ h1
 clear h0 h1
 go_enter Tryd.func68, Tryd.ntmps68
 go_wp2
 go_loopg [5] l.length (fun g v wr => ∃ j : Nat, v = .int .i64 (j : Int) ∧ Aside0 (j + g = l.length) ∧ Aside0 (Below w.heap.size w wr))
 case atStart => exact ⟨0, rfl, ⟨by omega⟩, ⟨Below.refl _ _⟩⟩
 case round =>
  obtain ⟨j, rfl, hj, HB⟩ := hrel
  by_cases hlt : j < l.length
  ·
   have p : 0 ≤ (j : Int) := by omega
   have q : (j : Int) < (l.length : Int) := by omega
   obtain ⟨adx, ex, hx0, hx1⟩ := at_T48 H0.out (j : Int) p q
   cases ex
   obtain ⟨ady, ey, hy0, hy1⟩ := at_T48 H1.out (j : Int) p q
   cases ey
   have hr : rd_T48 l (j : Int) = l[j] := getD_nat _ _ _ hlt
   rw [hr, Int.toNat_natCast] at hx0 hy0 hx1 hy1
   generalize l[j] = x at *
   clear hr
   have FX0 := cellB (zdY HB.out hx0)
   have FY0 := cellB (zdY HB.out hy0)
   have FX1 := cellB (zdY HB.out hx1)
   have FY1 := cellB (zdY HB.out hy1)
   have hdl : decide ((j : Int) < (l.length : Int)) = true := decide_eq_true q
   have hdn : decide (j < l.length) = true := decide_eq_true hlt
   replace p := eq_true p
   replace q := eq_true q
   have HL := amZ hlt
   clear hlt hx0 hy0 hx1 hy1
   go_wp2
   refine wp_region_below (by kernel_rfl) (by kernel_rfl) ?_
   repeat (go_big_quiet_step ((first | (intro hC; with_reducible rfl) | (intro hC; go_at_call 73; ((with_reducible refine (eqCapture_same x _ ).mono ?_); rintro e w' ⟨rfl, hb⟩; exact ⟨rfl, zcY hC hb⟩)) | (intro hC; simp [go_sem, FX0 _ hC, FY0 _ hC, FX1 _ hC, FY1 _ hC]; with_reducible rfl))))
   refine wpQuiet_nil ?_
   intro W' hW'
   go_wp2_with fail
   go_roundg (l.length - (j + 1))
   case measure => have := hj.out; have := HL.out; omega
   case rel => exact ⟨j + 1, i64_next HL.out HM.out, ⟨by have := HL.out; omega⟩, ⟨zcY HB.out hW'⟩⟩
  ·
   have hdl : decide ((j : Int) < (l.length : Int)) = false := decide_eq_false (by omega)
   have hdn : decide (j < l.length) = false := decide_eq_false hlt
   clear hlt
   go_wp2
   go_ret
   exact ⟨rfl, HB.out⟩
set_option maxHeartbeats 4000000 in
set_option maxRecDepth 100000 in
theorem eqIns_same (x : S51) (w : World) : Calls Tryd.prog 74 #[.agg #[.int .i64 x.f0, .int .i64 x.f1, .int .i64 x.f2], .agg #[.int .i64 x.f0, .int .i64 x.f1, .int .i64 x.f2]] w fun e w' => e = .returned (.bool true) ∧ Below w.heap.size w w' := by
 have HB := amZ ((((Below.refl w.heap.size w).alloc (Nat.le_refl _) (.cells #[.int .i64 x.f0, .int .i64 x.f1, .int .i64 x.f2] 51)).alloc (by simp) (.cells #[.int .i64 x.f0, .int .i64 x.f1, .int .i64 x.f2] 51)))
 go_enter Tryd.func74, Tryd.ntmps74
 go_wp2
 go_ret
 exact ⟨rfl, HB.out⟩
set_option maxHeartbeats 4000000 in
set_option maxRecDepth 100000 in
theorem eqInsS_same (A0 A1 : Option Addr) (c0 c1 : Nat) (l : List S51) (w : World) (h0 : Kd.C k51 w A0 l.length l) (h1 : Kd.C k51 w A1 l.length l) :
  Calls Tryd.prog 69 #[.slice A0 l.length c0, .slice A1 l.length c1] w fun e w' => e = .returned (.bool true) ∧ Below w.heap.size w w' := by
 have HM := amZ h0.2.1
 have H0 := amZ h0
 have H1 := amZ h1
 clear h0 h1
 go_enter Tryd.func69, Tryd.ntmps69
 go_wp2
 go_loopg [5] l.length (fun g v wr => ∃ j : Nat, v = .int .i64 (j : Int) ∧ Aside0 (j + g = l.length) ∧ Aside0 (Below w.heap.size w wr))
 case atStart => exact ⟨0, rfl, ⟨by omega⟩, ⟨Below.refl _ _⟩⟩
 case round =>
  obtain ⟨j, rfl, hj, HB⟩ := hrel
  by_cases hlt : j < l.length
  ·
   have p : 0 ≤ (j : Int) := by omega
   have q : (j : Int) < (l.length : Int) := by omega
   obtain ⟨adx, ex, hx0, hx1, hx2⟩ := at_T51 H0.out (j : Int) p q
   cases ex
   obtain ⟨ady, ey, hy0, hy1, hy2⟩ := at_T51 H1.out (j : Int) p q
   cases ey
   have hr : rd_T51 l (j : Int) = l[j] := getD_nat _ _ _ hlt
   rw [hr, Int.toNat_natCast] at hx0 hy0 hx1 hy1 hx2 hy2
   generalize l[j] = x at *
   clear hr
   have FX0 := cellB (zdY HB.out hx0)
   have FY0 := cellB (zdY HB.out hy0)
   have FX1 := cellB (zdY HB.out hx1)
   have FY1 := cellB (zdY HB.out hy1)
   have FX2 := cellB (zdY HB.out hx2)
   have FY2 := cellB (zdY HB.out hy2)
   have hdl : decide ((j : Int) < (l.length : Int)) = true := decide_eq_true q
   have hdn : decide (j < l.length) = true := decide_eq_true hlt
   replace p := eq_true p
   replace q := eq_true q
   have HL := amZ hlt
   clear hlt hx0 hy0 hx1 hy1 hx2 hy2
   go_wp2
   refine wp_region_below (by kernel_rfl) (by kernel_rfl) ?_
   repeat (go_big_quiet_step ((first | (intro hC; with_reducible rfl) | (intro hC; go_at_call 74; ((with_reducible refine (eqIns_same x _ ).mono ?_); rintro e w' ⟨rfl, hb⟩; exact ⟨rfl, zcY hC hb⟩)) | (intro hC; simp [go_sem, FX0 _ hC, FY0 _ hC, FX1 _ hC, FY1 _ hC, FX2 _ hC, FY2 _ hC]; with_reducible rfl))))
   refine wpQuiet_nil ?_
   intro W' hW'
   go_wp2_with fail
   go_roundg (l.length - (j + 1))
   case measure => have := hj.out; have := HL.out; omega
   case rel => exact ⟨j + 1, i64_next HL.out HM.out, ⟨by have := HL.out; omega⟩, ⟨zcY HB.out hW'⟩⟩
  ·
   have hdl : decide ((j : Int) < (l.length : Int)) = false := decide_eq_false (by omega)
   have hdn : decide (j < l.length) = false := decide_eq_false hlt
   clear hlt
   go_wp2
   go_ret
   exact ⟨rfl, HB.out⟩
set_option maxHeartbeats 4000000 in
set_option maxRecDepth 100000 in
theorem eqConst_same (x : S69) (X2 Y2 : Option Addr) (cX2 cY2 : Nat) (w : World) (hx2 : Kd.C (Kd.int .u8) w X2 x.f2.length x.f2) (hy2 : Kd.C (Kd.int .u8) w Y2 x.f2.length x.f2) : Calls Tryd.prog 48 #[.agg #[.bool x.f0, .int .i64 x.f1, .slice X2 x.f2.length cX2], .agg #[.bool x.f0, .int .i64 x.f1, .slice Y2 x.f2.length cY2]] w fun e w' => e = .returned (.bool true) ∧ Below w.heap.size w w' := by
 have HX2 := amZ hx2
 have HY2 := amZ hy2
 clear hx2 hy2
 have HB := amZ ((((Below.refl w.heap.size w).alloc (Nat.le_refl _) (.cells #[.bool x.f0, .int .i64 x.f1, .slice X2 x.f2.length cX2] 69)).alloc (by simp) (.cells #[.bool x.f0, .int .i64 x.f1, .slice Y2 x.f2.length cY2] 69)))
 go_enter Tryd.func48, Tryd.ntmps48
 go_wp2_with (first | (go_at_call 8; ((with_reducible refine (eqByteS_same _ _ _ _ x.f2 _ (Kd.C_below HX2.out HB.out) (Kd.C_below HY2.out HB.out)).mono ?_); rintro e w2 ⟨rfl, hb⟩; have HBn := amZ (zcY HB.out hb); clear HB; have HB := HBn; clear HBn; obtain ⟨hc2, hf2⟩ := bcell hb; have hz2 := hb.size; (try simp at hz2); clear hb)))
 go_ret
 exact ⟨rfl, HB.out⟩
set_option maxHeartbeats 4000000 in
set_option maxRecDepth 100000 in
theorem eqConstS_same (A0 A1 : Option Addr) (c0 c1 : Nat) (l : List S69) (w : World) (h0 : Kd.C k69 w A0 l.length l) (h1 : Kd.C k69 w A1 l.length l) :
  Calls Tryd.prog 28 #[.slice A0 l.length c0, .slice A1 l.length c1] w fun e w' => e = .returned (.bool true) ∧ Below w.heap.size w w' := by
 have HM := amZ h0.2.1
 have H0 := amZ h0
 have H1 := amZ h1
 clear h0 h1
 go_enter Tryd.func28, Tryd.ntmps28
 go_wp2
 go_loopg [5] l.length (fun g v wr => ∃ j : Nat, v = .int .i64 (j : Int) ∧ Aside0 (j + g = l.length) ∧ Aside0 (Below w.heap.size w wr))
 case atStart => exact ⟨0, rfl, ⟨by omega⟩, ⟨Below.refl _ _⟩⟩
 case round =>
  obtain ⟨j, rfl, hj, HB⟩ := hrel
  by_cases hlt : j < l.length
  ·
   have p : 0 ≤ (j : Int) := by omega
   have q : (j : Int) < (l.length : Int) := by omega
   obtain ⟨adx, Ax2, cx2, ex, hx0, hx1, hx2, lx2, gx2⟩ := at_T69 H0.out (j : Int) p q
   cases ex
   obtain ⟨ady, Ay2, cy2, ey, hy0, hy1, hy2, ly2, gy2⟩ := at_T69 H1.out (j : Int) p q
   cases ey
   have hr : rd_T69 l (j : Int) = l[j] := getD_nat _ _ _ hlt
   rw [hr, Int.toNat_natCast] at hx0 hy0 hx1 hy1 hx2 hy2
   rw [hr] at gx2 gy2
   generalize l[j] = x at *
   clear hr
   have FX0 := cellB (zdY HB.out hx0)
   have FY0 := cellB (zdY HB.out hy0)
   have FX1 := cellB (zdY HB.out hx1)
   have FY1 := cellB (zdY HB.out hy1)
   have FX2 := cellB (zdY HB.out hx2)
   have FY2 := cellB (zdY HB.out hy2)
   have GX2 := amZ (Kd.C_below gx2 HB.out)
   have GY2 := amZ (Kd.C_below gy2 HB.out)
   clear gx2 gy2 lx2 ly2
   have hdl : decide ((j : Int) < (l.length : Int)) = true := decide_eq_true q
   have hdn : decide (j < l.length) = true := decide_eq_true hlt
   replace p := eq_true p
   replace q := eq_true q
   have HL := amZ hlt
   clear hlt hx0 hy0 hx1 hy1 hx2 hy2
   go_wp2
   refine wp_region_below (by kernel_rfl) (by kernel_rfl) ?_
   repeat (go_big_quiet_step ((first | (intro hC; with_reducible rfl) | (intro hC; go_at_call 48; ((with_reducible refine (eqConst_same x _ _ _ _ _ (Kd.C_below GX2.out hC) (Kd.C_below GY2.out hC)).mono ?_); rintro e w' ⟨rfl, hb⟩; exact ⟨rfl, zcY hC hb⟩)) | (intro hC; simp [go_sem, FX0 _ hC, FY0 _ hC, FX1 _ hC, FY1 _ hC, FX2 _ hC, FY2 _ hC]; with_reducible rfl))))
   refine wpQuiet_nil ?_
   intro W' hW'
   go_wp2_with fail
   go_roundg (l.length - (j + 1))
   case measure => have := hj.out; have := HL.out; omega
   case rel => exact ⟨j + 1, i64_next HL.out HM.out, ⟨by have := HL.out; omega⟩, ⟨zcY HB.out hW'⟩⟩
  ·
   have hdl : decide ((j : Int) < (l.length : Int)) = false := decide_eq_false (by omega)
   have hdn : decide (j < l.length) = false := decide_eq_false hlt
   clear hlt
   go_wp2
   go_ret
   exact ⟨rfl, HB.out⟩
set_option maxHeartbeats 4000000 in
set_option maxRecDepth 100000 in
theorem eqProto_same (x : S45) (X2 Y2 : Option Addr) (cX2 cY2 : Nat) (X3 Y3 : Option Addr) (cX3 cY3 : Nat) (w : World) (hx2 : Kd.C k48 w X2 x.f2.length x.f2) (hy2 : Kd.C k48 w Y2 x.f2.length x.f2) (hx3 : Kd.C k51 w X3 x.f3.length x.f3) (hy3 : Kd.C k51 w Y3 x.f3.length x.f3) : Calls Tryd.prog 49 #[.agg #[.int .i64 x.f0, .int .i64 x.f1, .slice X2 x.f2.length cX2, .slice X3 x.f3.length cX3], .agg #[.int .i64 x.f0, .int .i64 x.f1, .slice Y2 x.f2.length cY2, .slice Y3 x.f3.length cY3]] w fun e w' => e = .returned (.bool true) ∧ Below w.heap.size w w' := by
 have HX2 := amZ hx2
 have HY2 := amZ hy2
 have HX3 := amZ hx3
 have HY3 := amZ hy3
 clear hx2 hy2 hx3 hy3
 have HB := amZ ((((Below.refl w.heap.size w).alloc (Nat.le_refl _) (.cells #[.int .i64 x.f0, .int .i64 x.f1, .slice X2 x.f2.length cX2, .slice X3 x.f3.length cX3] 45)).alloc (by simp) (.cells #[.int .i64 x.f0, .int .i64 x.f1, .slice Y2 x.f2.length cY2, .slice Y3 x.f3.length cY3] 45)))
 go_enter Tryd.func49, Tryd.ntmps49
 go_wp2_with (first | (go_at_call 68; ((with_reducible refine (eqCaptureS_same _ _ _ _ x.f2 _ (Kd.C_below HX2.out HB.out) (Kd.C_below HY2.out HB.out)).mono ?_); rintro e w2 ⟨rfl, hb⟩; have HBn := amZ (zcY HB.out hb); clear HB; have HB := HBn; clear HBn; obtain ⟨hc2, hf2⟩ := bcell hb; have hz2 := hb.size; (try simp at hz2); clear hb)) | (go_at_call 69; ((with_reducible refine (eqInsS_same _ _ _ _ x.f3 _ (Kd.C_below HX3.out HB.out) (Kd.C_below HY3.out HB.out)).mono ?_); rintro e w3 ⟨rfl, hb⟩; have HBn := amZ (zcY HB.out hb); clear HB; have HB := HBn; clear HBn; obtain ⟨hc3, hf3⟩ := bcell hb; have hz3 := hb.size; (try simp at hz3); clear hb)))
 go_ret
 exact ⟨rfl, HB.out⟩
set_option maxHeartbeats 4000000 in
set_option maxRecDepth 100000 in
theorem eqProtoS_same (A0 A1 : Option Addr) (c0 c1 : Nat) (l : List S45) (w : World) (h0 : Kd.C k45 w A0 l.length l) (h1 : Kd.C k45 w A1 l.length l) :
  Calls Tryd.prog 29 #[.slice A0 l.length c0, .slice A1 l.length c1] w fun e w' => e = .returned (.bool true) ∧ Below w.heap.size w w' := by
 have HM := amZ h0.2.1
 have H0 := amZ h0
 have H1 := amZ h1
 clear h0 h1
 go_enter Tryd.func29, Tryd.ntmps29
 go_wp2
 go_loopg [5] l.length (fun g v wr => ∃ j : Nat, v = .int .i64 (j : Int) ∧ Aside0 (j + g = l.length) ∧ Aside0 (Below w.heap.size w wr))
 case atStart => exact ⟨0, rfl, ⟨by omega⟩, ⟨Below.refl _ _⟩⟩
 case round =>
  obtain ⟨j, rfl, hj, HB⟩ := hrel
  by_cases hlt : j < l.length
  ·
   have p : 0 ≤ (j : Int) := by omega
   have q : (j : Int) < (l.length : Int) := by omega
   obtain ⟨adx, Ax2, cx2, Ax3, cx3, ex, hx0, hx1, hx2, hx3, lx2, gx2, lx3, gx3⟩ := at_T45 H0.out (j : Int) p q
   cases ex
   obtain ⟨ady, Ay2, cy2, Ay3, cy3, ey, hy0, hy1, hy2, hy3, ly2, gy2, ly3, gy3⟩ := at_T45 H1.out (j : Int) p q
   cases ey
   have hr : rd_T45 l (j : Int) = l[j] := getD_nat _ _ _ hlt
   rw [hr, Int.toNat_natCast] at hx0 hy0 hx1 hy1 hx2 hy2 hx3 hy3
   rw [hr] at gx2 gy2 gx3 gy3
   generalize l[j] = x at *
   clear hr
   have FX0 := cellB (zdY HB.out hx0)
   have FY0 := cellB (zdY HB.out hy0)
   have FX1 := cellB (zdY HB.out hx1)
   have FY1 := cellB (zdY HB.out hy1)
   have FX2 := cellB (zdY HB.out hx2)
   have FY2 := cellB (zdY HB.out hy2)
   have FX3 := cellB (zdY HB.out hx3)
   have FY3 := cellB (zdY HB.out hy3)
   have GX2 := amZ (Kd.C_below gx2 HB.out)
   have GY2 := amZ (Kd.C_below gy2 HB.out)
   clear gx2 gy2 lx2 ly2
   have GX3 := amZ (Kd.C_below gx3 HB.out)
   have GY3 := amZ (Kd.C_below gy3 HB.out)
   clear gx3 gy3 lx3 ly3
   have hdl : decide ((j : Int) < (l.length : Int)) = true := decide_eq_true q
   have hdn : decide (j < l.length) = true := decide_eq_true hlt
   replace p := eq_true p
   replace q := eq_true q
   have HL := amZ hlt
   clear hlt hx0 hy0 hx1 hy1 hx2 hy2 hx3 hy3
   go_wp2
   refine wp_region_below (by kernel_rfl) (by kernel_rfl) ?_
   repeat (go_big_quiet_step ((first | (intro hC; with_reducible rfl) | (intro hC; go_at_call 49; ((with_reducible refine (eqProto_same x _ _ _ _ _ _ _ _ _ (Kd.C_below GX2.out hC) (Kd.C_below GY2.out hC) (Kd.C_below GX3.out hC) (Kd.C_below GY3.out hC)).mono ?_); rintro e w' ⟨rfl, hb⟩; exact ⟨rfl, zcY hC hb⟩)) | (intro hC; simp [go_sem, FX0 _ hC, FY0 _ hC, FX1 _ hC, FY1 _ hC, FX2 _ hC, FY2 _ hC, FX3 _ hC, FY3 _ hC]; with_reducible rfl))))
   refine wpQuiet_nil ?_
   intro W' hW'
   go_wp2_with fail
   go_roundg (l.length - (j + 1))
   case measure => have := hj.out; have := HL.out; omega
   case rel => exact ⟨j + 1, i64_next HL.out HM.out, ⟨by have := HL.out; omega⟩, ⟨zcY HB.out hW'⟩⟩
  ·
   have hdl : decide ((j : Int) < (l.length : Int)) = false := decide_eq_false (by omega)
   have hdn : decide (j < l.length) = false := decide_eq_false hlt
   clear hlt
   go_wp2
   go_ret
   exact ⟨rfl, HB.out⟩
set_option maxHeartbeats 4000000 in
set_option maxRecDepth 100000 in
theorem eqProgram_same (cs : List S69) (ps : List S45) (X0 Y0 X1 Y1 : Option Addr) (cX0 cY0 cX1 cY1 : Nat) (w : World) (hx0 : Kd.C k69 w X0 cs.length cs) (hy0 : Kd.C k69 w Y0 cs.length cs) (hx1 : Kd.C k45 w X1 ps.length ps) (hy1 : Kd.C k45 w Y1 ps.length ps) :
  Calls Tryd.prog 9 #[.agg #[.slice X0 cs.length cX0, .slice X1 ps.length cX1], .agg #[.slice Y0 cs.length cY0, .slice Y1 ps.length cY1]] w fun e w' => e = .returned (.bool true) ∧ Below w.heap.size w w' := by
 have HX0 := amZ hx0
 have HY0 := amZ hy0
 have HX1 := amZ hx1
 have HY1 := amZ hy1
 clear hx0 hy0 hx1 hy1
 have HB := amZ ((((Below.refl w.heap.size w).alloc (Nat.le_refl _) (.cells #[.slice X0 cs.length cX0, .slice X1 ps.length cX1] 32)).alloc (by simp) (.cells #[.slice Y0 cs.length cY0, .slice Y1 ps.length cY1] 32)))
 go_enter Tryd.func9, Tryd.ntmps9
 go_wp2_with (first | (go_at_call 28; ((with_reducible refine (eqConstS_same _ _ _ _ cs _ (Kd.C_below HX0.out HB.out) (Kd.C_below HY0.out HB.out)).mono ?_); rintro e w2 ⟨rfl, hb⟩; have HBn := amZ (zcY HB.out hb); clear HB; have HB := HBn; clear HBn; obtain ⟨hc2, hf2⟩ := bcell hb; have hz2 := hb.size; (try simp at hz2); clear hb)) | (go_at_call 29; ((with_reducible refine (eqProtoS_same _ _ _ _ ps _ (Kd.C_below HX1.out HB.out) (Kd.C_below HY1.out HB.out)).mono ?_); rintro e w3 ⟨rfl, hb⟩; have HBn := amZ (zcY HB.out hb); clear HB; have HB := HBn; clear HBn; clear hb)))
 go_ret
 exact ⟨rfl, HB.out⟩
def szr (n : Nat) (a : Int) : Int := if (n : Int) ≤ a then a - n else -1
theorem szr_pos {n : Nat} {a : Int} (h : (n : Int) ≤ a) : szr n a = a - n := if_pos h
theorem szr_neg {n : Nat} {a : Int} (h : a < (n : Int)) : szr n a = -1 := if_neg (by omega)
theorem szr_add (m n : Nat) {a : Int} (h : (m : Int) ≤ a) : szr n (a - m) = szr (m + n) a := by
 unfold szr; split <;> split <;> omega
theorem szr_big {m n : Nat} {a : Int} (h : a < (m : Int)) : szr (m + n) a = -1 := by
 unfold szr; rw [if_neg (by omega)]
theorem sz_wrap {n : Nat} {a : Int} (hn : n ≤ 9223372036854775807) (h0 : 0 ≤ a) (h1 : a ≤ 1048576) : wrap64 (a - (n : Int)) = a - n := by
 unfold wrap64; omega
theorem szByteS_calls (A : Option Addr) (n c : Nat) (a : Int) (w : World) (hn : n ≤ 9223372036854775807) (h0 : 0 ≤ a) (h1 : a ≤ 1048576) : Calls Tryd.prog 52 #[.slice A n c, .int .i64 a] w fun e w' => e = .returned (.int .i64 (szr n a)) ∧ w = w' := by
 have hw := sz_wrap hn h0 h1
 by_cases h : (n : Int) ≤ a
 ·
  rw [szr_pos h]
  have d1 : decide (a - (n : Int) < 0) = false := decide_eq_false (by omega)
  have d2 : decide (a < (n : Int)) = false := decide_eq_false (by omega)
  clear h hn h0 h1
  go_enter Tryd.func52, Tryd.ntmps52
  go_wp2
  go_ret
  exact ⟨ret_i64 hw, rfl⟩
 ·
  replace h := Int.not_le.1 h
  rw [szr_neg h]
  have d1 : decide (a - (n : Int) < 0) = true := decide_eq_true (by omega)
  have d2 : decide (a < (n : Int)) = true := decide_eq_true (by omega)
  clear h hn h0 h1
  go_enter Tryd.func52, Tryd.ntmps52
  go_wp2
  go_ret
  exact ⟨rfl, rfl⟩
theorem szCaptureS_calls (A : Option Addr) (n c : Nat) (a : Int) (w : World) (hn : n ≤ 9223372036854775807) (h0 : 0 ≤ a) (h1 : a ≤ 1048576) : Calls Tryd.prog 53 #[.slice A n c, .int .i64 a] w fun e w' => e = .returned (.int .i64 (szr n a)) ∧ w = w' := by
 have hw := sz_wrap hn h0 h1
 by_cases h : (n : Int) ≤ a
 ·
  rw [szr_pos h]
  have d1 : decide (a - (n : Int) < 0) = false := decide_eq_false (by omega)
  have d2 : decide (a < (n : Int)) = false := decide_eq_false (by omega)
  clear h hn h0 h1
  go_enter Tryd.func53, Tryd.ntmps53
  go_wp2
  go_ret
  exact ⟨ret_i64 hw, rfl⟩
 ·
  replace h := Int.not_le.1 h
  rw [szr_neg h]
  have d1 : decide (a - (n : Int) < 0) = true := decide_eq_true (by omega)
  have d2 : decide (a < (n : Int)) = true := decide_eq_true (by omega)
  clear h hn h0 h1
  go_enter Tryd.func53, Tryd.ntmps53
  go_wp2
  go_ret
  exact ⟨rfl, rfl⟩
theorem szInsS_calls (A : Option Addr) (n c : Nat) (a : Int) (w : World) (hn : n ≤ 9223372036854775807) (h0 : 0 ≤ a) (h1 : a ≤ 1048576) : Calls Tryd.prog 54 #[.slice A n c, .int .i64 a] w fun e w' => e = .returned (.int .i64 (szr n a)) ∧ w = w' := by
 have hw := sz_wrap hn h0 h1
 by_cases h : (n : Int) ≤ a
 ·
  rw [szr_pos h]
  have d1 : decide (a - (n : Int) < 0) = false := decide_eq_false (by omega)
  have d2 : decide (a < (n : Int)) = false := decide_eq_false (by omega)
  clear h hn h0 h1
  go_enter Tryd.func54, Tryd.ntmps54
  go_wp2
  go_ret
  exact ⟨ret_i64 hw, rfl⟩
 ·
  replace h := Int.not_le.1 h
  rw [szr_neg h]
  have d1 : decide (a - (n : Int) < 0) = true := decide_eq_true (by omega)
  have d2 : decide (a < (n : Int)) = true := decide_eq_true (by omega)
  clear h hn h0 h1
  go_enter Tryd.func54, Tryd.ntmps54
  go_wp2
  go_ret
  exact ⟨rfl, rfl⟩
set_option maxHeartbeats 4000000 in
theorem szConst_calls (x : S77) (A2 : Option Addr) (c2 : Nat) (a : Int) (w : World) (hn2 : x.f2.length ≤ 9223372036854775807) (h0 : 0 ≤ a) (h1 : a ≤ 1048576) : Calls Tryd.prog 32 #[.agg #[.bool x.f0, .int .i64 x.f1, .slice A2 x.f2.length c2], .int .i64 a] w fun e w' => e = .returned (.int .i64 (szr (x.f2.length) a)) ∧ Below w.heap.size w w' := by
 have HN2 := amZ hn2
 have H0 := amZ h0
 have H1 := amZ h1
 clear h0 h1 hn2
 by_cases c : (x.f2.length : Int) ≤ a
 ·
  have HC := amZ c
  have da : decide (a - (x.f2.length : Int) < 0) = false := decide_eq_false (by omega)
  have db : decide (a < (x.f2.length : Int)) = false := decide_eq_false (by omega)
  have dc : (a - (x.f2.length : Int) < 0) = False := eq_false (by omega)
  have dd : (a < (x.f2.length : Int)) = False := eq_false (by omega)
  clear c
  go_enter Tryd.func32, Tryd.ntmps32
  go_wp2_with (first | (go_at_call 52; ((with_reducible refine (szByteS_calls A2 _ c2 a _ HN2.out H0.out H1.out).mono ?_); rw [szr_pos HC.out]; rintro e w' ⟨rfl, rfl⟩)))
  go_ret
  exact ⟨ret_i64 (szr_pos HC.out).symm, (Below.refl _ _).alloc (Nat.le_refl _) _⟩
 ·
  have HC := amZ (Int.not_le.1 c)
  clear c
  go_enter Tryd.func32, Tryd.ntmps32
  go_wp2_with (first | (go_at_call 52; ((with_reducible refine (szByteS_calls A2 _ c2 a _ HN2.out H0.out H1.out).mono ?_); rw [szr_neg HC.out]; rintro e w' ⟨rfl, rfl⟩)))
  go_ret
  exact ⟨ret_i64 (szr_neg HC.out).symm, (Below.refl _ _).alloc (Nat.le_refl _) _⟩
set_option maxHeartbeats 4000000 in
theorem szProto_calls (x : S82) (A2 : Option Addr) (c2 : Nat) (A3 : Option Addr) (c3 : Nat) (a : Int) (w : World) (hn2 : x.f2.length ≤ 9223372036854775807) (hn3 : x.f3.length ≤ 9223372036854775807) (h0 : 0 ≤ a) (h1 : a ≤ 1048576) : Calls Tryd.prog 33 #[.agg #[.int .i64 x.f0, .int .i64 x.f1, .slice A2 x.f2.length c2, .slice A3 x.f3.length c3], .int .i64 a] w fun e w' => e = .returned (.int .i64 (szr (x.f2.length + x.f3.length) a)) ∧ Below w.heap.size w w' := by
 have HN2 := amZ hn2
 have HN3 := amZ hn3
 have H0 := amZ h0
 have H1 := amZ h1
 clear h0 h1 hn2 hn3
 by_cases c : (x.f2.length : Int) ≤ a
 ·
  have HC := amZ c
  have H2 : Aside0 (0 ≤ a - (x.f2.length : Int)) := ⟨by omega⟩
  have H3 : Aside0 (a - (x.f2.length : Int) ≤ 1048576) := ⟨by have := H1.out; omega⟩
  have da : decide (a - (x.f2.length : Int) < 0) = false := decide_eq_false (by omega)
  have db : decide (a < (x.f2.length : Int)) = false := decide_eq_false (by omega)
  have dc : (a - (x.f2.length : Int) < 0) = False := eq_false (by omega)
  have dd : (a < (x.f2.length : Int)) = False := eq_false (by omega)
  by_cases c2 : (x.f3.length : Int) ≤ a - x.f2.length
  ·
   have HD := amZ c2
   have ea : decide (a - (x.f2.length : Int) - (x.f3.length : Int) < 0) = false := decide_eq_false (by omega)
   have eb : decide (a - (x.f2.length : Int) < (x.f3.length : Int)) = false := decide_eq_false (by omega)
   have ec : (a - (x.f2.length : Int) - (x.f3.length : Int) < 0) = False := eq_false (by omega)
   have ed : (a - (x.f2.length : Int) < (x.f3.length : Int)) = False := eq_false (by omega)
   clear c c2
   go_enter Tryd.func33, Tryd.ntmps33
   go_wp2_with (first | (go_at_call 53; ((with_reducible refine (szCaptureS_calls A2 _ c2 a _ HN2.out H0.out H1.out).mono ?_); rw [szr_pos HC.out]; rintro e w' ⟨rfl, rfl⟩)) | (go_at_call 54; ((with_reducible refine (szInsS_calls A3 _ c3 (a - (x.f2.length : Int)) _ HN3.out H2.out H3.out).mono ?_); rw [szr_pos HD.out]; rintro e w' ⟨rfl, rfl⟩)))
   go_ret
   exact ⟨ret_i64 (by rw [← szr_add _ _ HC.out, szr_pos HD.out]), (Below.refl _ _).alloc (Nat.le_refl _) _⟩
  ·
   have HD := amZ (Int.not_le.1 c2)
   clear c c2
   go_enter Tryd.func33, Tryd.ntmps33
   go_wp2_with (first | (go_at_call 53; ((with_reducible refine (szCaptureS_calls A2 _ c2 a _ HN2.out H0.out H1.out).mono ?_); rw [szr_pos HC.out]; rintro e w' ⟨rfl, rfl⟩)) | (go_at_call 54; ((with_reducible refine (szInsS_calls A3 _ c3 (a - (x.f2.length : Int)) _ HN3.out H2.out H3.out).mono ?_); rw [szr_neg HD.out]; rintro e w' ⟨rfl, rfl⟩)))
   go_ret
   exact ⟨ret_i64 (by rw [← szr_add _ _ HC.out, szr_neg HD.out]), (Below.refl _ _).alloc (Nat.le_refl _) _⟩
 ·
  have HC := amZ (Int.not_le.1 c)
  clear c
  go_enter Tryd.func33, Tryd.ntmps33
  go_wp2_with (first | (go_at_call 53; ((with_reducible refine (szCaptureS_calls A2 _ c2 a _ HN2.out H0.out H1.out).mono ?_); rw [szr_neg HC.out]; rintro e w' ⟨rfl, rfl⟩)))
  go_ret
  exact ⟨ret_i64 (szr_big HC.out).symm, (Below.refl _ _).alloc (Nat.le_refl _) _⟩
def szConstSN (l : List S77) : Nat := (l.map fun y => y.f2.length).sum
theorem szConstSN_cons (y : S77) (l : List S77) : szConstSN (y :: l) = (y.f2.length) + szConstSN l := by simp [szConstSN]
set_option maxHeartbeats 4000000 in
set_option maxRecDepth 100000 in
theorem szConstS_calls (A : Option Addr) (c : Nat) (l : List S77) (a : Int) (w : World) (hr : Kd.C k77 w A l.length l) (hn : ∀ y ∈ l, y.f2.length ≤ 9223372036854775807) (h0 : 0 ≤ a) (h1 : a ≤ 1048576) :
  Calls Tryd.prog 13 #[.slice A l.length c, .int .i64 a] w fun e w' => e = .returned (.int .i64 (szr (l.length + szConstSN l) a)) ∧ Below w.heap.size w w' := by
 have HM := amZ hr.2.1
 have hw := sz_wrap hr.2.1 h0 h1
 have HR := amZ hr
 have HN := amZ hn
 by_cases c0 : (l.length : Int) ≤ a
 ·
  have d1 : decide (a - (l.length : Int) < 0) = false := decide_eq_false (by omega)
  have d2 : decide (a < (l.length : Int)) = false := decide_eq_false (by omega)
  have HA : Aside0 (szr (szConstSN l) (a - l.length) = szr (l.length + szConstSN l) a) := ⟨szr_add _ _ c0⟩
  have HZ : Aside0 (0 ≤ a - (l.length : Int) ∧ a - (l.length : Int) ≤ 1048576) := ⟨by omega⟩
  clear c0 h0 h1 hr hn
  go_enter Tryd.func13, Tryd.ntmps13
  go_wp2
  have HW := amZ hw
  clear hw d1 d2
  go_loopg [1, 5] l.length (fun g v1 v wr => ∃ (j : Nat) (b : Int), v1 = .int .i64 b ∧ v = .int .i64 (j : Int) ∧ Aside0 (j + g = l.length) ∧ Aside0 (0 ≤ b ∧ b ≤ 1048576) ∧ Aside0 (szr (szConstSN (l.drop j)) b = szr (l.length + szConstSN l) a) ∧ Aside0 (Below w.heap.size w wr))
  case atStart => exact ⟨0, a - l.length, by rw [HW.out], rfl, ⟨by omega⟩, HZ, ⟨by rw [List.drop_zero]; exact HA.out⟩, ⟨Below.refl _ _⟩⟩
  case round =>
   obtain ⟨j, b, rfl, rfl, hj, hb, hs, HB⟩ := hrel
   by_cases hlt : j < l.length
   ·
    have p : 0 ≤ (j : Int) := by omega
    have q : (j : Int) < (l.length : Int) := by omega
    obtain ⟨ad, A2, c2, e, hx0, hx1, hx2, lx2, gx2⟩ := at_T77 HR.out (j : Int) p q
    cases e
    have hr : rd_T77 l (j : Int) = l[j] := getD_nat _ _ _ hlt
    rw [hr, Int.toNat_natCast] at hx0 hx1 hx2
    have hd : l.drop j = l[j] :: l.drop (j + 1) := List.drop_eq_getElem_cons hlt
    have hny := HN.out l[j] (List.getElem_mem hlt)
    rw [hd, szConstSN_cons] at hs
    generalize l[j] = y at *
    have HS := amZ hs.out
    have HY := amZ hny
    replace hx0 := zdY HB.out hx0
    replace hx1 := zdY HB.out hx1
    replace hx2 := zdY HB.out hx2
    clear lx2 gx2
    have hdl : decide ((j : Int) < (l.length : Int)) = true := decide_eq_true q
    have hdn : decide (j < l.length) = true := decide_eq_true hlt
    have HL := amZ hlt
    replace p := eq_true p
    replace q := eq_true q
    clear hr hd hs hny hlt
    by_cases c1 : ((y.f2.length : Nat) : Int) ≤ b
    ·
     have HC := amZ c1
     have e1 : decide (b - ((y.f2.length : Nat) : Int) < 0) = false := decide_eq_false (by omega)
     have e2 : decide (b < ((y.f2.length : Nat) : Int)) = false := decide_eq_false (by omega)
     have e3 : (b - ((y.f2.length : Nat) : Int) < 0) = False := eq_false (by omega)
     have e4 : (b < ((y.f2.length : Nat) : Int)) = False := eq_false (by omega)
     generalize hm : ((y.f2.length : Nat) : Int) = m at *
     clear c1
     go_wp2_with (go_at_call 32; ((with_reducible refine (szConst_calls y _ _ b _ HY.out hb.out.1 hb.out.2).mono ?_); rw [szr_pos (by rw [hm]; exact HC.out), hm]; rintro e w1 ⟨rfl, hb1⟩; have HB1 := amZ (zcY HB.out hb1); clear hb1))
     go_roundg (l.length - (j + 1))
     case measure => have := hj.out; have := HL.out; omega
     case rel => exact ⟨j + 1, _, rfl, i64_next HL.out HM.out, ⟨by have := HL.out; omega⟩, ⟨by have := HC.out; have := hb.out; omega⟩, ⟨by rw [← HS.out, ← hm]; exact szr_add _ _ (by rw [hm]; exact HC.out)⟩, HB1⟩
    ·
     have HC := amZ (Int.not_le.1 c1)
     clear c1
     go_wp2_with (go_at_call 32; ((with_reducible refine (szConst_calls y _ _ b _ HY.out hb.out.1 hb.out.2).mono ?_); rw [szr_neg HC.out]; rintro e w1 ⟨rfl, hb1⟩; have HB1 := amZ (zcY HB.out hb1); clear hb1))
     go_ret
     exact ⟨ret_i64 (by rw [← HS.out, szr_big HC.out]), HB1.out⟩
   ·
    have e0 : l.drop j = [] := List.drop_eq_nil_of_le (by omega)
    have hdl : decide ((j : Int) < (l.length : Int)) = false := decide_eq_false (by omega)
    have hdn : decide (j < l.length) = false := decide_eq_false hlt
    have HE : Aside0 (szr 0 b = szr (l.length + szConstSN l) a) := ⟨by rw [← hs.out, e0]; rfl⟩
    clear hlt e0 hs
    go_wp2
    go_ret
    exact ⟨ret_i64 (by rw [← HE.out, szr_pos (by have := hb.out; omega)]; omega), HB.out⟩
 ·
  have d1 : decide (a - (l.length : Int) < 0) = true := decide_eq_true (by omega)
  have d2 : decide (a < (l.length : Int)) = true := decide_eq_true (by omega)
  have HC := amZ (Int.not_le.1 c0)
  clear c0 h0 h1 hr hn
  go_enter Tryd.func13, Tryd.ntmps13
  go_wp2
  go_ret
  exact ⟨ret_i64 (szr_big HC.out).symm, Below.refl _ _⟩
def szProtoSN (l : List S82) : Nat := (l.map fun y => y.f2.length + y.f3.length).sum
theorem szProtoSN_cons (y : S82) (l : List S82) : szProtoSN (y :: l) = (y.f2.length + y.f3.length) + szProtoSN l := by simp [szProtoSN]
set_option maxHeartbeats 4000000 in
set_option maxRecDepth 100000 in
theorem szProtoS_calls (A : Option Addr) (c : Nat) (l : List S82) (a : Int) (w : World) (hr : Kd.C k82 w A l.length l) (hn : ∀ y ∈ l, y.f2.length ≤ 9223372036854775807 ∧ y.f3.length ≤ 9223372036854775807) (h0 : 0 ≤ a) (h1 : a ≤ 1048576) :
  Calls Tryd.prog 14 #[.slice A l.length c, .int .i64 a] w fun e w' => e = .returned (.int .i64 (szr (l.length + szProtoSN l) a)) ∧ Below w.heap.size w w' := by
 have HM := amZ hr.2.1
 have hw := sz_wrap hr.2.1 h0 h1
 have HR := amZ hr
 have HN := amZ hn
 by_cases c0 : (l.length : Int) ≤ a
 ·
  have d1 : decide (a - (l.length : Int) < 0) = false := decide_eq_false (by omega)
  have d2 : decide (a < (l.length : Int)) = false := decide_eq_false (by omega)
  have HA : Aside0 (szr (szProtoSN l) (a - l.length) = szr (l.length + szProtoSN l) a) := ⟨szr_add _ _ c0⟩
  have HZ : Aside0 (0 ≤ a - (l.length : Int) ∧ a - (l.length : Int) ≤ 1048576) := ⟨by omega⟩
  clear c0 h0 h1 hr hn
  go_enter Tryd.func14, Tryd.ntmps14
  go_wp2
  have HW := amZ hw
  clear hw d1 d2
  go_loopg [1, 5] l.length (fun g v1 v wr => ∃ (j : Nat) (b : Int), v1 = .int .i64 b ∧ v = .int .i64 (j : Int) ∧ Aside0 (j + g = l.length) ∧ Aside0 (0 ≤ b ∧ b ≤ 1048576) ∧ Aside0 (szr (szProtoSN (l.drop j)) b = szr (l.length + szProtoSN l) a) ∧ Aside0 (Below w.heap.size w wr))
  case atStart => exact ⟨0, a - l.length, by rw [HW.out], rfl, ⟨by omega⟩, HZ, ⟨by rw [List.drop_zero]; exact HA.out⟩, ⟨Below.refl _ _⟩⟩
  case round =>
   obtain ⟨j, b, rfl, rfl, hj, hb, hs, HB⟩ := hrel
   by_cases hlt : j < l.length
   ·
    have p : 0 ≤ (j : Int) := by omega
    have q : (j : Int) < (l.length : Int) := by omega
    obtain ⟨ad, A2, c2, A3, c3, e, hx0, hx1, hx2, hx3, lx2, gx2, lx3, gx3⟩ := at_T82 HR.out (j : Int) p q
    cases e
    have hr : rd_T82 l (j : Int) = l[j] := getD_nat _ _ _ hlt
    rw [hr, Int.toNat_natCast] at hx0 hx1 hx2 hx3
    have hd : l.drop j = l[j] :: l.drop (j + 1) := List.drop_eq_getElem_cons hlt
    have hny := HN.out l[j] (List.getElem_mem hlt)
    rw [hd, szProtoSN_cons] at hs
    generalize l[j] = y at *
    have HS := amZ hs.out
    have HY := amZ hny
    replace hx0 := zdY HB.out hx0
    replace hx1 := zdY HB.out hx1
    replace hx2 := zdY HB.out hx2
    replace hx3 := zdY HB.out hx3
    clear lx2 gx2 lx3 gx3
    have hdl : decide ((j : Int) < (l.length : Int)) = true := decide_eq_true q
    have hdn : decide (j < l.length) = true := decide_eq_true hlt
    have HL := amZ hlt
    replace p := eq_true p
    replace q := eq_true q
    clear hr hd hs hny hlt
    by_cases c1 : ((y.f2.length + y.f3.length : Nat) : Int) ≤ b
    ·
     have HC := amZ c1
     have e1 : decide (b - ((y.f2.length + y.f3.length : Nat) : Int) < 0) = false := decide_eq_false (by omega)
     have e2 : decide (b < ((y.f2.length + y.f3.length : Nat) : Int)) = false := decide_eq_false (by omega)
     have e3 : (b - ((y.f2.length + y.f3.length : Nat) : Int) < 0) = False := eq_false (by omega)
     have e4 : (b < ((y.f2.length + y.f3.length : Nat) : Int)) = False := eq_false (by omega)
     generalize hm : ((y.f2.length + y.f3.length : Nat) : Int) = m at *
     clear c1
     go_wp2_with (go_at_call 33; ((with_reducible refine (szProto_calls y _ _ _ _ b _ HY.out.1 HY.out.2 hb.out.1 hb.out.2).mono ?_); rw [szr_pos (by rw [hm]; exact HC.out), hm]; rintro e w1 ⟨rfl, hb1⟩; have HB1 := amZ (zcY HB.out hb1); clear hb1))
     go_roundg (l.length - (j + 1))
     case measure => have := hj.out; have := HL.out; omega
     case rel => exact ⟨j + 1, _, rfl, i64_next HL.out HM.out, ⟨by have := HL.out; omega⟩, ⟨by have := HC.out; have := hb.out; omega⟩, ⟨by rw [← HS.out, ← hm]; exact szr_add _ _ (by rw [hm]; exact HC.out)⟩, HB1⟩
    ·
     have HC := amZ (Int.not_le.1 c1)
     clear c1
     go_wp2_with (go_at_call 33; ((with_reducible refine (szProto_calls y _ _ _ _ b _ HY.out.1 HY.out.2 hb.out.1 hb.out.2).mono ?_); rw [szr_neg HC.out]; rintro e w1 ⟨rfl, hb1⟩; have HB1 := amZ (zcY HB.out hb1); clear hb1))
     go_ret
     exact ⟨ret_i64 (by rw [← HS.out, szr_big HC.out]), HB1.out⟩
   ·
    have e0 : l.drop j = [] := List.drop_eq_nil_of_le (by omega)
    have hdl : decide ((j : Int) < (l.length : Int)) = false := decide_eq_false (by omega)
    have hdn : decide (j < l.length) = false := decide_eq_false hlt
    have HE : Aside0 (szr 0 b = szr (l.length + szProtoSN l) a) := ⟨by rw [← hs.out, e0]; rfl⟩
    clear hlt e0 hs
    go_wp2
    go_ret
    exact ⟨ret_i64 (by rw [← HE.out, szr_pos (by have := hb.out; omega)]; omega), HB.out⟩
 ·
  have d1 : decide (a - (l.length : Int) < 0) = true := decide_eq_true (by omega)
  have d2 : decide (a < (l.length : Int)) = true := decide_eq_true (by omega)
  have HC := amZ (Int.not_le.1 c0)
  clear c0 h0 h1 hr hn
  go_enter Tryd.func14, Tryd.ntmps14
  go_wp2
  go_ret
  exact ⟨ret_i64 (szr_big HC.out).symm, Below.refl _ _⟩
theorem set_mid {α : Type} (a b : List α) (x y : α) (i : Nat) (h : a.length = i) : (a ++ x :: b).set i y = (a ++ [y]) ++ b := by
 subst h
 rw [List.set_append_right _ _ (Nat.le_refl _), Nat.sub_self, List.set_cons_zero, List.append_assoc]; rfl
theorem grown_trans {a b c : World} {row : Option Nat} (h : a.grownBy b row) (k : b.grownBy c row) : a.grownBy c row :=
 ⟨k.os.trans h.os, k.tape.trans h.tape, k.output.trans h.output, Nat.le_trans h.size k.size, fun i hi hn => (k.block i (Nat.lt_of_lt_of_le hi h.size) hn).trans (h.block i hi hn)⟩
theorem i64_num {a b : Int} (h : a = b) : Value.int .i64 a = .int .i64 b := by rw [h]
def markByteSL : Nat → Int → List Int
 | 0, _ => []
 | n + 1, k => (k % 256) :: markByteSL n (k + 1)
theorem markByteSL_length : ∀ n k, (markByteSL n k).length = n
 | 0, _ => rfl
 | n + 1, k => by simp [markByteSL, markByteSL_length n]
theorem markByteSL_snoc : ∀ n k, markByteSL (n + 1) k = markByteSL n k ++ [(k + n) % 256]
 | 0, k => by simp [markByteSL]
 | n + 1, k => by
  rw [markByteSL, markByteSL_snoc n (k + 1), markByteSL]
  rw [show k + 1 + (n : Int) = k + ((n + 1 : Nat) : Int) by omega]
  rfl
set_option maxHeartbeats 4000000 in
set_option maxRecDepth 100000 in
theorem markByteS_calls (base : Nat) (ok : Nat → Prop) (v : Value) (l : List Int) (k : Int) (w : World) (hr : Kd.R (Kd.int .u8) 5 w base ok v l) (h0 : 0 ≤ k) (h1 : k + l.length ≤ 1099511627776) :
  Calls Tryd.prog 11 #[v, .int .i64 k] w fun e w' => e = .returned (.int .i64 (k + l.length)) ∧ Kd.R (Kd.int .u8) 5 w' base ok v (markByteSL l.length k) ∧ w.grownBy w' v.ownBlock := by
 have HK0 := amZ h0
 have HK1 := amZ h1
 by_cases hl : l.length = 0
 ·
  obtain rfl : l = [] := List.length_eq_zero_iff.1 hl
  obtain ⟨A, c, e⟩ := Kd.R_slice hr
  subst e
  have HR := amZ hr
  clear hr hl h0 h1
  go_enter Tryd.func11, Tryd.ntmps11
  go_wp2
  go_loopg [1, 5] 0 (fun g v1 v5 wr => v1 = .int .i64 k ∧ v5 = .int .i64 0 ∧ w = wr)
  case atStart => exact ⟨rfl, rfl, rfl⟩
  case round =>
   obtain ⟨rfl, rfl, rfl⟩ := hrel
   go_wp2
   go_ret
   exact ⟨ret_i64 (by simp), by simpa [markByteSL] using HR.out, ⟨rfl, rfl, rfl, Nat.le_refl _, fun _ _ _ => rfl⟩⟩
 obtain ⟨g, cap, e, _, _, _⟩ := Kd.R_form hr (by omega)
 subst e
 have HM := amZ (Kd.R_reads' hr).2.2.2.1
 have HR := amZ hr
 clear hr hl h0 h1
 go_enter Tryd.func11, Tryd.ntmps11
 go_wp2
 go_loopg [1, 5] l.length (fun gg v1 v5 wr => ∃ j : Nat, v1 = .int .i64 (k + (j : Int)) ∧ v5 = .int .i64 (j : Int) ∧ Aside0 (j + gg = l.length) ∧ Aside0 (Kd.R (Kd.int .u8) 5 wr base ok (.slice (some ⟨g, 0, none⟩) l.length cap) (markByteSL j k ++ l.drop j)) ∧ Aside0 (w.grownBy wr (some g)))
 case atStart => exact ⟨0, i64_num (by simp), rfl, ⟨by omega⟩, ⟨by simpa [markByteSL] using HR.out⟩, ⟨rfl, rfl, rfl, Nat.le_refl _, fun _ _ _ => rfl⟩⟩
 case round =>
  obtain ⟨j, rfl, rfl, hj, hR, hG⟩ := hrel
  by_cases hlt : j < l.length
  ·
   have p : 0 ≤ (j : Int) := by omega
   have q : (j : Int) < (l.length : Int) := by omega
   obtain ⟨hx0, hf0⟩ := Kd.R_celln (0 : Int) hR.out (j : Int) p q
   have hd : l.drop j = l[j] :: l.drop (j + 1) := List.drop_eq_getElem_cons hlt
   have hset : (markByteSL j k ++ l.drop j).set (j : Int).toNat ((k + (j : Int)) % 256) = markByteSL (j + 1) k ++ l.drop (j + 1) := by
    rw [hd, Int.toNat_natCast, set_mid _ _ _ _ _ (markByteSL_length _ _), markByteSL_snoc]
   have hlen : (markByteSL j k ++ l.drop j).length = l.length := by simp [markByteSL_length]; omega
   have hseg := Kd.R_putn hR.out (j : Int) ((k + (j : Int)) % 256)
   have hgr := (Kd.R_put (xs := markByteSL j k ++ l.drop j) (cap := cap) (by rw [hlen]; exact hR.out) (j : Int) ((k + (j : Int)) % 256)).2
   rw [hset] at hseg
   rw [Int.toNat_natCast] at hx0 hf0 hseg hgr
   have HS := amZ hseg
   have HGR := amZ hgr
   have HL := amZ hlt
   have k0 : 0 ≤ k + (j : Int) := by have := HK0.out; omega
   have k1 : k + (j : Int) + 1 ≤ 1099511627776 := by have := HK1.out; omega
   have hdl : decide ((j : Int) < (l.length : Int)) = true := decide_eq_true q
   have hdn : decide (j < l.length) = true := decide_eq_true hlt
   have HG2 := amZ hG.out
   generalize hkj : k + (j : Int) = kj at *
   have HKJ := amZ hkj
   replace p := eq_true p
   replace q := eq_true q
   clear hd hset hseg hgr hlen hlt hR hG hkj
   go_wp2
   go_roundg (l.length - (j + 1))
   case measure => have := hj.out; have := HL.out; omega
   case rel => exact ⟨j + 1, i64_num (by have := HKJ.out; omega), i64_next HL.out HM.out, ⟨by have := HL.out; omega⟩, ⟨HS.out⟩, ⟨grown_trans HG2.out HGR.out⟩⟩
  ·
   have hdl : decide ((j : Int) < (l.length : Int)) = false := decide_eq_false (by omega)
   have hdn : decide (j < l.length) = false := decide_eq_false hlt
   have hjl : j = l.length := by have := hj.out; omega
   have HJ := amZ hjl
   clear hlt hjl
   go_wp2
   go_ret
   have e := HJ.out
   subst e
   exact ⟨rfl, by simpa using hR.out, hG.out⟩
def markCaptureSE (k : Int) : S48 := ⟨k % 3 == 0, k + 1⟩
def markCaptureSL : Nat → Int → List S48
 | 0, _ => []
 | n + 1, k => markCaptureSE k :: markCaptureSL n (k + 2)
theorem markCaptureSL_length : ∀ n k, (markCaptureSL n k).length = n
 | 0, _ => rfl
 | n + 1, k => by simp [markCaptureSL, markCaptureSL_length n]
theorem markCaptureSL_snoc : ∀ n k, markCaptureSL (n + 1) k = markCaptureSL n k ++ [markCaptureSE (k + 2 * n)]
 | 0, k => by simp [markCaptureSL]
 | n + 1, k => by
  rw [markCaptureSL, markCaptureSL_snoc n (k + 2), markCaptureSL]
  rw [show k + 2 + 2 * (n : Int) = k + 2 * ((n + 1 : Nat) : Int) by omega]
  rfl
set_option maxHeartbeats 4000000 in
set_option maxRecDepth 100000 in
theorem markCaptureS_calls (base : Nat) (ok : Nat → Prop) (v : Value) (l : List S48) (k : Int) (w : World) (hr : Kd.R k48 48 w base ok v l) (h0 : 0 ≤ k) (h1 : k + 2 * l.length ≤ 1099511627776) :
  Calls Tryd.prog 50 #[v, .int .i64 k] w fun e w' => e = .returned (.int .i64 (k + 2 * l.length)) ∧ Kd.R k48 48 w' base ok v (markCaptureSL l.length k) ∧ w.grownBy w' v.ownBlock := by
 have HK0 := amZ h0
 have HK1 := amZ h1
 by_cases hl : l.length = 0
 ·
  obtain rfl : l = [] := List.length_eq_zero_iff.1 hl
  obtain ⟨A, c, e⟩ := Kd.R_slice hr
  subst e
  have HR := amZ hr
  clear hr hl h0 h1
  go_enter Tryd.func50, Tryd.ntmps50
  go_wp2
  go_loopg [1, 5] 0 (fun g v1 v5 wr => v1 = .int .i64 k ∧ v5 = .int .i64 0 ∧ w = wr)
  case atStart => exact ⟨rfl, rfl, rfl⟩
  case round =>
   obtain ⟨rfl, rfl, rfl⟩ := hrel
   go_wp2
   go_ret
   exact ⟨ret_i64 (by simp), by simpa [markCaptureSL] using HR.out, ⟨rfl, rfl, rfl, Nat.le_refl _, fun _ _ _ => rfl⟩⟩
 obtain ⟨g, cap, e, _, _, _⟩ := Kd.R_form hr (by omega)
 subst e
 have HM := amZ (Kd.R_reads' hr).2.2.2.1
 have HR := amZ hr
 clear hr hl h0 h1
 go_enter Tryd.func50, Tryd.ntmps50
 go_wp2
 go_loopg [1, 5] l.length (fun gg v1 v5 wr => ∃ j : Nat, v1 = .int .i64 (k + 2 * j) ∧ v5 = .int .i64 (j : Int) ∧ Aside0 (j + gg = l.length) ∧ Aside0 (Kd.R k48 48 wr base ok (.slice (some ⟨g, 0, none⟩) l.length cap) (markCaptureSL j k ++ l.drop j)) ∧ Aside0 (w.grownBy wr (some g)))
 case atStart => exact ⟨0, i64_num (by simp), rfl, ⟨by omega⟩, ⟨by simpa [markCaptureSL] using HR.out⟩, ⟨rfl, rfl, rfl, Nat.le_refl _, fun _ _ _ => rfl⟩⟩
 case round =>
  obtain ⟨j, rfl, rfl, hj, hR, hG⟩ := hrel
  by_cases hlt : j < l.length
  ·
   have p : 0 ≤ (j : Int) := by omega
   have q : (j : Int) < (l.length : Int) := by omega
   obtain ⟨c, hcl, hM, hcc, hfr⟩ := Kd.R_elem hR.out z48 (j : Int) p q
   have hg : (markCaptureSL j k ++ l.drop j).getD (j : Int).toNat z48 = l[j] := by
    rw [getD_nat _ _ _ (by simp [markCaptureSL_length]; omega), List.getElem_append_right (by simp [markCaptureSL_length])]
    simp [markCaptureSL_length]
   rw [hg] at hM
   have hcs := k48_openM hM
   have hd : l.drop j = l[j] :: l.drop (j + 1) := List.drop_eq_getElem_cons hlt
   have hset : (markCaptureSL j k ++ l.drop j).set (j : Int).toNat (markCaptureSE (k + 2 * j)) = markCaptureSL (j + 1) k ++ l.drop (j + 1) := by
    rw [hd, Int.toNat_natCast, set_mid _ _ _ _ _ (markCaptureSL_length _ _), markCaptureSL_snoc]
   have hseg := Kd.R_seg hR.out (j : Int) p q (seg := [.bool ((k + 2 * (j : Int)) % 3 == 0), .int .i64 ((k + 2 * (j : Int)) + 1)]) (j := 0) (x' := markCaptureSE (k + 2 * j)) (okp := fun _ => False) hcl hcc (by show _ ≤ k48.sz; exact Nat.le_refl 2) (by subst hcs; exact k48_mkM _ _ _ _) (fun _ h => h.elim)
   rw [hset] at hseg
   subst hcs
   generalize l[j] = x at *
   have hx0 := hcc 0 _ rfl
   have hf0 := hfr 0
   have hx1 := hcc 1 _ rfl
   have hf1 := hfr 1
   simp only [show k48.sz = 2 from rfl, Int.toNat_natCast, Nat.add_zero] at hx0 hf0 hx1 hf1
   have HS := amZ hseg
   have HL := amZ hlt
   have k0 : 0 ≤ k + 2 * (j : Int) := by have := HK0.out; omega
   have k1 : k + 2 * (j : Int) + 2 ≤ 1099511627776 := by have := HK1.out; omega
   have hdl : decide ((j : Int) < (l.length : Int)) = true := decide_eq_true q
   have hdn : decide (j < l.length) = true := decide_eq_true hlt
   have HG2 := amZ hG.out
   generalize hkj : k + 2 * (j : Int) = kj at *
   have HKJ := amZ hkj
   replace p := eq_true p
   replace q := eq_true q
   clear hcl hM hcc hfr hg hd hset hseg hlt hR hG hkj
   go_wp2
   go_roundg (l.length - (j + 1))
   case measure => have := hj.out; have := HL.out; omega
   case rel => exact ⟨j + 1, i64_num (by have := HKJ.out; omega), i64_next HL.out HM.out, ⟨by have := HL.out; omega⟩, ⟨HS.out.1⟩, ⟨grown_trans HG2.out HS.out.2⟩⟩
  ·
   have hdl : decide ((j : Int) < (l.length : Int)) = false := decide_eq_false (by omega)
   have hdn : decide (j < l.length) = false := decide_eq_false hlt
   have hjl : j = l.length := by have := hj.out; omega
   have HJ := amZ hjl
   clear hlt hjl
   go_wp2
   go_ret
   have e := HJ.out
   subst e
   exact ⟨rfl, by simpa using hR.out, hG.out⟩
def markInsSE (k : Int) : S51 := ⟨k, k + 1, k + 1 + 1⟩
def markInsSL : Nat → Int → List S51
 | 0, _ => []
 | n + 1, k => markInsSE k :: markInsSL n (k + 3)
theorem markInsSL_length : ∀ n k, (markInsSL n k).length = n
 | 0, _ => rfl
 | n + 1, k => by simp [markInsSL, markInsSL_length n]
theorem markInsSL_snoc : ∀ n k, markInsSL (n + 1) k = markInsSL n k ++ [markInsSE (k + 3 * n)]
 | 0, k => by simp [markInsSL]
 | n + 1, k => by
  rw [markInsSL, markInsSL_snoc n (k + 3), markInsSL]
  rw [show k + 3 + 3 * (n : Int) = k + 3 * ((n + 1 : Nat) : Int) by omega]
  rfl
set_option maxHeartbeats 4000000 in
set_option maxRecDepth 100000 in
theorem markInsS_calls (base : Nat) (ok : Nat → Prop) (v : Value) (l : List S51) (k : Int) (w : World) (hr : Kd.R k51 51 w base ok v l) (h0 : 0 ≤ k) (h1 : k + 3 * l.length ≤ 1099511627776) :
  Calls Tryd.prog 51 #[v, .int .i64 k] w fun e w' => e = .returned (.int .i64 (k + 3 * l.length)) ∧ Kd.R k51 51 w' base ok v (markInsSL l.length k) ∧ w.grownBy w' v.ownBlock := by
 have HK0 := amZ h0
 have HK1 := amZ h1
 by_cases hl : l.length = 0
 ·
  obtain rfl : l = [] := List.length_eq_zero_iff.1 hl
  obtain ⟨A, c, e⟩ := Kd.R_slice hr
  subst e
  have HR := amZ hr
  clear hr hl h0 h1
  go_enter Tryd.func51, Tryd.ntmps51
  go_wp2
  go_loopg [1, 5] 0 (fun g v1 v5 wr => v1 = .int .i64 k ∧ v5 = .int .i64 0 ∧ w = wr)
  case atStart => exact ⟨rfl, rfl, rfl⟩
  case round =>
   obtain ⟨rfl, rfl, rfl⟩ := hrel
   go_wp2
   go_ret
   exact ⟨ret_i64 (by simp), by simpa [markInsSL] using HR.out, ⟨rfl, rfl, rfl, Nat.le_refl _, fun _ _ _ => rfl⟩⟩
 obtain ⟨g, cap, e, _, _, _⟩ := Kd.R_form hr (by omega)
 subst e
 have HM := amZ (Kd.R_reads' hr).2.2.2.1
 have HR := amZ hr
 clear hr hl h0 h1
 go_enter Tryd.func51, Tryd.ntmps51
 go_wp2
 go_loopg [1, 5] l.length (fun gg v1 v5 wr => ∃ j : Nat, v1 = .int .i64 (k + 3 * j) ∧ v5 = .int .i64 (j : Int) ∧ Aside0 (j + gg = l.length) ∧ Aside0 (Kd.R k51 51 wr base ok (.slice (some ⟨g, 0, none⟩) l.length cap) (markInsSL j k ++ l.drop j)) ∧ Aside0 (w.grownBy wr (some g)))
 case atStart => exact ⟨0, i64_num (by simp), rfl, ⟨by omega⟩, ⟨by simpa [markInsSL] using HR.out⟩, ⟨rfl, rfl, rfl, Nat.le_refl _, fun _ _ _ => rfl⟩⟩
 case round =>
  obtain ⟨j, rfl, rfl, hj, hR, hG⟩ := hrel
  by_cases hlt : j < l.length
  ·
   have p : 0 ≤ (j : Int) := by omega
   have q : (j : Int) < (l.length : Int) := by omega
   obtain ⟨c, hcl, hM, hcc, hfr⟩ := Kd.R_elem hR.out z51 (j : Int) p q
   have hg : (markInsSL j k ++ l.drop j).getD (j : Int).toNat z51 = l[j] := by
    rw [getD_nat _ _ _ (by simp [markInsSL_length]; omega), List.getElem_append_right (by simp [markInsSL_length])]
    simp [markInsSL_length]
   rw [hg] at hM
   have hcs := k51_openM hM
   have hd : l.drop j = l[j] :: l.drop (j + 1) := List.drop_eq_getElem_cons hlt
   have hset : (markInsSL j k ++ l.drop j).set (j : Int).toNat (markInsSE (k + 3 * j)) = markInsSL (j + 1) k ++ l.drop (j + 1) := by
    rw [hd, Int.toNat_natCast, set_mid _ _ _ _ _ (markInsSL_length _ _), markInsSL_snoc]
   have hseg := Kd.R_seg hR.out (j : Int) p q (seg := [.int .i64 ((k + 3 * (j : Int))), .int .i64 ((k + 3 * (j : Int)) + 1), .int .i64 ((k + 3 * (j : Int)) + 1 + 1)]) (j := 0) (x' := markInsSE (k + 3 * j)) (okp := fun _ => False) hcl hcc (by show _ ≤ k51.sz; exact Nat.le_refl 3) (by subst hcs; exact k51_mkM _ _ _ _) (fun _ h => h.elim)
   rw [hset] at hseg
   subst hcs
   generalize l[j] = x at *
   have hx0 := hcc 0 _ rfl
   have hf0 := hfr 0
   have hx1 := hcc 1 _ rfl
   have hf1 := hfr 1
   have hx2 := hcc 2 _ rfl
   have hf2 := hfr 2
   simp only [show k51.sz = 3 from rfl, Int.toNat_natCast, Nat.add_zero] at hx0 hf0 hx1 hf1 hx2 hf2
   have HS := amZ hseg
   have HL := amZ hlt
   have k0 : 0 ≤ k + 3 * (j : Int) := by have := HK0.out; omega
   have k1 : k + 3 * (j : Int) + 3 ≤ 1099511627776 := by have := HK1.out; omega
   have hdl : decide ((j : Int) < (l.length : Int)) = true := decide_eq_true q
   have hdn : decide (j < l.length) = true := decide_eq_true hlt
   have HG2 := amZ hG.out
   generalize hkj : k + 3 * (j : Int) = kj at *
   have HKJ := amZ hkj
   replace p := eq_true p
   replace q := eq_true q
   clear hcl hM hcc hfr hg hd hset hseg hlt hR hG hkj
   go_wp2
   go_roundg (l.length - (j + 1))
   case measure => have := hj.out; have := HL.out; omega
   case rel => exact ⟨j + 1, i64_num (by have := HKJ.out; omega), i64_next HL.out HM.out, ⟨by have := HL.out; omega⟩, ⟨HS.out.1⟩, ⟨grown_trans HG2.out HS.out.2⟩⟩
  ·
   have hdl : decide ((j : Int) < (l.length : Int)) = false := decide_eq_false (by omega)
   have hdn : decide (j < l.length) = false := decide_eq_false hlt
   have hjl : j = l.length := by have := hj.out; omega
   have HJ := amZ hjl
   clear hlt hjl
   go_wp2
   go_ret
   have e := HJ.out
   subst e
   exact ⟨rfl, by simpa using hR.out, hG.out⟩
structure Grew (ok : Nat → Prop) (w w' : World) : Prop where
 os : w'.os = w.os
 tape : w'.tape = w.tape
 output : w'.output = w.output
 size : w.heap.size ≤ w'.heap.size
 block : ∀ k, k < w.heap.size → ¬ ok k → w'.heap[k]? = w.heap[k]?
theorem Grew.refl (ok : Nat → Prop) (w : World) : Grew ok w w := ⟨rfl, rfl, rfl, Nat.le_refl _, fun _ _ _ => rfl⟩
theorem Grew.trans {ok : Nat → Prop} {a b c : World} (h : Grew ok a b) (k : Grew ok b c) : Grew ok a c :=
 ⟨k.os.trans h.os, k.tape.trans h.tape, k.output.trans h.output, Nat.le_trans h.size k.size, fun i hi hn => (k.block i (Nat.lt_of_lt_of_le hi h.size) hn).trans (h.block i hi hn)⟩
theorem Grew.mono {ok ok' : Nat → Prop} {w w' : World} (h : Grew ok w w') (hk : ∀ k, ok k → ok' k) : Grew ok' w w' := ⟨h.os, h.tape, h.output, h.size, fun k hl hn => h.block k hl (fun e => hn (hk k e))⟩
theorem Grew.of_grown {ok : Nat → Prop} {w w' : World} {row : Option Nat} (h : w.grownBy w' row) (hr : ∀ k, row = some k → ok k) : Grew ok w w' :=
 ⟨h.os, h.tape, h.output, h.size, fun k hk hn => h.block k hk (fun e => hn (hr k e.symm))⟩
theorem Grew.below {ok : Nat → Prop} {B : Nat} {w w' : World} (h : Grew ok w w') (hB : ∀ k, k < B → k < w.heap.size ∧ ¬ ok k) : Below B w w' := ⟨h.os, h.tape, h.output, h.size, fun k hk => h.block k (hB k hk).1 (hB k hk).2⟩
theorem Grew.R {α : Type} {d : Kd α} {e : Nat} {w w' : World} {base : Nat} {ok ok' : Nat → Prop} {v : Value} {xs : List α} (h : Grew ok w w') (hr : d.R e w base ok' v xs) (hn : ∀ k, ok' k → ¬ ok k) : d.R e w' base ok' v xs :=
 Kd.R_step hr (fun k hk hl => h.block k hl (hn k hk))
theorem Grew.S {α : Type} {d : Kd α} {e : Nat} {w w' : World} {base : Nat} {ok ok' : Nat → Prop} {v : Value} {xs : List α} (h : Grew ok w w') (hr : Kd.S d e w base ok' v xs) (hn : ∀ k, ok' k → ¬ ok k) : Kd.S d e w' base ok' v xs :=
 Kd.S_step hr (fun k hk hl => h.block k hl (hn k hk))
def mcE (x : S69) (k : Int) : S69 := ⟨k % 3 == 0, k + 1, markByteSL x.f2.length (k + 1 + 1)⟩
def mcN (x : S69) : Int := 2 + x.f2.length
def mcL : List S69 → Int → List S69
 | [], _ => []
 | x :: xs, k => mcE x k :: mcL xs (k + mcN x)
def mcS (l : List S69) : Int := (l.map mcN).sum
theorem mcN_pos (x : S69) : 0 ≤ mcN x := by unfold mcN; omega
theorem mcS_pos : ∀ l : List S69, 0 ≤ mcS l
 | [] => by simp [mcS]
 | x :: l => by have := mcS_pos l; have := mcN_pos x; simp only [mcS, List.map_cons, List.sum_cons] at *; omega
theorem mcL_length : ∀ (l : List S69) k, (mcL l k).length = l.length
 | [], _ => rfl
 | x :: l, k => by simp [mcL, mcL_length l]
theorem mcS_append (a b : List S69) : mcS (a ++ b) = mcS a + mcS b := by simp [mcS]
theorem mcS_snoc (l : List S69) (x : S69) : mcS (l ++ [x]) = mcS l + mcN x := by simp [mcS]
theorem mcL_snoc : ∀ (l : List S69) (x : S69) k, mcL (l ++ [x]) k = mcL l k ++ [mcE x (k + mcS l)]
 | [], x, k => by simp [mcL, mcS]
 | y :: l, x, k => by
  rw [List.cons_append, mcL, mcL_snoc l x, mcL, show k + mcN y + mcS l = k + mcS (y :: l) by simp [mcS]; omega]; rfl
theorem mcS_take (l : List S69) (j : Nat) (h : j < l.length) : mcS (l.take (j + 1)) = mcS (l.take j) + mcN l[j] := by rw [List.take_succ_eq_append_getElem h, mcS_snoc]
theorem mcS_le (l : List S69) (j : Nat) : mcS (l.take j) ≤ mcS l := by
 have e : mcS l = mcS (l.take j) + mcS (l.drop j) := by
  rw [← mcS_append, List.take_append_drop]
 have := mcS_pos (l.drop j); omega
set_option maxHeartbeats 8000000 in
set_option maxRecDepth 100000 in
theorem markConstS_calls (base : Nat) (ok : Nat → Prop) (v : Value) (l : List S69) (k : Int) (w : World) (hr : Kd.S k69 69 w base ok v l) (h0 : 0 ≤ k) (h1 : k + mcS l ≤ 1099511627776) :
  Calls Tryd.prog 30 #[v, .int .i64 k] w fun e w' => e = .returned (.int .i64 (k + mcS l)) ∧ Kd.S k69 69 w' base ok v (mcL l k) ∧ Grew ok w w' := by
 have HK0 := amZ h0
 have HK1 := amZ h1
 by_cases hl : l.length = 0
 ·
  obtain rfl : l = [] := List.length_eq_zero_iff.1 hl
  obtain ⟨A, c, e⟩ := Kd.S_slice hr
  subst e
  have HR := amZ hr
  clear hr hl h0 h1
  go_enter Tryd.func30, Tryd.ntmps30
  go_wp2
  go_loopg [1, 5] 0 (fun g v1 v5 wr => v1 = .int .i64 k ∧ v5 = .int .i64 0 ∧ w = wr)
  case atStart => exact ⟨rfl, rfl, rfl⟩
  case round =>
   obtain ⟨rfl, rfl, rfl⟩ := hrel
   go_wp2
   go_ret
   exact ⟨ret_i64 (by simp [mcS]), by simpa [mcL] using HR.out, Grew.refl _ _⟩
 obtain ⟨g, cap, e, _, _, _⟩ := Kd.S_form hr (by omega)
 subst e
 have HM := amZ (Kd.S_reads' hr).2.2.2.1
 have HOG := amZ ((Kd.S_R hr).1 g (by simp [Value.ownBlock]))
 have HR := amZ hr
 clear hr hl h0 h1
 go_enter Tryd.func30, Tryd.ntmps30
 go_wp2
 go_loopg [1, 5] l.length (fun gg v1 v5 wr => ∃ j : Nat, v1 = .int .i64 (k + mcS (l.take j)) ∧ v5 = .int .i64 (j : Int) ∧ Aside0 (j + gg = l.length) ∧ Aside0 (Kd.S k69 69 wr base ok (.slice (some ⟨g, 0, none⟩) l.length cap) (mcL (l.take j) k ++ l.drop j)) ∧ Aside0 (Grew ok w wr))
 case atStart => exact ⟨0, i64_num (by simp [mcS]), rfl, ⟨by omega⟩, ⟨by simpa [mcL] using HR.out⟩, ⟨Grew.refl _ _⟩⟩
 case round =>
  obtain ⟨j, rfl, rfl, hj, hR, hG⟩ := hrel
  by_cases hlt : j < l.length
  ·
   have p : 0 ≤ (j : Int) := by omega
   have q : (j : Int) < (l.length : Int) := by omega
   obtain ⟨oki, c, hcl, hM, hcc, hfr, hoki, hH⟩ := Kd.S_elem hR.out z69 (j : Int) p q
   have hg : (mcL (l.take j) k ++ l.drop j).getD (j : Int).toNat z69 = l[j] := by
    rw [getD_nat _ _ _ (by simp [mcL_length]; omega), List.getElem_append_right (by simp [mcL_length]; omega)]
    simp [mcL_length, Nat.min_eq_left (Nat.le_of_lt hlt)]
   rw [hg] at hM
   obtain ⟨v2, hcs, hv2⟩ := k69_openM hM
   have hd : l.drop j = l[j] :: l.drop (j + 1) := List.drop_eq_getElem_cons hlt
   have hset : (mcL (l.take j) k ++ l.drop j).set (j : Int).toNat (mcE l[j] (k + mcS (l.take j))) = mcL (l.take (j + 1)) k ++ l.drop (j + 1) := by
    rw [hd, Int.toNat_natCast, set_mid _ _ _ _ _ (by rw [mcL_length]; simp; omega), List.take_succ_eq_append_getElem hlt, mcL_snoc]
   have htk := mcS_take l j hlt
   have hle := mcS_le l (j + 1)
   have hp0 := mcS_pos (l.take j)
   have hnn := mcN_pos l[j]
   have hN : mcN l[j] = 2 + l[j].f2.length := rfl
   generalize hkj : k + mcS (l.take j) = kj at *
   have hkj1 : kj + mcN l[j] = k + mcS (l.take (j + 1)) := by omega
   generalize l[j] = x at *
   subst hcs
   have hx0 := hcc 0 _ rfl
   have hf0 := hfr 0
   have hx1 := hcc 1 _ rfl
   have hf1 := hfr 1
   have hx2 := hcc 2 _ rfl
   simp only [show k69.sz = 3 from rfl, Int.toNat_natCast, Nat.add_zero] at hx0 hf0 hx1 hf1 hx2
   obtain ⟨hH2, hg2⟩ := Kd.H_seg hH p q (seg := [.bool (kj % 3 == 0), .int .i64 (kj + 1)]) (j := 0) (by show (2 : Nat) ≤ 3; decide) (by intro u hu; simp at hu; rcases hu with rfl | rfl <;> rfl)
   have hv3 := Kd.R_grown hv2 hg2 (fun b hb e => (hoki b hb).2 (by injection e))
   rw [Int.toNat_natCast] at hH2 hg2 hv3
   have HH2 := amZ hH2
   have HG2 := amZ hg2
   have HV3 := amZ hv3
   have HOK := amZ hoki
   have HSET := amZ hset
   have HL := amZ hlt
   have HKJ := amZ hkj1
   have k0 : 0 ≤ kj := by have := HK0.out; omega
   have k1 : kj + 2 ≤ 1099511627776 := by have := HK1.out; omega
   have HB1 : Aside0 (0 ≤ kj + 1 + 1) := ⟨by omega⟩
   have HB2 : Aside0 (kj + 1 + 1 + x.f2.length ≤ 1099511627776) := ⟨by have := HK1.out; omega⟩
   have hdl : decide ((j : Int) < (l.length : Int)) = true := decide_eq_true q
   have hdn : decide (j < l.length) = true := decide_eq_true hlt
   have HG := amZ hG.out
   replace p := eq_true p
   replace q := eq_true q
   clear hcl hM hcc hfr hg hd hset hlt hR hG hkj hkj1 hoki hH hH2 hg2 hv2 hv3 htk hle hp0 hnn hN
   go_wp2_with (go_at_call 11; ((refine (markByteS_calls base oki v2 x.f2 (kj + 1 + 1) _ HV3.out HB1.out HB2.out).mono ?_); rintro e w3 ⟨rfl, hr3, hg3⟩; have HR3 := amZ hr3; have HG3 := amZ hg3; clear hr3 hg3))
   have hS : Kd.S k69 69 w3 base ok (.slice (some ⟨g, 0, none⟩) l.length cap) (mcL (l.take (j + 1)) k ++ l.drop (j + 1)) := by
    rw [← HSET.out]
    exact Kd.H_back (Kd.H_grown HH2.out HG3.out (fun b hb => HV3.out.1 b hb)) (x' := mcE x kj) (k69_mkM _ _ _ (mcE x kj) (by show Kd.R _ 5 w3 base oki v2 (markByteSL x.f2.length (kj + 1 + 1)); exact HR3.out)) (fun _ h => h)
   have HS := amZ hS
   clear hS
   go_roundg (l.length - (j + 1))
   case measure => have := hj.out; have := HL.out; omega
   case rel => exact ⟨j + 1, i64_num (by rw [← HKJ.out]; unfold mcN; omega), i64_next HL.out HM.out, ⟨by have := HL.out; omega⟩, HS, ⟨(HG.out.trans (Grew.of_grown HG2.out (fun b hb => by injection hb with hb; subst hb; exact HOG.out))).trans (Grew.of_grown HG3.out (fun b hb => (HOK.out b (HV3.out.1 b hb)).1))⟩⟩
  ·
   have hdl : decide ((j : Int) < (l.length : Int)) = false := decide_eq_false (by omega)
   have hdn : decide (j < l.length) = false := decide_eq_false hlt
   have hjl : j = l.length := by have := hj.out; omega
   have HJ := amZ hjl
   clear hlt hjl
   go_wp2
   go_ret
   have e := HJ.out
   subst e
   exact ⟨ret_i64 (by rw [List.take_length]), by simpa using hR.out, hG.out⟩
def mpE (x : S45) (k : Int) : S45 := ⟨k, k + 1, markCaptureSL x.f2.length (k + 1 + 1), markInsSL x.f3.length (k + 1 + 1 + 2 * x.f2.length)⟩
def mpN (x : S45) : Int := 2 + 2 * x.f2.length + 3 * x.f3.length
def mpL : List S45 → Int → List S45
 | [], _ => []
 | x :: xs, k => mpE x k :: mpL xs (k + mpN x)
def mpS (l : List S45) : Int := (l.map mpN).sum
theorem mpN_pos (x : S45) : 0 ≤ mpN x := by unfold mpN; omega
theorem mpS_pos : ∀ l : List S45, 0 ≤ mpS l
 | [] => by simp [mpS]
 | x :: l => by have := mpS_pos l; have := mpN_pos x; simp only [mpS, List.map_cons, List.sum_cons] at *; omega
theorem mpL_length : ∀ (l : List S45) k, (mpL l k).length = l.length
 | [], _ => rfl
 | x :: l, k => by simp [mpL, mpL_length l]
theorem mpS_append (a b : List S45) : mpS (a ++ b) = mpS a + mpS b := by simp [mpS]
theorem mpS_snoc (l : List S45) (x : S45) : mpS (l ++ [x]) = mpS l + mpN x := by simp [mpS]
theorem mpL_snoc : ∀ (l : List S45) (x : S45) k, mpL (l ++ [x]) k = mpL l k ++ [mpE x (k + mpS l)]
 | [], x, k => by simp [mpL, mpS]
 | y :: l, x, k => by
  rw [List.cons_append, mpL, mpL_snoc l x, mpL, show k + mpN y + mpS l = k + mpS (y :: l) by simp [mpS]; omega]; rfl
theorem mpS_take (l : List S45) (j : Nat) (h : j < l.length) : mpS (l.take (j + 1)) = mpS (l.take j) + mpN l[j] := by rw [List.take_succ_eq_append_getElem h, mpS_snoc]
theorem mpS_le (l : List S45) (j : Nat) : mpS (l.take j) ≤ mpS l := by
 have e : mpS l = mpS (l.take j) + mpS (l.drop j) := by
  rw [← mpS_append, List.take_append_drop]
 have := mpS_pos (l.drop j); omega
set_option maxHeartbeats 8000000 in
set_option maxRecDepth 100000 in
theorem markProtoS_calls (base : Nat) (ok : Nat → Prop) (v : Value) (l : List S45) (k : Int) (w : World) (hr : Kd.S k45 45 w base ok v l) (h0 : 0 ≤ k) (h1 : k + mpS l ≤ 1099511627776) :
  Calls Tryd.prog 31 #[v, .int .i64 k] w fun e w' => e = .returned (.int .i64 (k + mpS l)) ∧ Kd.S k45 45 w' base ok v (mpL l k) ∧ Grew ok w w' := by
 have HK0 := amZ h0
 have HK1 := amZ h1
 by_cases hl : l.length = 0
 ·
  obtain rfl : l = [] := List.length_eq_zero_iff.1 hl
  obtain ⟨A, c, e⟩ := Kd.S_slice hr
  subst e
  have HR := amZ hr
  clear hr hl h0 h1
  go_enter Tryd.func31, Tryd.ntmps31
  go_wp2
  go_loopg [1, 5] 0 (fun g v1 v5 wr => v1 = .int .i64 k ∧ v5 = .int .i64 0 ∧ w = wr)
  case atStart => exact ⟨rfl, rfl, rfl⟩
  case round =>
   obtain ⟨rfl, rfl, rfl⟩ := hrel
   go_wp2
   go_ret
   exact ⟨ret_i64 (by simp [mpS]), by simpa [mpL] using HR.out, Grew.refl _ _⟩
 obtain ⟨g, cap, e, _, _, _⟩ := Kd.S_form hr (by omega)
 subst e
 have HM := amZ (Kd.S_reads' hr).2.2.2.1
 have HOG := amZ ((Kd.S_R hr).1 g (by simp [Value.ownBlock]))
 have HR := amZ hr
 clear hr hl h0 h1
 go_enter Tryd.func31, Tryd.ntmps31
 go_wp2
 go_loopg [1, 5] l.length (fun gg v1 v5 wr => ∃ j : Nat, v1 = .int .i64 (k + mpS (l.take j)) ∧ v5 = .int .i64 (j : Int) ∧ Aside0 (j + gg = l.length) ∧ Aside0 (Kd.S k45 45 wr base ok (.slice (some ⟨g, 0, none⟩) l.length cap) (mpL (l.take j) k ++ l.drop j)) ∧ Aside0 (Grew ok w wr))
 case atStart => exact ⟨0, i64_num (by simp [mpS]), rfl, ⟨by omega⟩, ⟨by simpa [mpL] using HR.out⟩, ⟨Grew.refl _ _⟩⟩
 case round =>
  obtain ⟨j, rfl, rfl, hj, hR, hG⟩ := hrel
  by_cases hlt : j < l.length
  ·
   have p : 0 ≤ (j : Int) := by omega
   have q : (j : Int) < (l.length : Int) := by omega
   obtain ⟨oki, c, hcl, hM, hcc, hfr, hoki, hH⟩ := Kd.S_elem hR.out z45 (j : Int) p q
   have hg : (mpL (l.take j) k ++ l.drop j).getD (j : Int).toNat z45 = l[j] := by
    rw [getD_nat _ _ _ (by simp [mpL_length]; omega), List.getElem_append_right (by simp [mpL_length]; omega)]
    simp [mpL_length, Nat.min_eq_left (Nat.le_of_lt hlt)]
   rw [hg] at hM
   obtain ⟨v2, v3, hcs, hv2, hv3⟩ := k45_openM hM
   have hd : l.drop j = l[j] :: l.drop (j + 1) := List.drop_eq_getElem_cons hlt
   have hset : (mpL (l.take j) k ++ l.drop j).set (j : Int).toNat (mpE l[j] (k + mpS (l.take j))) = mpL (l.take (j + 1)) k ++ l.drop (j + 1) := by
    rw [hd, Int.toNat_natCast, set_mid _ _ _ _ _ (by rw [mpL_length]; simp; omega), List.take_succ_eq_append_getElem hlt, mpL_snoc]
   have htk := mpS_take l j hlt
   have hle := mpS_le l (j + 1)
   have hp0 := mpS_pos (l.take j)
   have hnn := mpN_pos l[j]
   have hN : mpN l[j] = 2 + 2 * l[j].f2.length + 3 * l[j].f3.length := rfl
   generalize hkj : k + mpS (l.take j) = kj at *
   have hkj1 : kj + mpN l[j] = k + mpS (l.take (j + 1)) := by omega
   generalize l[j] = x at *
   subst hcs
   have hx0 := hcc 0 _ rfl
   have hf0 := hfr 0
   have hx1 := hcc 1 _ rfl
   have hf1 := hfr 1
   have hx2 := hcc 2 _ rfl
   have hx3 := hcc 3 _ rfl
   simp only [show k45.sz = 4 from rfl, Int.toNat_natCast, Nat.add_zero] at hx0 hf0 hx1 hf1 hx2 hx3
   obtain ⟨hH2, hg2⟩ := Kd.H_seg hH p q (seg := [.int .i64 kj, .int .i64 (kj + 1)]) (j := 0) (by show (2 : Nat) ≤ 4; decide) (by intro u hu; simp at hu; rcases hu with rfl | rfl <;> rfl)
   have hv2' := Kd.R_grown hv2 hg2 (fun b hb e => (hoki b hb).2 (by injection e))
   have hv3' := Kd.R_grown hv3 hg2 (fun b hb e => (hoki b hb).2 (by injection e))
   rw [Int.toNat_natCast] at hH2 hg2 hv2' hv3'
   have HH2 := amZ hH2
   have HG2 := amZ hg2
   have hx3' := (World.cell?_setCells_out g [.int .i64 kj, .int .i64 (kj + 1)] (j * k45.sz + 0) wr ⟨g, j * 4 + 3, none⟩ (fun _ _ => .inr (by show j * 4 + 0 + 2 ≤ j * 4 + 3; omega))).trans hx3
   have HX3 := amZ hx3'
   clear hx3 hx3'
   have HV2 := amZ hv2'
   have HV3 := amZ hv3'
   have HOK := amZ hoki
   have HSET := amZ hset
   have HL := amZ hlt
   have HKJ := amZ hkj1
   have k0 : 0 ≤ kj := by have := HK0.out; omega
   have k1 : kj + 2 ≤ 1099511627776 := by have := HK1.out; omega
   have HB1 : Aside0 (0 ≤ kj + 1 + 1) := ⟨by omega⟩
   have HB2 : Aside0 (kj + 1 + 1 + 2 * x.f2.length ≤ 1099511627776) := ⟨by have := HK1.out; omega⟩
   have HB3 : Aside0 (0 ≤ kj + 1 + 1 + 2 * (x.f2.length : Int)) := ⟨by omega⟩
   have HB4 : Aside0 (kj + 1 + 1 + 2 * x.f2.length + 3 * x.f3.length ≤ 1099511627776) := ⟨by have := HK1.out; omega⟩
   have hdl : decide ((j : Int) < (l.length : Int)) = true := decide_eq_true q
   have hdn : decide (j < l.length) = true := decide_eq_true hlt
   have HG := amZ hG.out
   replace p := eq_true p
   replace q := eq_true q
   clear hcl hM hcc hfr hg hd hset hlt hR hG hkj hkj1 hoki hH hH2 hg2 hv2 hv3 hv2' hv3' htk hle hp0 hnn hN
   go_wp2_with (first | (go_at_call 50; ((refine (markCaptureS_calls base oki v2 x.f2 (kj + 1 + 1) _ HV2.out HB1.out HB2.out).mono ?_); rintro e w3 ⟨rfl, hr3, hg3⟩; have HR3 := amZ hr3; have HG3 := amZ hg3; have HV4 := amZ (Kd.R_over HV3.out HV2.out (by decide) hg3); have hy3 := hg3.cell HX3.out (fun e => (HOK.out g (HV2.out.1 g e.symm)).2 rfl); clear hr3 hg3)) | (go_at_call 51; ((refine (markInsS_calls base oki v3 x.f3 (kj + 1 + 1 + 2 * x.f2.length) _ HV4.out HB3.out HB4.out).mono ?_); rintro e w4 ⟨rfl, hr4, hg4⟩; have HR4 := amZ hr4; have HG4 := amZ hg4; clear hr4 hg4)))
   have hS : Kd.S k45 45 w4 base ok (.slice (some ⟨g, 0, none⟩) l.length cap) (mpL (l.take (j + 1)) k ++ l.drop (j + 1)) := by
    rw [← HSET.out]
    exact Kd.H_back (Kd.H_grown (Kd.H_grown HH2.out HG3.out (fun b hb => HV2.out.1 b hb)) HG4.out (fun b hb => HV3.out.1 b hb)) (x' := mpE x kj) (k45_mkM _ _ _ (mpE x kj) (by show Kd.R _ 48 w4 base oki v2 (markCaptureSL x.f2.length (kj + 1 + 1)); exact Kd.R_over HR3.out HV4.out (by decide) HG4.out) (by show Kd.R _ 51 w4 base oki v3 (markInsSL x.f3.length (kj + 1 + 1 + 2 * x.f2.length)); exact HR4.out)) (fun _ h => h)
   have HS := amZ hS
   clear hS
   go_roundg (l.length - (j + 1))
   case measure => have := hj.out; have := HL.out; omega
   case rel => exact ⟨j + 1, i64_num (by rw [← HKJ.out]; unfold mpN; omega), i64_next HL.out HM.out, ⟨by have := HL.out; omega⟩, HS, ⟨(HG.out.trans (Grew.of_grown HG2.out (fun b hb => by injection hb with hb; subst hb; exact HOG.out))).trans ((Grew.of_grown HG3.out (fun b hb => (HOK.out b (HV2.out.1 b hb)).1)).trans (Grew.of_grown HG4.out (fun b hb => (HOK.out b (HV3.out.1 b hb)).1)))⟩⟩
  ·
   have hdl : decide ((j : Int) < (l.length : Int)) = false := decide_eq_false (by omega)
   have hdn : decide (j < l.length) = false := decide_eq_false hlt
   have hjl : j = l.length := by have := hj.out; omega
   have HJ := amZ hjl
   clear hlt hjl
   go_wp2
   go_ret
   have e := HJ.out
   subst e
   exact ⟨ret_i64 (by rw [List.take_length]), by simpa using hR.out, hG.out⟩
theorem markByteSL_get : ∀ (n : Nat) (k : Int) (j : Nat) (h : j < (markByteSL n k).length), (markByteSL n k)[j] = ((k + 1 * (j : Int)) % 256)
 | 0, _, j, h => by simp [markByteSL] at h
 | n + 1, k, 0, h => by simp [markByteSL]
 | n + 1, k, j + 1, h => by
  simp only [markByteSL, List.getElem_cons_succ]
  rw [markByteSL_get n (k + 1) j (by simpa [markByteSL] using h)]
  congr 1; omega
set_option maxHeartbeats 4000000 in
set_option maxRecDepth 100000 in
theorem heldByteS_calls (A : Option Addr) (c n : Nat) (k : Int) (w : World) (hr : Kd.C (Kd.int .u8) w A n (markByteSL n k)) (h0 : 0 ≤ k) (h1 : k + 1 * n ≤ 1099511627776) :
  Calls Tryd.prog 12 #[.slice A n c, .int .i64 k] w fun e w' => e = .returned (.int .i64 (k + 1 * n)) ∧ w = w' := by
 have HK0 := amZ h0
 have HK1 := amZ h1
 have HM := amZ hr.2.1
 have HR := amZ hr
 clear hr h0 h1
 go_enter Tryd.func12, Tryd.ntmps12
 go_wp2
 go_loopg [1, 5] n (fun g v1 v5 wr => ∃ j : Nat, v1 = .int .i64 (k + 1 * (j : Int)) ∧ v5 = .int .i64 (j : Int) ∧ Aside0 (j + g = n) ∧ w = wr)
 case atStart => exact ⟨0, i64_num (by simp), rfl, ⟨by omega⟩, rfl⟩
 case round =>
  obtain ⟨j, rfl, rfl, hj, rfl⟩ := hrel
  by_cases hlt : j < n
  ·
   have p : 0 ≤ (j : Int) := by omega
   have q : (j : Int) < (n : Int) := by omega
   have hlt' : j < (markByteSL n k).length := by rw [markByteSL_length]; exact hlt
   obtain ⟨ad, _, e, _, hK, hx⟩ := Kd.C_get HR.out (0 : Int) (j : Int) p q
   cases e
   cases hK
   have hx0 := hx 0 _ rfl
   clear hx
   simp only [show (Kd.int .u8).sz = 1 from rfl, Int.toNat_natCast, Nat.mul_one, Nat.add_zero] at hx0
   rw [show (markByteSL n k).getD j 0 = _ from getD_nat _ _ _ hlt', markByteSL_get] at hx0
   have k0 : 0 ≤ k + 1 * (j : Int) := by have := HK0.out; omega
   have k1 : k + 1 * (j : Int) + 1 ≤ 1099511627776 := by have := HK1.out; omega
   have hdl : decide ((j : Int) < (n : Int)) = true := decide_eq_true q
   have hdn : decide (j < n) = true := decide_eq_true hlt
   generalize hkj : k + 1 * (j : Int) = kj at *
   have HKJ := amZ hkj
   have HL := amZ hlt
   replace p := eq_true p
   replace q := eq_true q
   clear hlt hlt' hkj
   go_wp2
   go_roundg (n - (j + 1))
   case measure => have := hj.out; have := HL.out; omega
   case rel => exact ⟨j + 1, i64_num (by have := HKJ.out; omega), i64_next HL.out HM.out, ⟨by have := HL.out; omega⟩, rfl⟩
  ·
   have hdl : decide ((j : Int) < (n : Int)) = false := decide_eq_false (by omega)
   have hdn : decide (j < n) = false := decide_eq_false hlt
   have hjl : j = n := by have := hj.out; omega
   have HJ := amZ hjl
   clear hlt hjl
   go_wp2
   go_ret
   exact ⟨ret_i64 (by rw [HJ.out]), rfl⟩
def okB {α : Type} (d : Kd α) (e : Nat) (w : World) (base : Nat) (ok : Nat → Prop) (k : Nat) : Prop := ok k ∧ base ≤ k ∧ k < w.heap.size ∧ ∃ q, q ∈ e :: d.E ∧ ∃ cells, w.heap[k]? = some (.cells cells q (0, 0))
theorem okB_ne {α β : Type} {d : Kd α} {d' : Kd β} {e e' : Nat} {w : World} {base base' : Nat} {ok ok' : Nat → Prop} (h : ∀ q, q ∈ e :: d.E → ∀ q', q' ∈ e' :: d'.E → q ≠ q') (k : Nat) (hk : okB d e w base ok k) : ¬ okB d' e' w base' ok' k := by
 rintro ⟨_, _, _, q', hq', c', hc'⟩
 obtain ⟨_, _, _, q, hq, c, hc⟩ := hk
 rw [hc] at hc'
 injection hc' with hc'
 injection hc' with _ hc'
 exact h q hq q' hq' hc'
def progS (cs : List S69) (ps : List S45) : Int := mcS cs + mpS ps
set_option maxHeartbeats 4000000 in
set_option maxRecDepth 100000 in
theorem markProgram_calls (base : Nat) (ok : Nat → Prop) (v0 v1 : Value) (cs : List S69) (ps : List S45) (k : Int) (w : World) (hr0 : Kd.S k69 69 w base ok v0 cs) (hr1 : Kd.S k45 45 w base ok v1 ps) (h0 : 0 ≤ k) (h1 : k + progS cs ps ≤ 1099511627776) :
  Calls Tryd.prog 10 #[.agg #[v0, v1], .int .i64 k] w fun e w' => e = .returned (.int .i64 (k + progS cs ps)) ∧ Kd.S k69 69 w' base ok v0 (mcL cs k) ∧ Kd.S k45 45 w' base ok v1 (mpL ps (k + mcS cs)) ∧ Grew ok w w' := by
 have e0 := Kd.S_slice hr0
 have e1 := Kd.S_slice hr1
 obtain ⟨W, hW⟩ : ∃ W, W = w.alloc (.cells #[v0, v1] 32) := ⟨_, rfl⟩
 have hb : Below w.heap.size w W := by rw [hW]; exact (Below.refl _ _).alloc (Nat.le_refl _) _
 have hbox : W.heap[w.heap.size]? = some (.cells #[v0, v1] 32 (0, 0)) := by rw [hW, heap_alloc_new]
 have hs0 := Kd.S_bound (Kd.S_below hr0 hb)
 have hs1 := Kd.S_bound (Kd.S_below hr1 hb)
 have hap : ∀ b, okB k45 45 W base ok b → ¬ okB k69 69 W base ok b := fun b hb => okB_ne (by decide) b hb
 have hgb : ∀ b, okB k69 69 W base ok b → b ≠ w.heap.size := by
  rintro b ⟨_, _, _, q, hq, c, hc⟩ rfl
  rw [hbox] at hc
  injection hc with hc
  injection hc with _ hc
  subst hc
  revert hq; decide
 have HW := amZ hW
 have HB := amZ hb
 have HBOX := amZ hbox
 have HS0 := amZ (show Kd.S k69 69 W base (okB k69 69 W base ok) v0 cs from hs0)
 have HS1 := amZ (show Kd.S k45 45 W base (okB k45 45 W base ok) v1 ps from hs1)
 have HAP := amZ hap
 have HGB := amZ hgb
 have HK0 := amZ h0
 have p0 := mcS_pos cs
 have p1 := mpS_pos ps
 have HK1 : Aside0 (k + mcS cs ≤ 1099511627776) := ⟨by unfold progS at h1; omega⟩
 have HK2 : Aside0 (0 ≤ k + mcS cs) := ⟨by omega⟩
 have HK3 : Aside0 (k + mcS cs + mpS ps ≤ 1099511627776) := ⟨by unfold progS at h1; omega⟩
 have HO : Aside0 (v0.oneCell' = true ∧ v1.oneCell' = true) := ⟨by obtain ⟨_, _, rfl⟩ := e0; obtain ⟨_, _, rfl⟩ := e1; exact ⟨rfl, rfl⟩⟩
 obtain ⟨A0, c0, rfl⟩ := e0
 obtain ⟨A1, c1, rfl⟩ := e1
 clear hW hb hbox hs0 hs1 hap hgb hr0 hr1 h0 h1 p0 p1
 go_enter Tryd.func10, Tryd.ntmps10
 go_wp2_with (first | (go_at_call 30; rw [← HW.out]; ((with_reducible refine (markConstS_calls base _ _ cs k W HS0.out HK0.out HK1.out).mono ?_); rintro e w2 ⟨rfl, hr2, hg2⟩; have HR2 := amZ hr2; have HG2 := amZ hg2; have HV := amZ (hg2.S HS1.out (fun b hb => HAP.out b hb)); have HX : w2.heap[w.heap.size]? = some (.cells #[.slice A0 cs.length c0, .slice A1 ps.length c1] 32 (0, 0)) := (hg2.block _ (zlY HBOX.out) (fun h => HGB.out _ h rfl)).trans HBOX.out; have hx1 := (zaY HX 1).trans rfl; clear hr2 hg2 HX)) | (go_at_call 31; ((with_reducible refine (markProtoS_calls base _ _ ps (k + mcS cs) _ HV.out HK2.out HK3.out).mono ?_); rintro e w3 ⟨rfl, hr3, hg3⟩; have HR3 := amZ hr3; have HG3 := amZ hg3; clear hr3 hg3)))
 go_ret
 refine ⟨ret_i64 (by unfold progS; omega), ?_, Kd.S_mono HR3.out (fun _ h => h.1), ?_⟩
 ·
  refine Kd.S_mono (HG3.out.S HR2.out (fun b hb => ?_)) (fun _ h => h.1)
  exact fun h => HAP.out b h hb
 ·
  exact (⟨HB.out.os, HB.out.tape, HB.out.output, HB.out.size, fun b hb _ => HB.out.block b hb⟩ : Grew ok w W).trans ((HG2.out.mono (fun _ h => h.1)).trans (HG3.out.mono (fun _ h => h.1)))
def szProgN (cs : List S77) (ps : List S82) : Nat := cs.length + szConstSN cs + (ps.length + szProtoSN ps)
set_option maxHeartbeats 4000000 in
theorem szProgram_calls (A0 A1 : Option Addr) (c0 c1 : Nat) (cs : List S77) (ps : List S82) (w : World) (hr0 : Kd.C k77 w A0 cs.length cs) (hr1 : Kd.C k82 w A1 ps.length ps) (hn0 : ∀ y ∈ cs, y.f2.length ≤ 9223372036854775807) (hn1 : ∀ y ∈ ps, y.f2.length ≤ 9223372036854775807 ∧ y.f3.length ≤ 9223372036854775807) :
  Calls Tryd.prog 4 #[.agg #[.slice A0 cs.length c0, .slice A1 ps.length c1], .int .i64 1048576] w fun e w' => e = .returned (.int .i64 (szr (szProgN cs ps) 1048576)) ∧ Below w.heap.size w w' := by
 have HB := amZ ((Below.refl w.heap.size w).alloc (Nat.le_refl _) (.cells #[.slice A0 cs.length c0, .slice A1 ps.length c1] 25))
 have HR0 := amZ (Kd.C_below hr0 HB.out)
 have HR1 := amZ (Kd.C_below hr1 HB.out)
 have HN0 := amZ hn0
 have HN1 := amZ hn1
 clear hr0 hr1 hn0 hn1
 obtain ⟨m, hm⟩ : ∃ m, m = cs.length + szConstSN cs := ⟨_, rfl⟩
 obtain ⟨n, hn⟩ : ∃ n, n = ps.length + szProtoSN ps := ⟨_, rfl⟩
 have HM := amZ hm
 have HN := amZ hn
 have hS : Aside0 (szProgN cs ps = m + n) := ⟨by unfold szProgN; rw [hm, hn]⟩
 clear hm hn
 by_cases c : (m : Int) ≤ 1048576
 ·
  have H1 : Aside0 (0 ≤ 1048576 - (m : Int)) := ⟨by omega⟩
  have H2 : Aside0 (1048576 - (m : Int) ≤ 1048576) := ⟨by omega⟩
  have HC := amZ c
  have d1 : decide (1048576 - (m : Int) < 0) = false := decide_eq_false (by omega)
  have d2 : decide (1048576 < (m : Int)) = false := decide_eq_false (by omega)
  have d3 : (1048576 - (m : Int) < 0) = False := eq_false (by omega)
  have d4 : (1048576 < (m : Int)) = False := eq_false (by omega)
  obtain ⟨r, hr⟩ : ∃ r, r = szr n (1048576 - m) := ⟨_, rfl⟩
  have HRr := amZ hr
  by_cases c2 : (n : Int) ≤ 1048576 - m
  ·
   have f1 : decide (r < 0) = false := decide_eq_false (by rw [hr, szr_pos c2]; omega)
   have f2 : (r < 0) = False := eq_false (by rw [hr, szr_pos c2]; omega)
   clear c c2 hr
   go_enter Tryd.func4, Tryd.ntmps4
   go_wp2_with (first | (go_at_call 13; ((with_reducible refine (szConstS_calls A0 c0 cs 1048576 _ HR0.out HN0.out (by decide) (by decide)).mono ?_); rw [← HM.out, szr_pos HC.out]; rintro e w2 ⟨rfl, hb⟩; have HB2 := amZ (zcY HB.out hb); have HR2 := amZ (Kd.C_below HR1.out hb); obtain ⟨hc2, hf2⟩ := bcell hb; clear hb)) | (go_at_call 14; ((with_reducible refine (szProtoS_calls A1 c1 ps (1048576 - (m : Int)) _ HR2.out HN1.out H1.out H2.out).mono ?_); rw [← HN.out, ← HRr.out]; rintro e w3 ⟨rfl, hb⟩; have HB3 := amZ (zcY HB2.out hb); clear hb)))
   go_ret
   exact ⟨ret_i64 (by rw [HRr.out, hS.out]; exact szr_add _ _ HC.out), HB3.out⟩
  ·
   have f0 : r = -1 := by rw [hr, szr_neg (by omega)]
   have HF := amZ f0
   clear c c2 hr
   go_enter Tryd.func4, Tryd.ntmps4
   go_wp2_with (first | (go_at_call 13; ((with_reducible refine (szConstS_calls A0 c0 cs 1048576 _ HR0.out HN0.out (by decide) (by decide)).mono ?_); rw [← HM.out, szr_pos HC.out]; rintro e w2 ⟨rfl, hb⟩; have HB2 := amZ (zcY HB.out hb); have HR2 := amZ (Kd.C_below HR1.out hb); obtain ⟨hc2, hf2⟩ := bcell hb; clear hb)) | (go_at_call 14; ((with_reducible refine (szProtoS_calls A1 c1 ps (1048576 - (m : Int)) _ HR2.out HN1.out H1.out H2.out).mono ?_); rw [← HN.out, ← HRr.out, HF.out]; rintro e w3 ⟨rfl, hb⟩; have HB3 := amZ (zcY HB2.out hb); clear hb)))
   go_ret
   exact ⟨ret_i64 (by rw [hS.out, ← szr_add _ _ HC.out, ← HRr.out, HF.out]), HB3.out⟩
 ·
  have HC := amZ (Int.not_le.1 c)
  clear c
  go_enter Tryd.func4, Tryd.ntmps4
  go_wp2_with (go_at_call 13; ((with_reducible refine (szConstS_calls A0 c0 cs 1048576 _ HR0.out HN0.out (by decide) (by decide)).mono ?_); rw [← HM.out, szr_neg HC.out]; rintro e w2 ⟨rfl, hb⟩; have HB2 := amZ (zcY HB.out hb); clear hb))
  go_ret
  exact ⟨ret_i64 (by rw [hS.out, szr_big HC.out]), HB2.out⟩
end Go.Proofs.YtmmpiojekgfdjaaDoor.C
