/- Comparisons, sizes, marks. -/
import Derived.Test.YtmmpiojekgfdjaaZlV0
import Derived.Test.YtmmpiojekgfdjaaZlK
namespace Go.Proofs.Ytmmpiojekgfdjaa.C
open Go.RowKit YtmmpiojekgfdjaaW.PrintWords YtmmpiojekgfdjaaW.PrintLast
set_option linter.unusedVariables false
set_option linter.unusedSimpArgs false
theorem bcell {W w1 : World} (hb : Below W.heap.size W w1) : (∀ b o, b < W.heap.size → w1.cell? ⟨b, o, none⟩ = W.cell? ⟨b, o, none⟩) ∧ (∀ b o, b < W.heap.size → w1.frozen? ⟨b, o, none⟩ = W.frozen? ⟨b, o, none⟩) :=
 ⟨fun b o h => hb.cell (p := ⟨b, o, none⟩) h, fun b o h => hb.frozen (p := ⟨b, o, none⟩) h⟩
set_option maxHeartbeats 4000000 in
set_option maxRecDepth 100000 in
theorem eqByteS_same (A0 A1 : Option Addr) (c0 c1 : Nat) (l : List Int) (w : World) (h0 : Kd.C (Kd.int .u8) w A0 l.length l) (h1 : Kd.C (Kd.int .u8) w A1 l.length l) :
  Calls Try.prog 14 #[.slice A0 l.length c0, .slice A1 l.length c1] w fun e w' => e = .returned (.bool true) ∧ Below w.heap.size w w' := by
 have HM := amZ h0.2.1
 have H0 := amZ h0
 have H1 := amZ h1
 clear h0 h1
 go_enter Try.func14, Try.ntmps14
 go_wp2
 go_loopg [5] l.length (fun g v wr => ∃ j : Nat, v = .int .i64 (j : Int) ∧ Aside0 (j + g = l.length) ∧ Aside0 (Below w.heap.size w wr))
 case atStart => exact ⟨0, rfl, ⟨by omega⟩, ⟨Below.refl _ _⟩⟩
 case round =>
  obtain ⟨j, rfl, hj, HB⟩ := hrel
  by_cases hlt : j < l.length
  ·
   have p : 0 ≤ (j : Int) := by omega
   have q : (j : Int) < (l.length : Int) := by omega
   obtain ⟨ad, _, e, _, hK, hx⟩ := Kd.C_get H0.out (0 : Int) (j : Int) p q
   cases e
   cases hK
   obtain ⟨ad', _, e, _, hK, hy⟩ := Kd.C_get H1.out (0 : Int) (j : Int) p q
   cases e
   cases hK
   have hx0 := hx 0 _ rfl
   have hy0 := hy 0 _ rfl
   clear hx hy
   simp only [show (Kd.int .u8).sz = 1 from rfl, Int.toNat_natCast, Nat.mul_one, Nat.add_zero] at hx0 hy0
   have FX0 := cellB (zcY HB.out hx0)
   have FY0 := cellB (zcY HB.out hy0)
   have hdl : decide ((j : Int) < (l.length : Int)) = true := decide_eq_true q
   have hdn : decide (j < l.length) = true := decide_eq_true hlt
   replace p := eq_true p
   replace q := eq_true q
   have HL := amZ hlt
   clear hlt hx0 hy0
   go_wp2
   refine wp_region_below (by kernel_rfl) (by kernel_rfl) ?_
   repeat (go_big_quiet_step ((first | (intro hC; with_reducible rfl) | (intro hC; simp [go_sem, FX0 _ hC, FY0 _ hC]; with_reducible rfl))))
   refine wpQuiet_nil ?_
   intro W' hW'
   go_wp2_with fail
   go_roundg (l.length - (j + 1))
   case measure => have := hj.out; have := HL.out; omega
   case rel => exact ⟨j + 1, i64_next HL.out HM.out, ⟨by have := HL.out; omega⟩, ⟨zdY HB.out hW'⟩⟩
  ·
   have hdl : decide ((j : Int) < (l.length : Int)) = false := decide_eq_false (by omega)
   have hdn : decide (j < l.length) = false := decide_eq_false hlt
   clear hlt
   go_wp2
   go_ret
   exact ⟨rfl, HB.out⟩
set_option maxHeartbeats 4000000 in
set_option maxRecDepth 100000 in
theorem eqCapture_same (x : S54) (w : World) : Calls Try.prog 95 #[.agg #[.bool x.f0, .int .i64 x.f1], .agg #[.bool x.f0, .int .i64 x.f1]] w fun e w' => e = .returned (.bool true) ∧ Below w.heap.size w w' := by
 have HB := amZ ((((Below.refl w.heap.size w).alloc (Nat.le_refl _) (.cells #[.bool x.f0, .int .i64 x.f1] 54)).alloc (by simp) (.cells #[.bool x.f0, .int .i64 x.f1] 54)))
 go_enter Try.func95, Try.ntmps95
 go_wp2
 go_ret
 exact ⟨rfl, HB.out⟩
set_option maxHeartbeats 4000000 in
set_option maxRecDepth 100000 in
theorem eqCaptureS_same (A0 A1 : Option Addr) (c0 c1 : Nat) (l : List S54) (w : World) (h0 : Kd.C k54 w A0 l.length l) (h1 : Kd.C k54 w A1 l.length l) :
  Calls Try.prog 91 #[.slice A0 l.length c0, .slice A1 l.length c1] w fun e w' => e = .returned (.bool true) ∧ Below w.heap.size w w' := by
 have HM := amZ h0.2.1
 have H0 := amZ h0
 have H1 := amZ h1
 clear h0 h1
 go_enter Try.func91, Try.ntmps91
 go_wp2
 go_loopg [5] l.length (fun g v wr => ∃ j : Nat, v = .int .i64 (j : Int) ∧ Aside0 (j + g = l.length) ∧ Aside0 (Below w.heap.size w wr))
 case atStart => exact ⟨0, rfl, ⟨by omega⟩, ⟨Below.refl _ _⟩⟩
 case round =>
  obtain ⟨j, rfl, hj, HB⟩ := hrel
  by_cases hlt : j < l.length
  ·
   have p : 0 ≤ (j : Int) := by omega
   have q : (j : Int) < (l.length : Int) := by omega
   obtain ⟨adx, ex, hx0, hx1⟩ := at_T54 H0.out (j : Int) p q
   cases ex
   obtain ⟨ady, ey, hy0, hy1⟩ := at_T54 H1.out (j : Int) p q
   cases ey
   have hr : rd_T54 l (j : Int) = l[j] := getD_nat _ _ _ hlt
   rw [hr, Int.toNat_natCast] at hx0 hy0 hx1 hy1
   generalize l[j] = x at *
   clear hr
   have FX0 := cellB (zcY HB.out hx0)
   have FY0 := cellB (zcY HB.out hy0)
   have FX1 := cellB (zcY HB.out hx1)
   have FY1 := cellB (zcY HB.out hy1)
   have hdl : decide ((j : Int) < (l.length : Int)) = true := decide_eq_true q
   have hdn : decide (j < l.length) = true := decide_eq_true hlt
   replace p := eq_true p
   replace q := eq_true q
   have HL := amZ hlt
   clear hlt hx0 hy0 hx1 hy1
   go_wp2
   refine wp_region_below (by kernel_rfl) (by kernel_rfl) ?_
   repeat (go_big_quiet_step ((first | (intro hC; with_reducible rfl) | (intro hC; go_at_call 95; ((with_reducible refine (eqCapture_same x _ ).mono ?_); rintro e w' ⟨rfl, hb⟩; exact ⟨rfl, zdY hC hb⟩)) | (intro hC; simp [go_sem, FX0 _ hC, FY0 _ hC, FX1 _ hC, FY1 _ hC]; with_reducible rfl))))
   refine wpQuiet_nil ?_
   intro W' hW'
   go_wp2_with fail
   go_roundg (l.length - (j + 1))
   case measure => have := hj.out; have := HL.out; omega
   case rel => exact ⟨j + 1, i64_next HL.out HM.out, ⟨by have := HL.out; omega⟩, ⟨zdY HB.out hW'⟩⟩
  ·
   have hdl : decide ((j : Int) < (l.length : Int)) = false := decide_eq_false (by omega)
   have hdn : decide (j < l.length) = false := decide_eq_false hlt
   clear hlt
   go_wp2
   go_ret
   exact ⟨rfl, HB.out⟩
set_option maxHeartbeats 4000000 in
set_option maxRecDepth 100000 in
theorem eqIns_same (x : S57) (w : World) : Calls Try.prog 96 #[.agg #[.int .i64 x.f0, .int .i64 x.f1, .int .i64 x.f2], .agg #[.int .i64 x.f0, .int .i64 x.f1, .int .i64 x.f2]] w fun e w' => e = .returned (.bool true) ∧ Below w.heap.size w w' := by
 have HB := amZ ((((Below.refl w.heap.size w).alloc (Nat.le_refl _) (.cells #[.int .i64 x.f0, .int .i64 x.f1, .int .i64 x.f2] 57)).alloc (by simp) (.cells #[.int .i64 x.f0, .int .i64 x.f1, .int .i64 x.f2] 57)))
 go_enter Try.func96, Try.ntmps96
 go_wp2
 go_ret
 exact ⟨rfl, HB.out⟩
set_option maxHeartbeats 4000000 in
set_option maxRecDepth 100000 in
theorem eqInsS_same (A0 A1 : Option Addr) (c0 c1 : Nat) (l : List S57) (w : World) (h0 : Kd.C k57 w A0 l.length l) (h1 : Kd.C k57 w A1 l.length l) :
  Calls Try.prog 92 #[.slice A0 l.length c0, .slice A1 l.length c1] w fun e w' => e = .returned (.bool true) ∧ Below w.heap.size w w' := by
 have HM := amZ h0.2.1
 have H0 := amZ h0
 have H1 := amZ h1
 clear h0 h1
 go_enter Try.func92, Try.ntmps92
 go_wp2
 go_loopg [5] l.length (fun g v wr => ∃ j : Nat, v = .int .i64 (j : Int) ∧ Aside0 (j + g = l.length) ∧ Aside0 (Below w.heap.size w wr))
 case atStart => exact ⟨0, rfl, ⟨by omega⟩, ⟨Below.refl _ _⟩⟩
 case round =>
  obtain ⟨j, rfl, hj, HB⟩ := hrel
  by_cases hlt : j < l.length
  ·
   have p : 0 ≤ (j : Int) := by omega
   have q : (j : Int) < (l.length : Int) := by omega
   obtain ⟨adx, ex, hx0, hx1, hx2⟩ := at_T57 H0.out (j : Int) p q
   cases ex
   obtain ⟨ady, ey, hy0, hy1, hy2⟩ := at_T57 H1.out (j : Int) p q
   cases ey
   have hr : rd_T57 l (j : Int) = l[j] := getD_nat _ _ _ hlt
   rw [hr, Int.toNat_natCast] at hx0 hy0 hx1 hy1 hx2 hy2
   generalize l[j] = x at *
   clear hr
   have FX0 := cellB (zcY HB.out hx0)
   have FY0 := cellB (zcY HB.out hy0)
   have FX1 := cellB (zcY HB.out hx1)
   have FY1 := cellB (zcY HB.out hy1)
   have FX2 := cellB (zcY HB.out hx2)
   have FY2 := cellB (zcY HB.out hy2)
   have hdl : decide ((j : Int) < (l.length : Int)) = true := decide_eq_true q
   have hdn : decide (j < l.length) = true := decide_eq_true hlt
   replace p := eq_true p
   replace q := eq_true q
   have HL := amZ hlt
   clear hlt hx0 hy0 hx1 hy1 hx2 hy2
   go_wp2
   refine wp_region_below (by kernel_rfl) (by kernel_rfl) ?_
   repeat (go_big_quiet_step ((first | (intro hC; with_reducible rfl) | (intro hC; go_at_call 96; ((with_reducible refine (eqIns_same x _ ).mono ?_); rintro e w' ⟨rfl, hb⟩; exact ⟨rfl, zdY hC hb⟩)) | (intro hC; simp [go_sem, FX0 _ hC, FY0 _ hC, FX1 _ hC, FY1 _ hC, FX2 _ hC, FY2 _ hC]; with_reducible rfl))))
   refine wpQuiet_nil ?_
   intro W' hW'
   go_wp2_with fail
   go_roundg (l.length - (j + 1))
   case measure => have := hj.out; have := HL.out; omega
   case rel => exact ⟨j + 1, i64_next HL.out HM.out, ⟨by have := HL.out; omega⟩, ⟨zdY HB.out hW'⟩⟩
  ·
   have hdl : decide ((j : Int) < (l.length : Int)) = false := decide_eq_false (by omega)
   have hdn : decide (j < l.length) = false := decide_eq_false hlt
   clear hlt
   go_wp2
   go_ret
   exact ⟨rfl, HB.out⟩
set_option maxHeartbeats 4000000 in
set_option maxRecDepth 100000 in
theorem eqConst_same (x : S48) (X2 Y2 : Option Addr) (cX2 cY2 : Nat) (w : World) (hx2 : Kd.C (Kd.int .u8) w X2 x.f2.length x.f2) (hy2 : Kd.C (Kd.int .u8) w Y2 x.f2.length x.f2) : Calls Try.prog 65 #[.agg #[.bool x.f0, .int .i64 x.f1, .slice X2 x.f2.length cX2], .agg #[.bool x.f0, .int .i64 x.f1, .slice Y2 x.f2.length cY2]] w fun e w' => e = .returned (.bool true) ∧ Below w.heap.size w w' := by
 have HX2 := amZ hx2
 have HY2 := amZ hy2
 clear hx2 hy2
 have HB := amZ ((((Below.refl w.heap.size w).alloc (Nat.le_refl _) (.cells #[.bool x.f0, .int .i64 x.f1, .slice X2 x.f2.length cX2] 48)).alloc (by simp) (.cells #[.bool x.f0, .int .i64 x.f1, .slice Y2 x.f2.length cY2] 48)))
 go_enter Try.func65, Try.ntmps65
 go_wp2_with (first | (go_at_call 14; ((with_reducible refine (eqByteS_same _ _ _ _ x.f2 _ (Kd.C_below HX2.out HB.out) (Kd.C_below HY2.out HB.out)).mono ?_); rintro e w2 ⟨rfl, hb⟩; have HBn := amZ (zdY HB.out hb); clear HB; have HB := HBn; clear HBn; obtain ⟨hc2, hf2⟩ := bcell hb; have hz2 := hb.size; (try simp at hz2); clear hb)))
 go_ret
 exact ⟨rfl, HB.out⟩
set_option maxHeartbeats 4000000 in
set_option maxRecDepth 100000 in
theorem eqConstS_same (A0 A1 : Option Addr) (c0 c1 : Nat) (l : List S48) (w : World) (h0 : Kd.C k48 w A0 l.length l) (h1 : Kd.C k48 w A1 l.length l) :
  Calls Try.prog 35 #[.slice A0 l.length c0, .slice A1 l.length c1] w fun e w' => e = .returned (.bool true) ∧ Below w.heap.size w w' := by
 have HM := amZ h0.2.1
 have H0 := amZ h0
 have H1 := amZ h1
 clear h0 h1
 go_enter Try.func35, Try.ntmps35
 go_wp2
 go_loopg [5] l.length (fun g v wr => ∃ j : Nat, v = .int .i64 (j : Int) ∧ Aside0 (j + g = l.length) ∧ Aside0 (Below w.heap.size w wr))
 case atStart => exact ⟨0, rfl, ⟨by omega⟩, ⟨Below.refl _ _⟩⟩
 case round =>
  obtain ⟨j, rfl, hj, HB⟩ := hrel
  by_cases hlt : j < l.length
  ·
   have p : 0 ≤ (j : Int) := by omega
   have q : (j : Int) < (l.length : Int) := by omega
   obtain ⟨adx, Ax2, cx2, ex, hx0, hx1, hx2, lx2, gx2⟩ := at_T48 H0.out (j : Int) p q
   cases ex
   obtain ⟨ady, Ay2, cy2, ey, hy0, hy1, hy2, ly2, gy2⟩ := at_T48 H1.out (j : Int) p q
   cases ey
   have hr : rd_T48 l (j : Int) = l[j] := getD_nat _ _ _ hlt
   rw [hr, Int.toNat_natCast] at hx0 hy0 hx1 hy1 hx2 hy2
   rw [hr] at gx2 gy2
   generalize l[j] = x at *
   clear hr
   have FX0 := cellB (zcY HB.out hx0)
   have FY0 := cellB (zcY HB.out hy0)
   have FX1 := cellB (zcY HB.out hx1)
   have FY1 := cellB (zcY HB.out hy1)
   have FX2 := cellB (zcY HB.out hx2)
   have FY2 := cellB (zcY HB.out hy2)
   have GX2 := amZ (Kd.C_below gx2 HB.out)
   have GY2 := amZ (Kd.C_below gy2 HB.out)
   clear gx2 gy2 lx2 ly2
   have hdl : decide ((j : Int) < (l.length : Int)) = true := decide_eq_true q
   have hdn : decide (j < l.length) = true := decide_eq_true hlt
   replace p := eq_true p
   replace q := eq_true q
   have HL := amZ hlt
   clear hlt hx0 hy0 hx1 hy1 hx2 hy2
   go_wp2
   refine wp_region_below (by kernel_rfl) (by kernel_rfl) ?_
   repeat (go_big_quiet_step ((first | (intro hC; with_reducible rfl) | (intro hC; go_at_call 65; ((with_reducible refine (eqConst_same x _ _ _ _ _ (Kd.C_below GX2.out hC) (Kd.C_below GY2.out hC)).mono ?_); rintro e w' ⟨rfl, hb⟩; exact ⟨rfl, zdY hC hb⟩)) | (intro hC; simp [go_sem, FX0 _ hC, FY0 _ hC, FX1 _ hC, FY1 _ hC, FX2 _ hC, FY2 _ hC]; with_reducible rfl))))
   refine wpQuiet_nil ?_
   intro W' hW'
   go_wp2_with fail
   go_roundg (l.length - (j + 1))
   case measure => have := hj.out; have := HL.out; omega
   case rel => exact ⟨j + 1, i64_next HL.out HM.out, ⟨by have := HL.out; omega⟩, ⟨zdY HB.out hW'⟩⟩
  ·
   have hdl : decide ((j : Int) < (l.length : Int)) = false := decide_eq_false (by omega)
   have hdn : decide (j < l.length) = false := decide_eq_false hlt
   clear hlt
   go_wp2
   go_ret
   exact ⟨rfl, HB.out⟩
set_option maxHeartbeats 4000000 in
set_option maxRecDepth 100000 in
theorem eqProto_same (x : S52) (X2 Y2 : Option Addr) (cX2 cY2 : Nat) (X3 Y3 : Option Addr) (cX3 cY3 : Nat) (w : World) (hx2 : Kd.C k54 w X2 x.f2.length x.f2) (hy2 : Kd.C k54 w Y2 x.f2.length x.f2) (hx3 : Kd.C k57 w X3 x.f3.length x.f3) (hy3 : Kd.C k57 w Y3 x.f3.length x.f3) : Calls Try.prog 66 #[.agg #[.int .i64 x.f0, .int .i64 x.f1, .slice X2 x.f2.length cX2, .slice X3 x.f3.length cX3], .agg #[.int .i64 x.f0, .int .i64 x.f1, .slice Y2 x.f2.length cY2, .slice Y3 x.f3.length cY3]] w fun e w' => e = .returned (.bool true) ∧ Below w.heap.size w w' := by
 have HX2 := amZ hx2
 have HY2 := amZ hy2
 have HX3 := amZ hx3
 have HY3 := amZ hy3
 clear hx2 hy2 hx3 hy3
 have HB := amZ ((((Below.refl w.heap.size w).alloc (Nat.le_refl _) (.cells #[.int .i64 x.f0, .int .i64 x.f1, .slice X2 x.f2.length cX2, .slice X3 x.f3.length cX3] 52)).alloc (by simp) (.cells #[.int .i64 x.f0, .int .i64 x.f1, .slice Y2 x.f2.length cY2, .slice Y3 x.f3.length cY3] 52)))
 go_enter Try.func66, Try.ntmps66
 go_wp2_with (first | (go_at_call 91; ((with_reducible refine (eqCaptureS_same _ _ _ _ x.f2 _ (Kd.C_below HX2.out HB.out) (Kd.C_below HY2.out HB.out)).mono ?_); rintro e w2 ⟨rfl, hb⟩; have HBn := amZ (zdY HB.out hb); clear HB; have HB := HBn; clear HBn; obtain ⟨hc2, hf2⟩ := bcell hb; have hz2 := hb.size; (try simp at hz2); clear hb)) | (go_at_call 92; ((with_reducible refine (eqInsS_same _ _ _ _ x.f3 _ (Kd.C_below HX3.out HB.out) (Kd.C_below HY3.out HB.out)).mono ?_); rintro e w3 ⟨rfl, hb⟩; have HBn := amZ (zdY HB.out hb); clear HB; have HB := HBn; clear HBn; obtain ⟨hc3, hf3⟩ := bcell hb; have hz3 := hb.size; (try simp at hz3); clear hb)))
 go_ret
 exact ⟨rfl, HB.out⟩
set_option maxHeartbeats 4000000 in
set_option maxRecDepth 100000 in
theorem eqProtoS_same (A0 A1 : Option Addr) (c0 c1 : Nat) (l : List S52) (w : World) (h0 : Kd.C k52 w A0 l.length l) (h1 : Kd.C k52 w A1 l.length l) :
  Calls Try.prog 36 #[.slice A0 l.length c0, .slice A1 l.length c1] w fun e w' => e = .returned (.bool true) ∧ Below w.heap.size w w' := by
 have HM := amZ h0.2.1
 have H0 := amZ h0
 have H1 := amZ h1
 clear h0 h1
 go_enter Try.func36, Try.ntmps36
 go_wp2
 go_loopg [5] l.length (fun g v wr => ∃ j : Nat, v = .int .i64 (j : Int) ∧ Aside0 (j + g = l.length) ∧ Aside0 (Below w.heap.size w wr))
 case atStart => exact ⟨0, rfl, ⟨by omega⟩, ⟨Below.refl _ _⟩⟩
 case round =>
  obtain ⟨j, rfl, hj, HB⟩ := hrel
  by_cases hlt : j < l.length
  ·
   have p : 0 ≤ (j : Int) := by omega
   have q : (j : Int) < (l.length : Int) := by omega
   obtain ⟨adx, Ax2, cx2, Ax3, cx3, ex, hx0, hx1, hx2, hx3, lx2, gx2, lx3, gx3⟩ := at_T52 H0.out (j : Int) p q
   cases ex
   obtain ⟨ady, Ay2, cy2, Ay3, cy3, ey, hy0, hy1, hy2, hy3, ly2, gy2, ly3, gy3⟩ := at_T52 H1.out (j : Int) p q
   cases ey
   have hr : rd_T52 l (j : Int) = l[j] := getD_nat _ _ _ hlt
   rw [hr, Int.toNat_natCast] at hx0 hy0 hx1 hy1 hx2 hy2 hx3 hy3
   rw [hr] at gx2 gy2 gx3 gy3
   generalize l[j] = x at *
   clear hr
   have FX0 := cellB (zcY HB.out hx0)
   have FY0 := cellB (zcY HB.out hy0)
   have FX1 := cellB (zcY HB.out hx1)
   have FY1 := cellB (zcY HB.out hy1)
   have FX2 := cellB (zcY HB.out hx2)
   have FY2 := cellB (zcY HB.out hy2)
   have FX3 := cellB (zcY HB.out hx3)
   have FY3 := cellB (zcY HB.out hy3)
   have GX2 := amZ (Kd.C_below gx2 HB.out)
   have GY2 := amZ (Kd.C_below gy2 HB.out)
   clear gx2 gy2 lx2 ly2
   have GX3 := amZ (Kd.C_below gx3 HB.out)
   have GY3 := amZ (Kd.C_below gy3 HB.out)
   clear gx3 gy3 lx3 ly3
   have hdl : decide ((j : Int) < (l.length : Int)) = true := decide_eq_true q
   have hdn : decide (j < l.length) = true := decide_eq_true hlt
   replace p := eq_true p
   replace q := eq_true q
   have HL := amZ hlt
   clear hlt hx0 hy0 hx1 hy1 hx2 hy2 hx3 hy3
   go_wp2
   refine wp_region_below (by kernel_rfl) (by kernel_rfl) ?_
   repeat (go_big_quiet_step ((first | (intro hC; with_reducible rfl) | (intro hC; go_at_call 66; ((with_reducible refine (eqProto_same x _ _ _ _ _ _ _ _ _ (Kd.C_below GX2.out hC) (Kd.C_below GY2.out hC) (Kd.C_below GX3.out hC) (Kd.C_below GY3.out hC)).mono ?_); rintro e w' ⟨rfl, hb⟩; exact ⟨rfl, zdY hC hb⟩)) | (intro hC; simp [go_sem, FX0 _ hC, FY0 _ hC, FX1 _ hC, FY1 _ hC, FX2 _ hC, FY2 _ hC, FX3 _ hC, FY3 _ hC]; with_reducible rfl))))
   refine wpQuiet_nil ?_
   intro W' hW'
   go_wp2_with fail
   go_roundg (l.length - (j + 1))
   case measure => have := hj.out; have := HL.out; omega
   case rel => exact ⟨j + 1, i64_next HL.out HM.out, ⟨by have := HL.out; omega⟩, ⟨zdY HB.out hW'⟩⟩
  ·
   have hdl : decide ((j : Int) < (l.length : Int)) = false := decide_eq_false (by omega)
   have hdn : decide (j < l.length) = false := decide_eq_false hlt
   clear hlt
   go_wp2
   go_ret
   exact ⟨rfl, HB.out⟩
set_option maxHeartbeats 4000000 in
set_option maxRecDepth 100000 in
theorem eqProgram_same (cs : List S48) (ps : List S52) (X0 Y0 X1 Y1 : Option Addr) (cX0 cY0 cX1 cY1 : Nat) (w : World) (hx0 : Kd.C k48 w X0 cs.length cs) (hy0 : Kd.C k48 w Y0 cs.length cs) (hx1 : Kd.C k52 w X1 ps.length ps) (hy1 : Kd.C k52 w Y1 ps.length ps) :
  Calls Try.prog 11 #[.agg #[.slice X0 cs.length cX0, .slice X1 ps.length cX1], .agg #[.slice Y0 cs.length cY0, .slice Y1 ps.length cY1]] w fun e w' => e = .returned (.bool true) ∧ Below w.heap.size w w' := by
 have HX0 := amZ hx0
 have HY0 := amZ hy0
 have HX1 := amZ hx1
 have HY1 := amZ hy1
 clear hx0 hy0 hx1 hy1
 have HB := amZ ((((Below.refl w.heap.size w).alloc (Nat.le_refl _) (.cells #[.slice X0 cs.length cX0, .slice X1 ps.length cX1] 31)).alloc (by simp) (.cells #[.slice Y0 cs.length cY0, .slice Y1 ps.length cY1] 31)))
 go_enter Try.func11, Try.ntmps11
 go_wp2_with (first | (go_at_call 35; ((with_reducible refine (eqConstS_same _ _ _ _ cs _ (Kd.C_below HX0.out HB.out) (Kd.C_below HY0.out HB.out)).mono ?_); rintro e w2 ⟨rfl, hb⟩; have HBn := amZ (zdY HB.out hb); clear HB; have HB := HBn; clear HBn; obtain ⟨hc2, hf2⟩ := bcell hb; have hz2 := hb.size; (try simp at hz2); clear hb)) | (go_at_call 36; ((with_reducible refine (eqProtoS_same _ _ _ _ ps _ (Kd.C_below HX1.out HB.out) (Kd.C_below HY1.out HB.out)).mono ?_); rintro e w3 ⟨rfl, hb⟩; have HBn := amZ (zdY HB.out hb); clear HB; have HB := HBn; clear HBn; clear hb)))
 go_ret
 exact ⟨rfl, HB.out⟩
theorem set_mid {α : Type} (a b : List α) (x y : α) (i : Nat) (h : a.length = i) : (a ++ x :: b).set i y = (a ++ [y]) ++ b := by
 subst h
 rw [List.set_append_right _ _ (Nat.le_refl _), Nat.sub_self, List.set_cons_zero, List.append_assoc]; rfl
theorem grown_trans {a b c : World} {row : Option Nat} (h : a.grownBy b row) (k : b.grownBy c row) : a.grownBy c row :=
 ⟨k.os.trans h.os, k.tape.trans h.tape, k.output.trans h.output, Nat.le_trans h.size k.size, fun i hi hn => (k.block i (Nat.lt_of_lt_of_le hi h.size) hn).trans (h.block i hi hn)⟩
theorem i64_num {a b : Int} (h : a = b) : Value.int .i64 a = .int .i64 b := by rw [h]
def markByteSL : Nat → Int → List Int
 | 0, _ => []
 | n + 1, k => (k % 256) :: markByteSL n (k + 1)
theorem markByteSL_length : ∀ n k, (markByteSL n k).length = n
 | 0, _ => rfl
 | n + 1, k => by simp [markByteSL, markByteSL_length n]
theorem markByteSL_snoc : ∀ n k, markByteSL (n + 1) k = markByteSL n k ++ [(k + n) % 256]
 | 0, k => by simp [markByteSL]
 | n + 1, k => by
  rw [markByteSL, markByteSL_snoc n (k + 1), markByteSL]
  rw [show k + 1 + (n : Int) = k + ((n + 1 : Nat) : Int) by omega]
  rfl
set_option maxHeartbeats 4000000 in
set_option maxRecDepth 100000 in
theorem markByteS_calls (base : Nat) (ok : Nat → Prop) (v : Value) (l : List Int) (k : Int) (w : World) (hr : Kd.R (Kd.int .u8) 5 w base ok v l) (h0 : 0 ≤ k) (h1 : k + l.length ≤ 1099511627776) :
  Calls Try.prog 16 #[v, .int .i64 k] w fun e w' => e = .returned (.int .i64 (k + l.length)) ∧ Kd.R (Kd.int .u8) 5 w' base ok v (markByteSL l.length k) ∧ w.grownBy w' v.ownBlock := by
 have HK0 := amZ h0
 have HK1 := amZ h1
 by_cases hl : l.length = 0
 ·
  obtain rfl : l = [] := List.length_eq_zero_iff.1 hl
  obtain ⟨A, c, e⟩ := Kd.R_slice hr
  subst e
  have HR := amZ hr
  clear hr hl h0 h1
  go_enter Try.func16, Try.ntmps16
  go_wp2
  go_loopg [1, 5] 0 (fun g v1 v5 wr => v1 = .int .i64 k ∧ v5 = .int .i64 0 ∧ w = wr)
  case atStart => exact ⟨rfl, rfl, rfl⟩
  case round =>
   obtain ⟨rfl, rfl, rfl⟩ := hrel
   go_wp2
   go_ret
   exact ⟨ret_i64 (by simp), by simpa [markByteSL] using HR.out, ⟨rfl, rfl, rfl, Nat.le_refl _, fun _ _ _ => rfl⟩⟩
 obtain ⟨g, cap, e, _, _, _⟩ := Kd.R_form hr (by omega)
 subst e
 have HM := amZ (Kd.R_reads' hr).2.2.2.1
 have HR := amZ hr
 clear hr hl h0 h1
 go_enter Try.func16, Try.ntmps16
 go_wp2
 go_loopg [1, 5] l.length (fun gg v1 v5 wr => ∃ j : Nat, v1 = .int .i64 (k + (j : Int)) ∧ v5 = .int .i64 (j : Int) ∧ Aside0 (j + gg = l.length) ∧ Aside0 (Kd.R (Kd.int .u8) 5 wr base ok (.slice (some ⟨g, 0, none⟩) l.length cap) (markByteSL j k ++ l.drop j)) ∧ Aside0 (w.grownBy wr (some g)))
 case atStart => exact ⟨0, i64_num (by simp), rfl, ⟨by omega⟩, ⟨by simpa [markByteSL] using HR.out⟩, ⟨rfl, rfl, rfl, Nat.le_refl _, fun _ _ _ => rfl⟩⟩
 case round =>
  obtain ⟨j, rfl, rfl, hj, hR, hG⟩ := hrel
  by_cases hlt : j < l.length
  ·
   have p : 0 ≤ (j : Int) := by omega
   have q : (j : Int) < (l.length : Int) := by omega
   obtain ⟨hx0, hf0⟩ := Kd.R_celln (0 : Int) hR.out (j : Int) p q
   have hd : l.drop j = l[j] :: l.drop (j + 1) := List.drop_eq_getElem_cons hlt
   have hset : (markByteSL j k ++ l.drop j).set (j : Int).toNat ((k + (j : Int)) % 256) = markByteSL (j + 1) k ++ l.drop (j + 1) := by
    rw [hd, Int.toNat_natCast, set_mid _ _ _ _ _ (markByteSL_length _ _), markByteSL_snoc]
   have hlen : (markByteSL j k ++ l.drop j).length = l.length := by simp [markByteSL_length]; omega
   have hseg := Kd.R_putn hR.out (j : Int) ((k + (j : Int)) % 256)
   have hgr := (Kd.R_put (xs := markByteSL j k ++ l.drop j) (cap := cap) (by rw [hlen]; exact hR.out) (j : Int) ((k + (j : Int)) % 256)).2
   rw [hset] at hseg
   rw [Int.toNat_natCast] at hx0 hf0 hseg hgr
   have HS := amZ hseg
   have HGR := amZ hgr
   have HL := amZ hlt
   have k0 : 0 ≤ k + (j : Int) := by have := HK0.out; omega
   have k1 : k + (j : Int) + 1 ≤ 1099511627776 := by have := HK1.out; omega
   have hdl : decide ((j : Int) < (l.length : Int)) = true := decide_eq_true q
   have hdn : decide (j < l.length) = true := decide_eq_true hlt
   have HG2 := amZ hG.out
   generalize hkj : k + (j : Int) = kj at *
   have HKJ := amZ hkj
   replace p := eq_true p
   replace q := eq_true q
   clear hd hset hseg hgr hlen hlt hR hG hkj
   go_wp2
   go_roundg (l.length - (j + 1))
   case measure => have := hj.out; have := HL.out; omega
   case rel => exact ⟨j + 1, i64_num (by have := HKJ.out; omega), i64_next HL.out HM.out, ⟨by have := HL.out; omega⟩, ⟨HS.out⟩, ⟨grown_trans HG2.out HGR.out⟩⟩
  ·
   have hdl : decide ((j : Int) < (l.length : Int)) = false := decide_eq_false (by omega)
   have hdn : decide (j < l.length) = false := decide_eq_false hlt
   have hjl : j = l.length := by have := hj.out; omega
   have HJ := amZ hjl
   clear hlt hjl
   go_wp2
   go_ret
   have e := HJ.out
   subst e
   exact ⟨rfl, by simpa using hR.out, hG.out⟩
def markCaptureSE (k : Int) : S54 := ⟨k % 3 == 0, k + 1⟩
def markCaptureSL : Nat → Int → List S54
 | 0, _ => []
 | n + 1, k => markCaptureSE k :: markCaptureSL n (k + 2)
theorem markCaptureSL_length : ∀ n k, (markCaptureSL n k).length = n
 | 0, _ => rfl
 | n + 1, k => by simp [markCaptureSL, markCaptureSL_length n]
theorem markCaptureSL_snoc : ∀ n k, markCaptureSL (n + 1) k = markCaptureSL n k ++ [markCaptureSE (k + 2 * n)]
 | 0, k => by simp [markCaptureSL]
 | n + 1, k => by
  rw [markCaptureSL, markCaptureSL_snoc n (k + 2), markCaptureSL]
  rw [show k + 2 + 2 * (n : Int) = k + 2 * ((n + 1 : Nat) : Int) by omega]
  rfl
set_option maxHeartbeats 4000000 in
set_option maxRecDepth 100000 in
theorem markCaptureS_calls (base : Nat) (ok : Nat → Prop) (v : Value) (l : List S54) (k : Int) (w : World) (hr : Kd.R k54 54 w base ok v l) (h0 : 0 ≤ k) (h1 : k + 2 * l.length ≤ 1099511627776) :
  Calls Try.prog 69 #[v, .int .i64 k] w fun e w' => e = .returned (.int .i64 (k + 2 * l.length)) ∧ Kd.R k54 54 w' base ok v (markCaptureSL l.length k) ∧ w.grownBy w' v.ownBlock := by
 have HK0 := amZ h0
 have HK1 := amZ h1
 by_cases hl : l.length = 0
 ·
  obtain rfl : l = [] := List.length_eq_zero_iff.1 hl
  obtain ⟨A, c, e⟩ := Kd.R_slice hr
  subst e
  have HR := amZ hr
  clear hr hl h0 h1
  go_enter Try.func69, Try.ntmps69
  go_wp2
  go_loopg [1, 5] 0 (fun g v1 v5 wr => v1 = .int .i64 k ∧ v5 = .int .i64 0 ∧ w = wr)
  case atStart => exact ⟨rfl, rfl, rfl⟩
  case round =>
   obtain ⟨rfl, rfl, rfl⟩ := hrel
   go_wp2
   go_ret
   exact ⟨ret_i64 (by simp), by simpa [markCaptureSL] using HR.out, ⟨rfl, rfl, rfl, Nat.le_refl _, fun _ _ _ => rfl⟩⟩
 obtain ⟨g, cap, e, _, _, _⟩ := Kd.R_form hr (by omega)
 subst e
 have HM := amZ (Kd.R_reads' hr).2.2.2.1
 have HR := amZ hr
 clear hr hl h0 h1
 go_enter Try.func69, Try.ntmps69
 go_wp2
 go_loopg [1, 5] l.length (fun gg v1 v5 wr => ∃ j : Nat, v1 = .int .i64 (k + 2 * j) ∧ v5 = .int .i64 (j : Int) ∧ Aside0 (j + gg = l.length) ∧ Aside0 (Kd.R k54 54 wr base ok (.slice (some ⟨g, 0, none⟩) l.length cap) (markCaptureSL j k ++ l.drop j)) ∧ Aside0 (w.grownBy wr (some g)))
 case atStart => exact ⟨0, i64_num (by simp), rfl, ⟨by omega⟩, ⟨by simpa [markCaptureSL] using HR.out⟩, ⟨rfl, rfl, rfl, Nat.le_refl _, fun _ _ _ => rfl⟩⟩
 case round =>
  obtain ⟨j, rfl, rfl, hj, hR, hG⟩ := hrel
  by_cases hlt : j < l.length
  ·
   have p : 0 ≤ (j : Int) := by omega
   have q : (j : Int) < (l.length : Int) := by omega
   obtain ⟨c, hcl, hM, hcc, hfr⟩ := Kd.R_elem hR.out z54 (j : Int) p q
   have hg : (markCaptureSL j k ++ l.drop j).getD (j : Int).toNat z54 = l[j] := by
    rw [getD_nat _ _ _ (by simp [markCaptureSL_length]; omega), List.getElem_append_right (by simp [markCaptureSL_length])]
    simp [markCaptureSL_length]
   rw [hg] at hM
   have hcs := k54_openM hM
   have hd : l.drop j = l[j] :: l.drop (j + 1) := List.drop_eq_getElem_cons hlt
   have hset : (markCaptureSL j k ++ l.drop j).set (j : Int).toNat (markCaptureSE (k + 2 * j)) = markCaptureSL (j + 1) k ++ l.drop (j + 1) := by
    rw [hd, Int.toNat_natCast, set_mid _ _ _ _ _ (markCaptureSL_length _ _), markCaptureSL_snoc]
   have hseg := Kd.R_seg hR.out (j : Int) p q (seg := [.bool ((k + 2 * (j : Int)) % 3 == 0), .int .i64 ((k + 2 * (j : Int)) + 1)]) (j := 0) (x' := markCaptureSE (k + 2 * j)) (okp := fun _ => False) hcl hcc (by show _ ≤ k54.sz; exact Nat.le_refl 2) (by subst hcs; exact k54_mkM _ _ _ _) (fun _ h => h.elim)
   rw [hset] at hseg
   subst hcs
   generalize l[j] = x at *
   have hx0 := hcc 0 _ rfl
   have hf0 := hfr 0
   have hx1 := hcc 1 _ rfl
   have hf1 := hfr 1
   simp only [show k54.sz = 2 from rfl, Int.toNat_natCast, Nat.add_zero] at hx0 hf0 hx1 hf1
   have HS := amZ hseg
   have HL := amZ hlt
   have k0 : 0 ≤ k + 2 * (j : Int) := by have := HK0.out; omega
   have k1 : k + 2 * (j : Int) + 2 ≤ 1099511627776 := by have := HK1.out; omega
   have hdl : decide ((j : Int) < (l.length : Int)) = true := decide_eq_true q
   have hdn : decide (j < l.length) = true := decide_eq_true hlt
   have HG2 := amZ hG.out
   generalize hkj : k + 2 * (j : Int) = kj at *
   have HKJ := amZ hkj
   replace p := eq_true p
   replace q := eq_true q
   clear hcl hM hcc hfr hg hd hset hseg hlt hR hG hkj
   go_wp2
   go_roundg (l.length - (j + 1))
   case measure => have := hj.out; have := HL.out; omega
   case rel => exact ⟨j + 1, i64_num (by have := HKJ.out; omega), i64_next HL.out HM.out, ⟨by have := HL.out; omega⟩, ⟨HS.out.1⟩, ⟨grown_trans HG2.out HS.out.2⟩⟩
  ·
   have hdl : decide ((j : Int) < (l.length : Int)) = false := decide_eq_false (by omega)
   have hdn : decide (j < l.length) = false := decide_eq_false hlt
   have hjl : j = l.length := by have := hj.out; omega
   have HJ := amZ hjl
   clear hlt hjl
   go_wp2
   go_ret
   have e := HJ.out
   subst e
   exact ⟨rfl, by simpa using hR.out, hG.out⟩
def markInsSE (k : Int) : S57 := ⟨k, k + 1, k + 1 + 1⟩
def markInsSL : Nat → Int → List S57
 | 0, _ => []
 | n + 1, k => markInsSE k :: markInsSL n (k + 3)
theorem markInsSL_length : ∀ n k, (markInsSL n k).length = n
 | 0, _ => rfl
 | n + 1, k => by simp [markInsSL, markInsSL_length n]
theorem markInsSL_snoc : ∀ n k, markInsSL (n + 1) k = markInsSL n k ++ [markInsSE (k + 3 * n)]
 | 0, k => by simp [markInsSL]
 | n + 1, k => by
  rw [markInsSL, markInsSL_snoc n (k + 3), markInsSL]
  rw [show k + 3 + 3 * (n : Int) = k + 3 * ((n + 1 : Nat) : Int) by omega]
  rfl
set_option maxHeartbeats 4000000 in
set_option maxRecDepth 100000 in
theorem markInsS_calls (base : Nat) (ok : Nat → Prop) (v : Value) (l : List S57) (k : Int) (w : World) (hr : Kd.R k57 57 w base ok v l) (h0 : 0 ≤ k) (h1 : k + 3 * l.length ≤ 1099511627776) :
  Calls Try.prog 70 #[v, .int .i64 k] w fun e w' => e = .returned (.int .i64 (k + 3 * l.length)) ∧ Kd.R k57 57 w' base ok v (markInsSL l.length k) ∧ w.grownBy w' v.ownBlock := by
 have HK0 := amZ h0
 have HK1 := amZ h1
 by_cases hl : l.length = 0
 ·
  obtain rfl : l = [] := List.length_eq_zero_iff.1 hl
  obtain ⟨A, c, e⟩ := Kd.R_slice hr
  subst e
  have HR := amZ hr
  clear hr hl h0 h1
  go_enter Try.func70, Try.ntmps70
  go_wp2
  go_loopg [1, 5] 0 (fun g v1 v5 wr => v1 = .int .i64 k ∧ v5 = .int .i64 0 ∧ w = wr)
  case atStart => exact ⟨rfl, rfl, rfl⟩
  case round =>
   obtain ⟨rfl, rfl, rfl⟩ := hrel
   go_wp2
   go_ret
   exact ⟨ret_i64 (by simp), by simpa [markInsSL] using HR.out, ⟨rfl, rfl, rfl, Nat.le_refl _, fun _ _ _ => rfl⟩⟩
 obtain ⟨g, cap, e, _, _, _⟩ := Kd.R_form hr (by omega)
 subst e
 have HM := amZ (Kd.R_reads' hr).2.2.2.1
 have HR := amZ hr
 clear hr hl h0 h1
 go_enter Try.func70, Try.ntmps70
 go_wp2
 go_loopg [1, 5] l.length (fun gg v1 v5 wr => ∃ j : Nat, v1 = .int .i64 (k + 3 * j) ∧ v5 = .int .i64 (j : Int) ∧ Aside0 (j + gg = l.length) ∧ Aside0 (Kd.R k57 57 wr base ok (.slice (some ⟨g, 0, none⟩) l.length cap) (markInsSL j k ++ l.drop j)) ∧ Aside0 (w.grownBy wr (some g)))
 case atStart => exact ⟨0, i64_num (by simp), rfl, ⟨by omega⟩, ⟨by simpa [markInsSL] using HR.out⟩, ⟨rfl, rfl, rfl, Nat.le_refl _, fun _ _ _ => rfl⟩⟩
 case round =>
  obtain ⟨j, rfl, rfl, hj, hR, hG⟩ := hrel
  by_cases hlt : j < l.length
  ·
   have p : 0 ≤ (j : Int) := by omega
   have q : (j : Int) < (l.length : Int) := by omega
   obtain ⟨c, hcl, hM, hcc, hfr⟩ := Kd.R_elem hR.out z57 (j : Int) p q
   have hg : (markInsSL j k ++ l.drop j).getD (j : Int).toNat z57 = l[j] := by
    rw [getD_nat _ _ _ (by simp [markInsSL_length]; omega), List.getElem_append_right (by simp [markInsSL_length])]
    simp [markInsSL_length]
   rw [hg] at hM
   have hcs := k57_openM hM
   have hd : l.drop j = l[j] :: l.drop (j + 1) := List.drop_eq_getElem_cons hlt
   have hset : (markInsSL j k ++ l.drop j).set (j : Int).toNat (markInsSE (k + 3 * j)) = markInsSL (j + 1) k ++ l.drop (j + 1) := by
    rw [hd, Int.toNat_natCast, set_mid _ _ _ _ _ (markInsSL_length _ _), markInsSL_snoc]
   have hseg := Kd.R_seg hR.out (j : Int) p q (seg := [.int .i64 ((k + 3 * (j : Int))), .int .i64 ((k + 3 * (j : Int)) + 1), .int .i64 ((k + 3 * (j : Int)) + 1 + 1)]) (j := 0) (x' := markInsSE (k + 3 * j)) (okp := fun _ => False) hcl hcc (by show _ ≤ k57.sz; exact Nat.le_refl 3) (by subst hcs; exact k57_mkM _ _ _ _) (fun _ h => h.elim)
   rw [hset] at hseg
   subst hcs
   generalize l[j] = x at *
   have hx0 := hcc 0 _ rfl
   have hf0 := hfr 0
   have hx1 := hcc 1 _ rfl
   have hf1 := hfr 1
   have hx2 := hcc 2 _ rfl
   have hf2 := hfr 2
   simp only [show k57.sz = 3 from rfl, Int.toNat_natCast, Nat.add_zero] at hx0 hf0 hx1 hf1 hx2 hf2
   have HS := amZ hseg
   have HL := amZ hlt
   have k0 : 0 ≤ k + 3 * (j : Int) := by have := HK0.out; omega
   have k1 : k + 3 * (j : Int) + 3 ≤ 1099511627776 := by have := HK1.out; omega
   have hdl : decide ((j : Int) < (l.length : Int)) = true := decide_eq_true q
   have hdn : decide (j < l.length) = true := decide_eq_true hlt
   have HG2 := amZ hG.out
   generalize hkj : k + 3 * (j : Int) = kj at *
   have HKJ := amZ hkj
   replace p := eq_true p
   replace q := eq_true q
   clear hcl hM hcc hfr hg hd hset hseg hlt hR hG hkj
   go_wp2
   go_roundg (l.length - (j + 1))
   case measure => have := hj.out; have := HL.out; omega
   case rel => exact ⟨j + 1, i64_num (by have := HKJ.out; omega), i64_next HL.out HM.out, ⟨by have := HL.out; omega⟩, ⟨HS.out.1⟩, ⟨grown_trans HG2.out HS.out.2⟩⟩
  ·
   have hdl : decide ((j : Int) < (l.length : Int)) = false := decide_eq_false (by omega)
   have hdn : decide (j < l.length) = false := decide_eq_false hlt
   have hjl : j = l.length := by have := hj.out; omega
   have HJ := amZ hjl
   clear hlt hjl
   go_wp2
   go_ret
   have e := HJ.out
   subst e
   exact ⟨rfl, by simpa using hR.out, hG.out⟩
structure Grew (ok : Nat → Prop) (w w' : World) : Prop where
 os : w'.os = w.os
 tape : w'.tape = w.tape
 output : w'.output = w.output
 size : w.heap.size ≤ w'.heap.size
 block : ∀ k, k < w.heap.size → ¬ ok k → w'.heap[k]? = w.heap[k]?
theorem Grew.refl (ok : Nat → Prop) (w : World) : Grew ok w w := ⟨rfl, rfl, rfl, Nat.le_refl _, fun _ _ _ => rfl⟩
theorem Grew.trans {ok : Nat → Prop} {a b c : World} (h : Grew ok a b) (k : Grew ok b c) : Grew ok a c :=
 ⟨k.os.trans h.os, k.tape.trans h.tape, k.output.trans h.output, Nat.le_trans h.size k.size, fun i hi hn => (k.block i (Nat.lt_of_lt_of_le hi h.size) hn).trans (h.block i hi hn)⟩
theorem Grew.mono {ok ok' : Nat → Prop} {w w' : World} (h : Grew ok w w') (hk : ∀ k, ok k → ok' k) : Grew ok' w w' := ⟨h.os, h.tape, h.output, h.size, fun k hl hn => h.block k hl (fun e => hn (hk k e))⟩
theorem Grew.of_grown {ok : Nat → Prop} {w w' : World} {row : Option Nat} (h : w.grownBy w' row) (hr : ∀ k, row = some k → ok k) : Grew ok w w' :=
 ⟨h.os, h.tape, h.output, h.size, fun k hk hn => h.block k hk (fun e => hn (hr k e.symm))⟩
theorem Grew.below {ok : Nat → Prop} {B : Nat} {w w' : World} (h : Grew ok w w') (hB : ∀ k, k < B → k < w.heap.size ∧ ¬ ok k) : Below B w w' := ⟨h.os, h.tape, h.output, h.size, fun k hk => h.block k (hB k hk).1 (hB k hk).2⟩
theorem Grew.R {α : Type} {d : Kd α} {e : Nat} {w w' : World} {base : Nat} {ok ok' : Nat → Prop} {v : Value} {xs : List α} (h : Grew ok w w') (hr : d.R e w base ok' v xs) (hn : ∀ k, ok' k → ¬ ok k) : d.R e w' base ok' v xs :=
 Kd.R_step hr (fun k hk hl => h.block k hl (hn k hk))
theorem Grew.S {α : Type} {d : Kd α} {e : Nat} {w w' : World} {base : Nat} {ok ok' : Nat → Prop} {v : Value} {xs : List α} (h : Grew ok w w') (hr : Kd.S d e w base ok' v xs) (hn : ∀ k, ok' k → ¬ ok k) : Kd.S d e w' base ok' v xs :=
 Kd.S_step hr (fun k hk hl => h.block k hl (hn k hk))
def mcE (x : S48) (k : Int) : S48 := ⟨k % 3 == 0, k + 1, markByteSL x.f2.length (k + 1 + 1)⟩
def mcN (x : S48) : Int := 2 + x.f2.length
def mcL : List S48 → Int → List S48
 | [], _ => []
 | x :: xs, k => mcE x k :: mcL xs (k + mcN x)
def mcS (l : List S48) : Int := (l.map mcN).sum
theorem mcN_pos (x : S48) : 0 ≤ mcN x := by unfold mcN; omega
theorem mcS_pos : ∀ l : List S48, 0 ≤ mcS l
 | [] => by simp [mcS]
 | x :: l => by have := mcS_pos l; have := mcN_pos x; simp only [mcS, List.map_cons, List.sum_cons] at *; omega
theorem mcL_length : ∀ (l : List S48) k, (mcL l k).length = l.length
 | [], _ => rfl
 | x :: l, k => by simp [mcL, mcL_length l]
theorem mcS_append (a b : List S48) : mcS (a ++ b) = mcS a + mcS b := by simp [mcS]
theorem mcS_snoc (l : List S48) (x : S48) : mcS (l ++ [x]) = mcS l + mcN x := by simp [mcS]
theorem mcL_snoc : ∀ (l : List S48) (x : S48) k, mcL (l ++ [x]) k = mcL l k ++ [mcE x (k + mcS l)]
 | [], x, k => by simp [mcL, mcS]
 | y :: l, x, k => by
  rw [List.cons_append, mcL, mcL_snoc l x, mcL, show k + mcN y + mcS l = k + mcS (y :: l) by simp [mcS]; omega]; rfl
theorem mcS_take (l : List S48) (j : Nat) (h : j < l.length) : mcS (l.take (j + 1)) = mcS (l.take j) + mcN l[j] := by rw [List.take_succ_eq_append_getElem h, mcS_snoc]
theorem mcS_le (l : List S48) (j : Nat) : mcS (l.take j) ≤ mcS l := by
 have e : mcS l = mcS (l.take j) + mcS (l.drop j) := by
  rw [← mcS_append, List.take_append_drop]
 have := mcS_pos (l.drop j); omega
set_option maxHeartbeats 8000000 in
set_option maxRecDepth 100000 in
theorem markConstS_calls (base : Nat) (ok : Nat → Prop) (v : Value) (l : List S48) (k : Int) (w : World) (hr : Kd.S k48 48 w base ok v l) (h0 : 0 ≤ k) (h1 : k + mcS l ≤ 1099511627776) :
  Calls Try.prog 41 #[v, .int .i64 k] w fun e w' => e = .returned (.int .i64 (k + mcS l)) ∧ Kd.S k48 48 w' base ok v (mcL l k) ∧ Grew ok w w' := by
 have HK0 := amZ h0
 have HK1 := amZ h1
 by_cases hl : l.length = 0
 ·
  obtain rfl : l = [] := List.length_eq_zero_iff.1 hl
  obtain ⟨A, c, e⟩ := Kd.S_slice hr
  subst e
  have HR := amZ hr
  clear hr hl h0 h1
  go_enter Try.func41, Try.ntmps41
  go_wp2
  go_loopg [1, 5] 0 (fun g v1 v5 wr => v1 = .int .i64 k ∧ v5 = .int .i64 0 ∧ w = wr)
  case atStart => exact ⟨rfl, rfl, rfl⟩
  case round =>
   obtain ⟨rfl, rfl, rfl⟩ := hrel
   go_wp2
   go_ret
   exact ⟨ret_i64 (by simp [mcS]), by simpa [mcL] using HR.out, Grew.refl _ _⟩
 obtain ⟨g, cap, e, _, _, _⟩ := Kd.S_form hr (by omega)
 subst e
 have HM := amZ (Kd.S_reads' hr).2.2.2.1
 have HOG := amZ ((Kd.S_R hr).1 g (by simp [Value.ownBlock]))
 have HR := amZ hr
 clear hr hl h0 h1
 go_enter Try.func41, Try.ntmps41
 go_wp2
 go_loopg [1, 5] l.length (fun gg v1 v5 wr => ∃ j : Nat, v1 = .int .i64 (k + mcS (l.take j)) ∧ v5 = .int .i64 (j : Int) ∧ Aside0 (j + gg = l.length) ∧ Aside0 (Kd.S k48 48 wr base ok (.slice (some ⟨g, 0, none⟩) l.length cap) (mcL (l.take j) k ++ l.drop j)) ∧ Aside0 (Grew ok w wr))
 case atStart => exact ⟨0, i64_num (by simp [mcS]), rfl, ⟨by omega⟩, ⟨by simpa [mcL] using HR.out⟩, ⟨Grew.refl _ _⟩⟩
 case round =>
  obtain ⟨j, rfl, rfl, hj, hR, hG⟩ := hrel
  by_cases hlt : j < l.length
  ·
   have p : 0 ≤ (j : Int) := by omega
   have q : (j : Int) < (l.length : Int) := by omega
   obtain ⟨oki, c, hcl, hM, hcc, hfr, hoki, hH⟩ := Kd.S_elem hR.out z48 (j : Int) p q
   have hg : (mcL (l.take j) k ++ l.drop j).getD (j : Int).toNat z48 = l[j] := by
    rw [getD_nat _ _ _ (by simp [mcL_length]; omega), List.getElem_append_right (by simp [mcL_length]; omega)]
    simp [mcL_length, Nat.min_eq_left (Nat.le_of_lt hlt)]
   rw [hg] at hM
   obtain ⟨v2, hcs, hv2⟩ := k48_openM hM
   have hd : l.drop j = l[j] :: l.drop (j + 1) := List.drop_eq_getElem_cons hlt
   have hset : (mcL (l.take j) k ++ l.drop j).set (j : Int).toNat (mcE l[j] (k + mcS (l.take j))) = mcL (l.take (j + 1)) k ++ l.drop (j + 1) := by
    rw [hd, Int.toNat_natCast, set_mid _ _ _ _ _ (by rw [mcL_length]; simp; omega), List.take_succ_eq_append_getElem hlt, mcL_snoc]
   have htk := mcS_take l j hlt
   have hle := mcS_le l (j + 1)
   have hp0 := mcS_pos (l.take j)
   have hnn := mcN_pos l[j]
   have hN : mcN l[j] = 2 + l[j].f2.length := rfl
   generalize hkj : k + mcS (l.take j) = kj at *
   have hkj1 : kj + mcN l[j] = k + mcS (l.take (j + 1)) := by omega
   generalize l[j] = x at *
   subst hcs
   have hx0 := hcc 0 _ rfl
   have hf0 := hfr 0
   have hx1 := hcc 1 _ rfl
   have hf1 := hfr 1
   have hx2 := hcc 2 _ rfl
   simp only [show k48.sz = 3 from rfl, Int.toNat_natCast, Nat.add_zero] at hx0 hf0 hx1 hf1 hx2
   obtain ⟨hH2, hg2⟩ := Kd.H_seg hH p q (seg := [.bool (kj % 3 == 0), .int .i64 (kj + 1)]) (j := 0) (by show (2 : Nat) ≤ 3; decide) (by intro u hu; simp at hu; rcases hu with rfl | rfl <;> rfl)
   have hv3 := Kd.R_grown hv2 hg2 (fun b hb e => (hoki b hb).2 (by injection e))
   rw [Int.toNat_natCast] at hH2 hg2 hv3
   have HH2 := amZ hH2
   have HG2 := amZ hg2
   have HV3 := amZ hv3
   have HOK := amZ hoki
   have HSET := amZ hset
   have HL := amZ hlt
   have HKJ := amZ hkj1
   have k0 : 0 ≤ kj := by have := HK0.out; omega
   have k1 : kj + 2 ≤ 1099511627776 := by have := HK1.out; omega
   have HB1 : Aside0 (0 ≤ kj + 1 + 1) := ⟨by omega⟩
   have HB2 : Aside0 (kj + 1 + 1 + x.f2.length ≤ 1099511627776) := ⟨by have := HK1.out; omega⟩
   have hdl : decide ((j : Int) < (l.length : Int)) = true := decide_eq_true q
   have hdn : decide (j < l.length) = true := decide_eq_true hlt
   have HG := amZ hG.out
   replace p := eq_true p
   replace q := eq_true q
   clear hcl hM hcc hfr hg hd hset hlt hR hG hkj hkj1 hoki hH hH2 hg2 hv2 hv3 htk hle hp0 hnn hN
   go_wp2_with (go_at_call 16; ((refine (markByteS_calls base oki v2 x.f2 (kj + 1 + 1) _ HV3.out HB1.out HB2.out).mono ?_); rintro e w3 ⟨rfl, hr3, hg3⟩; have HR3 := amZ hr3; have HG3 := amZ hg3; clear hr3 hg3))
   have hS : Kd.S k48 48 w3 base ok (.slice (some ⟨g, 0, none⟩) l.length cap) (mcL (l.take (j + 1)) k ++ l.drop (j + 1)) := by
    rw [← HSET.out]
    exact Kd.H_back (Kd.H_grown HH2.out HG3.out (fun b hb => HV3.out.1 b hb)) (x' := mcE x kj) (k48_mkM _ _ _ (mcE x kj) (by show Kd.R _ 5 w3 base oki v2 (markByteSL x.f2.length (kj + 1 + 1)); exact HR3.out)) (fun _ h => h)
   have HS := amZ hS
   clear hS
   go_roundg (l.length - (j + 1))
   case measure => have := hj.out; have := HL.out; omega
   case rel => exact ⟨j + 1, i64_num (by rw [← HKJ.out]; unfold mcN; omega), i64_next HL.out HM.out, ⟨by have := HL.out; omega⟩, HS, ⟨(HG.out.trans (Grew.of_grown HG2.out (fun b hb => by injection hb with hb; subst hb; exact HOG.out))).trans (Grew.of_grown HG3.out (fun b hb => (HOK.out b (HV3.out.1 b hb)).1))⟩⟩
  ·
   have hdl : decide ((j : Int) < (l.length : Int)) = false := decide_eq_false (by omega)
   have hdn : decide (j < l.length) = false := decide_eq_false hlt
   have hjl : j = l.length := by have := hj.out; omega
   have HJ := amZ hjl
   clear hlt hjl
   go_wp2
   go_ret
   have e := HJ.out
   subst e
   exact ⟨ret_i64 (by rw [List.take_length]), by simpa using hR.out, hG.out⟩
def mpE (x : S52) (k : Int) : S52 := ⟨k, k + 1, markCaptureSL x.f2.length (k + 1 + 1), markInsSL x.f3.length (k + 1 + 1 + 2 * x.f2.length)⟩
def mpN (x : S52) : Int := 2 + 2 * x.f2.length + 3 * x.f3.length
def mpL : List S52 → Int → List S52
 | [], _ => []
 | x :: xs, k => mpE x k :: mpL xs (k + mpN x)
def mpS (l : List S52) : Int := (l.map mpN).sum
theorem mpN_pos (x : S52) : 0 ≤ mpN x := by unfold mpN; omega
theorem mpS_pos : ∀ l : List S52, 0 ≤ mpS l
 | [] => by simp [mpS]
 | x :: l => by have := mpS_pos l; have := mpN_pos x; simp only [mpS, List.map_cons, List.sum_cons] at *; omega
theorem mpL_length : ∀ (l : List S52) k, (mpL l k).length = l.length
 | [], _ => rfl
 | x :: l, k => by simp [mpL, mpL_length l]
theorem mpS_append (a b : List S52) : mpS (a ++ b) = mpS a + mpS b := by simp [mpS]
theorem mpS_snoc (l : List S52) (x : S52) : mpS (l ++ [x]) = mpS l + mpN x := by simp [mpS]
theorem mpL_snoc : ∀ (l : List S52) (x : S52) k, mpL (l ++ [x]) k = mpL l k ++ [mpE x (k + mpS l)]
 | [], x, k => by simp [mpL, mpS]
 | y :: l, x, k => by
  rw [List.cons_append, mpL, mpL_snoc l x, mpL, show k + mpN y + mpS l = k + mpS (y :: l) by simp [mpS]; omega]; rfl
theorem mpS_take (l : List S52) (j : Nat) (h : j < l.length) : mpS (l.take (j + 1)) = mpS (l.take j) + mpN l[j] := by rw [List.take_succ_eq_append_getElem h, mpS_snoc]
theorem mpS_le (l : List S52) (j : Nat) : mpS (l.take j) ≤ mpS l := by
 have e : mpS l = mpS (l.take j) + mpS (l.drop j) := by
  rw [← mpS_append, List.take_append_drop]
 have := mpS_pos (l.drop j); omega
set_option maxHeartbeats 8000000 in
set_option maxRecDepth 100000 in
theorem markProtoS_calls (base : Nat) (ok : Nat → Prop) (v : Value) (l : List S52) (k : Int) (w : World) (hr : Kd.S k52 52 w base ok v l) (h0 : 0 ≤ k) (h1 : k + mpS l ≤ 1099511627776) :
  Calls Try.prog 42 #[v, .int .i64 k] w fun e w' => e = .returned (.int .i64 (k + mpS l)) ∧ Kd.S k52 52 w' base ok v (mpL l k) ∧ Grew ok w w' := by
 have HK0 := amZ h0
 have HK1 := amZ h1
 by_cases hl : l.length = 0
 ·
  obtain rfl : l = [] := List.length_eq_zero_iff.1 hl
  obtain ⟨A, c, e⟩ := Kd.S_slice hr
  subst e
  have HR := amZ hr
  clear hr hl h0 h1
  go_enter Try.func42, Try.ntmps42
  go_wp2
  go_loopg [1, 5] 0 (fun g v1 v5 wr => v1 = .int .i64 k ∧ v5 = .int .i64 0 ∧ w = wr)
  case atStart => exact ⟨rfl, rfl, rfl⟩
  case round =>
   obtain ⟨rfl, rfl, rfl⟩ := hrel
   go_wp2
   go_ret
   exact ⟨ret_i64 (by simp [mpS]), by simpa [mpL] using HR.out, Grew.refl _ _⟩
 obtain ⟨g, cap, e, _, _, _⟩ := Kd.S_form hr (by omega)
 subst e
 have HM := amZ (Kd.S_reads' hr).2.2.2.1
 have HOG := amZ ((Kd.S_R hr).1 g (by simp [Value.ownBlock]))
 have HR := amZ hr
 clear hr hl h0 h1
 go_enter Try.func42, Try.ntmps42
 go_wp2
 go_loopg [1, 5] l.length (fun gg v1 v5 wr => ∃ j : Nat, v1 = .int .i64 (k + mpS (l.take j)) ∧ v5 = .int .i64 (j : Int) ∧ Aside0 (j + gg = l.length) ∧ Aside0 (Kd.S k52 52 wr base ok (.slice (some ⟨g, 0, none⟩) l.length cap) (mpL (l.take j) k ++ l.drop j)) ∧ Aside0 (Grew ok w wr))
 case atStart => exact ⟨0, i64_num (by simp [mpS]), rfl, ⟨by omega⟩, ⟨by simpa [mpL] using HR.out⟩, ⟨Grew.refl _ _⟩⟩
 case round =>
  obtain ⟨j, rfl, rfl, hj, hR, hG⟩ := hrel
  by_cases hlt : j < l.length
  ·
   have p : 0 ≤ (j : Int) := by omega
   have q : (j : Int) < (l.length : Int) := by omega
   obtain ⟨oki, c, hcl, hM, hcc, hfr, hoki, hH⟩ := Kd.S_elem hR.out z52 (j : Int) p q
   have hg : (mpL (l.take j) k ++ l.drop j).getD (j : Int).toNat z52 = l[j] := by
    rw [getD_nat _ _ _ (by simp [mpL_length]; omega), List.getElem_append_right (by simp [mpL_length]; omega)]
    simp [mpL_length, Nat.min_eq_left (Nat.le_of_lt hlt)]
   rw [hg] at hM
   obtain ⟨v2, v3, hcs, hv2, hv3⟩ := k52_openM hM
   have hd : l.drop j = l[j] :: l.drop (j + 1) := List.drop_eq_getElem_cons hlt
   have hset : (mpL (l.take j) k ++ l.drop j).set (j : Int).toNat (mpE l[j] (k + mpS (l.take j))) = mpL (l.take (j + 1)) k ++ l.drop (j + 1) := by
    rw [hd, Int.toNat_natCast, set_mid _ _ _ _ _ (by rw [mpL_length]; simp; omega), List.take_succ_eq_append_getElem hlt, mpL_snoc]
   have htk := mpS_take l j hlt
   have hle := mpS_le l (j + 1)
   have hp0 := mpS_pos (l.take j)
   have hnn := mpN_pos l[j]
   have hN : mpN l[j] = 2 + 2 * l[j].f2.length + 3 * l[j].f3.length := rfl
   generalize hkj : k + mpS (l.take j) = kj at *
   have hkj1 : kj + mpN l[j] = k + mpS (l.take (j + 1)) := by omega
   generalize l[j] = x at *
   subst hcs
   have hx0 := hcc 0 _ rfl
   have hf0 := hfr 0
   have hx1 := hcc 1 _ rfl
   have hf1 := hfr 1
   have hx2 := hcc 2 _ rfl
   have hx3 := hcc 3 _ rfl
   simp only [show k52.sz = 4 from rfl, Int.toNat_natCast, Nat.add_zero] at hx0 hf0 hx1 hf1 hx2 hx3
   obtain ⟨hH2, hg2⟩ := Kd.H_seg hH p q (seg := [.int .i64 kj, .int .i64 (kj + 1)]) (j := 0) (by show (2 : Nat) ≤ 4; decide) (by intro u hu; simp at hu; rcases hu with rfl | rfl <;> rfl)
   have hv2' := Kd.R_grown hv2 hg2 (fun b hb e => (hoki b hb).2 (by injection e))
   have hv3' := Kd.R_grown hv3 hg2 (fun b hb e => (hoki b hb).2 (by injection e))
   rw [Int.toNat_natCast] at hH2 hg2 hv2' hv3'
   have HH2 := amZ hH2
   have HG2 := amZ hg2
   have hx3' := (World.cell?_setCells_out g [.int .i64 kj, .int .i64 (kj + 1)] (j * k52.sz + 0) wr ⟨g, j * 4 + 3, none⟩ (fun _ _ => .inr (by show j * 4 + 0 + 2 ≤ j * 4 + 3; omega))).trans hx3
   have HX3 := amZ hx3'
   clear hx3 hx3'
   have HV2 := amZ hv2'
   have HV3 := amZ hv3'
   have HOK := amZ hoki
   have HSET := amZ hset
   have HL := amZ hlt
   have HKJ := amZ hkj1
   have k0 : 0 ≤ kj := by have := HK0.out; omega
   have k1 : kj + 2 ≤ 1099511627776 := by have := HK1.out; omega
   have HB1 : Aside0 (0 ≤ kj + 1 + 1) := ⟨by omega⟩
   have HB2 : Aside0 (kj + 1 + 1 + 2 * x.f2.length ≤ 1099511627776) := ⟨by have := HK1.out; omega⟩
   have HB3 : Aside0 (0 ≤ kj + 1 + 1 + 2 * (x.f2.length : Int)) := ⟨by omega⟩
   have HB4 : Aside0 (kj + 1 + 1 + 2 * x.f2.length + 3 * x.f3.length ≤ 1099511627776) := ⟨by have := HK1.out; omega⟩
   have hdl : decide ((j : Int) < (l.length : Int)) = true := decide_eq_true q
   have hdn : decide (j < l.length) = true := decide_eq_true hlt
   have HG := amZ hG.out
   replace p := eq_true p
   replace q := eq_true q
   clear hcl hM hcc hfr hg hd hset hlt hR hG hkj hkj1 hoki hH hH2 hg2 hv2 hv3 hv2' hv3' htk hle hp0 hnn hN
   go_wp2_with (first | (go_at_call 69; ((refine (markCaptureS_calls base oki v2 x.f2 (kj + 1 + 1) _ HV2.out HB1.out HB2.out).mono ?_); rintro e w3 ⟨rfl, hr3, hg3⟩; have HR3 := amZ hr3; have HG3 := amZ hg3; have HV4 := amZ (Kd.R_over HV3.out HV2.out (by decide) hg3); have hy3 := hg3.cell HX3.out (fun e => (HOK.out g (HV2.out.1 g e.symm)).2 rfl); clear hr3 hg3)) | (go_at_call 70; ((refine (markInsS_calls base oki v3 x.f3 (kj + 1 + 1 + 2 * x.f2.length) _ HV4.out HB3.out HB4.out).mono ?_); rintro e w4 ⟨rfl, hr4, hg4⟩; have HR4 := amZ hr4; have HG4 := amZ hg4; clear hr4 hg4)))
   have hS : Kd.S k52 52 w4 base ok (.slice (some ⟨g, 0, none⟩) l.length cap) (mpL (l.take (j + 1)) k ++ l.drop (j + 1)) := by
    rw [← HSET.out]
    exact Kd.H_back (Kd.H_grown (Kd.H_grown HH2.out HG3.out (fun b hb => HV2.out.1 b hb)) HG4.out (fun b hb => HV3.out.1 b hb)) (x' := mpE x kj) (k52_mkM _ _ _ (mpE x kj) (by show Kd.R _ 54 w4 base oki v2 (markCaptureSL x.f2.length (kj + 1 + 1)); exact Kd.R_over HR3.out HV4.out (by decide) HG4.out) (by show Kd.R _ 57 w4 base oki v3 (markInsSL x.f3.length (kj + 1 + 1 + 2 * x.f2.length)); exact HR4.out)) (fun _ h => h)
   have HS := amZ hS
   clear hS
   go_roundg (l.length - (j + 1))
   case measure => have := hj.out; have := HL.out; omega
   case rel => exact ⟨j + 1, i64_num (by rw [← HKJ.out]; unfold mpN; omega), i64_next HL.out HM.out, ⟨by have := HL.out; omega⟩, HS, ⟨(HG.out.trans (Grew.of_grown HG2.out (fun b hb => by injection hb with hb; subst hb; exact HOG.out))).trans ((Grew.of_grown HG3.out (fun b hb => (HOK.out b (HV2.out.1 b hb)).1)).trans (Grew.of_grown HG4.out (fun b hb => (HOK.out b (HV3.out.1 b hb)).1)))⟩⟩
  ·
   have hdl : decide ((j : Int) < (l.length : Int)) = false := decide_eq_false (by omega)
   have hdn : decide (j < l.length) = false := decide_eq_false hlt
   have hjl : j = l.length := by have := hj.out; omega
   have HJ := amZ hjl
   clear hlt hjl
   go_wp2
   go_ret
   have e := HJ.out
   subst e
   exact ⟨ret_i64 (by rw [List.take_length]), by simpa using hR.out, hG.out⟩
theorem markByteSL_get : ∀ (n : Nat) (k : Int) (j : Nat) (h : j < (markByteSL n k).length), (markByteSL n k)[j] = ((k + 1 * (j : Int)) % 256)
 | 0, _, j, h => by simp [markByteSL] at h
 | n + 1, k, 0, h => by simp [markByteSL]
 | n + 1, k, j + 1, h => by
  simp only [markByteSL, List.getElem_cons_succ]
  rw [markByteSL_get n (k + 1) j (by simpa [markByteSL] using h)]
  congr 1; omega
set_option maxHeartbeats 4000000 in
set_option maxRecDepth 100000 in
theorem heldByteS_calls (A : Option Addr) (c n : Nat) (k : Int) (w : World) (hr : Kd.C (Kd.int .u8) w A n (markByteSL n k)) (h0 : 0 ≤ k) (h1 : k + 1 * n ≤ 1099511627776) :
  Calls Try.prog 17 #[.slice A n c, .int .i64 k] w fun e w' => e = .returned (.int .i64 (k + 1 * n)) ∧ w = w' := by
 have HK0 := amZ h0
 have HK1 := amZ h1
 have HM := amZ hr.2.1
 have HR := amZ hr
 clear hr h0 h1
 go_enter Try.func17, Try.ntmps17
 go_wp2
 go_loopg [1, 5] n (fun g v1 v5 wr => ∃ j : Nat, v1 = .int .i64 (k + 1 * (j : Int)) ∧ v5 = .int .i64 (j : Int) ∧ Aside0 (j + g = n) ∧ w = wr)
 case atStart => exact ⟨0, i64_num (by simp), rfl, ⟨by omega⟩, rfl⟩
 case round =>
  obtain ⟨j, rfl, rfl, hj, rfl⟩ := hrel
  by_cases hlt : j < n
  ·
   have p : 0 ≤ (j : Int) := by omega
   have q : (j : Int) < (n : Int) := by omega
   have hlt' : j < (markByteSL n k).length := by rw [markByteSL_length]; exact hlt
   obtain ⟨ad, _, e, _, hK, hx⟩ := Kd.C_get HR.out (0 : Int) (j : Int) p q
   cases e
   cases hK
   have hx0 := hx 0 _ rfl
   clear hx
   simp only [show (Kd.int .u8).sz = 1 from rfl, Int.toNat_natCast, Nat.mul_one, Nat.add_zero] at hx0
   rw [show (markByteSL n k).getD j 0 = _ from getD_nat _ _ _ hlt', markByteSL_get] at hx0
   have k0 : 0 ≤ k + 1 * (j : Int) := by have := HK0.out; omega
   have k1 : k + 1 * (j : Int) + 1 ≤ 1099511627776 := by have := HK1.out; omega
   have hdl : decide ((j : Int) < (n : Int)) = true := decide_eq_true q
   have hdn : decide (j < n) = true := decide_eq_true hlt
   generalize hkj : k + 1 * (j : Int) = kj at *
   have HKJ := amZ hkj
   have HL := amZ hlt
   replace p := eq_true p
   replace q := eq_true q
   clear hlt hlt' hkj
   go_wp2
   go_roundg (n - (j + 1))
   case measure => have := hj.out; have := HL.out; omega
   case rel => exact ⟨j + 1, i64_num (by have := HKJ.out; omega), i64_next HL.out HM.out, ⟨by have := HL.out; omega⟩, rfl⟩
  ·
   have hdl : decide ((j : Int) < (n : Int)) = false := decide_eq_false (by omega)
   have hdn : decide (j < n) = false := decide_eq_false hlt
   have hjl : j = n := by have := hj.out; omega
   have HJ := amZ hjl
   clear hlt hjl
   go_wp2
   go_ret
   exact ⟨ret_i64 (by rw [HJ.out]), rfl⟩
theorem markCaptureSL_get : ∀ (n : Nat) (k : Int) (j : Nat) (h : j < (markCaptureSL n k).length), (markCaptureSL n k)[j] = (markCaptureSE (k + 2 * (j : Int)))
 | 0, _, j, h => by simp [markCaptureSL] at h
 | n + 1, k, 0, h => by simp [markCaptureSL]
 | n + 1, k, j + 1, h => by
  simp only [markCaptureSL, List.getElem_cons_succ]
  rw [markCaptureSL_get n (k + 2) j (by simpa [markCaptureSL] using h)]
  congr 1; omega
set_option maxHeartbeats 4000000 in
set_option maxRecDepth 100000 in
theorem heldCaptureS_calls (A : Option Addr) (c n : Nat) (k : Int) (w : World) (hr : Kd.C k54 w A n (markCaptureSL n k)) (h0 : 0 ≤ k) (h1 : k + 2 * n ≤ 1099511627776) :
  Calls Try.prog 77 #[.slice A n c, .int .i64 k] w fun e w' => e = .returned (.int .i64 (k + 2 * n)) ∧ w = w' := by
 have HK0 := amZ h0
 have HK1 := amZ h1
 have HM := amZ hr.2.1
 have HR := amZ hr
 clear hr h0 h1
 go_enter Try.func77, Try.ntmps77
 go_wp2
 go_loopg [1, 5] n (fun g v1 v5 wr => ∃ j : Nat, v1 = .int .i64 (k + 2 * (j : Int)) ∧ v5 = .int .i64 (j : Int) ∧ Aside0 (j + g = n) ∧ w = wr)
 case atStart => exact ⟨0, i64_num (by simp), rfl, ⟨by omega⟩, rfl⟩
 case round =>
  obtain ⟨j, rfl, rfl, hj, rfl⟩ := hrel
  by_cases hlt : j < n
  ·
   have p : 0 ≤ (j : Int) := by omega
   have q : (j : Int) < (n : Int) := by omega
   have hlt' : j < (markCaptureSL n k).length := by rw [markCaptureSL_length]; exact hlt
   obtain ⟨ad, e, hx0, hx1⟩ := at_T54 HR.out (j : Int) p q
   cases e
   have hr : rd_T54 (markCaptureSL n k) (j : Int) = _ := getD_nat _ _ _ hlt'
   rw [hr, markCaptureSL_get, Int.toNat_natCast] at hx0 hx1
   clear hr
   simp only [markCaptureSE] at hx0 hx1
   have k0 : 0 ≤ k + 2 * (j : Int) := by have := HK0.out; omega
   have k1 : k + 2 * (j : Int) + 2 ≤ 1099511627776 := by have := HK1.out; omega
   have hdl : decide ((j : Int) < (n : Int)) = true := decide_eq_true q
   have hdn : decide (j < n) = true := decide_eq_true hlt
   generalize hkj : k + 2 * (j : Int) = kj at *
   have HKJ := amZ hkj
   have HL := amZ hlt
   replace p := eq_true p
   replace q := eq_true q
   clear hlt hlt' hkj
   go_wp2
   go_roundg (n - (j + 1))
   case measure => have := hj.out; have := HL.out; omega
   case rel => exact ⟨j + 1, i64_num (by have := HKJ.out; omega), i64_next HL.out HM.out, ⟨by have := HL.out; omega⟩, rfl⟩
  ·
   have hdl : decide ((j : Int) < (n : Int)) = false := decide_eq_false (by omega)
   have hdn : decide (j < n) = false := decide_eq_false hlt
   have hjl : j = n := by have := hj.out; omega
   have HJ := amZ hjl
   clear hlt hjl
   go_wp2
   go_ret
   exact ⟨ret_i64 (by rw [HJ.out]), rfl⟩
theorem markInsSL_get : ∀ (n : Nat) (k : Int) (j : Nat) (h : j < (markInsSL n k).length), (markInsSL n k)[j] = (markInsSE (k + 3 * (j : Int)))
 | 0, _, j, h => by simp [markInsSL] at h
 | n + 1, k, 0, h => by simp [markInsSL]
 | n + 1, k, j + 1, h => by
  simp only [markInsSL, List.getElem_cons_succ]
  rw [markInsSL_get n (k + 3) j (by simpa [markInsSL] using h)]
  congr 1; omega
set_option maxHeartbeats 4000000 in
set_option maxRecDepth 100000 in
theorem heldInsS_calls (A : Option Addr) (c n : Nat) (k : Int) (w : World) (hr : Kd.C k57 w A n (markInsSL n k)) (h0 : 0 ≤ k) (h1 : k + 3 * n ≤ 1099511627776) :
  Calls Try.prog 78 #[.slice A n c, .int .i64 k] w fun e w' => e = .returned (.int .i64 (k + 3 * n)) ∧ w = w' := by
 have HK0 := amZ h0
 have HK1 := amZ h1
 have HM := amZ hr.2.1
 have HR := amZ hr
 clear hr h0 h1
 go_enter Try.func78, Try.ntmps78
 go_wp2
 go_loopg [1, 5] n (fun g v1 v5 wr => ∃ j : Nat, v1 = .int .i64 (k + 3 * (j : Int)) ∧ v5 = .int .i64 (j : Int) ∧ Aside0 (j + g = n) ∧ w = wr)
 case atStart => exact ⟨0, i64_num (by simp), rfl, ⟨by omega⟩, rfl⟩
 case round =>
  obtain ⟨j, rfl, rfl, hj, rfl⟩ := hrel
  by_cases hlt : j < n
  ·
   have p : 0 ≤ (j : Int) := by omega
   have q : (j : Int) < (n : Int) := by omega
   have hlt' : j < (markInsSL n k).length := by rw [markInsSL_length]; exact hlt
   obtain ⟨ad, e, hx0, hx1, hx2⟩ := at_T57 HR.out (j : Int) p q
   cases e
   have hr : rd_T57 (markInsSL n k) (j : Int) = _ := getD_nat _ _ _ hlt'
   rw [hr, markInsSL_get, Int.toNat_natCast] at hx0 hx1 hx2
   clear hr
   simp only [markInsSE] at hx0 hx1 hx2
   have k0 : 0 ≤ k + 3 * (j : Int) := by have := HK0.out; omega
   have k1 : k + 3 * (j : Int) + 3 ≤ 1099511627776 := by have := HK1.out; omega
   have hdl : decide ((j : Int) < (n : Int)) = true := decide_eq_true q
   have hdn : decide (j < n) = true := decide_eq_true hlt
   generalize hkj : k + 3 * (j : Int) = kj at *
   have HKJ := amZ hkj
   have HL := amZ hlt
   replace p := eq_true p
   replace q := eq_true q
   clear hlt hlt' hkj
   go_wp2
   go_roundg (n - (j + 1))
   case measure => have := hj.out; have := HL.out; omega
   case rel => exact ⟨j + 1, i64_num (by have := HKJ.out; omega), i64_next HL.out HM.out, ⟨by have := HL.out; omega⟩, rfl⟩
  ·
   have hdl : decide ((j : Int) < (n : Int)) = false := decide_eq_false (by omega)
   have hdn : decide (j < n) = false := decide_eq_false hlt
   have hjl : j = n := by have := hj.out; omega
   have HJ := amZ hjl
   clear hlt hjl
   go_wp2
   go_ret
   exact ⟨ret_i64 (by rw [HJ.out]), rfl⟩
theorem mcL_get : ∀ (l : List S48) (k : Int) (j : Nat) (h : j < l.length) (h' : j < (mcL l k).length), (mcL l k)[j] = mcE l[j] (k + mcS (l.take j))
 | [], _, j, h, _ => by simp at h
 | x :: l, k, 0, h, _ => by simp [mcL, mcS]
 | x :: l, k, j + 1, h, h' => by
  simp only [mcL, List.getElem_cons_succ]
  rw [mcL_get l (k + mcN x) j (by simpa using h) (by rw [mcL_length]; simpa using h), List.take_succ_cons]
  congr 1; simp [mcS]; omega
set_option maxHeartbeats 8000000 in
set_option maxRecDepth 100000 in
theorem heldConstS_calls (A : Option Addr) (c : Nat) (l : List S48) (k : Int) (w : World) (hr : Kd.C k48 w A l.length (mcL l k)) (h0 : 0 ≤ k) (h1 : k + mcS l ≤ 1099511627776) :
  Calls Try.prog 48 #[.slice A l.length c, .int .i64 k] w fun e w' => e = .returned (.int .i64 (k + mcS l)) ∧ w = w' := by
 have HK0 := amZ h0
 have HK1 := amZ h1
 have HM := amZ hr.2.1
 have HR := amZ hr
 clear hr h0 h1
 go_enter Try.func48, Try.ntmps48
 go_wp2
 go_loopg [1, 5] l.length (fun g v1 v5 wr => ∃ j : Nat, v1 = .int .i64 (k + mcS (l.take j)) ∧ v5 = .int .i64 (j : Int) ∧ Aside0 (j + g = l.length) ∧ w = wr)
 case atStart => exact ⟨0, i64_num (by simp [mcS]), rfl, ⟨by omega⟩, rfl⟩
 case round =>
  obtain ⟨j, rfl, rfl, hj, rfl⟩ := hrel
  by_cases hlt : j < l.length
  ·
   have p : 0 ≤ (j : Int) := by omega
   have q : (j : Int) < (l.length : Int) := by omega
   have hlt' : j < (mcL l k).length := by rw [mcL_length]; exact hlt
   obtain ⟨ad, A2, c2, e, hx0, hx1, hx2, lx2, gx2⟩ := at_T48 HR.out (j : Int) p q
   cases e
   have hr : rd_T48 (mcL l k) (j : Int) = _ := (getD_nat _ _ _ hlt').trans (mcL_get l k j hlt hlt')
   rw [hr, Int.toNat_natCast] at hx0 hx1 hx2
   rw [hr] at gx2
   clear hr
   have htk := mcS_take l j hlt
   have hle := mcS_le l (j + 1)
   have hp0 := mcS_pos (l.take j)
   have hnn := mcN_pos l[j]
   generalize hkj : k + mcS (l.take j) = kj at *
   have hkj1 : kj + mcN l[j] = k + mcS (l.take (j + 1)) := by omega
   generalize l[j] = x at *
   simp only [mcE, markByteSL_length] at hx0 hx1 hx2 gx2
   unfold mcN at hkj1 hnn
   have k0 : 0 ≤ kj := by have := HK0.out; omega
   have k1 : kj + 2 ≤ 1099511627776 := by have := HK1.out; omega
   have HG2 := amZ gx2
   have HA2 : Aside0 (0 ≤ kj + 1 + 1) := ⟨by omega⟩
   have HC2 : Aside0 (kj + 1 + 1 + 1 * (x.f2.length : Int) ≤ 1099511627776) := ⟨by have := HK1.out; omega⟩
   have hs2 : decide (kj + 1 + 1 + 1 * (x.f2.length : Int) < 0) = false := decide_eq_false (by omega)
   have ht2 : (kj + 1 + 1 + 1 * (x.f2.length : Int) < 0) = False := eq_false (by omega)
   have hdl : decide ((j : Int) < (l.length : Int)) = true := decide_eq_true q
   have hdn : decide (j < l.length) = true := decide_eq_true hlt
   have HKJ := amZ hkj1
   have HL := amZ hlt
   replace p := eq_true p
   replace q := eq_true q
   clear hlt hlt' hkj hkj1 htk hle hp0 hnn gx2 lx2
   go_wp2_with (first | (go_at_call 17; ((with_reducible refine (heldByteS_calls A2 c2 x.f2.length (kj + 1 + 1) _ HG2.out HA2.out HC2.out).mono ?_); rintro e w' ⟨rfl, rfl⟩)))
   go_roundg (l.length - (j + 1))
   case measure => have := hj.out; have := HL.out; omega
   case rel => exact ⟨j + 1, i64_num (by rw [← HKJ.out]; omega), i64_next HL.out HM.out, ⟨by have := HL.out; omega⟩, rfl⟩
  ·
   have hdl : decide ((j : Int) < (l.length : Int)) = false := decide_eq_false (by omega)
   have hdn : decide (j < l.length) = false := decide_eq_false hlt
   have hjl : j = l.length := by have := hj.out; omega
   have HJ := amZ hjl
   clear hlt hjl
   go_wp2
   go_ret
   exact ⟨ret_i64 (by rw [HJ.out, List.take_length]), rfl⟩
theorem mpL_get : ∀ (l : List S52) (k : Int) (j : Nat) (h : j < l.length) (h' : j < (mpL l k).length), (mpL l k)[j] = mpE l[j] (k + mpS (l.take j))
 | [], _, j, h, _ => by simp at h
 | x :: l, k, 0, h, _ => by simp [mpL, mpS]
 | x :: l, k, j + 1, h, h' => by
  simp only [mpL, List.getElem_cons_succ]
  rw [mpL_get l (k + mpN x) j (by simpa using h) (by rw [mpL_length]; simpa using h), List.take_succ_cons]
  congr 1; simp [mpS]; omega
set_option maxHeartbeats 8000000 in
set_option maxRecDepth 100000 in
theorem heldProtoS_calls (A : Option Addr) (c : Nat) (l : List S52) (k : Int) (w : World) (hr : Kd.C k52 w A l.length (mpL l k)) (h0 : 0 ≤ k) (h1 : k + mpS l ≤ 1099511627776) :
  Calls Try.prog 49 #[.slice A l.length c, .int .i64 k] w fun e w' => e = .returned (.int .i64 (k + mpS l)) ∧ w = w' := by
 have HK0 := amZ h0
 have HK1 := amZ h1
 have HM := amZ hr.2.1
 have HR := amZ hr
 clear hr h0 h1
 go_enter Try.func49, Try.ntmps49
 go_wp2
 go_loopg [1, 5] l.length (fun g v1 v5 wr => ∃ j : Nat, v1 = .int .i64 (k + mpS (l.take j)) ∧ v5 = .int .i64 (j : Int) ∧ Aside0 (j + g = l.length) ∧ w = wr)
 case atStart => exact ⟨0, i64_num (by simp [mpS]), rfl, ⟨by omega⟩, rfl⟩
 case round =>
  obtain ⟨j, rfl, rfl, hj, rfl⟩ := hrel
  by_cases hlt : j < l.length
  ·
   have p : 0 ≤ (j : Int) := by omega
   have q : (j : Int) < (l.length : Int) := by omega
   have hlt' : j < (mpL l k).length := by rw [mpL_length]; exact hlt
   obtain ⟨ad, A2, c2, A3, c3, e, hx0, hx1, hx2, hx3, lx2, gx2, lx3, gx3⟩ := at_T52 HR.out (j : Int) p q
   cases e
   have hr : rd_T52 (mpL l k) (j : Int) = _ := (getD_nat _ _ _ hlt').trans (mpL_get l k j hlt hlt')
   rw [hr, Int.toNat_natCast] at hx0 hx1 hx2 hx3
   rw [hr] at gx2 gx3
   clear hr
   have htk := mpS_take l j hlt
   have hle := mpS_le l (j + 1)
   have hp0 := mpS_pos (l.take j)
   have hnn := mpN_pos l[j]
   generalize hkj : k + mpS (l.take j) = kj at *
   have hkj1 : kj + mpN l[j] = k + mpS (l.take (j + 1)) := by omega
   generalize l[j] = x at *
   simp only [mpE, markCaptureSL_length, markInsSL_length] at hx0 hx1 hx2 hx3 gx2 gx3
   unfold mpN at hkj1 hnn
   have k0 : 0 ≤ kj := by have := HK0.out; omega
   have k1 : kj + 2 ≤ 1099511627776 := by have := HK1.out; omega
   have HG2 := amZ gx2
   have HA2 : Aside0 (0 ≤ kj + 1 + 1) := ⟨by omega⟩
   have HC2 : Aside0 (kj + 1 + 1 + 2 * (x.f2.length : Int) ≤ 1099511627776) := ⟨by have := HK1.out; omega⟩
   have hs2 : decide (kj + 1 + 1 + 2 * (x.f2.length : Int) < 0) = false := decide_eq_false (by omega)
   have ht2 : (kj + 1 + 1 + 2 * (x.f2.length : Int) < 0) = False := eq_false (by omega)
   have HG3 := amZ gx3
   have HA3 : Aside0 (0 ≤ kj + 1 + 1 + 2 * (x.f2.length : Int)) := ⟨by omega⟩
   have HC3 : Aside0 (kj + 1 + 1 + 2 * (x.f2.length : Int) + 3 * (x.f3.length : Int) ≤ 1099511627776) := ⟨by have := HK1.out; omega⟩
   have hs3 : decide (kj + 1 + 1 + 2 * (x.f2.length : Int) + 3 * (x.f3.length : Int) < 0) = false := decide_eq_false (by omega)
   have ht3 : (kj + 1 + 1 + 2 * (x.f2.length : Int) + 3 * (x.f3.length : Int) < 0) = False := eq_false (by omega)
   have hdl : decide ((j : Int) < (l.length : Int)) = true := decide_eq_true q
   have hdn : decide (j < l.length) = true := decide_eq_true hlt
   have HKJ := amZ hkj1
   have HL := amZ hlt
   replace p := eq_true p
   replace q := eq_true q
   clear hlt hlt' hkj hkj1 htk hle hp0 hnn gx2 lx2 gx3 lx3
   go_wp2_with (first | (go_at_call 77; ((with_reducible refine (heldCaptureS_calls A2 c2 x.f2.length (kj + 1 + 1) _ HG2.out HA2.out HC2.out).mono ?_); rintro e w' ⟨rfl, rfl⟩)) | (go_at_call 78; ((with_reducible refine (heldInsS_calls A3 c3 x.f3.length (kj + 1 + 1 + 2 * (x.f2.length : Int)) _ HG3.out HA3.out HC3.out).mono ?_); rintro e w' ⟨rfl, rfl⟩)))
   go_roundg (l.length - (j + 1))
   case measure => have := hj.out; have := HL.out; omega
   case rel => exact ⟨j + 1, i64_num (by rw [← HKJ.out]; omega), i64_next HL.out HM.out, ⟨by have := HL.out; omega⟩, rfl⟩
  ·
   have hdl : decide ((j : Int) < (l.length : Int)) = false := decide_eq_false (by omega)
   have hdn : decide (j < l.length) = false := decide_eq_false hlt
   have hjl : j = l.length := by have := hj.out; omega
   have HJ := amZ hjl
   clear hlt hjl
   go_wp2
   go_ret
   exact ⟨ret_i64 (by rw [HJ.out, List.take_length]), rfl⟩
def okB {α : Type} (d : Kd α) (e : Nat) (w : World) (base : Nat) (ok : Nat → Prop) (k : Nat) : Prop := ok k ∧ base ≤ k ∧ k < w.heap.size ∧ ∃ q, q ∈ e :: d.E ∧ ∃ cells, w.heap[k]? = some (.cells cells q (0, 0))
theorem okB_ne {α β : Type} {d : Kd α} {d' : Kd β} {e e' : Nat} {w : World} {base base' : Nat} {ok ok' : Nat → Prop} (h : ∀ q, q ∈ e :: d.E → ∀ q', q' ∈ e' :: d'.E → q ≠ q') (k : Nat) (hk : okB d e w base ok k) : ¬ okB d' e' w base' ok' k := by
 rintro ⟨_, _, _, q', hq', c', hc'⟩
 obtain ⟨_, _, _, q, hq, c, hc⟩ := hk
 rw [hc] at hc'
 injection hc' with hc'
 injection hc' with _ hc'
 exact h q hq q' hq' hc'
def progS (cs : List S48) (ps : List S52) : Int := mcS cs + mpS ps
set_option maxHeartbeats 4000000 in
set_option maxRecDepth 100000 in
theorem markProgram_calls (base : Nat) (ok : Nat → Prop) (v0 v1 : Value) (cs : List S48) (ps : List S52) (k : Int) (w : World) (hr0 : Kd.S k48 48 w base ok v0 cs) (hr1 : Kd.S k52 52 w base ok v1 ps) (h0 : 0 ≤ k) (h1 : k + progS cs ps ≤ 1099511627776) :
  Calls Try.prog 15 #[.agg #[v0, v1], .int .i64 k] w fun e w' => e = .returned (.int .i64 (k + progS cs ps)) ∧ Kd.S k48 48 w' base ok v0 (mcL cs k) ∧ Kd.S k52 52 w' base ok v1 (mpL ps (k + mcS cs)) ∧ Grew ok w w' := by
 have e0 := Kd.S_slice hr0
 have e1 := Kd.S_slice hr1
 obtain ⟨W, hW⟩ : ∃ W, W = w.alloc (.cells #[v0, v1] 31) := ⟨_, rfl⟩
 have hb : Below w.heap.size w W := by rw [hW]; exact (Below.refl _ _).alloc (Nat.le_refl _) _
 have hbox : W.heap[w.heap.size]? = some (.cells #[v0, v1] 31 (0, 0)) := by rw [hW, heap_alloc_new]
 have hs0 := Kd.S_bound (Kd.S_below hr0 hb)
 have hs1 := Kd.S_bound (Kd.S_below hr1 hb)
 have hap : ∀ b, okB k52 52 W base ok b → ¬ okB k48 48 W base ok b := fun b hb => okB_ne (by decide) b hb
 have hgb : ∀ b, okB k48 48 W base ok b → b ≠ w.heap.size := by
  rintro b ⟨_, _, _, q, hq, c, hc⟩ rfl
  rw [hbox] at hc
  injection hc with hc
  injection hc with _ hc
  subst hc
  revert hq; decide
 have HW := amZ hW
 have HB := amZ hb
 have HBOX := amZ hbox
 have HS0 := amZ (show Kd.S k48 48 W base (okB k48 48 W base ok) v0 cs from hs0)
 have HS1 := amZ (show Kd.S k52 52 W base (okB k52 52 W base ok) v1 ps from hs1)
 have HAP := amZ hap
 have HGB := amZ hgb
 have HK0 := amZ h0
 have p0 := mcS_pos cs
 have p1 := mpS_pos ps
 have HK1 : Aside0 (k + mcS cs ≤ 1099511627776) := ⟨by unfold progS at h1; omega⟩
 have HK2 : Aside0 (0 ≤ k + mcS cs) := ⟨by omega⟩
 have HK3 : Aside0 (k + mcS cs + mpS ps ≤ 1099511627776) := ⟨by unfold progS at h1; omega⟩
 have HO : Aside0 (v0.oneCell' = true ∧ v1.oneCell' = true) := ⟨by obtain ⟨_, _, rfl⟩ := e0; obtain ⟨_, _, rfl⟩ := e1; exact ⟨rfl, rfl⟩⟩
 obtain ⟨A0, c0, rfl⟩ := e0
 obtain ⟨A1, c1, rfl⟩ := e1
 clear hW hb hbox hs0 hs1 hap hgb hr0 hr1 h0 h1 p0 p1
 go_enter Try.func15, Try.ntmps15
 go_wp2_with (first | (go_at_call 41; rw [← HW.out]; ((with_reducible refine (markConstS_calls base _ _ cs k W HS0.out HK0.out HK1.out).mono ?_); rintro e w2 ⟨rfl, hr2, hg2⟩; have HR2 := amZ hr2; have HG2 := amZ hg2; have HV := amZ (hg2.S HS1.out (fun b hb => HAP.out b hb)); have HX : w2.heap[w.heap.size]? = some (.cells #[.slice A0 cs.length c0, .slice A1 ps.length c1] 31 (0, 0)) := (hg2.block _ (ziY HBOX.out) (fun h => HGB.out _ h rfl)).trans HBOX.out; have hx1 := (zaY HX 1).trans rfl; clear hr2 hg2 HX)) | (go_at_call 42; ((with_reducible refine (markProtoS_calls base _ _ ps (k + mcS cs) _ HV.out HK2.out HK3.out).mono ?_); rintro e w3 ⟨rfl, hr3, hg3⟩; have HR3 := amZ hr3; have HG3 := amZ hg3; clear hr3 hg3)))
 go_ret
 refine ⟨ret_i64 (by unfold progS; omega), ?_, Kd.S_mono HR3.out (fun _ h => h.1), ?_⟩
 ·
  refine Kd.S_mono (HG3.out.S HR2.out (fun b hb => ?_)) (fun _ h => h.1)
  exact fun h => HAP.out b h hb
 ·
  exact (⟨HB.out.os, HB.out.tape, HB.out.output, HB.out.size, fun b hb _ => HB.out.block b hb⟩ : Grew ok w W).trans ((HG2.out.mono (fun _ h => h.1)).trans (HG3.out.mono (fun _ h => h.1)))
set_option maxHeartbeats 4000000 in
theorem heldProgram_calls (A0 A1 : Option Addr) (c0 c1 : Nat) (cs : List S48) (ps : List S52) (k : Int) (w : World) (hr0 : Kd.C k48 w A0 cs.length (mcL cs k)) (hr1 : Kd.C k52 w A1 ps.length (mpL ps (k + mcS cs))) (h0 : 0 ≤ k) (h1 : k + progS cs ps ≤ 1099511627776) :
  Calls Try.prog 20 #[.agg #[.slice A0 cs.length c0, .slice A1 ps.length c1], .int .i64 k] w fun e w' => e = .returned (.int .i64 (k + progS cs ps)) ∧ Below w.heap.size w w' := by
 have p0 := mcS_pos cs
 have p1 := mpS_pos ps
 have HK0 := amZ h0
 have HK1 : Aside0 (k + mcS cs ≤ 1099511627776) := ⟨by unfold progS at h1; omega⟩
 have HK2 : Aside0 (0 ≤ k + mcS cs) := ⟨by omega⟩
 have HK3 : Aside0 (k + mcS cs + mpS ps ≤ 1099511627776) := ⟨by unfold progS at h1; omega⟩
 have d0 : decide (k + mcS cs < 0) = false := decide_eq_false (by omega)
 have d1 : decide (k + mcS cs + mpS ps < 0) = false := decide_eq_false (by omega)
 have e0 : (k + mcS cs < 0) = False := eq_false (by omega)
 have e1 : (k + mcS cs + mpS ps < 0) = False := eq_false (by omega)
 have HB := amZ ((Below.refl w.heap.size w).alloc (Nat.le_refl _) (.cells #[.slice A0 cs.length c0, .slice A1 ps.length c1] 31))
 have HR0 := amZ (Kd.C_below hr0 HB.out)
 have HR1 := amZ (Kd.C_below hr1 HB.out)
 clear hr0 hr1 h0 h1 p0 p1
 go_enter Try.func20, Try.ntmps20
 go_wp2_with (first | (go_at_call 48; ((with_reducible refine (heldConstS_calls A0 c0 cs k _ HR0.out HK0.out HK1.out).mono ?_); rintro e w2 ⟨rfl, rfl⟩)) | (go_at_call 49; ((with_reducible refine (heldProtoS_calls A1 c1 ps (k + mcS cs) _ HR1.out HK2.out HK3.out).mono ?_); rintro e w3 ⟨rfl, rfl⟩)))
 go_ret
 exact ⟨ret_i64 (by unfold progS; omega), HB.out⟩
end Go.Proofs.Ytmmpiojekgfdjaa.C
