-- Laid by a program of this session (pp.py) over the kit's printer; repaired and widened by hand-written contracts. Lean checks it.
import Derived.Test.YtchfdpmkgjblgaaMx0
import Derived.Test.YtchfdpmkgjblgaaMx6
namespace Go.Proofs.Ytchfdpmkgjblgaa.M
open Go.RowKit Go.Proofs.YtchfdpmkgjblgaaW.PrintWords Go.Proofs.YtchfdpmkgjblgaaW.PrintLast Go.Proofs.YtchfdpmkgjblgaaW.PrintMore
attribute [local go_sem] max2_int min2_int max_two min_two max_three min_three max_four min_four   -- for this text's walks alone
set_option linter.unusedVariables false
set_option linter.unusedSimpArgs false

/-! ### bytes_Equal: function 42 -/
def bytes_Equal.f (l0 : List Int) (l1 : List Int) : Option (Bool) := some ((strOfNums l0).toList == (strOfNums l1).toList)
set_option maxHeartbeats 8000000 in
set_option maxRecDepth 100000 in
theorem bytes_Equal.calls (A0 : Option Addr) (c0 : Nat) (l0 : List Int) (A1 : Option Addr) (c1 : Nat) (l1 : List Int) (r : Bool) (w : World) (hr0 : Kd.C (Kd.int .u8) w A0 l0.length l0) (hc0 : l0.length ≤ c0) (hr1 : Kd.C (Kd.int .u8) w A1 l1.length l1) (hc1 : l1.length ≤ c1) (h : bytes_Equal.f l0 l1 = some r) :
  Calls Try.prog 42 #[.slice A0 l0.length c0, .slice A1 l1.length c1] w fun e w' => e = .returned (.bool r) ∧ Drawn0 w w' := by
 have HR0 := Aside0.mk hr0
 have HC0 := Aside0.mk hc0
 clear hr0 hc0
 have HR1 := Aside0.mk hr1
 have HC1 := Aside0.mk hc1
 clear hr1 hc1
 have H : (some ((strOfNums l0).toList == (strOfNums l1).toList)) = some r := h
 clear h
 obtain rfl := Option.some.inj H
 have hcv3 := Kd.C_string (P := Try.prog) (A := A0) (c := c0) Try.underlying23 Try.underlying5 Try.underlying9 HR0.out
 have hcv4 := Kd.C_string (P := Try.prog) (A := A1) (c := c1) Try.underlying23 Try.underlying5 Try.underlying9 HR1.out
 go_enter Try.func42, Try.ntmps42
 go_wp2
 go_ret
 exact ⟨by first | rfl | (simp; done) | (simp [*]; done), by repeat (first | exact Drawn0.refl _ | apply Drawn0.step)⟩

/-! ### bytes_HasPrefix: function 27 -/
def bytes_HasPrefix.f (l0 : List Int) (l1 : List Int) : Option (Bool) := if (l0.length : Int) ≥ (l1.length : Int) then (if 0 ≤ (l1.length : Int) then (if (l1.length : Int) ≤ (l0.length : Int) then ((bytes_Equal.f (l0.take ((l1.length : Int) : Int).toNat) l1).bind fun t222 => (some t222)) else (none)) else (none)) else (some false)
set_option maxHeartbeats 8000000 in
set_option maxRecDepth 100000 in
theorem bytes_HasPrefix.calls (A0 : Option Addr) (c0 : Nat) (l0 : List Int) (A1 : Option Addr) (c1 : Nat) (l1 : List Int) (r : Bool) (w : World) (hr0 : Kd.C (Kd.int .u8) w A0 l0.length l0) (hc0 : l0.length ≤ c0) (hr1 : Kd.C (Kd.int .u8) w A1 l1.length l1) (hc1 : l1.length ≤ c1) (h : bytes_HasPrefix.f l0 l1 = some r) :
  Calls Try.prog 27 #[.slice A0 l0.length c0, .slice A1 l1.length c1] w fun e w' => e = .returned (.bool r) ∧ Drawn0 w w' := by
 have HR0 := Aside0.mk hr0
 have HC0 := Aside0.mk hc0
 clear hr0 hc0
 have HR1 := Aside0.mk hr1
 have HC1 := Aside0.mk hc1
 clear hr1 hc1
 have H : (if (l0.length : Int) ≥ (l1.length : Int) then (if 0 ≤ (l1.length : Int) then (if (l1.length : Int) ≤ (l0.length : Int) then ((bytes_Equal.f (l0.take ((l1.length : Int) : Int).toNat) l1).bind fun t222 => (some t222)) else (none)) else (none)) else (some false)) = some r := h
 clear h
 by_cases c3 : (l0.length : Int) ≥ (l1.length : Int)
 ·
  rw [if_pos c3] at H
  have c3b0 : decide ((l1.length : Int) ≤ (l0.length : Int)) = true := decide_eq_true c3
  have c3b1 : decide (l1.length ≤ l0.length) = true := decide_eq_true (Int.ofNat_le.mp c3)
  clear c3
  by_cases c4 : 0 ≤ (l1.length : Int)
  ·
   rw [if_pos c4] at H
   have c4b0 := eq_true c4
   have c4b1 : decide (0 ≤ (l1.length : Int)) = true := decide_eq_true c4
   clear c4
   by_cases c5 : (l1.length : Int) ≤ (l0.length : Int)
   ·
    rw [if_pos c5] at H
    have c5b0 := eq_true c5
    have c5b1 : decide ((l1.length : Int) ≤ (l0.length : Int)) = true := decide_eq_true c5
    clear c5
    replace H := Option.bind_eq_some_iff.mp H
    obtain ⟨t222, A60, H⟩ := H
    replace H : (some t222) = some r := H
    have A6 := Aside0.mk A60
    clear A60
    obtain rfl := Option.some.inj H
    obtain ⟨i07, hi07, _, hsz7, _⟩ := info_parts info5
    obtain ⟨hcut7, hA7, hC7⟩ := print_take_of (P := Try.prog) (Value.int .u8) 0 23 5 .i64 Try.underlying23 hi07 hsz7 A0 c0 l0 (l1.length : Int) (of_decide_eq_true (by first | (with_reducible assumption) | assumption)) (of_decide_eq_true (by first | (with_reducible assumption) | assumption)) HC0.out
    have HR221 := Aside0.mk (Kd.C_of_reads (h1 := fun _ => rfl) (hA7 _ (Kd.reads_of_C HR0.out)))
    have HC221 := Aside0.mk hC7
    clear hA7 hC7 hi07 hsz7
    generalize hxs7 : (l0.take ((l1.length : Int) : Int).toNat) = xs7 at *
    clear hxs7
    go_enter Try.func27, Try.ntmps27
    go_wp2_with (first | (go_at_call 42; (with_reducible refine (bytes_Equal.calls _ _ xs7 _ _ l1 t222 _ ?side1 ?side2 ?side3 ?side4 A6.out).mono ?_); (case side1 => repeat (first | exact HR221.out | (with_reducible refine Kd.C_alloc ?_ _) | (with_reducible refine Kd.C_drewN ?_ _) | (with_reducible refine Kd.C_drew ?_))); (case side2 => exact HC221.out); (case side3 => repeat (first | exact HR1.out | (with_reducible refine Kd.C_alloc ?_ _) | (with_reducible refine Kd.C_drewN ?_ _) | (with_reducible refine Kd.C_drew ?_))); (case side4 => exact HC1.out); rintro e w' ⟨rfl, ⟨nd, rfl⟩⟩))
    go_ret
    exact ⟨by first | rfl | (simp; done) | (simp [*]; done), by repeat (first | exact Drawn0.refl _ | apply Drawn0.step)⟩
   ·
    rw [if_neg c5] at H
    exact absurd H (by simp)
  ·
   rw [if_neg c4] at H
   exact absurd H (by simp)
 ·
  rw [if_neg c3] at H
  have c3b0 : decide ((l1.length : Int) ≤ (l0.length : Int)) = false := decide_eq_false c3
  have c3b1 : decide (l1.length ≤ l0.length) = false := decide_eq_false (fun h => c3 (Int.ofNat_le.mpr h))
  clear c3
  obtain rfl := Option.some.inj H
  go_enter Try.func27, Try.ntmps27
  go_wp2
  go_ret
  exact ⟨by first | rfl | (simp; done) | (simp [*]; done), by repeat (first | exact Drawn0.refl _ | apply Drawn0.step)⟩

/-! ### impl_ScanInt: function 16 -/
mutual
def impl_ScanInt.j0 : Nat → List Int → List Int → Int → Bool → Option (Int × Int)
 | 0, _, _, _, _ => none
 | k + 1, x0, x4, x5, x20 => if x20 = true then (if 2 ≤ (x0.length : Int) then (impl_ScanInt.j1 k x0 (x0.drop 2) 16) else (none)) else (impl_ScanInt.j1 k x0 x4 x5)
def impl_ScanInt.j1 : Nat → List Int → List Int → Int → Option (Int × Int)
 | 0, _, _, _ => none
 | k + 1, x0, x4, x5 => impl_ScanInt.l0 k x0 x4 x5 0 x4 (x4.length : Int) 0
def impl_ScanInt.l0 : Nat → List Int → List Int → Int → Int → List Int → Int → Int → Option (Int × Int)
 | 0, _, _, _, _, _, _, _ => none
 | k + 1, x0, x4, x5, x6, x23, x24, x25 => if x25 < x24 then (if 0 ≤ x25 then (if x25 < (x23.length : Int) then ((impl_digitOf.f k (rd x23 x25)).bind fun t134 => (if t134 ≥ x5 then (some (0, 2)) else (impl_ScanInt.l0 k x0 x4 x5 (wrap64 ((wrap64 (x6 * x5)) + t134)) x23 x24 (wrap64 (x25 + 1))))) else (none)) else (none)) else (if (x4.length : Int) = 0 then (some (0, 2)) else (if (x0.length : Int) > 40 then (some (0, 4)) else (some (x6, 0))))
end
def impl_ScanInt.f (k : Nat) (l0 : List Int) : Option (Int × Int) := (bytes_HasPrefix.f l0 (([48, 120] : List Int))).bind fun t123 => (if t123 = true then (impl_ScanInt.j0 k l0 l0 10 true) else ((bytes_HasPrefix.f l0 (([48, 88] : List Int))).bind fun t127 => (impl_ScanInt.j0 k l0 l0 10 t127)))
theorem impl_ScanInt.mono_l : ∀ k, (∀ y0 y1 y2 y3, LeO (impl_ScanInt.j0 k y0 y1 y2 y3) (impl_ScanInt.j0 (k + 1) y0 y1 y2 y3)) ∧ (∀ y0 y1 y2, LeO (impl_ScanInt.j1 k y0 y1 y2) (impl_ScanInt.j1 (k + 1) y0 y1 y2)) ∧ (∀ y0 y1 y2 y3 y4 y5 y6, LeO (impl_ScanInt.l0 k y0 y1 y2 y3 y4 y5 y6) (impl_ScanInt.l0 (k + 1) y0 y1 y2 y3 y4 y5 y6))
 | 0 => ⟨fun _ _ _ _ r h => by simp [impl_ScanInt.j0] at h, fun _ _ _ r h => by simp [impl_ScanInt.j1] at h, fun _ _ _ _ _ _ _ r h => by simp [impl_ScanInt.l0] at h⟩
 | k + 1 => by
  obtain ⟨ih0, ih1, ih2⟩ := impl_ScanInt.mono_l k
  refine ⟨?_, ?_, ?_⟩
  ·
   intro y0 y1 y2 y3
   unfold impl_ScanInt.j0
   repeat' first
   | (with_reducible exact ih0 _ _ _ _)
   | (with_reducible exact ih1 _ _ _)
   | (with_reducible exact ih2 _ _ _ _ _ _ _)
   | (with_reducible exact impl_digitOf.mono _ _)
   | (with_reducible exact LeO.refl _)
   | (with_reducible exact LeO.none _)
   | (with_reducible refine LeO.ite ?_ ?_)
   | (with_reducible refine LeO.bind ?_ (fun _ => ?_))
   | exact ih0 _ _ _ _
   | exact ih1 _ _ _
   | exact ih2 _ _ _ _ _ _ _
   | exact impl_digitOf.mono _ _
   | exact LeO.none _
   | refine LeO.ite ?_ ?_
   | refine LeO.bind ?_ (fun _ => ?_)
  ·
   intro y0 y1 y2
   unfold impl_ScanInt.j1
   repeat' first
   | (with_reducible exact ih0 _ _ _ _)
   | (with_reducible exact ih1 _ _ _)
   | (with_reducible exact ih2 _ _ _ _ _ _ _)
   | (with_reducible exact impl_digitOf.mono _ _)
   | (with_reducible exact LeO.refl _)
   | (with_reducible exact LeO.none _)
   | (with_reducible refine LeO.ite ?_ ?_)
   | (with_reducible refine LeO.bind ?_ (fun _ => ?_))
   | exact ih0 _ _ _ _
   | exact ih1 _ _ _
   | exact ih2 _ _ _ _ _ _ _
   | exact impl_digitOf.mono _ _
   | exact LeO.none _
   | refine LeO.ite ?_ ?_
   | refine LeO.bind ?_ (fun _ => ?_)
  ·
   intro y0 y1 y2 y3 y4 y5 y6
   unfold impl_ScanInt.l0
   repeat' first
   | (with_reducible exact ih0 _ _ _ _)
   | (with_reducible exact ih1 _ _ _)
   | (with_reducible exact ih2 _ _ _ _ _ _ _)
   | (with_reducible exact impl_digitOf.mono _ _)
   | (with_reducible exact LeO.refl _)
   | (with_reducible exact LeO.none _)
   | (with_reducible refine LeO.ite ?_ ?_)
   | (with_reducible refine LeO.bind ?_ (fun _ => ?_))
   | exact ih0 _ _ _ _
   | exact ih1 _ _ _
   | exact ih2 _ _ _ _ _ _ _
   | exact impl_digitOf.mono _ _
   | exact LeO.none _
   | refine LeO.ite ?_ ?_
   | refine LeO.bind ?_ (fun _ => ?_)
theorem impl_ScanInt.mono : ∀ a0 k, LeO (impl_ScanInt.f k a0) (impl_ScanInt.f (k + 1) a0) := by
 intro a0 k
 obtain ⟨ih0, ih1, ih2⟩ := impl_ScanInt.mono_l k
 unfold impl_ScanInt.f
 repeat' first
   | (with_reducible exact ih0 _ _ _ _)
   | (with_reducible exact ih1 _ _ _)
   | (with_reducible exact ih2 _ _ _ _ _ _ _)
   | (with_reducible exact impl_digitOf.mono _ _)
   | (with_reducible exact LeO.refl _)
   | (with_reducible exact LeO.none _)
   | (with_reducible refine LeO.ite ?_ ?_)
   | (with_reducible refine LeO.bind ?_ (fun _ => ?_))
   | exact ih0 _ _ _ _
   | exact ih1 _ _ _
   | exact ih2 _ _ _ _ _ _ _
   | exact impl_digitOf.mono _ _
   | exact LeO.none _
   | refine LeO.ite ?_ ?_
   | refine LeO.bind ?_ (fun _ => ?_)
theorem hp_const (A0 : Option Addr) (c0 : Nat) (l0 : List Int) (g : Nat) (x y : Int) (r : Bool) (w : World) (hr0 : Kd.C (Kd.int .u8) w A0 l0.length l0) (hc0 : l0.length ≤ c0) (h0 : w.cell? ⟨g, 0, none⟩ = some (.int .u8 x)) (h1 : w.cell? ⟨g, 1, none⟩ = some (.int .u8 y)) (h : bytes_HasPrefix.f l0 [x, y] = some r) :
  Calls Try.prog 27 #[.slice A0 l0.length c0, .slice (some ⟨g, 0, none⟩) 2 2] w fun e w' => e = .returned (.bool r) ∧ Drawn0 w w' :=
 bytes_HasPrefix.calls A0 c0 l0 (some ⟨g, 0, none⟩) 2 [x, y] r w hr0 hc0 (Kd.C_of_reads (enc := Value.int .u8) (d := 0) (h1 := fun _ => rfl) ⟨rfl, by simp, fun _ => ⟨_, rfl, fun j hj => by
  have hj2 : j = 0 ∨ j = 1 := by simp at hj; omega
  rcases hj2 with rfl | rfl
  ·
   rw [add_plain]; exact h0
  ·
   rw [add_plain]; exact h1⟩⟩) (by simp) h
set_option maxHeartbeats 8000000 in
set_option maxRecDepth 100000 in
theorem impl_ScanInt.calls (k : Nat) (P0_ : Nat → Prop) (A0 : Option Addr) (c0 : Nat) (l0 : List Int) (r1 : Int) (r2 : Int) (w : World) (hs0 : Kd.V (Kd.int .u8) 5 w w.heap.size (fun k_ => P0_ k_) (.slice A0 l0.length c0) l0) (h : impl_ScanInt.f k l0 = some (r1, r2)) :
  Calls Try.prog 16 #[.slice A0 l0.length c0] w fun e w' => e = .returned (.tuple #[.int .i64 r1, .int .i64 r2]) ∧ Below w.heap.size w w' := by
 have HO0 := Aside0.mk (show Kd.V (Kd.int .u8) 5 w w.heap.size (fun k_ => (P0_ k_ ∨ w.heap.size ≤ k_)) (.slice A0 l0.length c0) l0 from Kd.V_mono hs0 (fun k_ hk => .inl hk))
 have HB := Aside0.mk (Below.refl w.heap.size w)
 have H : ((bytes_HasPrefix.f l0 (([48, 120] : List Int))).bind fun t123 => (if t123 = true then (impl_ScanInt.j0 k l0 l0 10 true) else ((bytes_HasPrefix.f l0 (([48, 88] : List Int))).bind fun t127 => (impl_ScanInt.j0 k l0 l0 10 t127)))) = some (r1, r2) := h
 clear h
 have HC2 := Aside0.mk H
 clear H
 go_enter Try.func16, Try.ntmps16
 go_upto_region 2 with (fail)
 go_cut [20] (fun v20 wc => ∃ (kq : Nat) (x20_1 : Bool), v20 = .bool x20_1 ∧ Aside0 (impl_ScanInt.j0 kq l0 l0 10 x20_1 = some (r1, r2)) ∧ Aside0 (kq ≤ k) ∧ Aside0 (Kd.V (Kd.int .u8) 5 wc w.heap.size (fun k_ => (P0_ k_ ∨ w.heap.size ≤ k_)) (.slice A0 l0.length c0) l0) ∧ Aside0 (Kd.V (Kd.int .u8) 5 wc w.heap.size (fun k_ => (P0_ k_ ∨ w.heap.size ≤ k_)) (.slice A0 l0.length c0) l0) ∧ Aside0 (Below w.heap.size w wc))
 case first =>
  have H := HC2.out
  clear HC2
  replace H := Option.bind_eq_some_iff.mp H
  obtain ⟨t123, A30, H⟩ := H
  have A3 := Aside0.mk A30
  clear A30
  have kc := fun (W : World) (C : Array Value) (n c : Nat) => Lib.run_convert_bytes_const (P := Try.prog) W 23 5 C n c Try.underlying23 Try.underlying5
  by_cases c4 : t123 = true
  ·
   subst c4
   have H' := Aside0.mk (show (impl_ScanInt.j0 k l0 l0 10 true) = some (r1, r2) by rw [if_pos rfl] at H; exact H)
   clear H
   go_wp2_with fail
   refine (hp_const A0 c0 l0 _ 48 120 true _ (Kd.C_alloc (Kd.V_reads' HO0.out).2.2 _) (Kd.V_reads' HO0.out).2.1 (cell_of_row _ _ 0 _ 5 (2, 3) (heap_alloc_new w _)) (cell_of_row _ _ 1 _ 5 (2, 3) (heap_alloc_new w _)) A3.out).mono ?_
   rintro e w' ⟨rfl, ⟨nd, rfl⟩⟩
   clear kc
   go_wp2
   go_meet
   case rel => exact ⟨_, true, rfl, H', ⟨Nat.le_refl _⟩, ⟨by (with_reducible repeat (first | apply Kd.V_alloc | apply Kd.V_drewN | apply Kd.V_drew)); exact HO0.out⟩, ⟨by (with_reducible repeat (first | apply Kd.V_alloc | apply Kd.V_drewN | apply Kd.V_drew)); exact HO0.out⟩, ⟨by repeat (first | (with_reducible first | exact HB.out | apply below_alloc | apply pw_below_drewN | apply below_drew1) | exact HB.out)⟩⟩
  ·
   replace c4 := Bool.eq_false_iff.mpr c4
   subst c4
   replace H := Option.bind_eq_some_iff.mp (show ((bytes_HasPrefix.f l0 (([48, 88] : List Int))).bind fun t127 => (impl_ScanInt.j0 k l0 l0 10 t127)) = some (r1, r2) by rw [if_neg (show ¬ (false = true) by decide)] at H; exact H)
   obtain ⟨t127, A80, H⟩ := H
   have A8 := Aside0.mk A80
   clear A80
   have H' := Aside0.mk H
   clear H
   go_wp2_with fail
   refine (hp_const A0 c0 l0 _ 48 120 false _ (Kd.C_alloc (Kd.V_reads' HO0.out).2.2 _) (Kd.V_reads' HO0.out).2.1 (cell_of_row _ _ 0 _ 5 (2, 3) (heap_alloc_new w _)) (cell_of_row _ _ 1 _ 5 (2, 3) (heap_alloc_new w _)) A3.out).mono ?_
   rintro e w' ⟨rfl, ⟨nd, rfl⟩⟩
   have k2 := Lib.run_convert_bytes_const (P := Try.prog) ((w.alloc (.cells #[.int .u8 48, .int .u8 120] 5 (2, 3))).drewN nd) 23 5 #[.int .u8 48, .int .u8 88] 2 2 Try.underlying23 Try.underlying5
   have hsz : ((w.alloc (.cells #[.int .u8 48, .int .u8 120] 5 (2, 3))).drewN nd).heap.size = w.heap.size + 1 := by simp
   rw [hsz] at k2
   have hc0 := cell_of_row (((w.alloc (.cells #[.int .u8 48, .int .u8 120] 5 (2, 3))).drewN nd).alloc (.cells #[.int .u8 48, .int .u8 88] 5 (2, 3))) (w.heap.size + 1) 0 #[.int .u8 48, .int .u8 88] 5 (2, 3) (by rw [← hsz]; exact heap_alloc_new _ _)
   have hc1 := cell_of_row (((w.alloc (.cells #[.int .u8 48, .int .u8 120] 5 (2, 3))).drewN nd).alloc (.cells #[.int .u8 48, .int .u8 88] 5 (2, 3))) (w.heap.size + 1) 1 #[.int .u8 48, .int .u8 88] 5 (2, 3) (by rw [← hsz]; exact heap_alloc_new _ _)
   have HC0 := Aside0.mk hc0
   have HC1 := Aside0.mk hc1
   clear hc0 hc1 kc hsz
   go_wp2_with fail
   refine (hp_const A0 c0 l0 _ 48 88 t127 _ (Kd.C_alloc (Kd.C_drewN (Kd.C_alloc (Kd.V_reads' HO0.out).2.2 _) _) _) (Kd.V_reads' HO0.out).2.1 HC0.out HC1.out A8.out).mono ?_
   rintro e w' ⟨rfl, ⟨nd2, rfl⟩⟩
   clear k2 HC0 HC1
   go_wp2
   go_meet
   case rel => exact ⟨_, t127, rfl, H', ⟨Nat.le_refl _⟩, ⟨by (with_reducible repeat (first | apply Kd.V_alloc | apply Kd.V_drewN | apply Kd.V_drew)); exact HO0.out⟩, ⟨by (with_reducible repeat (first | apply Kd.V_alloc | apply Kd.V_drewN | apply Kd.V_drew)); exact HO0.out⟩, ⟨by repeat (first | (with_reducible first | exact HB.out | apply below_alloc | apply pw_below_drewN | apply below_drew1) | exact HB.out)⟩⟩
 case rest =>
  clear HC2
  try clear c1
  try clear c2
  try clear p2
  try clear c4
  obtain ⟨kq, x20_1, rfl, HA, HJ1, HO_0, HO_4, HB⟩ := hcut
  cases kq with
  | zero => exact absurd HA.out (by simp [impl_ScanInt.j0])
  | succ kj1 =>
   have H := HA.out
   clear HA
   simp only [impl_ScanInt.j0] at H
   have HC15 := Aside0.mk H
   clear H
   go_upto_if 20 with (fail)
   go_cut [4, 5] (fun v4 v5 wc => ∃ (kq : Nat) (x4_14 : List Int) (x5_14 : Int), v5 = .int .i64 x5_14 ∧ Aside0 (impl_ScanInt.j1 kq l0 x4_14 x5_14 = some (r1, r2)) ∧ Aside0 (kq ≤ kj1) ∧ Aside0 (Kd.V (Kd.int .u8) 5 wc w.heap.size (fun k_ => (P0_ k_ ∨ w.heap.size ≤ k_)) (.slice A0 l0.length c0) l0) ∧ Aside0 (Kd.V (Kd.int .u8) 5 wc w.heap.size (fun k_ => (P0_ k_ ∨ w.heap.size ≤ k_)) v4 x4_14) ∧ Aside0 (Below w.heap.size w wc))
   case first =>
    have H := HC15.out
    clear HC15
    by_cases c16 : x20_1 = true
    ·
     subst c16
     have H1 : (if 2 ≤ (l0.length : Int) then (impl_ScanInt.j1 kj1 l0 (l0.drop 2) 16) else (none)) = some (r1, r2) := by rw [if_pos rfl] at H; exact H
     clear H
     have H := H1
     clear H1
     by_cases c17 : 2 ≤ (l0.length : Int)
     ·
      rw [if_pos c17] at H
      have c17b0 := eq_true c17
      have c17b1 : decide (2 ≤ (l0.length : Int)) = true := decide_eq_true c17
      clear c17
      obtain ⟨y128, hy128⟩ : ∃ y_ : List Int, y_ = (l0.drop 2) := ⟨_, rfl⟩
      replace H : (impl_ScanInt.j1 kj1 l0 y128 16) = some (r1, r2) := by first | (rw [hy128]; with_reducible exact H) | (have H2_ := (Option.bind_some _ _).symm.trans H; rw [hy128]; with_reducible exact H2_) | (have H2_ := (Option.bind_some _ _).symm.trans H; with_reducible exact H2_) | with_reducible exact H | (rw [hy128]; exact H) | exact H
      have Ny128 := Aside0.mk hy128
      clear hy128
      have H' := Aside0.mk H
      clear H
      have q18 : (2 : Int) ≤ ((l0.length : Int) : Int) := of_decide_eq_true (by first | (with_reducible assumption) | assumption)
      obtain ⟨i018, hi018, _, hsz18, _⟩ := info_parts info5
      have hroom18 : l0.length ≤ c0 := (Kd.V_reads' HO_0.out).2.1
      have hC18 : Kd.F (Kd.int .u8) _ _ A0 l0.length l0 := (Kd.V_at (base := w.heap.size) HO_0.out).2.2
      have hcut18 := cut_from (P := Try.prog) 23 5 .i64 Try.underlying23 hi018 1 hsz18 A0 l0.length c0 2 (by omega) q18
      have hr18 := Kd.F_cut (m := (2 : Int).toNat) (c := c0) hC18 (by omega) hroom18
      obtain ⟨A18, hA18⟩ : ∃ A1, A1 = (if c0 = (2 : Int).toNat then A0 else (A0 : Option Addr).map (·.add ((2 : Int).toNat * 1))) := ⟨_, rfl⟩
      obtain ⟨c18, hc18⟩ : ∃ c1, c1 = c0 - (2 : Int).toNat := ⟨_, rfl⟩
      have hy18 : y128.length = l0.length - (2 : Int).toNat := (by rw [Ny128.out, List.length_drop] <;> omega)
      rw [show (l0).drop (2 : Int).toNat = y128 from Ny128.out.symm] at hr18
      replace hr18 : Kd.F (Kd.int .u8) _ _ A18 y128.length y128 := (by rw [hA18]; exact hr18)
      rw [← hy18, ← hA18, ← hc18] at hcut18
      have HO132 := Aside0.mk (show Kd.V (Kd.int .u8) 5 _ w.heap.size _ (.slice A18 y128.length c18) y128 from Kd.V_mk (by rw [hy18, hc18]; exact Nat.sub_le_sub_right hroom18 _) hr18)
      have HC132 := Aside0.mk (show y128.length ≤ c18 from by rw [hy18, hc18]; exact Nat.sub_le_sub_right hroom18 _)
      clear hr18 hC18 hroom18 hi018 hsz18 hc18
      have KY18 := Aside0.mk hy18
      have KA18 := Aside0.mk hA18
      clear hy18 hA18
      replace q18 := eq_true q18
      go_wp2
      go_meet
      case rel => exact ⟨_, (y128), (16), (by first | rfl | (simp; done) | (simp [*]; done)), H', ⟨by have := HJ1.out; first | omega | exact Nat.le_refl _⟩, ⟨by (with_reducible repeat (first | apply Kd.V_alloc | apply Kd.V_drewN | apply Kd.V_drew)); exact HO_0.out⟩, ⟨by (with_reducible repeat (first | apply Kd.V_alloc | apply Kd.V_drewN | apply Kd.V_drew)); exact HO132.out⟩, ⟨by repeat (first | (with_reducible first | exact HB.out | apply below_alloc | apply pw_below_drewN | apply below_drew1) | exact HB.out)⟩⟩
     ·
      rw [if_neg c17] at H
      exact absurd H (by simp)
    ·
     replace c16 := Bool.eq_false_iff.mpr c16
     subst c16
     have H1 : (impl_ScanInt.j1 kj1 l0 l0 10) = some (r1, r2) := by rw [if_neg (show ¬ (false = true) by decide)] at H; exact H
     clear H
     have H := H1
     clear H1
     have H' := Aside0.mk H
     clear H
     go_wp2
     go_meet
     case rel => exact ⟨_, (l0), (10), (by first | rfl | (simp; done) | (simp [*]; done)), H', ⟨by have := HJ1.out; first | omega | exact Nat.le_refl _⟩, ⟨by (with_reducible repeat (first | apply Kd.V_alloc | apply Kd.V_drewN | apply Kd.V_drew)); exact HO_0.out⟩, ⟨by (with_reducible repeat (first | apply Kd.V_alloc | apply Kd.V_drewN | apply Kd.V_drew)); exact HO_4.out⟩, ⟨by repeat (first | (with_reducible first | exact HB.out | apply below_alloc | apply pw_below_drewN | apply below_drew1) | exact HB.out)⟩⟩
   case rest =>
    clear HC15
    try clear c1
    try clear q1
    try clear c2
    try clear p2
    try clear c4
    try clear c16
    try clear c17
    try clear c17b0
    try clear c17b1
    try clear c18
    try clear q18
    try clear p2
    try clear q18
    obtain ⟨kq, x4_14, x5_14, rfl, HA, HJ14, HO_0, HO_4, HB⟩ := hcut
    cases kq with
    | zero => exact absurd HA.out (by simp [impl_ScanInt.j1])
    | succ kj14 =>
     have H := HA.out
     clear HA
     simp only [impl_ScanInt.j1] at H
     have H' := Aside0.mk H
     clear H
     obtain ⟨Ao19, co19, eo19⟩ := Kd.V_slice HO_4.out
     subst eo19
     go_wp2
     go_loopg [6, 25] kj14 (fun kq v6 v25 w' => ∃ (x6_3 : Int) (x25_3 : Int), v6 = .int .i64 x6_3 ∧ v25 = .int .i64 x25_3 ∧ Aside0 (impl_ScanInt.l0 kq l0 x4_14 x5_14 x6_3 x4_14 (x4_14.length : Int) x25_3 = some (r1, r2)) ∧ Aside0 (kq ≤ kj14) ∧ Aside0 (Kd.V (Kd.int .u8) 5 w' w.heap.size (fun k_ => (P0_ k_ ∨ w.heap.size ≤ k_)) (.slice A0 l0.length c0) l0) ∧ Aside0 (Kd.V (Kd.int .u8) 5 w' w.heap.size (fun k_ => (P0_ k_ ∨ w.heap.size ≤ k_)) (.slice Ao19 x4_14.length co19) x4_14) ∧ Aside0 (Kd.V (Kd.int .u8) 5 w' w.heap.size (fun k_ => (P0_ k_ ∨ w.heap.size ≤ k_)) (.slice Ao19 x4_14.length co19) x4_14) ∧ Aside0 (Below w.heap.size w w'))
     case atStart => exact ⟨(0), (0), (by first | rfl | (simp; done) | (simp [*]; done)), (by first | rfl | (simp; done) | (simp [*]; done)), H', ⟨Nat.le_refl _⟩, ⟨by (with_reducible repeat (first | apply Kd.V_alloc | apply Kd.V_drewN | apply Kd.V_drew)); exact HO_0.out⟩, ⟨by (with_reducible repeat (first | apply Kd.V_alloc | apply Kd.V_drewN | apply Kd.V_drew)); exact HO_4.out⟩, ⟨by (with_reducible repeat (first | apply Kd.V_alloc | apply Kd.V_drewN | apply Kd.V_drew)); exact HO_4.out⟩, ⟨by repeat (first | (with_reducible first | exact HB.out | apply below_alloc | apply pw_below_drewN | apply below_drew1) | exact HB.out)⟩⟩
     case round =>
      clear H'
      try clear c1
      try clear q1
      try clear c2
      try clear p2
      try clear c4
      try clear c16
      try clear c17
      try clear c17b0
      try clear c17b1
      try clear c18
      try clear q18
      try clear p2
      try clear q1
      try clear q18
      obtain ⟨x6_3, x25_3, rfl, rfl, HA, HK3, HO_0, HO_4, HO_23, HB⟩ := hrel
      cases gk with
      | zero => exact absurd HA.out (by simp [impl_ScanInt.l0])
      | succ k3 =>
       have H := HA.out
       clear HA
       simp only [impl_ScanInt.l0] at H
       by_cases c20 : x25_3 < (x4_14.length : Int)
       ·
        rw [if_pos c20] at H
        have c20b0 : decide (x25_3 < (x4_14.length : Int)) = true := decide_eq_true c20
        clear c20
        by_cases c21 : 0 ≤ x25_3
        ·
         rw [if_pos c21] at H
         have c21b0 : decide (0 ≤ x25_3) = true := decide_eq_true c21
         clear c21
         by_cases c22 : x25_3 < (x4_14.length : Int)
         ·
          rw [if_pos c22] at H
          have c22b0 : decide (x25_3 < (x4_14.length : Int)) = true := decide_eq_true c22
          clear c22
          replace H := Option.bind_eq_some_iff.mp H
          obtain ⟨t134, A230, H⟩ := H
          replace H : (if t134 ≥ x5_14 then (some (0, 2)) else (impl_ScanInt.l0 k3 l0 x4_14 x5_14 (wrap64 ((wrap64 (x6_3 * x5_14)) + t134)) x4_14 (x4_14.length : Int) (wrap64 (x25_3 + 1)))) = some (r1, r2) := H
          have A23 := Aside0.mk A230
          clear A230
          by_cases c24 : t134 ≥ x5_14
          ·
           rw [if_pos c24] at H
           have c24b0 : decide (x5_14 ≤ t134) = true := decide_eq_true c24
           clear c24
           simp only [Option.some.injEq, Prod.mk.injEq] at H
           obtain ⟨rfl, rfl⟩ := H
           have p133 : 0 ≤ (x25_3 : Int) := of_decide_eq_true (by first | (with_reducible assumption) | assumption)
           have q133 : x25_3 < (x4_14.length : Int) := of_decide_eq_true (by first | (with_reducible assumption) | assumption)
           obtain ⟨ad133, e133, hx133_0⟩ := Kd.at_int (Kd.V_reads' HO_23.out).2.2 x25_3 p133 q133
           cases e133
           replace p133 := eq_true p133
           replace q133 := eq_true q133
           go_wp2_with (first | ((with_reducible refine gate_callee (f := 28) rfl ?_); refine goesL_ (some 30) rfl rfl Try.func28 (by kernel_rfl) rfl #[.int .u8 (rd x4_14 x25_3)] rfl (by (try simp only [List.map_toArray, List.map_cons, List.map_nil]); first | done | rfl | (simp only [List.length_drop, List.length_take]; rfl)) ?_; (with_reducible refine (impl_digitOf.calls k3 (rd x4_14 x25_3) t134 _ A23.out).mono ?_); rintro e w' ⟨rfl, ⟨nd, rfl⟩⟩; refine ⟨_, rfl, ?_⟩))
           go_ret2
           exact ⟨by first | rfl | (simp [errW_none, errW_some] <;> rfl) | (simp [*, errW_none, errW_some] <;> rfl), by repeat (first | (with_reducible first | exact HB.out | apply below_alloc | apply pw_below_drewN | apply below_drew1) | exact HB.out)⟩
          ·
           rw [if_neg c24] at H
           have c24b0 : decide (x5_14 ≤ t134) = false := decide_eq_false c24
           clear c24
           have H' := Aside0.mk H
           clear H
           have p133 : 0 ≤ (x25_3 : Int) := of_decide_eq_true (by first | (with_reducible assumption) | assumption)
           have q133 : x25_3 < (x4_14.length : Int) := of_decide_eq_true (by first | (with_reducible assumption) | assumption)
           obtain ⟨ad133, e133, hx133_0⟩ := Kd.at_int (Kd.V_reads' HO_23.out).2.2 x25_3 p133 q133
           cases e133
           replace p133 := eq_true p133
           replace q133 := eq_true q133
           go_wp2_with (first | ((with_reducible refine gate_callee (f := 28) rfl ?_); refine goesL_ (some 30) rfl rfl Try.func28 (by kernel_rfl) rfl #[.int .u8 (rd x4_14 x25_3)] rfl (by (try simp only [List.map_toArray, List.map_cons, List.map_nil]); first | done | rfl | (simp only [List.length_drop, List.length_take]; rfl)) ?_; (with_reducible refine (impl_digitOf.calls k3 (rd x4_14 x25_3) t134 _ A23.out).mono ?_); rintro e w' ⟨rfl, ⟨nd, rfl⟩⟩; refine ⟨_, rfl, ?_⟩))
           go_roundg k3
           case measure => have := HJ1.out; have := HJ14.out; have := HK3.out; omega
           case rel => exact ⟨(wrap64 ((wrap64 (x6_3 * x5_14)) + t134)), (wrap64 (x25_3 + 1)), (by first | rfl | (simp; done) | (simp [*]; done)), (by first | rfl | (simp; done) | (simp [*]; done)), H', ⟨by have := HJ1.out; have := HJ14.out; have := HK3.out; omega⟩, ⟨by (with_reducible repeat (first | apply Kd.V_alloc | apply Kd.V_drewN | apply Kd.V_drew)); exact HO_0.out⟩, ⟨by (with_reducible repeat (first | apply Kd.V_alloc | apply Kd.V_drewN | apply Kd.V_drew)); exact HO_4.out⟩, ⟨by (with_reducible repeat (first | apply Kd.V_alloc | apply Kd.V_drewN | apply Kd.V_drew)); exact HO_23.out⟩, ⟨by repeat (first | (with_reducible first | exact HB.out | apply below_alloc | apply pw_below_drewN | apply below_drew1) | exact HB.out)⟩⟩
         ·
          rw [if_neg c22] at H
          exact absurd H (by simp)
        ·
         rw [if_neg c21] at H
         exact absurd H (by simp)
       ·
        rw [if_neg c20] at H
        have c20b0 : decide (x25_3 < (x4_14.length : Int)) = false := decide_eq_false c20
        clear c20
        by_cases c25 : (x4_14.length : Int) = 0
        ·
         rw [if_pos c25] at H
         have c25b0 : ((x4_14.length : Int) == 0) = true := beq_iff_eq.mpr c25
         have c25b1 : ((x4_14.length : Int) != 0) = false := bne_eq_false_iff_eq.mpr c25
         clear c25
         simp only [Option.some.injEq, Prod.mk.injEq] at H
         obtain ⟨rfl, rfl⟩ := H
         go_wp2
         go_ret2
         exact ⟨by first | rfl | (simp [errW_none, errW_some] <;> rfl) | (simp [*, errW_none, errW_some] <;> rfl), by repeat (first | (with_reducible first | exact HB.out | apply below_alloc | apply pw_below_drewN | apply below_drew1) | exact HB.out)⟩
        ·
         rw [if_neg c25] at H
         have c25b0 : ((x4_14.length : Int) == 0) = false := beq_eq_false_iff_ne.mpr c25
         have c25b1 : ((x4_14.length : Int) != 0) = true := bne_iff_ne.mpr c25
         have c25b2 : ¬ (x4_14 = []) := fun h_ => c25 (by rw [h_]; rfl)
         by_cases c26 : (l0.length : Int) > 40
         ·
          rw [if_pos c26] at H
          have c26b0 : decide (40 < (l0.length : Int)) = true := decide_eq_true c26
          have c26b1 : decide (40 < l0.length) = true := decide_eq_true (by omega)
          clear c26
          simp only [Option.some.injEq, Prod.mk.injEq] at H
          obtain ⟨rfl, rfl⟩ := H
          go_wp2
          go_ret2
          exact ⟨by first | rfl | (simp [errW_none, errW_some] <;> rfl) | (simp [*, errW_none, errW_some] <;> rfl), by repeat (first | (with_reducible first | exact HB.out | apply below_alloc | apply pw_below_drewN | apply below_drew1) | exact HB.out)⟩
         ·
          rw [if_neg c26] at H
          have c26b0 : decide (40 < (l0.length : Int)) = false := decide_eq_false c26
          have c26b1 : decide (40 < l0.length) = false := decide_eq_false (by omega)
          clear c26
          simp only [Option.some.injEq, Prod.mk.injEq] at H
          obtain ⟨rfl, rfl⟩ := H
          go_wp2
          go_ret2
          exact ⟨by first | rfl | (simp [errW_none, errW_some] <;> rfl) | (simp [*, errW_none, errW_some] <;> rfl), by repeat (first | (with_reducible first | exact HB.out | apply below_alloc | apply pw_below_drewN | apply below_drew1) | exact HB.out)⟩




end Go.Proofs.Ytchfdpmkgjblgaa.M
