-- Laid by a program of this session (pp.py) over the kit's printer; repaired and widened by hand-written contracts. Lean checks it.
import Derived.Test.YtchfdpmkgjblgaaPx0
import Derived.Test.YtchfdpmkgjblgaaPx2
namespace Go.Proofs.Ytchfdpmkgjblgaa.P
open Go.RowKit Go.Proofs.YtchfdpmkgjblgaaW.PrintWords Go.Proofs.YtchfdpmkgjblgaaW.PrintLast Go.Proofs.YtchfdpmkgjblgaaW.PrintMore
attribute [local go_sem] max2_int min2_int max_two min_two max_three min_three max_four min_four   -- for this text's walks alone
set_option linter.unusedVariables false
set_option linter.unusedSimpArgs false

/-! ### spec_UnquoteText: function 17 -/
def spec_UnquoteText.f (k : Nat) (l0 : List Int) : Option (List Int × Int) := (spec_l1literal.f k l0 0).bind fun bt145 => (if bt145.2 = 0 then (some (([] : List Int), 2)) else (if bt145.2 = (l0.length : Int) then (some (bt145.1, 0)) else (some (([] : List Int), 2))))
theorem spec_UnquoteText.mono : ∀ a0 k, LeO (spec_UnquoteText.f k a0) (spec_UnquoteText.f (k + 1) a0) := by
  intro a0 k
  unfold spec_UnquoteText.f
  repeat' first
      | (with_reducible exact spec_l1literal.mono _ _ _)
      | (with_reducible exact LeO.refl _)
      | (with_reducible exact LeO.none _)
      | (with_reducible refine LeO.ite ?_ ?_)
      | (with_reducible refine LeO.bind ?_ (fun _ => ?_))
      | exact spec_l1literal.mono _ _ _
      | exact LeO.none _
      | refine LeO.ite ?_ ?_
      | refine LeO.bind ?_ (fun _ => ?_)
set_option maxHeartbeats 8000000 in
set_option maxRecDepth 100000 in
theorem spec_UnquoteText.calls (k : Nat) (A0 : Option Addr) (c0 : Nat) (l0 : List Int) (r1 : List Int) (r2 : Int) (w : World) (hr0 : Kd.C (Kd.int .u8) w A0 l0.length l0) (hc0 : l0.length ≤ c0) (h : spec_UnquoteText.f k l0 = some (r1, r2)) :
    Calls Try.prog 17 #[.slice A0 l0.length c0] w fun e w' => ∃ v0_ : Value, e = .returned (.tuple #[v0_, .int .i64 r2]) ∧ Kd.R (Kd.int .u8) 5 w' w.heap.size (fun _ => True) v0_ r1 ∧ Below w.heap.size w w' := by
  have HR0 := Aside0.mk hr0
  have HC0 := Aside0.mk hc0
  clear hr0 hc0
  have HB := Aside0.mk (Below.refl w.heap.size w)
  have H : ((spec_l1literal.f k l0 0).bind fun bt145 => (if bt145.2 = 0 then (some (([] : List Int), 2)) else (if bt145.2 = (l0.length : Int) then (some (bt145.1, 0)) else (some (([] : List Int), 2))))) = some (r1, r2) := h
  clear h
  replace H := Option.bind_eq_some_iff.mp H
  obtain ⟨⟨t145, t146⟩, A20, H⟩ := H
  replace H : (if t146 = 0 then (some (([] : List Int), 2)) else (if t146 = (l0.length : Int) then (some (t145, 0)) else (some (([] : List Int), 2)))) = some (r1, r2) := H
  have A2 := Aside0.mk A20
  clear A20
  by_cases c3 : t146 = 0
  · rw [if_pos c3] at H
    have c3b0 : (t146 == 0) = true := beq_iff_eq.mpr c3
    have c3b1 : (t146 != 0) = false := bne_eq_false_iff_eq.mpr c3
    clear c3
    simp only [Option.some.injEq, Prod.mk.injEq] at H
    obtain ⟨rfl, rfl⟩ := H
    go_enter Try.func17, Try.ntmps17
    go_wp2_with (first | ((with_reducible refine gate_callee (f := 29) rfl ?_); refine goesL_ (some 8) rfl rfl Try.func29 (by kernel_rfl) rfl #[.slice A0 l0.length c0, .int .i64 0] rfl (by (try simp only [List.map_toArray, List.map_cons, List.map_nil]); first | done | rfl | (simp only [List.length_drop, List.length_take]; rfl)) ?_; (with_reducible refine (spec_l1literal.calls k _ _ l0 0 t145 t146 _ ?side1 ?side2 A2.out).mono ?_); (case side1 => repeat (first | exact HR0.out | (with_reducible refine Kd.C_alloc ?_ _) | (with_reducible refine Kd.C_drewN ?_ _) | (with_reducible refine Kd.C_drew ?_))); (case side2 => exact HC0.out); rintro e w4 ⟨v147, rfl, ho0, hb⟩; refine ⟨_, rfl, ?_⟩; have n0_ := Aside0.mk (Kd.R_lower ho0 (below_size (by repeat (first | (with_reducible first | exact HB.out | apply below_alloc | apply pw_below_drewN | apply below_drew1) | exact HB.out)))); have n1_ := Aside0.mk (below_step (by repeat (first | (with_reducible first | exact HB.out | apply below_alloc | apply pw_below_drewN | apply below_drew1) | exact HB.out)) hb); clear HB; have HO148 := n0_; have HB := n1_; clear n0_ n1_; (try clear hb); (try clear hb2); (try clear hk); (try clear hi); (try clear ho0)))
    go_ret2
    exact ⟨_, by first | rfl | (simp [errW_none, errW_some] <;> rfl) | (simp [*, errW_none, errW_some] <;> rfl), by first | exact Kd.R_nil _ _ _ _ _ | exact Kd.N_nil _ _ _ _ _ | exact Kd.V_nil _ _ _ _ _ | exact Kd.Q_nil _ _ _ _ _ | exact Kd.S_nil _ _ _ _ _, by repeat (first | (with_reducible first | exact HB.out | apply below_alloc | apply pw_below_drewN | apply below_drew1) | exact HB.out)⟩
  · rw [if_neg c3] at H
    have c3b0 : (t146 == 0) = false := beq_eq_false_iff_ne.mpr c3
    have c3b1 : (t146 != 0) = true := bne_iff_ne.mpr c3
    by_cases c5 : t146 = (l0.length : Int)
    · rw [if_pos c5] at H
      have c5b0 : (t146 == (l0.length : Int)) = true := beq_iff_eq.mpr c5
      have c5b1 : (t146 != (l0.length : Int)) = false := bne_eq_false_iff_eq.mpr c5
      clear c5
      simp only [Option.some.injEq, Prod.mk.injEq] at H
      obtain ⟨rfl, rfl⟩ := H
      go_enter Try.func17, Try.ntmps17
      go_wp2_with (first | ((with_reducible refine gate_callee (f := 29) rfl ?_); refine goesL_ (some 8) rfl rfl Try.func29 (by kernel_rfl) rfl #[.slice A0 l0.length c0, .int .i64 0] rfl (by (try simp only [List.map_toArray, List.map_cons, List.map_nil]); first | done | rfl | (simp only [List.length_drop, List.length_take]; rfl)) ?_; (with_reducible refine (spec_l1literal.calls k _ _ l0 0 t145 t146 _ ?side1 ?side2 A2.out).mono ?_); (case side1 => repeat (first | exact HR0.out | (with_reducible refine Kd.C_alloc ?_ _) | (with_reducible refine Kd.C_drewN ?_ _) | (with_reducible refine Kd.C_drew ?_))); (case side2 => exact HC0.out); rintro e w6 ⟨v147, rfl, ho0, hb⟩; refine ⟨_, rfl, ?_⟩; have n0_ := Aside0.mk (Kd.R_lower ho0 (below_size (by repeat (first | (with_reducible first | exact HB.out | apply below_alloc | apply pw_below_drewN | apply below_drew1) | exact HB.out)))); have n1_ := Aside0.mk (below_step (by repeat (first | (with_reducible first | exact HB.out | apply below_alloc | apply pw_below_drewN | apply below_drew1) | exact HB.out)) hb); clear HB; have HO148 := n0_; have HB := n1_; clear n0_ n1_; (try clear hb); (try clear hb2); (try clear hk); (try clear hi); (try clear ho0)))
      go_ret2
      exact ⟨_, by first | rfl | (simp [errW_none, errW_some] <;> rfl) | (simp [*, errW_none, errW_some] <;> rfl), by (with_reducible repeat (first | apply Kd.R_alloc | apply Kd.R_drewN | apply Kd.R_drew)); exact HO148.out, by repeat (first | (with_reducible first | exact HB.out | apply below_alloc | apply pw_below_drewN | apply below_drew1) | exact HB.out)⟩
    · rw [if_neg c5] at H
      have c5b0 : (t146 == (l0.length : Int)) = false := beq_eq_false_iff_ne.mpr c5
      have c5b1 : (t146 != (l0.length : Int)) = true := bne_iff_ne.mpr c5
      simp only [Option.some.injEq, Prod.mk.injEq] at H
      obtain ⟨rfl, rfl⟩ := H
      go_enter Try.func17, Try.ntmps17
      go_wp2_with (first | ((with_reducible refine gate_callee (f := 29) rfl ?_); refine goesL_ (some 8) rfl rfl Try.func29 (by kernel_rfl) rfl #[.slice A0 l0.length c0, .int .i64 0] rfl (by (try simp only [List.map_toArray, List.map_cons, List.map_nil]); first | done | rfl | (simp only [List.length_drop, List.length_take]; rfl)) ?_; (with_reducible refine (spec_l1literal.calls k _ _ l0 0 t145 t146 _ ?side1 ?side2 A2.out).mono ?_); (case side1 => repeat (first | exact HR0.out | (with_reducible refine Kd.C_alloc ?_ _) | (with_reducible refine Kd.C_drewN ?_ _) | (with_reducible refine Kd.C_drew ?_))); (case side2 => exact HC0.out); rintro e w7 ⟨v147, rfl, ho0, hb⟩; refine ⟨_, rfl, ?_⟩; have n0_ := Aside0.mk (Kd.R_lower ho0 (below_size (by repeat (first | (with_reducible first | exact HB.out | apply below_alloc | apply pw_below_drewN | apply below_drew1) | exact HB.out)))); have n1_ := Aside0.mk (below_step (by repeat (first | (with_reducible first | exact HB.out | apply below_alloc | apply pw_below_drewN | apply below_drew1) | exact HB.out)) hb); clear HB; have HO148 := n0_; have HB := n1_; clear n0_ n1_; (try clear hb); (try clear hb2); (try clear hk); (try clear hi); (try clear ho0)))
      go_ret2
      exact ⟨_, by first | rfl | (simp [errW_none, errW_some] <;> rfl) | (simp [*, errW_none, errW_some] <;> rfl), by first | exact Kd.R_nil _ _ _ _ _ | exact Kd.N_nil _ _ _ _ _ | exact Kd.V_nil _ _ _ _ _ | exact Kd.Q_nil _ _ _ _ _ | exact Kd.S_nil _ _ _ _ _, by repeat (first | (with_reducible first | exact HB.out | apply below_alloc | apply pw_below_drewN | apply below_drew1) | exact HB.out)⟩

/-! ### impl_digitOf: function 28 -/
mutual
def impl_digitOf.j0 : Nat → Int → Bool → Option (Int)
  | 0, _, _ => none
  | k + 1, x0, x3 => if x3 = true then (some ((x0 - 48) % 256)) else (if x0 ≥ 97 then (impl_digitOf.j1 k x0 (decide (x0 ≤ 102))) else (impl_digitOf.j1 k x0 false))
def impl_digitOf.j1 : Nat → Int → Bool → Option (Int)
  | 0, _, _ => none
  | k + 1, x0, x13 => if x13 = true then (some (((x0 - 97) % 256) + 10)) else (if x0 ≥ 65 then (if x0 ≤ 70 then (some (((x0 - 65) % 256) + 10)) else (some 99)) else (some 99))
end
def impl_digitOf.f (k : Nat) (a0 : Int) : Option (Int) := if a0 ≥ 48 then (impl_digitOf.j0 k a0 (decide (a0 ≤ 57))) else (impl_digitOf.j0 k a0 false)
theorem impl_digitOf.mono_l : ∀ k, (∀ y0 y1, LeO (impl_digitOf.j0 k y0 y1) (impl_digitOf.j0 (k + 1) y0 y1)) ∧ (∀ y0 y1, LeO (impl_digitOf.j1 k y0 y1) (impl_digitOf.j1 (k + 1) y0 y1))
  | 0 => ⟨fun _ _ r h => by simp [impl_digitOf.j0] at h, fun _ _ r h => by simp [impl_digitOf.j1] at h⟩
  | k + 1 => by
    obtain ⟨ih0, ih1⟩ := impl_digitOf.mono_l k
    refine ⟨?_, ?_⟩
    · intro y0 y1
      unfold impl_digitOf.j0
      repeat' first
      | (with_reducible exact ih0 _ _)
      | (with_reducible exact ih1 _ _)
      | (with_reducible exact LeO.refl _)
      | (with_reducible exact LeO.none _)
      | (with_reducible refine LeO.ite ?_ ?_)
      | (with_reducible refine LeO.bind ?_ (fun _ => ?_))
      | exact ih0 _ _
      | exact ih1 _ _
      | exact LeO.none _
      | refine LeO.ite ?_ ?_
      | refine LeO.bind ?_ (fun _ => ?_)
    · intro y0 y1
      unfold impl_digitOf.j1
      repeat' first
      | (with_reducible exact ih0 _ _)
      | (with_reducible exact ih1 _ _)
      | (with_reducible exact LeO.refl _)
      | (with_reducible exact LeO.none _)
      | (with_reducible refine LeO.ite ?_ ?_)
      | (with_reducible refine LeO.bind ?_ (fun _ => ?_))
      | exact ih0 _ _
      | exact ih1 _ _
      | exact LeO.none _
      | refine LeO.ite ?_ ?_
      | refine LeO.bind ?_ (fun _ => ?_)
theorem impl_digitOf.mono : ∀ a0 k, LeO (impl_digitOf.f k a0) (impl_digitOf.f (k + 1) a0) := by
  intro a0 k
  obtain ⟨ih0, ih1⟩ := impl_digitOf.mono_l k
  unfold impl_digitOf.f
  repeat' first
      | (with_reducible exact ih0 _ _)
      | (with_reducible exact ih1 _ _)
      | (with_reducible exact LeO.refl _)
      | (with_reducible exact LeO.none _)
      | (with_reducible refine LeO.ite ?_ ?_)
      | (with_reducible refine LeO.bind ?_ (fun _ => ?_))
      | exact ih0 _ _
      | exact ih1 _ _
      | exact LeO.none _
      | refine LeO.ite ?_ ?_
      | refine LeO.bind ?_ (fun _ => ?_)
set_option maxHeartbeats 8000000 in
set_option maxRecDepth 100000 in
theorem impl_digitOf.calls (k : Nat) (a0 : Int) (r : Int) (w : World) (h : impl_digitOf.f k a0 = some r) :
    Calls Try.prog 28 #[.int .u8 a0] w fun e w' => e = .returned (.int .i64 r) ∧ Drawn0 w w' := by
  have H : (if a0 ≥ 48 then (impl_digitOf.j0 k a0 (decide (a0 ≤ 57))) else (impl_digitOf.j0 k a0 false)) = some r := h
  clear h
  have HC2 := Aside0.mk H
  clear H
  go_enter Try.func28, Try.ntmps28
  go_upto_region 1 with (fail)
  go_cut [3] (fun v3 wc => ∃ (kq : Nat) (x3_1 : Bool), v3 = .bool x3_1 ∧ Aside0 (impl_digitOf.j0 kq a0 x3_1 = some r) ∧ Aside0 (kq ≤ k) ∧ Drawn0 w wc)
  case first =>
    have H := HC2.out
    clear HC2
    by_cases c3 : a0 ≥ 48
    · rw [if_pos c3] at H
      have c3b0 : decide (48 ≤ a0) = true := decide_eq_true c3
      clear c3
      (first | rw [c3b0] | (simp only [i64_w, i32_w]; rw [c3b0]) | skip)
      have H' := Aside0.mk H
      clear H
      go_wp2
      go_meet
      case rel => exact ⟨_, (decide (a0 ≤ 57)), (by first | rfl | (simp; done) | (simp [*]; done)), H', ⟨by first | omega | exact Nat.le_refl _⟩, by repeat (first | exact Drawn0.refl _ | apply Drawn0.step)⟩
    · rw [if_neg c3] at H
      have c3b0 : decide (48 ≤ a0) = false := decide_eq_false c3
      clear c3
      (first | rw [c3b0] | (simp only [i64_w, i32_w]; rw [c3b0]) | skip)
      have H' := Aside0.mk H
      clear H
      go_wp2
      go_meet
      case rel => exact ⟨_, (false), (by first | rfl | (simp; done) | (simp [*]; done)), H', ⟨by first | omega | exact Nat.le_refl _⟩, by repeat (first | exact Drawn0.refl _ | apply Drawn0.step)⟩
  case rest =>
    clear HC2
    try clear c2
    try clear p2
    try clear c3
    try clear c3b0
    obtain ⟨kq, x3_1, rfl, HA, HJ1, ⟨mc1, rfl⟩⟩ := hcut
    cases kq with
    | zero => exact absurd HA.out (by simp [impl_digitOf.j0])
    | succ kj1 =>
      have H := HA.out
      clear HA
      simp only [impl_digitOf.j0] at H
      by_cases c4 : x3_1 = true
      · subst c4
        have H1 : (some ((a0 - 48) % 256)) = some r := by rw [if_pos rfl] at H; exact H
        clear H
        have H := H1
        clear H1
        obtain rfl := Option.some.inj H
        go_wp2
        go_ret
        exact ⟨by first | rfl | (simp; done) | (simp [*]; done), by repeat (first | exact Drawn0.refl _ | apply Drawn0.step)⟩
      · replace c4 := Bool.eq_false_iff.mpr c4
        subst c4
        have H1 : (if a0 ≥ 97 then (impl_digitOf.j1 kj1 a0 (decide (a0 ≤ 102))) else (impl_digitOf.j1 kj1 a0 false)) = some r := by rw [if_neg (show ¬ (false = true) by decide)] at H; exact H
        clear H
        have H := H1
        clear H1
        have HC5 := Aside0.mk H
        clear H
        go_upto_region 3 with (fail)
        go_cut [13] (fun v13 wc => ∃ (kq : Nat) (x13_4 : Bool), v13 = .bool x13_4 ∧ Aside0 (impl_digitOf.j1 kq a0 x13_4 = some r) ∧ Aside0 (kq ≤ kj1) ∧ Drawn0 w wc)
        case first =>
          have H := HC5.out
          clear HC5
          by_cases c6 : a0 ≥ 97
          · rw [if_pos c6] at H
            have c6b0 : decide (97 ≤ a0) = true := decide_eq_true c6
            clear c6
            (first | rw [c6b0] | (simp only [i64_w, i32_w]; rw [c6b0]) | skip)
            have H' := Aside0.mk H
            clear H
            go_wp2
            go_meet
            case rel => exact ⟨_, (decide (a0 ≤ 102)), (by first | rfl | (simp; done) | (simp [*]; done)), H', ⟨by have := HJ1.out; first | omega | exact Nat.le_refl _⟩, by repeat (first | exact Drawn0.refl _ | apply Drawn0.step)⟩
          · rw [if_neg c6] at H
            have c6b0 : decide (97 ≤ a0) = false := decide_eq_false c6
            clear c6
            (first | rw [c6b0] | (simp only [i64_w, i32_w]; rw [c6b0]) | skip)
            have H' := Aside0.mk H
            clear H
            go_wp2
            go_meet
            case rel => exact ⟨_, (false), (by first | rfl | (simp; done) | (simp [*]; done)), H', ⟨by have := HJ1.out; first | omega | exact Nat.le_refl _⟩, by repeat (first | exact Drawn0.refl _ | apply Drawn0.step)⟩
        case rest =>
          clear HC5
          try clear c1
          try clear c2
          try clear p2
          try clear c3
          try clear c3b0
          try clear c4
          try clear c6
          try clear c6b0
          try clear p2
          obtain ⟨kq, x13_4, rfl, HA, HJ4, ⟨mc4, rfl⟩⟩ := hcut
          cases kq with
          | zero => exact absurd HA.out (by simp [impl_digitOf.j1])
          | succ kj4 =>
            have H := HA.out
            clear HA
            simp only [impl_digitOf.j1] at H
            by_cases c7 : x13_4 = true
            · subst c7
              have H1 : (some (((a0 - 97) % 256) + 10)) = some r := by rw [if_pos rfl] at H; exact H
              clear H
              have H := H1
              clear H1
              obtain rfl := Option.some.inj H
              go_wp2
              go_ret
              exact ⟨by first | rfl | (simp; done) | (simp [*]; done), by repeat (first | exact Drawn0.refl _ | apply Drawn0.step)⟩
            · replace c7 := Bool.eq_false_iff.mpr c7
              subst c7
              have H1 : (if a0 ≥ 65 then (if a0 ≤ 70 then (some (((a0 - 65) % 256) + 10)) else (some 99)) else (some 99)) = some r := by rw [if_neg (show ¬ (false = true) by decide)] at H; exact H
              clear H
              have H := H1
              clear H1
              by_cases c8 : a0 ≥ 65
              · rw [if_pos c8] at H
                have c8b0 : decide (65 ≤ a0) = true := decide_eq_true c8
                clear c8
                by_cases c9 : a0 ≤ 70
                · rw [if_pos c9] at H
                  have c9b0 : decide (a0 ≤ 70) = true := decide_eq_true c9
                  clear c9
                  obtain rfl := Option.some.inj H
                  go_wp2
                  go_ret
                  exact ⟨by first | rfl | (simp; done) | (simp [*]; done), by repeat (first | exact Drawn0.refl _ | apply Drawn0.step)⟩
                · rw [if_neg c9] at H
                  have c9b0 : decide (a0 ≤ 70) = false := decide_eq_false c9
                  clear c9
                  obtain rfl := Option.some.inj H
                  go_wp2
                  go_ret
                  exact ⟨by first | rfl | (simp; done) | (simp [*]; done), by repeat (first | exact Drawn0.refl _ | apply Drawn0.step)⟩
              · rw [if_neg c8] at H
                have c8b0 : decide (65 ≤ a0) = false := decide_eq_false c8
                clear c8
                obtain rfl := Option.some.inj H
                go_wp2
                go_ret
                exact ⟨by first | rfl | (simp; done) | (simp [*]; done), by repeat (first | exact Drawn0.refl _ | apply Drawn0.step)⟩

/-! ### impl_escaped: function 43 -/
def impl_escaped.f (a0 : Int) : Option (Int × Bool) := some (if wrap32 a0 = 110 then (10, true) else if wrap32 a0 = 116 then (9, true) else if wrap32 a0 = 92 then (92, true) else if wrap32 a0 = 34 then (34, true) else if wrap32 a0 = 39 then (39, true) else (0, false))
abbrev escS : ByteArray := { data := #[110, 116, 92, 34, 39] }
theorem esc_next {P : Program} (w : World) (pos : Nat) (c : Nat) (h : pos < escS.size) (hc : (escS[pos]'h).toNat = c) (ha : c < 128) (ty : TypeId) :
    (Instr.next (.pointer (some ⟨w.heap.size, 0, none⟩)) true ty).run P (w.iter escS pos) = .ok (.tuple #[.bool true, .int .i64 pos, .int .i32 c]) (w.iter escS (pos + 1)) := by
  have := run_next_ascii (P := P) w escS pos ty h (by omega)
  rw [hc] at this
  exact this
theorem esc_end {P : Program} (w : World) (ty : TypeId) :
    (Instr.next (.pointer (some ⟨w.heap.size, 0, none⟩)) true ty).run P (w.iter escS 5) = .ok (.tuple #[.bool false]) (w.iter escS 5) := run_next_end w escS 5 ty (by decide)
def escOpen (c : Int) (pos : Nat) : Prop := (0 < pos → c ≠ 110) ∧ (1 < pos → c ≠ 116) ∧ (2 < pos → c ≠ 92) ∧ (3 < pos → c ≠ 34) ∧ (4 < pos → c ≠ 39)
theorem esc_iterPos (w : World) (s : ByteArray) (pos : Nat) : (w.iter s pos).iterPos w.heap.size = pos := iterPos_of (World.iter_heap w s pos)
set_option maxHeartbeats 4000000 in
set_option maxRecDepth 100000 in
theorem impl_escaped.calls (a0 : Int) (r1 : Int) (r2 : Bool) (w : World) (h : impl_escaped.f a0 = some (r1, r2)) :
    Calls Try.prog 43 #[.int .u8 a0] w fun e w' => e = .returned (.tuple #[.int .u8 r1, .bool r2]) ∧ Below w.heap.size w w' := by
  have H := Aside0.mk h
  clear h
  have n0 := esc_next (P := Try.prog) w 0 110 (by decide) (by decide) (by decide)
  have n1 := esc_next (P := Try.prog) w 1 116 (by decide) (by decide) (by decide)
  have n2 := esc_next (P := Try.prog) w 2 92 (by decide) (by decide) (by decide)
  have n3 := esc_next (P := Try.prog) w 3 34 (by decide) (by decide) (by decide)
  have n4 := esc_next (P := Try.prog) w 4 39 (by decide) (by decide) (by decide)
  have n5 := esc_end (P := Try.prog) w
  go_enter Try.func43, Try.ntmps43
  go_wp2
  go_loopw [2, 3] (fun v2 v3 w' => v2 = .int .u8 0 ∧ v3 = .bool false ∧ ∃ pos, w' = w.iter escS pos ∧ pos ≤ 5 ∧ Aside0 (escOpen (wrap32 a0) pos)) (fun _ _ w' => 5 - w'.iterPos w.heap.size)
  case atStart => exact ⟨rfl, rfl, 0, rfl, by omega, ⟨by simp [escOpen]⟩⟩
  case round =>
    obtain ⟨rfl, rfl, pos, rfl, hp, ho⟩ := hrel
    match pos, hp, ho with
    | 0, _, ho =>
      by_cases hc : wrap32 a0 = 110
      · have hb : (wrap32 a0 == 110) = true := beq_iff_eq.mpr hc
        have hr := Aside0.mk hc
        clear hc
        go_wp2
        have hv : some ((10 : Int), true) = some (r1, r2) := by
          rw [← H.out]; simp [impl_escaped.f, hr.out]
        obtain ⟨rfl, rfl⟩ := Prod.mk.inj (Option.some.inj hv)
        go_ret2
        exact ⟨rfl, (Below.refl _ _).alloc (Nat.le_refl _) _⟩
      · have hb : (wrap32 a0 == 110) = false := beq_eq_false_iff_ne.mpr hc
        have hr := Aside0.mk hc
        clear hc
        go_wp2
        go_roundw
        case rel => exact ⟨rfl, rfl, 1, rfl, by omega, ⟨by have := ho.out; have := hr.out; simp [escOpen] at *; simp [*]⟩⟩
        case measure => simp [esc_iterPos]
    | 1, _, ho =>
      by_cases hc : wrap32 a0 = 116
      · have hb : (wrap32 a0 == 116) = true := beq_iff_eq.mpr hc
        have hr := Aside0.mk hc
        clear hc
        go_wp2
        have hv : some ((9 : Int), true) = some (r1, r2) := by
          rw [← H.out]; simp [impl_escaped.f, hr.out]
        obtain ⟨rfl, rfl⟩ := Prod.mk.inj (Option.some.inj hv)
        go_ret2
        exact ⟨rfl, (Below.refl _ _).alloc (Nat.le_refl _) _⟩
      · have hb : (wrap32 a0 == 116) = false := beq_eq_false_iff_ne.mpr hc
        have hr := Aside0.mk hc
        clear hc
        go_wp2
        go_roundw
        case rel => exact ⟨rfl, rfl, 2, rfl, by omega, ⟨by have := ho.out; have := hr.out; simp [escOpen] at *; simp [*]⟩⟩
        case measure => simp [esc_iterPos]
    | 2, _, ho =>
      by_cases hc : wrap32 a0 = 92
      · have hb : (wrap32 a0 == 92) = true := beq_iff_eq.mpr hc
        have hr := Aside0.mk hc
        clear hc
        go_wp2
        have hv : some ((92 : Int), true) = some (r1, r2) := by
          rw [← H.out]; simp [impl_escaped.f, hr.out]
        obtain ⟨rfl, rfl⟩ := Prod.mk.inj (Option.some.inj hv)
        go_ret2
        exact ⟨rfl, (Below.refl _ _).alloc (Nat.le_refl _) _⟩
      · have hb : (wrap32 a0 == 92) = false := beq_eq_false_iff_ne.mpr hc
        have hr := Aside0.mk hc
        clear hc
        go_wp2
        go_roundw
        case rel => exact ⟨rfl, rfl, 3, rfl, by omega, ⟨by have := ho.out; have := hr.out; simp [escOpen] at *; simp [*]⟩⟩
        case measure => simp [esc_iterPos]
    | 3, _, ho =>
      by_cases hc : wrap32 a0 = 34
      · have hb : (wrap32 a0 == 34) = true := beq_iff_eq.mpr hc
        have hr := Aside0.mk hc
        clear hc
        go_wp2
        have hv : some ((34 : Int), true) = some (r1, r2) := by
          rw [← H.out]; simp [impl_escaped.f, hr.out]
        obtain ⟨rfl, rfl⟩ := Prod.mk.inj (Option.some.inj hv)
        go_ret2
        exact ⟨rfl, (Below.refl _ _).alloc (Nat.le_refl _) _⟩
      · have hb : (wrap32 a0 == 34) = false := beq_eq_false_iff_ne.mpr hc
        have hr := Aside0.mk hc
        clear hc
        go_wp2
        go_roundw
        case rel => exact ⟨rfl, rfl, 4, rfl, by omega, ⟨by have := ho.out; have := hr.out; simp [escOpen] at *; simp [*]⟩⟩
        case measure => simp [esc_iterPos]
    | 4, _, ho =>
      by_cases hc : wrap32 a0 = 39
      · have hb : (wrap32 a0 == 39) = true := beq_iff_eq.mpr hc
        have hr := Aside0.mk hc
        clear hc
        go_wp2
        have hv : some ((39 : Int), true) = some (r1, r2) := by
          rw [← H.out]; simp [impl_escaped.f, hr.out]
        obtain ⟨rfl, rfl⟩ := Prod.mk.inj (Option.some.inj hv)
        go_ret2
        exact ⟨rfl, (Below.refl _ _).alloc (Nat.le_refl _) _⟩
      · have hb : (wrap32 a0 == 39) = false := beq_eq_false_iff_ne.mpr hc
        have hr := Aside0.mk hc
        clear hc
        go_wp2
        go_roundw
        case rel => exact ⟨rfl, rfl, 5, rfl, by omega, ⟨by have := ho.out; have := hr.out; simp [escOpen] at *; simp [*]⟩⟩
        case measure => simp [esc_iterPos]
    | 5, _, ho =>
      go_wp2
      have hv : some ((0 : Int), false) = some (r1, r2) := by
        obtain ⟨h0, h1, h2, h3, h4⟩ := ho.out
        rw [← H.out]
        simp [impl_escaped.f, h0 (by omega), h1 (by omega), h2 (by omega), h3 (by omega), h4 (by omega)]
      obtain ⟨rfl, rfl⟩ := Prod.mk.inj (Option.some.inj hv)
      go_ret2
      exact ⟨rfl, (Below.refl _ _).alloc (Nat.le_refl _) _⟩



end Go.Proofs.Ytchfdpmkgjblgaa.P
