/- The checker, part 9: contracts of functions of the program that the printer does not take. -/
import Derived.Test.YtmmpiojekgfdjaaDoorZpH8
import Derived.WalkKit
import Derived.Deep.LoopGhost
import Derived.Deep.QuietTactic
import Derived.BigQuiet
import Derived.Deep.DeepCutAuto
import Derived.Deep.RegionHeld3
import Derived.Laws.Rows
import Derived.StillTactics
import Derived.StillTailTactics
import Derived.LoopTactic
import Derived.RegionTactic
import Derived.BigRegion
import Derived.Outline
import Derived.Maps.OwnOps
import Derived.Maps.OwnSet
import Derived.WalkSpells
import Derived.Laws.EntriesVeiled
import Derived.Laws.Tables
import Derived.Deep.RegionLaw
import Derived.ChangeAlike
import Derived.Test.YtmmpiojekgfdjaaDoorZpK
namespace Go.Proofs.YtmmpiojekgfdjaaDoor.C
open Go.RowKit YtmmpiojekgfdjaaDoorW.PrintWords YtmmpiojekgfdjaaDoorW.PrintLast
set_option linter.unusedVariables false
set_option linter.unusedSimpArgs false
set_option maxHeartbeats 40000000 in
set_option maxRecDepth 100000 in
theorem impl_Check.calls (A0_0 : Option Addr) (c0_0 : Nat) (l0_0 : List S69) (A0_1 : Option Addr) (c0_1 : Nat) (l0_1 : List S45) (r : Bool) (w : World) (hr0_0 : Kd.C k69 w A0_0 l0_0.length l0_0) (hc0_0 : l0_0.length ≤ c0_0)
  (hr0_1 : Kd.C k45 w A0_1 l0_1.length l0_1) (hc0_1 : l0_1.length ≤ c0_1) (h : impl_Check.f l0_0 l0_1 = some r) :
  Calls Tryd.prog 20 #[.agg #[.slice A0_0 l0_0.length c0_0, .slice A0_1 l0_1.length c0_1]] w fun e w' => e = .returned (.bool r) ∧ Below w.heap.size w w' := by
 have HR0 := amZ hr0_0
 have HC0 := amZ hc0_0
 have HR1 := amZ hr0_1
 have HC1 := amZ hc0_1
 have hu31 := Tryd.underlying32
 clear hr0_0 hc0_0 hr0_1 hc0_1
 unfold impl_Check.f at h
 split at h
 ·
  cases h
 rename_i hbig
 have HBIG : Aside0 (bigCode l0_1 = false) := ⟨by simpa using hbig⟩
 clear hbig
 have HH := amZ h
 clear h
 by_cases q1 : l0_1.length < 1
 ·
  have d1 : decide ((l0_1.length : Int) < 1) = true := decide_eq_true (by omega)
  have hr := HH.out
  rw [if_pos (by omega)] at hr
  have HR := amZ (Option.some.inj hr)
  clear hr q1 HH
  go_enter Tryd.func20, Tryd.ntmps20
  go_wp2
  go_ret
  exact ⟨ret_bool HR.out, (Below.refl _ _).alloc (Nat.le_refl _) _⟩
 have d1 : decide ((l0_1.length : Int) < 1) = false := decide_eq_false (by omega)
 by_cases q2 : 500 < l0_1.length
 ·
  have d2 : decide (500 < (l0_1.length : Int)) = true := decide_eq_true (by omega)
  have hr := HH.out
  rw [if_pos (by omega)] at hr
  have HR := amZ (Option.some.inj hr)
  clear hr q1 q2 HH
  go_enter Tryd.func20, Tryd.ntmps20
  go_wp2
  go_ret
  exact ⟨ret_bool HR.out, (Below.refl _ _).alloc (Nat.le_refl _) _⟩
 have d2 : decide (500 < (l0_1.length : Int)) = false := decide_eq_false (by omega)
 by_cases q3 : 20000 < l0_0.length
 ·
  have d3 : decide (20000 < (l0_0.length : Int)) = true := decide_eq_true (by omega)
  have hr := HH.out
  rw [if_pos (by omega)] at hr
  have HR := amZ (Option.some.inj hr)
  clear hr q1 q2 q3 HH
  go_enter Tryd.func20, Tryd.ntmps20
  go_wp2
  go_ret
  exact ⟨ret_bool HR.out, (Below.refl _ _).alloc (Nat.le_refl _) _⟩
 have d3 : decide (20000 < (l0_0.length : Int)) = false := decide_eq_false (by omega)
 have hr := HH.out
 rw [if_neg (by omega)] at hr
 have HR := amZ hr
 have HQ1 := amZ q1
 have HQ2 := amZ q2
 have HQ3 := amZ q3
 clear hr q1 q2 q3 HH
 go_enter Tryd.func20, Tryd.ntmps20
 go_wp2
 obtain ⟨bp, hbp⟩ : ∃ b, b = w.heap.size := ⟨_, rfl⟩
 have HK0 : Aside0 (ChkW w bp A0_0 A0_1 l0_0.length c0_0 l0_1.length c0_1 (w.alloc (.cells #[.slice A0_0 l0_0.length c0_0, .slice A0_1 l0_1.length c0_1] 32))) := ⟨⟨(Below.refl _ _).alloc (Nat.le_refl _) _, by rw [hbp, heap_alloc_new]⟩⟩
 rw [← hbp]
 clear hbp d1 d2 d3
 go_loopg [33] l0_0.length (fun gq v33 wr => ∃ j : Nat, v33 = .int .i64 (j : Int) ∧ Aside0 (j + gq = l0_0.length) ∧ Aside0 ((l0_0.drop j).any constBad = l0_0.any constBad) ∧ Aside0 (ChkW w bp A0_0 A0_1 l0_0.length c0_0 l0_1.length c0_1 wr))
 case atStart => exact ⟨0, rfl, ⟨by omega⟩, ⟨by simp⟩, HK0⟩
 case round =>
  obtain ⟨j, rfl, hj, hi, HB⟩ := hrel
  clear HK0
  by_cases hlt : j < l0_0.length
  ·
   have p0 : 0 ≤ (j : Int) := by omega
   have q0 : (j : Int) < (l0_0.length : Int) := by omega
   obtain ⟨adc, B2, e2, eA, c0, c1, c2, hcl, hcu⟩ := at_T69 HR0.out (j : Int) p0 q0
   cases eA
   rw [rdT48_nat l0_0 j hlt, Int.toNat_natCast] at c0 c1 c2
   obtain ⟨c, hc⟩ : ∃ c, c = l0_0[j] := ⟨_, rfl⟩
   rw [← hc] at c0 c1 c2
   have hd : l0_0.drop j = c :: l0_0.drop (j + 1) := by rw [List.drop_eq_getElem_cons hlt, hc]
   have HI : Aside0 ((constBad c || (l0_0.drop (j + 1)).any constBad) = l0_0.any constBad) := ⟨by have := hi.out; rw [hd] at this; exact this⟩
   clear hd hi hcl hcu
   replace c0 := zdY HB.out.b c0
   replace c1 := zdY HB.out.b c1
   replace c2 := zdY HB.out.b c2
   clear hc
   obtain ⟨f0, f1, f2⟩ := c
   simp only at c0 c1 c2
   have dl : decide ((j : Int) < (l0_0.length : Int)) = true := decide_eq_true q0
   have dn : decide (j < l0_0.length) = true := decide_eq_true hlt
   have HLT := amZ hlt
   have HLN : Aside0 (l0_0.length ≤ 20000) := ⟨by have := HQ3.out; omega⟩
   replace p0 := eq_true p0
   replace q0 := eq_true q0
   clear hlt
   by_cases a1 : 5000 < f2.length
   ·
    have e1 : decide (5000 < (f2.length : Int)) = true := decide_eq_true (by omega)
    have HBD : Aside0 (l0_0.any constBad = true) := ⟨by rw [← HI.out]; simp [constBad, a1]⟩
    clear a1 HI
    go_wp2
    have hr := HR.out
    rw [if_pos HBD.out] at hr
    have hr2 := Option.some.inj hr
    go_ret
    exact ⟨ret_bool hr2, (HB.out.alloc _).b⟩
   have e1 : decide (5000 < (f2.length : Int)) = false := decide_eq_false (by omega)
   cases f0 with
   | true =>
    by_cases a2 : f1 = 0
    ·
     subst a2
     have e2 : ((0 : Int) != 0) = false := rfl
     have HGD : Aside0 ((l0_0.drop (j + 1)).any constBad = l0_0.any constBad) := ⟨by rw [← HI.out]; simp [constBad, a1]⟩
     clear a1 HI
     go_wp2
     go_roundg (l0_0.length - (j + 1))
     case measure => have := hj.out; have := HLT.out; omega
     case rel => exact ⟨j + 1, i64_next HLT.out (by have := HLN.out; omega), ⟨by have := HLT.out; omega⟩, HGD, ⟨HB.out.alloc _⟩⟩
    ·
     have e2 : (f1 != 0) = true := by simp [a2]
     have HBD : Aside0 (l0_0.any constBad = true) := ⟨by rw [← HI.out]; simp [constBad, a2]⟩
     clear a1 HI
     go_wp2
     have hr := HR.out
     rw [if_pos HBD.out] at hr
     have hr2 := Option.some.inj hr
     go_ret
     exact ⟨ret_bool hr2, (HB.out.alloc _).b⟩
   | false =>
    by_cases a2 : 0 < f2.length
    ·
     have e2 : decide (0 < (f2.length : Int)) = true := decide_eq_true (by omega)
     have HBD : Aside0 (l0_0.any constBad = true) := ⟨by rw [← HI.out]; simp [constBad, a2]⟩
     clear a1 HI
     go_wp2
     have hr := HR.out
     rw [if_pos HBD.out] at hr
     have hr2 := Option.some.inj hr
     go_ret
     exact ⟨ret_bool hr2, (HB.out.alloc _).b⟩
    ·
     have e2 : decide (0 < (f2.length : Int)) = false := decide_eq_false (by omega)
     have e3 : f2.length = 0 := by omega
     have HGD : Aside0 ((l0_0.drop (j + 1)).any constBad = l0_0.any constBad) := ⟨by rw [← HI.out]; simp [constBad, e3, a1]⟩
     clear a1 HI
     go_wp2
     go_roundg (l0_0.length - (j + 1))
     case measure => have := hj.out; have := HLT.out; omega
     case rel => exact ⟨j + 1, i64_next HLT.out (by have := HLN.out; omega), ⟨by have := HLT.out; omega⟩, HGD, ⟨HB.out.alloc _⟩⟩
  ·
   have e0 : (l0_0.drop j) = [] := List.drop_eq_nil_of_le (by omega)
   have hcb : l0_0.any constBad = false := by rw [← hi.out, e0]; rfl
   have hr := HR.out
   rw [if_neg (by rw [hcb]; simp)] at hr
   have HR2 := amZ hr
   have dl : decide ((j : Int) < (l0_0.length : Int)) = false := decide_eq_false (by omega)
   have dn : decide (j < l0_0.length) = false := decide_eq_false hlt
   have HB1 := HB
   have y0 := HB.out.c1
   clear e0 hi hlt hj hcb hr HR HB
   go_wp2
   clear y0 dl dn
   go_loopg [65, 5] l0_1.length (fun gq v65 v5 wr => ∃ (j t : Nat), v65 = .int .i64 (j : Int) ∧ v5 = .int .i64 (t : Int) ∧ Aside0 (j + gq = l0_1.length) ∧ Aside0 (protosBad j (l0_1.drop j) = protosBad 0 l0_1) ∧ Aside0 (t + sumCode (l0_1.drop j) = sumCode l0_1) ∧ Aside0 (t ≤ j * 2000000) ∧ Aside0 (ChkW w bp A0_0 A0_1 l0_0.length c0_0 l0_1.length c0_1 wr))
   case atStart => exact ⟨0, 0, rfl, rfl, ⟨by omega⟩, ⟨by simp⟩, ⟨by simp⟩, ⟨by omega⟩, HB1⟩
   case round =>
    obtain ⟨j, t, rfl, rfl, hj, hi, hs, ht, HB⟩ := hrel
    clear HB1
    by_cases hlt : j < l0_1.length
    ·
     have p0 : 0 ≤ (j : Int) := by omega
     have q0 : (j : Int) < (l0_1.length : Int) := by omega
     obtain ⟨adp, B2, e2, B3, e3, eA, c0, c1, c2, c3, hl2, hi2, hl3, hi3⟩ := at_T45 HR1.out (j : Int) p0 q0
     cases eA
     rw [rdT52_nat l0_1 j hlt, Int.toNat_natCast] at c0 c1 c2 c3
     rw [rdT52_nat l0_1 j hlt] at hl2 hi2 hl3 hi3
     have hbl := bigCode_get HBIG.out j hlt
     obtain ⟨f, hf⟩ : ∃ f, f = l0_1[j] := ⟨_, rfl⟩
     rw [← hf] at c0 c1 c2 c3 hl2 hi2 hl3 hi3 hbl
     have hd : l0_1.drop j = f :: l0_1.drop (j + 1) := by rw [List.drop_eq_getElem_cons hlt, hf]
     have HI : Aside0 (((protoBad f || headBad j f) || protosBad (j + 1) (l0_1.drop (j + 1))) = protosBad 0 l0_1) := ⟨by have := hi.out; rw [hd] at this; exact this⟩
     have HS : Aside0 (t + f.f3.length + sumCode (l0_1.drop (j + 1)) = sumCode l0_1) := ⟨by have := hs.out; rw [hd] at this; simp only [sumCode] at this; omega⟩
     clear hd hi hs
     replace c0 := zdY HB.out.b c0
     replace c1 := zdY HB.out.b c1
     replace c2 := zdY HB.out.b c2
     replace c3 := zdY HB.out.b c3
     have HI2 : Aside0 (Kd.C k48 wr B2 f.f2.length f.f2) := ⟨Kd.C_below hi2 HB.out.b⟩
     have HL2 := amZ hl2
     clear hf hi2 hl2 hl3 hi3
     obtain ⟨f0, f1, f2, f3⟩ := f
     simp only at c0 c1 c2 c3 hbl HI HS HI2 HL2
     have dl : decide ((j : Int) < (l0_1.length : Int)) = true := decide_eq_true q0
     have dn : decide (j < l0_1.length) = true := decide_eq_true hlt
     have HLT := amZ hlt
     have HBL := amZ hbl
     have ws : wrap64 ((t : Int) + (f3.length : Int)) = ((t + f3.length : Nat) : Int) := by
      have h1 := ht.out; have h2 := HQ2.out
      rw [wrapB (by omega) (by have : j * 2000000 ≤ 500 * 2000000 := Nat.mul_le_mul_right _ (by omega); omega)]
      omega
     replace p0 := eq_true p0
     replace q0 := eq_true q0
     clear hlt hbl
     by_cases b1 : (f2.any fun c => capBad c.f1) = true
     ·
      have db10 : (f2.any fun c => capBad c.f1) = true := b1
      have HBD : Aside0 (protosBad 0 l0_1 = true) := ⟨by rw [← HI.out]; simp [protoBad, b1]⟩
      clear HI b1
      go_wp2_with (go_at_call 42; go_loud (refine (containsBad_calls B2 e2 f2 _ ((Kd.C_alloc HI2.out _)) HL2.out).mono ?_; rintro e w3 ⟨rfl, hb3⟩; have HB3 := amZ ((HB.out.alloc _).step hb3); have kq := (hb3.block wr.heap.size (by simp)).trans (heap_alloc_new _ _); have k0 := (zaY kq 0).trans rfl; have k1 := (zaY kq 1).trans rfl; have k2 := (zaY kq 2).trans rfl; have k3 := (zaY kq 3).trans rfl; clear hb3 kq))
      have hr := HR2.out
      rw [if_pos HBD.out] at hr
      have hr2 := Option.some.inj hr
      go_ret
      exact ⟨ret_bool hr2, HB3.out.b⟩
     have db10 : (f2.any fun c => capBad c.f1) = false := by simpa using b1
     by_cases b2 : f0 < 0
     ·
      have db20 : decide (f0 < 0) = true := decide_eq_true (by omega)
      have HBD : Aside0 (protosBad 0 l0_1 = true) := ⟨by rw [← HI.out]; simp [protoBad, b2]⟩
      clear HI b1 b2
      go_wp2_with (go_at_call 42; go_loud (refine (containsBad_calls B2 e2 f2 _ ((Kd.C_alloc HI2.out _)) HL2.out).mono ?_; rintro e w3 ⟨rfl, hb3⟩; have HB3 := amZ ((HB.out.alloc _).step hb3); have kq := (hb3.block wr.heap.size (by simp)).trans (heap_alloc_new _ _); have k0 := (zaY kq 0).trans rfl; have k1 := (zaY kq 1).trans rfl; have k2 := (zaY kq 2).trans rfl; have k3 := (zaY kq 3).trans rfl; clear hb3 kq))
      have hr := HR2.out
      rw [if_pos HBD.out] at hr
      have hr2 := Option.some.inj hr
      go_ret
      exact ⟨ret_bool hr2, HB3.out.b⟩
     have db20 : decide (f0 < 0) = false := decide_eq_false (by omega)
     by_cases b3 : f1 < f0
     ·
      have db30 : decide (f1 < f0) = true := decide_eq_true (by omega)
      have HBD : Aside0 (protosBad 0 l0_1 = true) := ⟨by rw [← HI.out]; simp [protoBad, b3]⟩
      clear HI b1 b2 b3
      go_wp2_with (go_at_call 42; go_loud (refine (containsBad_calls B2 e2 f2 _ ((Kd.C_alloc HI2.out _)) HL2.out).mono ?_; rintro e w3 ⟨rfl, hb3⟩; have HB3 := amZ ((HB.out.alloc _).step hb3); have kq := (hb3.block wr.heap.size (by simp)).trans (heap_alloc_new _ _); have k0 := (zaY kq 0).trans rfl; have k1 := (zaY kq 1).trans rfl; have k2 := (zaY kq 2).trans rfl; have k3 := (zaY kq 3).trans rfl; clear hb3 kq))
      have hr := HR2.out
      rw [if_pos HBD.out] at hr
      have hr2 := Option.some.inj hr
      go_ret
      exact ⟨ret_bool hr2, HB3.out.b⟩
     have db30 : decide (f1 < f0) = false := decide_eq_false (by omega)
     by_cases b4 : 200 < f1
     ·
      have db40 : decide (200 < f1) = true := decide_eq_true (by omega)
      have HBD : Aside0 (protosBad 0 l0_1 = true) := ⟨by rw [← HI.out]; simp [protoBad, b4]⟩
      clear HI b1 b2 b3 b4
      go_wp2_with (go_at_call 42; go_loud (refine (containsBad_calls B2 e2 f2 _ ((Kd.C_alloc HI2.out _)) HL2.out).mono ?_; rintro e w3 ⟨rfl, hb3⟩; have HB3 := amZ ((HB.out.alloc _).step hb3); have kq := (hb3.block wr.heap.size (by simp)).trans (heap_alloc_new _ _); have k0 := (zaY kq 0).trans rfl; have k1 := (zaY kq 1).trans rfl; have k2 := (zaY kq 2).trans rfl; have k3 := (zaY kq 3).trans rfl; clear hb3 kq))
      have hr := HR2.out
      rw [if_pos HBD.out] at hr
      have hr2 := Option.some.inj hr
      go_ret
      exact ⟨ret_bool hr2, HB3.out.b⟩
     have db40 : decide (200 < f1) = false := decide_eq_false (by omega)
     by_cases b5 : 100 < f2.length
     ·
      have db50 : decide (100 < (f2.length : Int)) = true := decide_eq_true (by omega)
      have HBD : Aside0 (protosBad 0 l0_1 = true) := ⟨by rw [← HI.out]; simp [protoBad, b5]⟩
      clear HI b1 b2 b3 b4 b5
      go_wp2_with (go_at_call 42; go_loud (refine (containsBad_calls B2 e2 f2 _ ((Kd.C_alloc HI2.out _)) HL2.out).mono ?_; rintro e w3 ⟨rfl, hb3⟩; have HB3 := amZ ((HB.out.alloc _).step hb3); have kq := (hb3.block wr.heap.size (by simp)).trans (heap_alloc_new _ _); have k0 := (zaY kq 0).trans rfl; have k1 := (zaY kq 1).trans rfl; have k2 := (zaY kq 2).trans rfl; have k3 := (zaY kq 3).trans rfl; clear hb3 kq))
      have hr := HR2.out
      rw [if_pos HBD.out] at hr
      have hr2 := Option.some.inj hr
      go_ret
      exact ⟨ret_bool hr2, HB3.out.b⟩
     have db50 : decide (100 < (f2.length : Int)) = false := decide_eq_false (by omega)
     by_cases b6 : f3.length = 0
     ·
      have db60 : ((f3.length : Int) == 0) = true := by rw [beq_iff_eq]; omega
      have db61 : (f3.length == 0) = true := by rw [beq_iff_eq]; omega
      have HBD : Aside0 (protosBad 0 l0_1 = true) := ⟨by rw [← HI.out]; simp [protoBad, b6]⟩
      clear HI b1 b2 b3 b4 b5 b6
      go_wp2_with (go_at_call 42; go_loud (refine (containsBad_calls B2 e2 f2 _ ((Kd.C_alloc HI2.out _)) HL2.out).mono ?_; rintro e w3 ⟨rfl, hb3⟩; have HB3 := amZ ((HB.out.alloc _).step hb3); have kq := (hb3.block wr.heap.size (by simp)).trans (heap_alloc_new _ _); have k0 := (zaY kq 0).trans rfl; have k1 := (zaY kq 1).trans rfl; have k2 := (zaY kq 2).trans rfl; have k3 := (zaY kq 3).trans rfl; clear hb3 kq))
      have hr := HR2.out
      rw [if_pos HBD.out] at hr
      have hr2 := Option.some.inj hr
      go_ret
      exact ⟨ret_bool hr2, HB3.out.b⟩
     have db60 : ((f3.length : Int) == 0) = false := by rw [beq_eq_false_iff_ne]; omega
     have db61 : (f3.length == 0) = false := by rw [beq_eq_false_iff_ne]; omega
     have hpb : protoBad ⟨f0, f1, f2, f3⟩ = false := by simp only [protoBad, db10, db20, db30, db40, decide_eq_false b5, decide_eq_false b6]; rfl
     have HI3 : Aside0 ((headBad j ⟨f0, f1, f2, f3⟩ || protosBad (j + 1) (l0_1.drop (j + 1))) = protosBad 0 l0_1) := ⟨by rw [← HI.out, hpb]; rfl⟩
     clear HI hpb b1 b2 b3 b4 b5 b6
     have bn : 0 ≤ 0 := Nat.le_refl _
     by_cases h1 : j = 0
     ·
      have g1 : ((j : Int) == 0) = true := by rw [beq_iff_eq]; omega
      have g1b : (j == 0) = true := by rw [beq_iff_eq]; omega
      by_cases h2 : 0 < f0
      ·
       have g2 : decide (0 < f0) = true := decide_eq_true h2
       have HBD : Aside0 (protosBad 0 l0_1 = true) := ⟨by rw [← HI3.out]; simp [headBad, h1, h2]⟩
       clear HI3 h1 h2
       go_wp2_with (go_at_call 42; go_loud (refine (containsBad_calls B2 e2 f2 _ ((Kd.C_alloc HI2.out _)) HL2.out).mono ?_; rintro e w3 ⟨rfl, hb3⟩; have HB3 := amZ ((HB.out.alloc _).step hb3); have kq := (hb3.block wr.heap.size (by simp)).trans (heap_alloc_new _ _); have k0 := (zaY kq 0).trans rfl; have k1 := (zaY kq 1).trans rfl; have k2 := (zaY kq 2).trans rfl; have k3 := (zaY kq 3).trans rfl; clear hb3 kq))
       have hr := HR2.out
       rw [if_pos HBD.out] at hr
       have hr2 := Option.some.inj hr
       go_ret
       exact ⟨ret_bool hr2, HB3.out.b⟩
      have g2 : decide (0 < f0) = false := decide_eq_false h2
      by_cases h3 : 0 < f2.length
      ·
       have g3 : decide (0 < (f2.length : Int)) = true := decide_eq_true (by omega)
       have g3b : decide (0 < f2.length) = true := decide_eq_true (by omega)
       have HBD : Aside0 (protosBad 0 l0_1 = true) := ⟨by rw [← HI3.out]; simp [headBad, h1, h3]⟩
       clear HI3 h1 h2 h3
       go_wp2_with (go_at_call 42; go_loud (refine (containsBad_calls B2 e2 f2 _ ((Kd.C_alloc HI2.out _)) HL2.out).mono ?_; rintro e w3 ⟨rfl, hb3⟩; have HB3 := amZ ((HB.out.alloc _).step hb3); have kq := (hb3.block wr.heap.size (by simp)).trans (heap_alloc_new _ _); have k0 := (zaY kq 0).trans rfl; have k1 := (zaY kq 1).trans rfl; have k2 := (zaY kq 2).trans rfl; have k3 := (zaY kq 3).trans rfl; clear hb3 kq))
       have hr := HR2.out
       rw [if_pos HBD.out] at hr
       have hr2 := Option.some.inj hr
       go_ret
       exact ⟨ret_bool hr2, HB3.out.b⟩
      ·
       have g3 : decide (0 < (f2.length : Int)) = false := decide_eq_false (by omega)
       have g3b : decide (0 < f2.length) = false := decide_eq_false (by omega)
       have g4 : f2.length = 0 := by omega
       have hgd : headBad j ⟨f0, f1, f2, f3⟩ = false := by simp [headBad, h1, g2, g4]
       have HGD : Aside0 (protosBad (j + 1) (l0_1.drop (j + 1)) = protosBad 0 l0_1) := ⟨by rw [← HI3.out, hgd]; rfl⟩
       clear HI3 hgd h1 h2 h3 g4
       go_wp2_with (go_at_call 42; go_loud (refine (containsBad_calls B2 e2 f2 _ ((Kd.C_alloc HI2.out _)) HL2.out).mono ?_; rintro e w3 ⟨rfl, hb3⟩; have HB3 := amZ ((HB.out.alloc _).step hb3); have kq := (hb3.block wr.heap.size (by simp)).trans (heap_alloc_new _ _); have k0 := (zaY kq 0).trans rfl; have k1 := (zaY kq 1).trans rfl; have k2 := (zaY kq 2).trans rfl; have k3 := (zaY kq 3).trans rfl; clear hb3 kq))
       go_roundg (l0_1.length - (j + 1))
       case measure => have := hj.out; have := HLT.out; omega
       case rel => exact ⟨j + 1, t + f3.length, i64_next HLT.out (by have := HQ2.out; omega), rfl, ⟨by have := HLT.out; omega⟩, HGD, HS, ⟨by have := HBL.out; have := ht.out; omega⟩, HB3⟩
     ·
      have g1 : ((j : Int) == 0) = false := by rw [beq_eq_false_iff_ne]; omega
      have g1b : (j == 0) = false := by rw [beq_eq_false_iff_ne]; omega
      have hgd : headBad j ⟨f0, f1, f2, f3⟩ = false := by simp [headBad, h1]
      have HGD : Aside0 (protosBad (j + 1) (l0_1.drop (j + 1)) = protosBad 0 l0_1) := ⟨by rw [← HI3.out, hgd]; rfl⟩
      clear HI3 hgd h1
      go_wp2_with (go_at_call 42; go_loud (refine (containsBad_calls B2 e2 f2 _ ((Kd.C_alloc HI2.out _)) HL2.out).mono ?_; rintro e w3 ⟨rfl, hb3⟩; have HB3 := amZ ((HB.out.alloc _).step hb3); have kq := (hb3.block wr.heap.size (by simp)).trans (heap_alloc_new _ _); have k0 := (zaY kq 0).trans rfl; have k1 := (zaY kq 1).trans rfl; have k2 := (zaY kq 2).trans rfl; have k3 := (zaY kq 3).trans rfl; clear hb3 kq))
      go_roundg (l0_1.length - (j + 1))
      case measure => have := hj.out; have := HLT.out; omega
      case rel => exact ⟨j + 1, t + f3.length, i64_next HLT.out (by have := HQ2.out; omega), rfl, ⟨by have := HLT.out; omega⟩, HGD, HS, ⟨by have := HBL.out; have := ht.out; omega⟩, HB3⟩
    ·
     have e0 : (l0_1.drop j) = [] := List.drop_eq_nil_of_le (by omega)
     have hpb : protosBad 0 l0_1 = false := by rw [← hi.out, e0]; rfl
     have hr := HR2.out
     rw [if_neg (by rw [hpb]; simp)] at hr
     have hts : t = sumCode l0_1 := by have := hs.out; rw [e0] at this; exact this
     have dl : decide ((j : Int) < (l0_1.length : Int)) = false := decide_eq_false (by omega)
     have dn : decide (j < l0_1.length) = false := decide_eq_false hlt
     have HB1 := HB
     by_cases htot : 20000 < sumCode l0_1
     ·
      have dt : decide (20000 < (t : Int)) = true := decide_eq_true (by omega)
      have dt2 : decide (20000 < t) = true := decide_eq_true (by omega)
      rw [if_pos htot] at hr
      have HR3 := amZ (Option.some.inj hr)
      clear e0 hi hs ht hlt hj hpb hr HR2 hts htot HB
      go_wp2
      go_ret
      exact ⟨ret_bool HR3.out, HB1.out.b⟩
     have dt : decide (20000 < (t : Int)) = false := decide_eq_false (by omega)
     have dt2 : decide (20000 < t) = false := decide_eq_false (by omega)
     rw [if_neg htot] at hr
     have HR3 := amZ hr
     have hb5 := build65
     clear e0 hi hs ht hlt hj hpb hr HR2 hts htot HB
     go_wp2_with (first
      | (go_at_call 25; go_loud (refine (rows_calls _).mono ?_; rintro e w4 ⟨rfl, hb4⟩; have HB4 := amZ (HB1.out.step hb4); clear hb4))
      | (with_reducible refine wpList_store_row rfl 66 (.tmp 9) (.tmp 124) rfl w4.heap.size rowsV rfl rfl 66 Tryd.zeroCells66 (heap_alloc_new _ _) (by kernel_rfl) (by kernel_rfl) (by kernel_rfl) ?_; go_loud (obtain ⟨w5, hw5⟩ : ∃ x, x = (w4.alloc (.cells Tryd.zeroCells66 66)).setRow w4.heap.size rowsV := ⟨_, rfl⟩; rw [← hw5]; have HB5 := amZ (show ChkW w bp A0_0 A0_1 l0_0.length c0_0 l0_1.length c0_1 w5 by rw [hw5]; exact HB4.out.step (setRow_below _ _ _)); have HT5 := amZ (show TabAt w5 w4.heap.size by rw [hw5]; exact TabAt.mk (setRow_heap _ _ _ _ _ _ (heap_alloc_new _ _))); have y1 := HB5.out.c1; clear hw5)))
     clear dt dt2 dl dn hb5
     go_loopg [128] l0_1.length (fun gq v128 wr => ∃ j : Nat, v128 = .int .i64 (j : Int) ∧ Aside0 (j + gq = l0_1.length) ∧ Aside0 (codesOK l0_0.length l0_1 (l0_1.drop j) = some r) ∧ Aside0 (ChkW w bp A0_0 A0_1 l0_0.length c0_0 l0_1.length c0_1 wr) ∧ Aside0 (TabAt wr w4.heap.size))
     case atStart => exact ⟨0, rfl, ⟨by omega⟩, ⟨by simpa using HR3.out⟩, HB5, HT5⟩
     case round =>
      obtain ⟨j, rfl, hj, hi, HB, HT⟩ := hrel
      clear HB5 HT5 HR3
      by_cases hlt : j < l0_1.length
      ·
       have p0 : 0 ≤ (j : Int) := by omega
       have q0 : (j : Int) < (l0_1.length : Int) := by omega
       obtain ⟨adp, B2, e2, B3, e3, eA, c0, c1, c2, c3, hl2, hi2, hl3, hi3⟩ := at_T45 HR1.out (j : Int) p0 q0
       cases eA
       rw [rdT52_nat l0_1 j hlt, Int.toNat_natCast] at c0 c1 c2 c3
       rw [rdT52_nat l0_1 j hlt] at hl2 hi2 hl3 hi3
       have hbl := bigCode_get HBIG.out j hlt
       obtain ⟨f, hf⟩ : ∃ f, f = l0_1[j] := ⟨_, rfl⟩
       rw [← hf] at c0 c1 c2 c3 hl2 hi2 hl3 hi3 hbl
       have hd : l0_1.drop j = f :: l0_1.drop (j + 1) := by rw [List.drop_eq_getElem_cons hlt, hf]
       have hcase := codesOK_cons (by have := hi.out; rw [hd] at this; exact this)
       have HP : Aside0 (ProtoAt w (adp.add (j * 4)) f.f0 f.f1 B2 f.f2.length e2 B3 f.f3.length e3) := ⟨⟨c0, c1, c2, c3⟩⟩
       have HI3 := amZ hi3
       have HBL := amZ hbl
       clear hd hi hf hi2 hl2 hl3 hi3 hbl c0 c1 c2 c3
       have c3 := (HP.out.below HB.out.b).c3
       have dl : decide ((j : Int) < (l0_1.length : Int)) = true := decide_eq_true q0
       have dn : decide (j < l0_1.length) = true := decide_eq_true hlt
       have HLT := amZ hlt
       have y1 := HB.out.c1
       replace p0 := eq_true p0
       replace q0 := eq_true q0
       clear hlt
       have HBO := HB
       have HTO := HT
       go_wp2
       clear y1 c3 p0 q0 dl dn
       go_loopg [140] f.f3.length (fun gq v140 wr => ∃ i : Nat, v140 = .int .i64 (i : Int) ∧ Aside0 (i + gq = f.f3.length) ∧ Aside0 (codeOK l0_0.length l0_1 f (f.f3.drop i) = codeOK l0_0.length l0_1 f f.f3) ∧ Aside0 (ChkW w bp A0_0 (some adp) l0_0.length c0_0 l0_1.length c0_1 wr) ∧ Aside0 (TabAt wr w4.heap.size))
       case atStart => exact ⟨0, rfl, ⟨by omega⟩, ⟨by simp⟩, HBO, HTO⟩
       case round =>
        obtain ⟨i, rfl, hj2, hi2, HB, HT⟩ := hrel
        clear HBO HTO
        by_cases hlt : i < f.f3.length
        ·
         have p0 : 0 ≤ (i : Int) := by omega
         have q0 : (i : Int) < (f.f3.length : Int) := by omega
         obtain ⟨adc, eA, c0, c1, c2⟩ := at_T51 HI3.out (i : Int) p0 q0
         cases eA
         rw [rdT57_nat f.f3 i hlt, Int.toNat_natCast] at c0 c1 c2
         obtain ⟨x, hx⟩ : ∃ x, x = f.f3[i] := ⟨_, rfl⟩
         rw [← hx] at c0 c1 c2
         have hd : f.f3.drop i = x :: f.f3.drop (i + 1) := by rw [List.drop_eq_getElem_cons hlt, hx]
         have HI : Aside0 ((goodInsB x.f0 x.f1 x.f2 l0_0.length l0_1 f.f1 f.f2.length f.f3.length && codeOK l0_0.length l0_1 f (f.f3.drop (i + 1))) = codeOK l0_0.length l0_1 f f.f3) := ⟨by have := hi2.out; rw [hd] at this; exact this⟩
         replace c0 := zdY HB.out.b c0
         replace c1 := zdY HB.out.b c1
         replace c2 := zdY HB.out.b c2
         clear hd hi2 hx
         obtain ⟨o, a, b⟩ := x
         simp only at c0 c1 c2 HI
         have dl : decide ((i : Int) < (f.f3.length : Int)) = true := decide_eq_true q0
         have dn : decide (i < f.f3.length) = true := decide_eq_true hlt
         have HLT2 := amZ hlt
         have y0 := (HB.out.alloc (.cells #[.int .i64 o, .int .i64 a, .int .i64 b] 51)).c0
         have y1 := (HB.out.alloc (.cells #[.int .i64 o, .int .i64 a, .int .i64 b] 51)).c1
         have HP4 := amZ (HP.out.below (HB.out.alloc (.cells #[.int .i64 o, .int .i64 a, .int .i64 b] 51)).b)
         have HT4 := amZ (HT.out.below ((Below.refl _ _).alloc (Nat.le_refl _) (.cells #[.int .i64 o, .int .i64 a, .int .i64 b] 51)))
         have HR4 := amZ (Kd.C_below HR1.out (HB.out.alloc (.cells #[.int .i64 o, .int .i64 a, .int .i64 b] 51)).b)
         replace p0 := eq_true p0
         replace q0 := eq_true q0
         have HCASE := amZ hcase
         clear hlt hcase
         cases hgi : goodInsB o a b l0_0.length l0_1 f.f1 f.f2.length f.f3.length with
         | false =>
          have HGI := amZ hgi
          have hko : codeOK l0_0.length l0_1 f f.f3 = false := by rw [← HI.out, hgi]; rfl
          have hr : r = false := by
           rcases HCASE.out with ⟨_, h⟩ | ⟨h, _⟩
           ·
            exact h
           ·
            rw [hko] at h; cases h
          have HRR := amZ hr
          clear hgi hko hr HI HCASE
          go_wp2_with (go_at_call 44; go_loud (refine (goodIns_calls A0_0 (some adp) l0_0.length c0_0 c0_1 l0_1 (adp.add (j * 4)) f.f0 f.f1 B2 f.f2.length e2 (some adc) f.f3.length e3 w4.heap.size o a b _ HR4.out HC1.out HP4.out HT4.out).mono ?_; rw [HGI.out]; rintro e w7 ⟨rfl, hb7⟩; have HB7 := amZ ((HB.out.alloc _).step hb7); clear hb7))
          go_ret
          exact ⟨ret_bool HRR.out.symm, HB7.out.b⟩
         | true =>
          have HGI := amZ hgi
          have HJ : Aside0 (codeOK l0_0.length l0_1 f (f.f3.drop (i + 1)) = codeOK l0_0.length l0_1 f f.f3) := ⟨by rw [← HI.out, hgi]; rfl⟩
          clear hgi HI
          go_wp2_with (go_at_call 44; go_loud (refine (goodIns_calls A0_0 (some adp) l0_0.length c0_0 c0_1 l0_1 (adp.add (j * 4)) f.f0 f.f1 B2 f.f2.length e2 (some adc) f.f3.length e3 w4.heap.size o a b _ HR4.out HC1.out HP4.out HT4.out).mono ?_; rw [HGI.out]; rintro e w7 ⟨rfl, hb7⟩; have HB7 := amZ ((HB.out.alloc _).step hb7); have HT7 := amZ (HT4.out.below hb7); clear hb7))
          go_roundg (f.f3.length - (i + 1))
          case measure => have := hj2.out; have := HLT2.out; omega
          case rel => exact ⟨i + 1, i64_next HLT2.out (by have := HBL.out; omega), ⟨by have := HLT2.out; omega⟩, HJ, HB7, HT7⟩
        ·
         have e0 : (f.f3.drop i) = [] := List.drop_eq_nil_of_le (by omega)
         have hko : codeOK l0_0.length l0_1 f f.f3 = true := by rw [← hi2.out, e0]; rfl
         have hq : ∃ z, ghL f.f3 (3 * f.f3.length + 5) [] [(0, 0)] = some z ∧ (z = false ∧ r = false ∨ z = true ∧ codesOK l0_0.length l0_1 (l0_1.drop (j + 1)) = some r) := by
          rcases hcase with ⟨h, _⟩ | ⟨_, h⟩
          ·
           rw [hko] at h; cases h
          ·
           exact h
         obtain ⟨z, hz, hzr⟩ := hq
         have HZ := amZ hz
         have dl : decide ((i : Int) < (f.f3.length : Int)) = false := decide_eq_false (by omega)
         have dn : decide (i < f.f3.length) = false := decide_eq_false hlt
         have HP4 := amZ (HP.out.below HB.out.b)
         have HI4 := amZ (Kd.C_below HI3.out HB.out.b)
         clear e0 hko hcase hlt hi2 hj2 hz
         rcases hzr with ⟨rfl, rfl⟩ | ⟨rfl, hr⟩
         ·
          go_wp2_with (go_at_call 45; go_loud (refine (heights_calls (adp.add (j * 4)) f.f0 f.f1 B2 f.f2.length e2 B3 e3 w4.heap.size f.f3 (3 * f.f3.length + 5) false _ HP4.out HI4.out HBL.out HT.out HZ.out).mono ?_; rintro e w7 ⟨rfl, hb7⟩; have HB7 := amZ (HB.out.step hb7); clear hb7))
          go_ret
          exact ⟨rfl, HB7.out.b⟩
         ·
          have HR5 := amZ hr
          clear hr
          go_wp2_with (go_at_call 45; go_loud (refine (heights_calls (adp.add (j * 4)) f.f0 f.f1 B2 f.f2.length e2 B3 e3 w4.heap.size f.f3 (3 * f.f3.length + 5) true _ HP4.out HI4.out HBL.out HT.out HZ.out).mono ?_; rintro e w7 ⟨rfl, hb7⟩; have HB7 := amZ (HB.out.step hb7); have HT7 := amZ (HT.out.below hb7); clear hb7))
          go_roundg (l0_1.length - (j + 1))
          case measure => have := hj.out; have := HLT.out; omega
          case rel => exact ⟨j + 1, i64_next HLT.out (by have := HQ2.out; omega), ⟨by have := HLT.out; omega⟩, HR5, HB7, HT7⟩
      ·
       have e0 : (l0_1.drop j) = [] := List.drop_eq_nil_of_le (by omega)
       have hr : r = true := by have := hi.out; rw [e0] at this; exact (Option.some.inj this).symm
       have HRR := amZ hr
       have dl : decide ((j : Int) < (l0_1.length : Int)) = false := decide_eq_false (by omega)
       have dn : decide (j < l0_1.length) = false := decide_eq_false hlt
       clear e0 hr hi hlt
       go_wp2
       go_ret
       exact ⟨ret_bool HRR.out.symm, HB.out.b⟩
end Go.Proofs.YtmmpiojekgfdjaaDoor.C
