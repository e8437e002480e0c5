/- The checker, part 12: contracts of functions of the program that the printer does not take. -/
import Derived.Test.YtmmpiojekgfdjaaDoorZpH11
import Derived.WalkKit
import Derived.Deep.LoopGhost
import Derived.Deep.QuietTactic
import Derived.BigQuiet
import Derived.Deep.DeepCutAuto
import Derived.Deep.RegionHeld3
import Derived.Laws.Rows
import Derived.StillTactics
import Derived.StillTailTactics
import Derived.LoopTactic
import Derived.RegionTactic
import Derived.BigRegion
import Derived.Outline
import Derived.Maps.OwnOps
import Derived.Maps.OwnSet
import Derived.WalkSpells
import Derived.Laws.EntriesVeiled
import Derived.Laws.Tables
import Derived.Deep.RegionLaw
import Derived.ChangeAlike
import Derived.Test.YtmmpiojekgfdjaaDoorZpK
namespace Go.Proofs.YtmmpiojekgfdjaaDoor.C
open Go.RowKit YtmmpiojekgfdjaaDoorW.PrintWords YtmmpiojekgfdjaaDoorW.PrintLast
set_option linter.unusedVariables false
set_option linter.unusedSimpArgs false
set_option maxHeartbeats 40000000 in
set_option maxRecDepth 100000 in
theorem l4heights_calls (htk : TakesC) (p s : Int) (A2 : Option Addr) (n2 c2 : Nat) (A3 : Option Addr) (c3 : Nat) (code : List S51) (fuel : Nat) (r : Bool) (w : World) (hk : Kd.C k51 w A3 code.length code) (hlen : code.length ≤ 2000000) (hr : shStart code fuel = some r) :
  Calls Tryd.prog 35 #[.agg #[.int .i64 p, .int .i64 s, .slice A2 n2 c2, .slice A3 code.length c3]] w fun e w' => e = .returned (.bool r) ∧ Below w.heap.size w w' := by
 obtain ⟨w1, hw1⟩ : ∃ x, x = w.alloc (.cells #[.int .i64 p, .int .i64 s, .slice A2 n2 c2, .slice A3 code.length c3] 45) := ⟨_, rfl⟩
 have hb1 : Below w.heap.size w w1 := by rw [hw1]; exact (Below.refl _ _).alloc (Nat.le_refl _) _
 have hp1 : w1.heap[w.heap.size]? = some (.cells #[.int .i64 p, .int .i64 s, .slice A2 n2 c2, .slice A3 code.length c3] 45 (0, 0)) := by rw [hw1, heap_alloc_new]
 have hs1 : w1.heap.size = w.heap.size + 1 := by rw [hw1]; simp
 have hmk := print_make (P := Tryd.prog) 105 3 .i64 8 Tryd.underlying105 info3b (by decide) code.length (by omega)
 have HB1 := amZ hb1
 have HP1 := amZ hp1
 have HS1 := amZ hs1
 have HK := amZ hk
 have HR := amZ hr
 have HLEN := amZ hlen
 have HTK := amZ htk
 have HW1 := amZ hw1
 have hu52 := Tryd.underlying45
 clear hb1 hp1 hs1 hk hr hlen htk hw1
 go_enter Tryd.func35, Tryd.ntmps35
 go_wp2
 rw [← HW1.out, ← HS1.out]
 have hst : Aside0 ((w1.alloc (.cells (madeCells #[.int .i64 0] code.length) 3)).heap[w1.heap.size]? = some (.cells (icells (List.replicate 0 (-1) ++ List.replicate (code.length - 0) 0)).toArray 3 (0, 0))) := ⟨by rw [heap_alloc_new, made_icells]⟩
 have hsb : Aside0 (Below w1.heap.size w1 (w1.alloc (.cells (madeCells #[.int .i64 0] code.length) 3))) := ⟨(Below.refl _ _).alloc (Nat.le_refl _) _⟩
 clear hmk
 go_loopg [4] code.length (fun gq v4 wr => ∃ j : Nat, v4 = .int .i64 (j : Int) ∧ Aside0 (j + gq = code.length) ∧ Aside0 (wr.heap[w1.heap.size]? = some (.cells (icells (List.replicate j (-1) ++ List.replicate (code.length - j) 0)).toArray 3 (0, 0))) ∧ Aside0 (Below w1.heap.size w1 wr))
 case atStart => exact ⟨0, rfl, ⟨by omega⟩, hst, hsb⟩
 case round =>
  obtain ⟨j, rfl, hj, hh, HB⟩ := hrel
  clear hst hsb
  by_cases hlt : j < code.length
  ·
   have p0 : (0 ≤ (j : Int)) = True := eq_true (by omega)
   have q0 : ((j : Int) < (code.length : Int)) = True := eq_true (by omega)
   have q1 : (j < code.length) = True := eq_true hlt
   have dl : decide ((j : Int) < (code.length : Int)) = true := decide_eq_true (by omega)
   have dn : decide (j < code.length) = true := decide_eq_true hlt
   have c0 : wr.cell? ⟨w1.heap.size, j, none⟩ = some (.int .i64 0) := by
    refine (zaY hh.out j).trans ?_
    have e : code.length - j = (code.length - (j + 1)) + 1 := by omega
    simp [icells, e, List.replicate_succ]
   have f0 := zbY hh.out j
   have HLT := amZ hlt
   clear hlt
   go_wp2
   go_roundg (code.length - (j + 1))
   case measure => have := hj.out; have := HLT.out; omega
   case rel => exact ⟨j + 1, i64_next HLT.out (by have := HLEN.out; omega), ⟨by have := HLT.out; omega⟩, ⟨by rw [← rep_set _ _ HLT.out, ← icells_set]; exact heap_setCell_same wr w1.heap.size j _ 3 _ hh.out⟩, ⟨Below.setCell HB.out (Nat.le_refl _) _⟩⟩
  ·
   have dl : decide ((j : Int) < (code.length : Int)) = false := decide_eq_false (by omega)
   have dn : decide (j < code.length) = false := decide_eq_false hlt
   have hj2 : j = code.length := by have := hj.out; omega
   rw [hj2, Nat.sub_self, List.replicate_zero, List.append_nil] at hh
   have HH := HB
   have hq0 : HIs w1.heap.size wr w1.heap.size (List.replicate code.length (-1)) (.slice none 0 0) [] := ⟨hh.out, q_nil _ _ _ _, Nat.le_refl _, by simp [Value.ownBlock]⟩
   have hrr := HR.out
   unfold shStart at hrr
   split at hrr
   ·
    cases hrr
   rename_i ts0 ok0 hs0 hrc
   have HQ0 := amZ hq0
   have HRC := amZ hrc
   have HRR := amZ hrr
   have HN0 : Aside0 (hs0.length = code.length) := ⟨by rw [reachL_len hrc]; simp⟩
   clear hrr hrc hq0 hh hj hlt hj2 HR
   go_wp2_with (go_at_call 56; (refine (reach_calls' w1.heap.size _ _ _ (List.replicate code.length (-1)) [] code.length 0 0 ts0 hs0 ok0 (by simp) HQ0.out HRC.out).mono ?_; rintro e w2 ⟨v2, rfl, hq2⟩; have HQ2 := amZ hq2.q; have HB2 := amZ (HB.out.trans hq2.b); clear hq2))
   clear dl dn
   go_loopg [5] fuel (fun gq v5 wr => ∃ (hs ts : List Int), Aside0 (HIs w1.heap.size wr w1.heap.size hs v5 ts) ∧ Aside0 (shL code gq hs ts = some r) ∧ Aside0 (hs.length = code.length) ∧ Aside0 (Below w1.heap.size w1 wr))
   case atStart => exact ⟨hs0, ts0, HQ2, HRR, HN0, HB2⟩
   case round =>
    obtain ⟨hs, ts, HQ, HSR, HN, HB⟩ := hrel
    clear HQ2 HRR HN0 HB2 HQ0 HRC HH
    obtain ⟨A, c, hv, hc⟩ := q_slice HQ.out.t
    subst hv
    rcases List.eq_nil_or_concat ts with rfl | ⟨us, t, rfl⟩
    ·
     go_wp2
     go_ret
     exact ⟨ret_bool (shL_nil HSR.out).symm, zcY HB1.out HB.out⟩
    ·
     rw [List.concat_eq_append] at HQ HSR hc ⊢
     obtain ⟨m, rfl, hn1, hul, ht0, ht1, hv0, hv1, op, a, b, k, hrd, hop, ha0, ha1, hb0, hb1, hk, hcase⟩ := shL_cons HSR.out
     obtain ⟨tn, rfl⟩ : ∃ n : Nat, t = (n : Int) := ⟨t.toNat, by omega⟩
     obtain ⟨M, hM⟩ : ∃ M, M = us.length := ⟨_, rfl⟩
     obtain ⟨N, hN⟩ : ∃ N, N = us.length + 1 := ⟨_, rfl⟩
     have hlen1 : (us ++ [(tn : Int)]).length = N := by rw [hN]; simp
     have hqt := HQ.out.t
     rw [hlen1] at hqt hc ⊢
     obtain ⟨ad, hA, hcel⟩ := q_cells hqt (by omega)
     subst hA
     have c0 := hcel M (.int .i64 (tn : Int)) (by rw [hM]; simp [icells])
     obtain ⟨i0, hi, hz0, hz1, hz2⟩ := info_parts info3b
     have hcut := cut_to (P := Tryd.prog) 105 3 .i64 Tryd.underlying105 hi (some ad) N c (M : Int) (by omega) (by omega) hc
     rw [Int.toNat_natCast] at hcut
     have hq1 : HIs w1.heap.size wr w1.heap.size hs (.slice (some ad) M c) us := by
      have ht := q_take hqt (m := M) (by omega)
      refine ⟨HQ.out.h, ?_, HQ.out.hb, HQ.out.ne⟩
      rw [← hM]
      have e : (icells (us ++ [(tn : Int)])).take (M * 1) = icells us := by rw [icells_append, Nat.mul_one, hM, ← icells_length us, List.take_left']; rfl
      rw [e] at ht
      exact ht
     have d0 : decide (0 < (N : Int)) = true := decide_eq_true (by omega)
     have d0n : decide (0 < N) = true := decide_eq_true (by omega)
     have WM : Aside0 (wrap64 ((N : Int) - 1) = (M : Int)) := ⟨by rw [wrapB (by omega) (by omega)]; omega⟩
     have i0a : (0 ≤ (M : Int)) = True := eq_true (by omega)
     have i0b : ((M : Int) < (N : Int)) = True := eq_true (by omega)
     have i0c : (M < N) = True := eq_true (by omega)
     obtain ⟨adc, eA, k0, k1, k2⟩ := at_T51 HK.out (tn : Int) ht0 ht1
     cases eA
     simp only [hrd, Int.toNat_natCast] at k0 k1 k2
     have hbw := zcY HB1.out HB.out
     replace k0 := zdY hbw k0
     replace k1 := zdY hbw k1
     replace k2 := zdY hbw k2
     have x3 : wr.cell? ⟨w.heap.size, 3, none⟩ = some (.slice (some adc) code.length c3) := by
      refine (zaY ((HB.out.block w.heap.size (by have := HS1.out; omega)).trans HP1.out) 3).trans rfl
     have j0a : (0 ≤ (tn : Int)) = True := eq_true (by omega)
     have j0b : ((tn : Int) < (code.length : Int)) = True := eq_true ht1
     have j0c : (tn < code.length) = True := eq_true (by omega)
     obtain ⟨tb0, tb1⟩ := takes_bound op hop a ha0 ha1
     obtain ⟨lb0, lb1⟩ := leaves_bound op hop b hb0 hb1
     have WK : Aside0 (wrap64 (rd hs (tn : Int) - takesOf op a) = k) := ⟨by rw [wrapB (by omega) (by omega)]; exact hk.symm⟩
     have hcl := HLEN.out
     have WT : Aside0 (wrap64 ((tn : Int) + 1) = (tn : Int) + 1) := ⟨wrapB (by omega) (by omega)⟩
     have hkb : k ≤ 4000000 := by omega
     have HQ1 := amZ hq1
     have HNN := amZ hn1
     have HX1 := amZ (hq1.newBlk #[.int .i64 (op : Int), .int .i64 a, .int .i64 b] 51)
     have HTKK := amZ (HTK.out op a b)
     have HA0 := amZ ha0
     have HA1 := amZ ha1
     have HOP := amZ hop
     have HJ : Aside0 (tn < hs.length) := ⟨by rw [hn1]; omega⟩
     have HUL : Aside0 (us.length ≤ 900000) := ⟨hul⟩
     clear hcel hqt hc hlen1 hq1 hi hz0 hz1 hz2 hn1 hul hM hN hrd hbw HSR hk hv0 hv1 ht0 ht1 HQ hcl
     rcases hcase with ⟨hneg, rfl⟩ | ⟨hpos, ts2, ok, hs2, hst, hfin⟩
     ·
      have dk : decide (k < 0) = true := decide_eq_true hneg
      clear hneg hkb tb0 tb1 lb0 lb1 ha0 ha1 hb0 hb1 hop
      have wM := WM.out
      have wk := WK.out
      have wt := WT.out
      go_wp2_with (go_at_call 57; (refine (HTKK.out _ HOP.out HA0.out HA1.out).mono ?_; rintro e w3 ⟨rfl, hb3⟩; have HQ3 := amZ ((HQ1.out.below ((Below.refl _ _).alloc (Nat.le_refl _) _)).below hb3); have HX3 := amZ (HX1.out.below hb3); have HB3 := amZ (zcY (HB.out.alloc HQ1.out.base _) hb3); clear hb3; have z0 := (zaY HX3.out.blk 0).trans rfl; have z1 := (zaY HX3.out.blk 1).trans rfl; have z2 := (zaY HX3.out.blk 2).trans rfl; have zh := HQ3.out.cell tn HJ.out))
      go_ret
      exact ⟨rfl, zcY HB1.out HB3.out⟩
     have dk : decide (k < 0) = false := decide_eq_false (by omega)
     have WL : Aside0 (wrap64 (k + leavesOf op b) = k + leavesOf op b) := ⟨wrapB (by omega) (by omega)⟩
     have WK1 : Aside0 (wrap64 (k + 1) = k + 1) := ⟨wrapB (by omega) (by omega)⟩
     obtain ⟨ts1, ok1, hs1, h1, h2⟩ := stepL_open hst
     clear hst hkb tb0 tb1 lb0 lb1 hpos ha0 ha1 hb0 hb1
     by_cases hc18 : op = 18
     ·
      have e18 : ((op : Int) == 18) = true := by rw [beq_iff_eq]; omega
      have g18 : ((op : Int) != 18) = false := by unfold bne; rw [e18]; rfl
      have e19 : ((op : Int) == 19) = false := by rw [beq_eq_false_iff_ne]; intro e_; omega
      have g19 : ((op : Int) != 19) = true := by unfold bne; rw [e19]; rfl
      have e20 : ((op : Int) == 20) = false := by rw [beq_eq_false_iff_ne]; intro e_; omega
      have g20 : ((op : Int) != 20) = true := by unfold bne; rw [e20]; rfl
      have e21 : ((op : Int) == 21) = false := by rw [beq_eq_false_iff_ne]; intro e_; omega
      have g21 : ((op : Int) != 21) = true := by unfold bne; rw [e21]; rfl
      have e23 : ((op : Int) == 23) = false := by rw [beq_eq_false_iff_ne]; intro e_; omega
      have g23 : ((op : Int) != 23) = true := by unfold bne; rw [e23]; rfl
      have e24 : ((op : Int) == 24) = false := by rw [beq_eq_false_iff_ne]; intro e_; omega
      have g24 : ((op : Int) != 24) = true := by unfold bne; rw [e24]; rfl
      have e26 : ((op : Int) == 26) = false := by rw [beq_eq_false_iff_ne]; intro e_; omega
      have g26 : ((op : Int) != 26) = true := by unfold bne; rw [e26]; rfl
      have e27 : ((op : Int) == 27) = false := by rw [beq_eq_false_iff_ne]; intro e_; omega
      have g27 : ((op : Int) != 27) = true := by unfold bne; rw [e27]; rfl
      unfold step1L at h1
      rw [if_pos (by omega)] at h1
      have hok1 : ok1 = true := by injection h1 with h1; injection h1 with _ h1; injection h1 with h1 _; exact h1.symm
      replace h2 : step2L op a b k hs1 ts1 = some (ts2, ok, hs2) := by rcases h2 with ⟨h, _⟩ | ⟨_, h⟩; rw [hok1] at h; cases h; exact h
      clear hok1
      have HN1 : Aside0 (hs1.length = code.length) := ⟨by injection h1 with h1; injection h1 with _ h1; injection h1 with _ h1; rw [← h1]; exact HNN.out⟩
      unfold step2L at h2
      rw [if_pos (by omega)] at h2
      injection h1 with h1
      injection h1 with e1_ h1
      injection h1 with e2_ e3_
      subst e1_ e3_
      clear e2_
      have H2 := amZ h2
      have HN2 : Aside0 (hs2.length = code.length) := ⟨by rw [reachL_len h2]; exact HN1.out⟩
      clear h2 hop hc18
      rcases hfin with ⟨rfl, hsr⟩ | ⟨rfl, rfl⟩
      ·
       have HSR := amZ hsr
       clear hsr
       have wM := WM.out
       have wk := WK.out
       have wt := WT.out
       have wl := WL.out
       have wk1 := WK1.out
       go_wp2_with (first
        | (go_at_call 57; (refine (HTKK.out _ HOP.out HA0.out HA1.out).mono ?_; rintro e w3 ⟨rfl, hb3⟩; have HQ3 := amZ ((HQ1.out.below ((Below.refl _ _).alloc (Nat.le_refl _) _)).below hb3); have HX3 := amZ (HX1.out.below hb3); have HB3 := amZ (zcY (HB.out.alloc HQ1.out.base _) hb3); clear hb3; have z0 := (zaY HX3.out.blk 0).trans rfl; have z1 := (zaY HX3.out.blk 1).trans rfl; have z2 := (zaY HX3.out.blk 2).trans rfl; have zh := HQ3.out.cell tn HJ.out))
        | (go_at_call 56; ((with_reducible refine (reach_calls' w1.heap.size _ _ _ hs us code.length a k ts2 hs2 _ HN1.out HQ3.out H2.out).mono ?_); rintro e w5 ⟨v5, rfl, hq5⟩; have HQ5 := amZ hq5.q; have HB5 := amZ (HB3.out.trans hq5.b); clear hq5))
        )
       go_roundg m
       case measure => omega
       case rel => exact ⟨hs2, ts2, HQ5, HSR, HN2, HB5⟩
      ·
       have wM := WM.out
       have wk := WK.out
       have wt := WT.out
       have wl := WL.out
       have wk1 := WK1.out
       go_wp2_with (first
        | (go_at_call 57; (refine (HTKK.out _ HOP.out HA0.out HA1.out).mono ?_; rintro e w3 ⟨rfl, hb3⟩; have HQ3 := amZ ((HQ1.out.below ((Below.refl _ _).alloc (Nat.le_refl _) _)).below hb3); have HX3 := amZ (HX1.out.below hb3); have HB3 := amZ (zcY (HB.out.alloc HQ1.out.base _) hb3); clear hb3; have z0 := (zaY HX3.out.blk 0).trans rfl; have z1 := (zaY HX3.out.blk 1).trans rfl; have z2 := (zaY HX3.out.blk 2).trans rfl; have zh := HQ3.out.cell tn HJ.out))
        | (go_at_call 56; ((with_reducible refine (reach_calls' w1.heap.size _ _ _ hs us code.length a k ts2 hs2 _ HN1.out HQ3.out H2.out).mono ?_); rintro e w5 ⟨v5, rfl, hq5⟩; have HQ5 := amZ hq5.q; have HB5 := amZ (HB3.out.trans hq5.b); clear hq5))
        )
       go_ret
       exact ⟨rfl, zcY HB1.out HB5.out⟩
     by_cases hc19 : op = 19
     ·
      have e18 : ((op : Int) == 18) = false := by rw [beq_eq_false_iff_ne]; intro e_; omega
      have g18 : ((op : Int) != 18) = true := by unfold bne; rw [e18]; rfl
      have e19 : ((op : Int) == 19) = true := by rw [beq_iff_eq]; omega
      have g19 : ((op : Int) != 19) = false := by unfold bne; rw [e19]; rfl
      have e20 : ((op : Int) == 20) = false := by rw [beq_eq_false_iff_ne]; intro e_; omega
      have g20 : ((op : Int) != 20) = true := by unfold bne; rw [e20]; rfl
      have e21 : ((op : Int) == 21) = false := by rw [beq_eq_false_iff_ne]; intro e_; omega
      have g21 : ((op : Int) != 21) = true := by unfold bne; rw [e21]; rfl
      have e23 : ((op : Int) == 23) = false := by rw [beq_eq_false_iff_ne]; intro e_; omega
      have g23 : ((op : Int) != 23) = true := by unfold bne; rw [e23]; rfl
      have e24 : ((op : Int) == 24) = false := by rw [beq_eq_false_iff_ne]; intro e_; omega
      have g24 : ((op : Int) != 24) = true := by unfold bne; rw [e24]; rfl
      have e26 : ((op : Int) == 26) = false := by rw [beq_eq_false_iff_ne]; intro e_; omega
      have g26 : ((op : Int) != 26) = true := by unfold bne; rw [e26]; rfl
      have e27 : ((op : Int) == 27) = false := by rw [beq_eq_false_iff_ne]; intro e_; omega
      have g27 : ((op : Int) != 27) = true := by unfold bne; rw [e27]; rfl
      unfold step1L at h1
      rw [if_neg (by omega)] at h1
      rcases h2 with ⟨rfl, rfl⟩ | ⟨rfl, h2⟩
      ·
       have hrf : r = false := by rcases hfin with ⟨h, _⟩ | ⟨_, h⟩; cases h; exact h
       have HRF := amZ hrf
       have H1 := amZ h1
       clear hfin hrf h1 hop hc18 hc19
       have wM := WM.out
       have wk := WK.out
       have wt := WT.out
       have wl := WL.out
       have wk1 := WK1.out
       go_wp2_with (first
        | (go_at_call 57; (refine (HTKK.out _ HOP.out HA0.out HA1.out).mono ?_; rintro e w3 ⟨rfl, hb3⟩; have HQ3 := amZ ((HQ1.out.below ((Below.refl _ _).alloc (Nat.le_refl _) _)).below hb3); have HX3 := amZ (HX1.out.below hb3); have HB3 := amZ (zcY (HB.out.alloc HQ1.out.base _) hb3); clear hb3; have z0 := (zaY HX3.out.blk 0).trans rfl; have z1 := (zaY HX3.out.blk 1).trans rfl; have z2 := (zaY HX3.out.blk 2).trans rfl; have zh := HQ3.out.cell tn HJ.out))
        | (go_at_call 56; ((with_reducible refine (reach_calls' w1.heap.size _ _ _ hs us code.length ((tn : Int) + 1) (k + leavesOf op b) ts1 hs1 _ HNN.out HQ3.out H1.out).mono ?_); rintro e w4 ⟨v4, rfl, hq4⟩; have HQ4 := amZ hq4.q; have HB4 := amZ (HB3.out.trans hq4.b); have HX4 := amZ (HX3.out.put hq4); clear hq4; have u0 := (zaY HX4.out.blk 0).trans rfl; have u1 := (zaY HX4.out.blk 1).trans rfl; have u2 := (zaY HX4.out.blk 2).trans rfl))
        )
       go_ret
       exact ⟨ret_bool HRF.out.symm, zcY HB1.out HB4.out⟩
      ·
       have HN1 : Aside0 (hs1.length = code.length) := ⟨by rw [reachL_len h1, HNN.out]⟩
       unfold step2L at h2
       rw [if_pos (by omega)] at h2
       have H1 := amZ h1
       clear h1
       have H2 := amZ h2
       have HN2 : Aside0 (hs2.length = code.length) := ⟨by rw [reachL_len h2]; exact HN1.out⟩
       clear h2 hop hc18 hc19
       rcases hfin with ⟨rfl, hsr⟩ | ⟨rfl, rfl⟩
       ·
        have HSR := amZ hsr
        clear hsr
        have wM := WM.out
        have wk := WK.out
        have wt := WT.out
        have wl := WL.out
        have wk1 := WK1.out
        go_wp2_with (first
         | (go_at_call 57; (refine (HTKK.out _ HOP.out HA0.out HA1.out).mono ?_; rintro e w3 ⟨rfl, hb3⟩; have HQ3 := amZ ((HQ1.out.below ((Below.refl _ _).alloc (Nat.le_refl _) _)).below hb3); have HX3 := amZ (HX1.out.below hb3); have HB3 := amZ (zcY (HB.out.alloc HQ1.out.base _) hb3); clear hb3; have z0 := (zaY HX3.out.blk 0).trans rfl; have z1 := (zaY HX3.out.blk 1).trans rfl; have z2 := (zaY HX3.out.blk 2).trans rfl; have zh := HQ3.out.cell tn HJ.out))
         | (go_at_call 56; ((with_reducible refine (reach_calls' w1.heap.size _ _ _ hs us code.length ((tn : Int) + 1) (k + leavesOf op b) ts1 hs1 _ HNN.out HQ3.out H1.out).mono ?_); rintro e w4 ⟨v4, rfl, hq4⟩; have HQ4 := amZ hq4.q; have HB4 := amZ (HB3.out.trans hq4.b); have HX4 := amZ (HX3.out.put hq4); clear hq4; have u0 := (zaY HX4.out.blk 0).trans rfl; have u1 := (zaY HX4.out.blk 1).trans rfl; have u2 := (zaY HX4.out.blk 2).trans rfl))
         | (go_at_call 56; ((with_reducible refine (reach_calls' w1.heap.size _ _ _ hs1 ts1 code.length a k ts2 hs2 _ HN1.out HQ4.out H2.out).mono ?_); rintro e w5 ⟨v5, rfl, hq5⟩; have HQ5 := amZ hq5.q; have HB5 := amZ (HB4.out.trans hq5.b); clear hq5))
         )
        go_roundg m
        case measure => omega
        case rel => exact ⟨hs2, ts2, HQ5, HSR, HN2, HB5⟩
       ·
        have wM := WM.out
        have wk := WK.out
        have wt := WT.out
        have wl := WL.out
        have wk1 := WK1.out
        go_wp2_with (first
         | (go_at_call 57; (refine (HTKK.out _ HOP.out HA0.out HA1.out).mono ?_; rintro e w3 ⟨rfl, hb3⟩; have HQ3 := amZ ((HQ1.out.below ((Below.refl _ _).alloc (Nat.le_refl _) _)).below hb3); have HX3 := amZ (HX1.out.below hb3); have HB3 := amZ (zcY (HB.out.alloc HQ1.out.base _) hb3); clear hb3; have z0 := (zaY HX3.out.blk 0).trans rfl; have z1 := (zaY HX3.out.blk 1).trans rfl; have z2 := (zaY HX3.out.blk 2).trans rfl; have zh := HQ3.out.cell tn HJ.out))
         | (go_at_call 56; ((with_reducible refine (reach_calls' w1.heap.size _ _ _ hs us code.length ((tn : Int) + 1) (k + leavesOf op b) ts1 hs1 _ HNN.out HQ3.out H1.out).mono ?_); rintro e w4 ⟨v4, rfl, hq4⟩; have HQ4 := amZ hq4.q; have HB4 := amZ (HB3.out.trans hq4.b); have HX4 := amZ (HX3.out.put hq4); clear hq4; have u0 := (zaY HX4.out.blk 0).trans rfl; have u1 := (zaY HX4.out.blk 1).trans rfl; have u2 := (zaY HX4.out.blk 2).trans rfl))
         | (go_at_call 56; ((with_reducible refine (reach_calls' w1.heap.size _ _ _ hs1 ts1 code.length a k ts2 hs2 _ HN1.out HQ4.out H2.out).mono ?_); rintro e w5 ⟨v5, rfl, hq5⟩; have HQ5 := amZ hq5.q; have HB5 := amZ (HB4.out.trans hq5.b); clear hq5))
         )
        go_ret
        exact ⟨rfl, zcY HB1.out HB5.out⟩
     by_cases hc20 : op = 20
     ·
      have e18 : ((op : Int) == 18) = false := by rw [beq_eq_false_iff_ne]; intro e_; omega
      have g18 : ((op : Int) != 18) = true := by unfold bne; rw [e18]; rfl
      have e19 : ((op : Int) == 19) = false := by rw [beq_eq_false_iff_ne]; intro e_; omega
      have g19 : ((op : Int) != 19) = true := by unfold bne; rw [e19]; rfl
      have e20 : ((op : Int) == 20) = true := by rw [beq_iff_eq]; omega
      have g20 : ((op : Int) != 20) = false := by unfold bne; rw [e20]; rfl
      have e21 : ((op : Int) == 21) = false := by rw [beq_eq_false_iff_ne]; intro e_; omega
      have g21 : ((op : Int) != 21) = true := by unfold bne; rw [e21]; rfl
      have e23 : ((op : Int) == 23) = false := by rw [beq_eq_false_iff_ne]; intro e_; omega
      have g23 : ((op : Int) != 23) = true := by unfold bne; rw [e23]; rfl
      have e24 : ((op : Int) == 24) = false := by rw [beq_eq_false_iff_ne]; intro e_; omega
      have g24 : ((op : Int) != 24) = true := by unfold bne; rw [e24]; rfl
      have e26 : ((op : Int) == 26) = false := by rw [beq_eq_false_iff_ne]; intro e_; omega
      have g26 : ((op : Int) != 26) = true := by unfold bne; rw [e26]; rfl
      have e27 : ((op : Int) == 27) = false := by rw [beq_eq_false_iff_ne]; intro e_; omega
      have g27 : ((op : Int) != 27) = true := by unfold bne; rw [e27]; rfl
      unfold step1L at h1
      rw [if_neg (by omega)] at h1
      rcases h2 with ⟨rfl, rfl⟩ | ⟨rfl, h2⟩
      ·
       have hrf : r = false := by rcases hfin with ⟨h, _⟩ | ⟨_, h⟩; cases h; exact h
       have HRF := amZ hrf
       have H1 := amZ h1
       clear hfin hrf h1 hop hc18 hc19 hc20
       have wM := WM.out
       have wk := WK.out
       have wt := WT.out
       have wl := WL.out
       have wk1 := WK1.out
       go_wp2_with (first
        | (go_at_call 57; (refine (HTKK.out _ HOP.out HA0.out HA1.out).mono ?_; rintro e w3 ⟨rfl, hb3⟩; have HQ3 := amZ ((HQ1.out.below ((Below.refl _ _).alloc (Nat.le_refl _) _)).below hb3); have HX3 := amZ (HX1.out.below hb3); have HB3 := amZ (zcY (HB.out.alloc HQ1.out.base _) hb3); clear hb3; have z0 := (zaY HX3.out.blk 0).trans rfl; have z1 := (zaY HX3.out.blk 1).trans rfl; have z2 := (zaY HX3.out.blk 2).trans rfl; have zh := HQ3.out.cell tn HJ.out))
        | (go_at_call 56; ((with_reducible refine (reach_calls' w1.heap.size _ _ _ hs us code.length ((tn : Int) + 1) (k + leavesOf op b) ts1 hs1 _ HNN.out HQ3.out H1.out).mono ?_); rintro e w4 ⟨v4, rfl, hq4⟩; have HQ4 := amZ hq4.q; have HB4 := amZ (HB3.out.trans hq4.b); have HX4 := amZ (HX3.out.put hq4); clear hq4; have u0 := (zaY HX4.out.blk 0).trans rfl; have u1 := (zaY HX4.out.blk 1).trans rfl; have u2 := (zaY HX4.out.blk 2).trans rfl))
        )
       go_ret
       exact ⟨ret_bool HRF.out.symm, zcY HB1.out HB4.out⟩
      ·
       have HN1 : Aside0 (hs1.length = code.length) := ⟨by rw [reachL_len h1, HNN.out]⟩
       unfold step2L at h2
       rw [if_neg (by omega)] at h2
       rw [if_pos (by omega)] at h2
       have H1 := amZ h1
       clear h1
       have H2 := amZ h2
       have HN2 : Aside0 (hs2.length = code.length) := ⟨by rw [reachL_len h2]; exact HN1.out⟩
       clear h2 hop hc18 hc19 hc20
       rcases hfin with ⟨rfl, hsr⟩ | ⟨rfl, rfl⟩
       ·
        have HSR := amZ hsr
        clear hsr
        have wM := WM.out
        have wk := WK.out
        have wt := WT.out
        have wl := WL.out
        have wk1 := WK1.out
        go_wp2_with (first
         | (go_at_call 57; (refine (HTKK.out _ HOP.out HA0.out HA1.out).mono ?_; rintro e w3 ⟨rfl, hb3⟩; have HQ3 := amZ ((HQ1.out.below ((Below.refl _ _).alloc (Nat.le_refl _) _)).below hb3); have HX3 := amZ (HX1.out.below hb3); have HB3 := amZ (zcY (HB.out.alloc HQ1.out.base _) hb3); clear hb3; have z0 := (zaY HX3.out.blk 0).trans rfl; have z1 := (zaY HX3.out.blk 1).trans rfl; have z2 := (zaY HX3.out.blk 2).trans rfl; have zh := HQ3.out.cell tn HJ.out))
         | (go_at_call 56; ((with_reducible refine (reach_calls' w1.heap.size _ _ _ hs us code.length ((tn : Int) + 1) (k + leavesOf op b) ts1 hs1 _ HNN.out HQ3.out H1.out).mono ?_); rintro e w4 ⟨v4, rfl, hq4⟩; have HQ4 := amZ hq4.q; have HB4 := amZ (HB3.out.trans hq4.b); have HX4 := amZ (HX3.out.put hq4); clear hq4; have u0 := (zaY HX4.out.blk 0).trans rfl; have u1 := (zaY HX4.out.blk 1).trans rfl; have u2 := (zaY HX4.out.blk 2).trans rfl))
         | (go_at_call 56; ((with_reducible refine (reach_calls' w1.heap.size _ _ _ hs1 ts1 code.length a (k + 1) ts2 hs2 _ HN1.out HQ4.out H2.out).mono ?_); rintro e w5 ⟨v5, rfl, hq5⟩; have HQ5 := amZ hq5.q; have HB5 := amZ (HB4.out.trans hq5.b); clear hq5))
         )
        go_roundg m
        case measure => omega
        case rel => exact ⟨hs2, ts2, HQ5, HSR, HN2, HB5⟩
       ·
        have wM := WM.out
        have wk := WK.out
        have wt := WT.out
        have wl := WL.out
        have wk1 := WK1.out
        go_wp2_with (first
         | (go_at_call 57; (refine (HTKK.out _ HOP.out HA0.out HA1.out).mono ?_; rintro e w3 ⟨rfl, hb3⟩; have HQ3 := amZ ((HQ1.out.below ((Below.refl _ _).alloc (Nat.le_refl _) _)).below hb3); have HX3 := amZ (HX1.out.below hb3); have HB3 := amZ (zcY (HB.out.alloc HQ1.out.base _) hb3); clear hb3; have z0 := (zaY HX3.out.blk 0).trans rfl; have z1 := (zaY HX3.out.blk 1).trans rfl; have z2 := (zaY HX3.out.blk 2).trans rfl; have zh := HQ3.out.cell tn HJ.out))
         | (go_at_call 56; ((with_reducible refine (reach_calls' w1.heap.size _ _ _ hs us code.length ((tn : Int) + 1) (k + leavesOf op b) ts1 hs1 _ HNN.out HQ3.out H1.out).mono ?_); rintro e w4 ⟨v4, rfl, hq4⟩; have HQ4 := amZ hq4.q; have HB4 := amZ (HB3.out.trans hq4.b); have HX4 := amZ (HX3.out.put hq4); clear hq4; have u0 := (zaY HX4.out.blk 0).trans rfl; have u1 := (zaY HX4.out.blk 1).trans rfl; have u2 := (zaY HX4.out.blk 2).trans rfl))
         | (go_at_call 56; ((with_reducible refine (reach_calls' w1.heap.size _ _ _ hs1 ts1 code.length a (k + 1) ts2 hs2 _ HN1.out HQ4.out H2.out).mono ?_); rintro e w5 ⟨v5, rfl, hq5⟩; have HQ5 := amZ hq5.q; have HB5 := amZ (HB4.out.trans hq5.b); clear hq5))
         )
        go_ret
        exact ⟨rfl, zcY HB1.out HB5.out⟩
     by_cases hc21 : op = 21
     ·
      have e18 : ((op : Int) == 18) = false := by rw [beq_eq_false_iff_ne]; intro e_; omega
      have g18 : ((op : Int) != 18) = true := by unfold bne; rw [e18]; rfl
      have e19 : ((op : Int) == 19) = false := by rw [beq_eq_false_iff_ne]; intro e_; omega
      have g19 : ((op : Int) != 19) = true := by unfold bne; rw [e19]; rfl
      have e20 : ((op : Int) == 20) = false := by rw [beq_eq_false_iff_ne]; intro e_; omega
      have g20 : ((op : Int) != 20) = true := by unfold bne; rw [e20]; rfl
      have e21 : ((op : Int) == 21) = true := by rw [beq_iff_eq]; omega
      have g21 : ((op : Int) != 21) = false := by unfold bne; rw [e21]; rfl
      have e23 : ((op : Int) == 23) = false := by rw [beq_eq_false_iff_ne]; intro e_; omega
      have g23 : ((op : Int) != 23) = true := by unfold bne; rw [e23]; rfl
      have e24 : ((op : Int) == 24) = false := by rw [beq_eq_false_iff_ne]; intro e_; omega
      have g24 : ((op : Int) != 24) = true := by unfold bne; rw [e24]; rfl
      have e26 : ((op : Int) == 26) = false := by rw [beq_eq_false_iff_ne]; intro e_; omega
      have g26 : ((op : Int) != 26) = true := by unfold bne; rw [e26]; rfl
      have e27 : ((op : Int) == 27) = false := by rw [beq_eq_false_iff_ne]; intro e_; omega
      have g27 : ((op : Int) != 27) = true := by unfold bne; rw [e27]; rfl
      unfold step1L at h1
      rw [if_neg (by omega)] at h1
      rcases h2 with ⟨rfl, rfl⟩ | ⟨rfl, h2⟩
      ·
       have hrf : r = false := by rcases hfin with ⟨h, _⟩ | ⟨_, h⟩; cases h; exact h
       have HRF := amZ hrf
       have H1 := amZ h1
       clear hfin hrf h1 hop hc18 hc19 hc20 hc21
       have wM := WM.out
       have wk := WK.out
       have wt := WT.out
       have wl := WL.out
       have wk1 := WK1.out
       go_wp2_with (first
        | (go_at_call 57; (refine (HTKK.out _ HOP.out HA0.out HA1.out).mono ?_; rintro e w3 ⟨rfl, hb3⟩; have HQ3 := amZ ((HQ1.out.below ((Below.refl _ _).alloc (Nat.le_refl _) _)).below hb3); have HX3 := amZ (HX1.out.below hb3); have HB3 := amZ (zcY (HB.out.alloc HQ1.out.base _) hb3); clear hb3; have z0 := (zaY HX3.out.blk 0).trans rfl; have z1 := (zaY HX3.out.blk 1).trans rfl; have z2 := (zaY HX3.out.blk 2).trans rfl; have zh := HQ3.out.cell tn HJ.out))
        | (go_at_call 56; ((with_reducible refine (reach_calls' w1.heap.size _ _ _ hs us code.length ((tn : Int) + 1) (k + leavesOf op b) ts1 hs1 _ HNN.out HQ3.out H1.out).mono ?_); rintro e w4 ⟨v4, rfl, hq4⟩; have HQ4 := amZ hq4.q; have HB4 := amZ (HB3.out.trans hq4.b); have HX4 := amZ (HX3.out.put hq4); clear hq4; have u0 := (zaY HX4.out.blk 0).trans rfl; have u1 := (zaY HX4.out.blk 1).trans rfl; have u2 := (zaY HX4.out.blk 2).trans rfl))
        )
       go_ret
       exact ⟨ret_bool HRF.out.symm, zcY HB1.out HB4.out⟩
      ·
       have HN1 : Aside0 (hs1.length = code.length) := ⟨by rw [reachL_len h1, HNN.out]⟩
       unfold step2L at h2
       rw [if_neg (by omega)] at h2
       rw [if_pos (by omega)] at h2
       have H1 := amZ h1
       clear h1
       have H2 := amZ h2
       have HN2 : Aside0 (hs2.length = code.length) := ⟨by rw [reachL_len h2]; exact HN1.out⟩
       clear h2 hop hc18 hc19 hc20 hc21
       rcases hfin with ⟨rfl, hsr⟩ | ⟨rfl, rfl⟩
       ·
        have HSR := amZ hsr
        clear hsr
        have wM := WM.out
        have wk := WK.out
        have wt := WT.out
        have wl := WL.out
        have wk1 := WK1.out
        go_wp2_with (first
         | (go_at_call 57; (refine (HTKK.out _ HOP.out HA0.out HA1.out).mono ?_; rintro e w3 ⟨rfl, hb3⟩; have HQ3 := amZ ((HQ1.out.below ((Below.refl _ _).alloc (Nat.le_refl _) _)).below hb3); have HX3 := amZ (HX1.out.below hb3); have HB3 := amZ (zcY (HB.out.alloc HQ1.out.base _) hb3); clear hb3; have z0 := (zaY HX3.out.blk 0).trans rfl; have z1 := (zaY HX3.out.blk 1).trans rfl; have z2 := (zaY HX3.out.blk 2).trans rfl; have zh := HQ3.out.cell tn HJ.out))
         | (go_at_call 56; ((with_reducible refine (reach_calls' w1.heap.size _ _ _ hs us code.length ((tn : Int) + 1) (k + leavesOf op b) ts1 hs1 _ HNN.out HQ3.out H1.out).mono ?_); rintro e w4 ⟨v4, rfl, hq4⟩; have HQ4 := amZ hq4.q; have HB4 := amZ (HB3.out.trans hq4.b); have HX4 := amZ (HX3.out.put hq4); clear hq4; have u0 := (zaY HX4.out.blk 0).trans rfl; have u1 := (zaY HX4.out.blk 1).trans rfl; have u2 := (zaY HX4.out.blk 2).trans rfl))
         | (go_at_call 56; ((with_reducible refine (reach_calls' w1.heap.size _ _ _ hs1 ts1 code.length a (k + 1) ts2 hs2 _ HN1.out HQ4.out H2.out).mono ?_); rintro e w5 ⟨v5, rfl, hq5⟩; have HQ5 := amZ hq5.q; have HB5 := amZ (HB4.out.trans hq5.b); clear hq5))
         )
        go_roundg m
        case measure => omega
        case rel => exact ⟨hs2, ts2, HQ5, HSR, HN2, HB5⟩
       ·
        have wM := WM.out
        have wk := WK.out
        have wt := WT.out
        have wl := WL.out
        have wk1 := WK1.out
        go_wp2_with (first
         | (go_at_call 57; (refine (HTKK.out _ HOP.out HA0.out HA1.out).mono ?_; rintro e w3 ⟨rfl, hb3⟩; have HQ3 := amZ ((HQ1.out.below ((Below.refl _ _).alloc (Nat.le_refl _) _)).below hb3); have HX3 := amZ (HX1.out.below hb3); have HB3 := amZ (zcY (HB.out.alloc HQ1.out.base _) hb3); clear hb3; have z0 := (zaY HX3.out.blk 0).trans rfl; have z1 := (zaY HX3.out.blk 1).trans rfl; have z2 := (zaY HX3.out.blk 2).trans rfl; have zh := HQ3.out.cell tn HJ.out))
         | (go_at_call 56; ((with_reducible refine (reach_calls' w1.heap.size _ _ _ hs us code.length ((tn : Int) + 1) (k + leavesOf op b) ts1 hs1 _ HNN.out HQ3.out H1.out).mono ?_); rintro e w4 ⟨v4, rfl, hq4⟩; have HQ4 := amZ hq4.q; have HB4 := amZ (HB3.out.trans hq4.b); have HX4 := amZ (HX3.out.put hq4); clear hq4; have u0 := (zaY HX4.out.blk 0).trans rfl; have u1 := (zaY HX4.out.blk 1).trans rfl; have u2 := (zaY HX4.out.blk 2).trans rfl))
         | (go_at_call 56; ((with_reducible refine (reach_calls' w1.heap.size _ _ _ hs1 ts1 code.length a (k + 1) ts2 hs2 _ HN1.out HQ4.out H2.out).mono ?_); rintro e w5 ⟨v5, rfl, hq5⟩; have HQ5 := amZ hq5.q; have HB5 := amZ (HB4.out.trans hq5.b); clear hq5))
         )
        go_ret
        exact ⟨rfl, zcY HB1.out HB5.out⟩
     by_cases hc23 : op = 23
     ·
      have e18 : ((op : Int) == 18) = false := by rw [beq_eq_false_iff_ne]; intro e_; omega
      have g18 : ((op : Int) != 18) = true := by unfold bne; rw [e18]; rfl
      have e19 : ((op : Int) == 19) = false := by rw [beq_eq_false_iff_ne]; intro e_; omega
      have g19 : ((op : Int) != 19) = true := by unfold bne; rw [e19]; rfl
      have e20 : ((op : Int) == 20) = false := by rw [beq_eq_false_iff_ne]; intro e_; omega
      have g20 : ((op : Int) != 20) = true := by unfold bne; rw [e20]; rfl
      have e21 : ((op : Int) == 21) = false := by rw [beq_eq_false_iff_ne]; intro e_; omega
      have g21 : ((op : Int) != 21) = true := by unfold bne; rw [e21]; rfl
      have e23 : ((op : Int) == 23) = true := by rw [beq_iff_eq]; omega
      have g23 : ((op : Int) != 23) = false := by unfold bne; rw [e23]; rfl
      have e24 : ((op : Int) == 24) = false := by rw [beq_eq_false_iff_ne]; intro e_; omega
      have g24 : ((op : Int) != 24) = true := by unfold bne; rw [e24]; rfl
      have e26 : ((op : Int) == 26) = false := by rw [beq_eq_false_iff_ne]; intro e_; omega
      have g26 : ((op : Int) != 26) = true := by unfold bne; rw [e26]; rfl
      have e27 : ((op : Int) == 27) = false := by rw [beq_eq_false_iff_ne]; intro e_; omega
      have g27 : ((op : Int) != 27) = true := by unfold bne; rw [e27]; rfl
      unfold step1L at h1
      rw [if_pos (by omega)] at h1
      have hok1 : ok1 = true := by injection h1 with h1; injection h1 with _ h1; injection h1 with h1 _; exact h1.symm
      replace h2 : step2L op a b k hs1 ts1 = some (ts2, ok, hs2) := by rcases h2 with ⟨h, _⟩ | ⟨_, h⟩; rw [hok1] at h; cases h; exact h
      clear hok1
      have HN1 : Aside0 (hs1.length = code.length) := ⟨by injection h1 with h1; injection h1 with _ h1; injection h1 with _ h1; rw [← h1]; exact HNN.out⟩
      unfold step2L at h2
      rw [if_neg (by omega)] at h2
      rw [if_neg (by omega)] at h2
      rw [if_neg (by omega)] at h2
      injection h1 with h1
      injection h1 with e1_ h1
      injection h1 with e2_ e3_
      subst e1_ e3_
      clear e2_
      injection h2 with h2
      injection h2 with f1_ h2
      injection h2 with f2_ f3_
      subst f1_ f2_ f3_
      have hsr : shL code m hs us = some r := by rcases hfin with ⟨_, h⟩ | ⟨h, _⟩; exact h; cases h
      have HSR := amZ hsr
      clear hfin hsr hop hc18 hc19 hc20 hc21 hc23
      have wM := WM.out
      have wk := WK.out
      have wt := WT.out
      have wl := WL.out
      have wk1 := WK1.out
      go_wp2_with (first
       | (go_at_call 57; (refine (HTKK.out _ HOP.out HA0.out HA1.out).mono ?_; rintro e w3 ⟨rfl, hb3⟩; have HQ3 := amZ ((HQ1.out.below ((Below.refl _ _).alloc (Nat.le_refl _) _)).below hb3); have HX3 := amZ (HX1.out.below hb3); have HB3 := amZ (zcY (HB.out.alloc HQ1.out.base _) hb3); clear hb3; have z0 := (zaY HX3.out.blk 0).trans rfl; have z1 := (zaY HX3.out.blk 1).trans rfl; have z2 := (zaY HX3.out.blk 2).trans rfl; have zh := HQ3.out.cell tn HJ.out))
       )
      go_roundg m
      case measure => omega
      case rel => exact ⟨hs, us, HQ3, HSR, HN1, HB3⟩
     by_cases hc24 : op = 24
     ·
      have e18 : ((op : Int) == 18) = false := by rw [beq_eq_false_iff_ne]; intro e_; omega
      have g18 : ((op : Int) != 18) = true := by unfold bne; rw [e18]; rfl
      have e19 : ((op : Int) == 19) = false := by rw [beq_eq_false_iff_ne]; intro e_; omega
      have g19 : ((op : Int) != 19) = true := by unfold bne; rw [e19]; rfl
      have e20 : ((op : Int) == 20) = false := by rw [beq_eq_false_iff_ne]; intro e_; omega
      have g20 : ((op : Int) != 20) = true := by unfold bne; rw [e20]; rfl
      have e21 : ((op : Int) == 21) = false := by rw [beq_eq_false_iff_ne]; intro e_; omega
      have g21 : ((op : Int) != 21) = true := by unfold bne; rw [e21]; rfl
      have e23 : ((op : Int) == 23) = false := by rw [beq_eq_false_iff_ne]; intro e_; omega
      have g23 : ((op : Int) != 23) = true := by unfold bne; rw [e23]; rfl
      have e24 : ((op : Int) == 24) = true := by rw [beq_iff_eq]; omega
      have g24 : ((op : Int) != 24) = false := by unfold bne; rw [e24]; rfl
      have e26 : ((op : Int) == 26) = false := by rw [beq_eq_false_iff_ne]; intro e_; omega
      have g26 : ((op : Int) != 26) = true := by unfold bne; rw [e26]; rfl
      have e27 : ((op : Int) == 27) = false := by rw [beq_eq_false_iff_ne]; intro e_; omega
      have g27 : ((op : Int) != 27) = true := by unfold bne; rw [e27]; rfl
      unfold step1L at h1
      rw [if_pos (by omega)] at h1
      have hok1 : ok1 = true := by injection h1 with h1; injection h1 with _ h1; injection h1 with h1 _; exact h1.symm
      replace h2 : step2L op a b k hs1 ts1 = some (ts2, ok, hs2) := by rcases h2 with ⟨h, _⟩ | ⟨_, h⟩; rw [hok1] at h; cases h; exact h
      clear hok1
      have HN1 : Aside0 (hs1.length = code.length) := ⟨by injection h1 with h1; injection h1 with _ h1; injection h1 with _ h1; rw [← h1]; exact HNN.out⟩
      unfold step2L at h2
      rw [if_neg (by omega)] at h2
      rw [if_neg (by omega)] at h2
      rw [if_neg (by omega)] at h2
      injection h1 with h1
      injection h1 with e1_ h1
      injection h1 with e2_ e3_
      subst e1_ e3_
      clear e2_
      injection h2 with h2
      injection h2 with f1_ h2
      injection h2 with f2_ f3_
      subst f1_ f2_ f3_
      have hsr : shL code m hs us = some r := by rcases hfin with ⟨_, h⟩ | ⟨h, _⟩; exact h; cases h
      have HSR := amZ hsr
      clear hfin hsr hop hc18 hc19 hc20 hc21 hc23 hc24
      have wM := WM.out
      have wk := WK.out
      have wt := WT.out
      have wl := WL.out
      have wk1 := WK1.out
      go_wp2_with (first
       | (go_at_call 57; (refine (HTKK.out _ HOP.out HA0.out HA1.out).mono ?_; rintro e w3 ⟨rfl, hb3⟩; have HQ3 := amZ ((HQ1.out.below ((Below.refl _ _).alloc (Nat.le_refl _) _)).below hb3); have HX3 := amZ (HX1.out.below hb3); have HB3 := amZ (zcY (HB.out.alloc HQ1.out.base _) hb3); clear hb3; have z0 := (zaY HX3.out.blk 0).trans rfl; have z1 := (zaY HX3.out.blk 1).trans rfl; have z2 := (zaY HX3.out.blk 2).trans rfl; have zh := HQ3.out.cell tn HJ.out))
       )
      go_roundg m
      case measure => omega
      case rel => exact ⟨hs, us, HQ3, HSR, HN1, HB3⟩
     by_cases hc26 : op = 26
     ·
      have e18 : ((op : Int) == 18) = false := by rw [beq_eq_false_iff_ne]; intro e_; omega
      have g18 : ((op : Int) != 18) = true := by unfold bne; rw [e18]; rfl
      have e19 : ((op : Int) == 19) = false := by rw [beq_eq_false_iff_ne]; intro e_; omega
      have g19 : ((op : Int) != 19) = true := by unfold bne; rw [e19]; rfl
      have e20 : ((op : Int) == 20) = false := by rw [beq_eq_false_iff_ne]; intro e_; omega
      have g20 : ((op : Int) != 20) = true := by unfold bne; rw [e20]; rfl
      have e21 : ((op : Int) == 21) = false := by rw [beq_eq_false_iff_ne]; intro e_; omega
      have g21 : ((op : Int) != 21) = true := by unfold bne; rw [e21]; rfl
      have e23 : ((op : Int) == 23) = false := by rw [beq_eq_false_iff_ne]; intro e_; omega
      have g23 : ((op : Int) != 23) = true := by unfold bne; rw [e23]; rfl
      have e24 : ((op : Int) == 24) = false := by rw [beq_eq_false_iff_ne]; intro e_; omega
      have g24 : ((op : Int) != 24) = true := by unfold bne; rw [e24]; rfl
      have e26 : ((op : Int) == 26) = true := by rw [beq_iff_eq]; omega
      have g26 : ((op : Int) != 26) = false := by unfold bne; rw [e26]; rfl
      have e27 : ((op : Int) == 27) = false := by rw [beq_eq_false_iff_ne]; intro e_; omega
      have g27 : ((op : Int) != 27) = true := by unfold bne; rw [e27]; rfl
      unfold step1L at h1
      rw [if_neg (by omega)] at h1
      rcases h2 with ⟨rfl, rfl⟩ | ⟨rfl, h2⟩
      ·
       have hrf : r = false := by rcases hfin with ⟨h, _⟩ | ⟨_, h⟩; cases h; exact h
       have HRF := amZ hrf
       have H1 := amZ h1
       clear hfin hrf h1 hop hc18 hc19 hc20 hc21 hc23 hc24 hc26
       have wM := WM.out
       have wk := WK.out
       have wt := WT.out
       have wl := WL.out
       have wk1 := WK1.out
       go_wp2_with (first
        | (go_at_call 57; (refine (HTKK.out _ HOP.out HA0.out HA1.out).mono ?_; rintro e w3 ⟨rfl, hb3⟩; have HQ3 := amZ ((HQ1.out.below ((Below.refl _ _).alloc (Nat.le_refl _) _)).below hb3); have HX3 := amZ (HX1.out.below hb3); have HB3 := amZ (zcY (HB.out.alloc HQ1.out.base _) hb3); clear hb3; have z0 := (zaY HX3.out.blk 0).trans rfl; have z1 := (zaY HX3.out.blk 1).trans rfl; have z2 := (zaY HX3.out.blk 2).trans rfl; have zh := HQ3.out.cell tn HJ.out))
        | (go_at_call 56; ((with_reducible refine (reach_calls' w1.heap.size _ _ _ hs us code.length ((tn : Int) + 1) (k + leavesOf op b) ts1 hs1 _ HNN.out HQ3.out H1.out).mono ?_); rintro e w4 ⟨v4, rfl, hq4⟩; have HQ4 := amZ hq4.q; have HB4 := amZ (HB3.out.trans hq4.b); have HX4 := amZ (HX3.out.put hq4); clear hq4; have u0 := (zaY HX4.out.blk 0).trans rfl; have u1 := (zaY HX4.out.blk 1).trans rfl; have u2 := (zaY HX4.out.blk 2).trans rfl))
        )
       go_ret
       exact ⟨ret_bool HRF.out.symm, zcY HB1.out HB4.out⟩
      ·
       have HN1 : Aside0 (hs1.length = code.length) := ⟨by rw [reachL_len h1, HNN.out]⟩
       unfold step2L at h2
       rw [if_neg (by omega)] at h2
       rw [if_neg (by omega)] at h2
       rw [if_pos (by omega)] at h2
       have H1 := amZ h1
       clear h1
       have H2 := amZ h2
       have HN2 : Aside0 (hs2.length = code.length) := ⟨by rw [reachL_len h2]; exact HN1.out⟩
       clear h2 hop hc18 hc19 hc20 hc21 hc23 hc24 hc26
       rcases hfin with ⟨rfl, hsr⟩ | ⟨rfl, rfl⟩
       ·
        have HSR := amZ hsr
        clear hsr
        have wM := WM.out
        have wk := WK.out
        have wt := WT.out
        have wl := WL.out
        have wk1 := WK1.out
        go_wp2_with (first
         | (go_at_call 57; (refine (HTKK.out _ HOP.out HA0.out HA1.out).mono ?_; rintro e w3 ⟨rfl, hb3⟩; have HQ3 := amZ ((HQ1.out.below ((Below.refl _ _).alloc (Nat.le_refl _) _)).below hb3); have HX3 := amZ (HX1.out.below hb3); have HB3 := amZ (zcY (HB.out.alloc HQ1.out.base _) hb3); clear hb3; have z0 := (zaY HX3.out.blk 0).trans rfl; have z1 := (zaY HX3.out.blk 1).trans rfl; have z2 := (zaY HX3.out.blk 2).trans rfl; have zh := HQ3.out.cell tn HJ.out))
         | (go_at_call 56; ((with_reducible refine (reach_calls' w1.heap.size _ _ _ hs us code.length ((tn : Int) + 1) (k + leavesOf op b) ts1 hs1 _ HNN.out HQ3.out H1.out).mono ?_); rintro e w4 ⟨v4, rfl, hq4⟩; have HQ4 := amZ hq4.q; have HB4 := amZ (HB3.out.trans hq4.b); have HX4 := amZ (HX3.out.put hq4); clear hq4; have u0 := (zaY HX4.out.blk 0).trans rfl; have u1 := (zaY HX4.out.blk 1).trans rfl; have u2 := (zaY HX4.out.blk 2).trans rfl))
         | (go_at_call 56; ((with_reducible refine (reach_calls' w1.heap.size _ _ _ hs1 ts1 code.length b k ts2 hs2 _ HN1.out HQ4.out H2.out).mono ?_); rintro e w5 ⟨v5, rfl, hq5⟩; have HQ5 := amZ hq5.q; have HB5 := amZ (HB4.out.trans hq5.b); clear hq5))
         )
        go_roundg m
        case measure => omega
        case rel => exact ⟨hs2, ts2, HQ5, HSR, HN2, HB5⟩
       ·
        have wM := WM.out
        have wk := WK.out
        have wt := WT.out
        have wl := WL.out
        have wk1 := WK1.out
        go_wp2_with (first
         | (go_at_call 57; (refine (HTKK.out _ HOP.out HA0.out HA1.out).mono ?_; rintro e w3 ⟨rfl, hb3⟩; have HQ3 := amZ ((HQ1.out.below ((Below.refl _ _).alloc (Nat.le_refl _) _)).below hb3); have HX3 := amZ (HX1.out.below hb3); have HB3 := amZ (zcY (HB.out.alloc HQ1.out.base _) hb3); clear hb3; have z0 := (zaY HX3.out.blk 0).trans rfl; have z1 := (zaY HX3.out.blk 1).trans rfl; have z2 := (zaY HX3.out.blk 2).trans rfl; have zh := HQ3.out.cell tn HJ.out))
         | (go_at_call 56; ((with_reducible refine (reach_calls' w1.heap.size _ _ _ hs us code.length ((tn : Int) + 1) (k + leavesOf op b) ts1 hs1 _ HNN.out HQ3.out H1.out).mono ?_); rintro e w4 ⟨v4, rfl, hq4⟩; have HQ4 := amZ hq4.q; have HB4 := amZ (HB3.out.trans hq4.b); have HX4 := amZ (HX3.out.put hq4); clear hq4; have u0 := (zaY HX4.out.blk 0).trans rfl; have u1 := (zaY HX4.out.blk 1).trans rfl; have u2 := (zaY HX4.out.blk 2).trans rfl))
         | (go_at_call 56; ((with_reducible refine (reach_calls' w1.heap.size _ _ _ hs1 ts1 code.length b k ts2 hs2 _ HN1.out HQ4.out H2.out).mono ?_); rintro e w5 ⟨v5, rfl, hq5⟩; have HQ5 := amZ hq5.q; have HB5 := amZ (HB4.out.trans hq5.b); clear hq5))
         )
        go_ret
        exact ⟨rfl, zcY HB1.out HB5.out⟩
     by_cases hc27 : op = 27
     ·
      have e18 : ((op : Int) == 18) = false := by rw [beq_eq_false_iff_ne]; intro e_; omega
      have g18 : ((op : Int) != 18) = true := by unfold bne; rw [e18]; rfl
      have e19 : ((op : Int) == 19) = false := by rw [beq_eq_false_iff_ne]; intro e_; omega
      have g19 : ((op : Int) != 19) = true := by unfold bne; rw [e19]; rfl
      have e20 : ((op : Int) == 20) = false := by rw [beq_eq_false_iff_ne]; intro e_; omega
      have g20 : ((op : Int) != 20) = true := by unfold bne; rw [e20]; rfl
      have e21 : ((op : Int) == 21) = false := by rw [beq_eq_false_iff_ne]; intro e_; omega
      have g21 : ((op : Int) != 21) = true := by unfold bne; rw [e21]; rfl
      have e23 : ((op : Int) == 23) = false := by rw [beq_eq_false_iff_ne]; intro e_; omega
      have g23 : ((op : Int) != 23) = true := by unfold bne; rw [e23]; rfl
      have e24 : ((op : Int) == 24) = false := by rw [beq_eq_false_iff_ne]; intro e_; omega
      have g24 : ((op : Int) != 24) = true := by unfold bne; rw [e24]; rfl
      have e26 : ((op : Int) == 26) = false := by rw [beq_eq_false_iff_ne]; intro e_; omega
      have g26 : ((op : Int) != 26) = true := by unfold bne; rw [e26]; rfl
      have e27 : ((op : Int) == 27) = true := by rw [beq_iff_eq]; omega
      have g27 : ((op : Int) != 27) = false := by unfold bne; rw [e27]; rfl
      unfold step1L at h1
      rw [if_neg (by omega)] at h1
      rcases h2 with ⟨rfl, rfl⟩ | ⟨rfl, h2⟩
      ·
       have hrf : r = false := by rcases hfin with ⟨h, _⟩ | ⟨_, h⟩; cases h; exact h
       have HRF := amZ hrf
       have H1 := amZ h1
       clear hfin hrf h1 hop hc18 hc19 hc20 hc21 hc23 hc24 hc26 hc27
       have wM := WM.out
       have wk := WK.out
       have wt := WT.out
       have wl := WL.out
       have wk1 := WK1.out
       go_wp2_with (first
        | (go_at_call 57; (refine (HTKK.out _ HOP.out HA0.out HA1.out).mono ?_; rintro e w3 ⟨rfl, hb3⟩; have HQ3 := amZ ((HQ1.out.below ((Below.refl _ _).alloc (Nat.le_refl _) _)).below hb3); have HX3 := amZ (HX1.out.below hb3); have HB3 := amZ (zcY (HB.out.alloc HQ1.out.base _) hb3); clear hb3; have z0 := (zaY HX3.out.blk 0).trans rfl; have z1 := (zaY HX3.out.blk 1).trans rfl; have z2 := (zaY HX3.out.blk 2).trans rfl; have zh := HQ3.out.cell tn HJ.out))
        | (go_at_call 56; ((with_reducible refine (reach_calls' w1.heap.size _ _ _ hs us code.length ((tn : Int) + 1) (k + leavesOf op b) ts1 hs1 _ HNN.out HQ3.out H1.out).mono ?_); rintro e w4 ⟨v4, rfl, hq4⟩; have HQ4 := amZ hq4.q; have HB4 := amZ (HB3.out.trans hq4.b); have HX4 := amZ (HX3.out.put hq4); clear hq4; have u0 := (zaY HX4.out.blk 0).trans rfl; have u1 := (zaY HX4.out.blk 1).trans rfl; have u2 := (zaY HX4.out.blk 2).trans rfl))
        )
       go_ret
       exact ⟨ret_bool HRF.out.symm, zcY HB1.out HB4.out⟩
      ·
       have HN1 : Aside0 (hs1.length = code.length) := ⟨by rw [reachL_len h1, HNN.out]⟩
       unfold step2L at h2
       rw [if_neg (by omega)] at h2
       rw [if_neg (by omega)] at h2
       rw [if_pos (by omega)] at h2
       have H1 := amZ h1
       clear h1
       have H2 := amZ h2
       have HN2 : Aside0 (hs2.length = code.length) := ⟨by rw [reachL_len h2]; exact HN1.out⟩
       clear h2 hop hc18 hc19 hc20 hc21 hc23 hc24 hc26 hc27
       rcases hfin with ⟨rfl, hsr⟩ | ⟨rfl, rfl⟩
       ·
        have HSR := amZ hsr
        clear hsr
        have wM := WM.out
        have wk := WK.out
        have wt := WT.out
        have wl := WL.out
        have wk1 := WK1.out
        go_wp2_with (first
         | (go_at_call 57; (refine (HTKK.out _ HOP.out HA0.out HA1.out).mono ?_; rintro e w3 ⟨rfl, hb3⟩; have HQ3 := amZ ((HQ1.out.below ((Below.refl _ _).alloc (Nat.le_refl _) _)).below hb3); have HX3 := amZ (HX1.out.below hb3); have HB3 := amZ (zcY (HB.out.alloc HQ1.out.base _) hb3); clear hb3; have z0 := (zaY HX3.out.blk 0).trans rfl; have z1 := (zaY HX3.out.blk 1).trans rfl; have z2 := (zaY HX3.out.blk 2).trans rfl; have zh := HQ3.out.cell tn HJ.out))
         | (go_at_call 56; ((with_reducible refine (reach_calls' w1.heap.size _ _ _ hs us code.length ((tn : Int) + 1) (k + leavesOf op b) ts1 hs1 _ HNN.out HQ3.out H1.out).mono ?_); rintro e w4 ⟨v4, rfl, hq4⟩; have HQ4 := amZ hq4.q; have HB4 := amZ (HB3.out.trans hq4.b); have HX4 := amZ (HX3.out.put hq4); clear hq4; have u0 := (zaY HX4.out.blk 0).trans rfl; have u1 := (zaY HX4.out.blk 1).trans rfl; have u2 := (zaY HX4.out.blk 2).trans rfl))
         | (go_at_call 56; ((with_reducible refine (reach_calls' w1.heap.size _ _ _ hs1 ts1 code.length b k ts2 hs2 _ HN1.out HQ4.out H2.out).mono ?_); rintro e w5 ⟨v5, rfl, hq5⟩; have HQ5 := amZ hq5.q; have HB5 := amZ (HB4.out.trans hq5.b); clear hq5))
         )
        go_roundg m
        case measure => omega
        case rel => exact ⟨hs2, ts2, HQ5, HSR, HN2, HB5⟩
       ·
        have wM := WM.out
        have wk := WK.out
        have wt := WT.out
        have wl := WL.out
        have wk1 := WK1.out
        go_wp2_with (first
         | (go_at_call 57; (refine (HTKK.out _ HOP.out HA0.out HA1.out).mono ?_; rintro e w3 ⟨rfl, hb3⟩; have HQ3 := amZ ((HQ1.out.below ((Below.refl _ _).alloc (Nat.le_refl _) _)).below hb3); have HX3 := amZ (HX1.out.below hb3); have HB3 := amZ (zcY (HB.out.alloc HQ1.out.base _) hb3); clear hb3; have z0 := (zaY HX3.out.blk 0).trans rfl; have z1 := (zaY HX3.out.blk 1).trans rfl; have z2 := (zaY HX3.out.blk 2).trans rfl; have zh := HQ3.out.cell tn HJ.out))
         | (go_at_call 56; ((with_reducible refine (reach_calls' w1.heap.size _ _ _ hs us code.length ((tn : Int) + 1) (k + leavesOf op b) ts1 hs1 _ HNN.out HQ3.out H1.out).mono ?_); rintro e w4 ⟨v4, rfl, hq4⟩; have HQ4 := amZ hq4.q; have HB4 := amZ (HB3.out.trans hq4.b); have HX4 := amZ (HX3.out.put hq4); clear hq4; have u0 := (zaY HX4.out.blk 0).trans rfl; have u1 := (zaY HX4.out.blk 1).trans rfl; have u2 := (zaY HX4.out.blk 2).trans rfl))
         | (go_at_call 56; ((with_reducible refine (reach_calls' w1.heap.size _ _ _ hs1 ts1 code.length b k ts2 hs2 _ HN1.out HQ4.out H2.out).mono ?_); rintro e w5 ⟨v5, rfl, hq5⟩; have HQ5 := amZ hq5.q; have HB5 := amZ (HB4.out.trans hq5.b); clear hq5))
         )
        go_ret
        exact ⟨rfl, zcY HB1.out HB5.out⟩
     have e18 : ((op : Int) == 18) = false := by rw [beq_eq_false_iff_ne]; intro e_; omega
     have g18 : ((op : Int) != 18) = true := by unfold bne; rw [e18]; rfl
     have e19 : ((op : Int) == 19) = false := by rw [beq_eq_false_iff_ne]; intro e_; omega
     have g19 : ((op : Int) != 19) = true := by unfold bne; rw [e19]; rfl
     have e20 : ((op : Int) == 20) = false := by rw [beq_eq_false_iff_ne]; intro e_; omega
     have g20 : ((op : Int) != 20) = true := by unfold bne; rw [e20]; rfl
     have e21 : ((op : Int) == 21) = false := by rw [beq_eq_false_iff_ne]; intro e_; omega
     have g21 : ((op : Int) != 21) = true := by unfold bne; rw [e21]; rfl
     have e23 : ((op : Int) == 23) = false := by rw [beq_eq_false_iff_ne]; intro e_; omega
     have g23 : ((op : Int) != 23) = true := by unfold bne; rw [e23]; rfl
     have e24 : ((op : Int) == 24) = false := by rw [beq_eq_false_iff_ne]; intro e_; omega
     have g24 : ((op : Int) != 24) = true := by unfold bne; rw [e24]; rfl
     have e26 : ((op : Int) == 26) = false := by rw [beq_eq_false_iff_ne]; intro e_; omega
     have g26 : ((op : Int) != 26) = true := by unfold bne; rw [e26]; rfl
     have e27 : ((op : Int) == 27) = false := by rw [beq_eq_false_iff_ne]; intro e_; omega
     have g27 : ((op : Int) != 27) = true := by unfold bne; rw [e27]; rfl
     unfold step1L at h1
     rw [if_neg (by omega)] at h1
     rcases h2 with ⟨rfl, rfl⟩ | ⟨rfl, h2⟩
     ·
      have hrf : r = false := by rcases hfin with ⟨h, _⟩ | ⟨_, h⟩; cases h; exact h
      have HRF := amZ hrf
      have H1 := amZ h1
      clear hfin hrf h1 hop hc18 hc19 hc20 hc21 hc23 hc24 hc26 hc27
      have wM := WM.out
      have wk := WK.out
      have wt := WT.out
      have wl := WL.out
      have wk1 := WK1.out
      go_wp2_with (first
       | (go_at_call 57; (refine (HTKK.out _ HOP.out HA0.out HA1.out).mono ?_; rintro e w3 ⟨rfl, hb3⟩; have HQ3 := amZ ((HQ1.out.below ((Below.refl _ _).alloc (Nat.le_refl _) _)).below hb3); have HX3 := amZ (HX1.out.below hb3); have HB3 := amZ (zcY (HB.out.alloc HQ1.out.base _) hb3); clear hb3; have z0 := (zaY HX3.out.blk 0).trans rfl; have z1 := (zaY HX3.out.blk 1).trans rfl; have z2 := (zaY HX3.out.blk 2).trans rfl; have zh := HQ3.out.cell tn HJ.out))
       | (go_at_call 56; ((with_reducible refine (reach_calls' w1.heap.size _ _ _ hs us code.length ((tn : Int) + 1) (k + leavesOf op b) ts1 hs1 _ HNN.out HQ3.out H1.out).mono ?_); rintro e w4 ⟨v4, rfl, hq4⟩; have HQ4 := amZ hq4.q; have HB4 := amZ (HB3.out.trans hq4.b); have HX4 := amZ (HX3.out.put hq4); clear hq4; have u0 := (zaY HX4.out.blk 0).trans rfl; have u1 := (zaY HX4.out.blk 1).trans rfl; have u2 := (zaY HX4.out.blk 2).trans rfl))
       )
      go_ret
      exact ⟨ret_bool HRF.out.symm, zcY HB1.out HB4.out⟩
     ·
      have HN1 : Aside0 (hs1.length = code.length) := ⟨by rw [reachL_len h1, HNN.out]⟩
      unfold step2L at h2
      rw [if_neg (by omega)] at h2
      rw [if_neg (by omega)] at h2
      rw [if_neg (by omega)] at h2
      have H1 := amZ h1
      clear h1
      injection h2 with h2
      injection h2 with f1_ h2
      injection h2 with f2_ f3_
      subst f1_ f2_ f3_
      have hsr : shL code m hs1 ts1 = some r := by rcases hfin with ⟨_, h⟩ | ⟨h, _⟩; exact h; cases h
      have HSR := amZ hsr
      clear hfin hsr hop hc18 hc19 hc20 hc21 hc23 hc24 hc26 hc27
      have wM := WM.out
      have wk := WK.out
      have wt := WT.out
      have wl := WL.out
      have wk1 := WK1.out
      go_wp2_with (first
       | (go_at_call 57; (refine (HTKK.out _ HOP.out HA0.out HA1.out).mono ?_; rintro e w3 ⟨rfl, hb3⟩; have HQ3 := amZ ((HQ1.out.below ((Below.refl _ _).alloc (Nat.le_refl _) _)).below hb3); have HX3 := amZ (HX1.out.below hb3); have HB3 := amZ (zcY (HB.out.alloc HQ1.out.base _) hb3); clear hb3; have z0 := (zaY HX3.out.blk 0).trans rfl; have z1 := (zaY HX3.out.blk 1).trans rfl; have z2 := (zaY HX3.out.blk 2).trans rfl; have zh := HQ3.out.cell tn HJ.out))
       | (go_at_call 56; ((with_reducible refine (reach_calls' w1.heap.size _ _ _ hs us code.length ((tn : Int) + 1) (k + leavesOf op b) ts1 hs1 _ HNN.out HQ3.out H1.out).mono ?_); rintro e w4 ⟨v4, rfl, hq4⟩; have HQ4 := amZ hq4.q; have HB4 := amZ (HB3.out.trans hq4.b); have HX4 := amZ (HX3.out.put hq4); clear hq4; have u0 := (zaY HX4.out.blk 0).trans rfl; have u1 := (zaY HX4.out.blk 1).trans rfl; have u2 := (zaY HX4.out.blk 2).trans rfl))
       )
      go_roundg m
      case measure => omega
      case rel => exact ⟨hs1, ts1, HQ4, HSR, HN1, HB4⟩
end Go.Proofs.YtmmpiojekgfdjaaDoor.C
