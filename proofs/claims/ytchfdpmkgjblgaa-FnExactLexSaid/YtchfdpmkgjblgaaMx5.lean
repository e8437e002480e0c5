-- Laid by a program of this session (pp.py) over the kit's printer; repaired and widened by hand-written contracts. Lean checks it.
import Derived.Test.YtchfdpmkgjblgaaMx0
import Derived.Test.YtchfdpmkgjblgaaMx2
import Derived.Test.YtchfdpmkgjblgaaMx3
import Derived.Test.YtchfdpmkgjblgaaMx4
namespace Go.Proofs.Ytchfdpmkgjblgaa.M
open Go.RowKit Go.Proofs.YtchfdpmkgjblgaaW.PrintWords Go.Proofs.YtchfdpmkgjblgaaW.PrintLast Go.Proofs.YtchfdpmkgjblgaaW.PrintMore
attribute [local go_sem] max2_int min2_int max_two min_two max_three min_three max_four min_four   -- for this text's walks alone
set_option linter.unusedVariables false
set_option linter.unusedSimpArgs false

theorem midlen_spec_l2token (l : List Int) (a b : Int) (hm : b ≤ (l.length : Int)) : ((l.take b.toNat).drop a.toNat).length = b.toNat - a.toNat := by
 rw [List.length_drop, List.length_take]; omega
/-! ### spec_l2token: function 31 -/
mutual
def spec_l2token.j0 : Nat → List Int → Int → Bool → Option (Int × Int × Int)
 | 0, _, _, _ => none
 | k + 1, x0, x1, x54 => if x54 = true then ((spec_l1literal.f k x0 x1).bind fun bt177 => (if bt177.2 = 0 then (some (0, 0, 2)) else (some (3, bt177.2, 0)))) else ((spec_l2signs.f).bind fun t181 => (spec_l2token.l0 k x0 x1 t181 0))
def spec_l2token.l0 : Nat → List Int → Int → List ByteArray → Int → Option (Int × Int × Int)
 | 0, _, _, _, _ => none
 | k + 1, x0, x1, x13, x14 => if x14 < (x13.length : Int) then (if 0 ≤ x14 then (if (wrap64 (x1 + ((rdOf ByteArray.empty x13 x14).size : Int))) ≤ (x0.length : Int) then (if 0 ≤ x1 then (if x1 ≤ (wrap64 (x1 + ((rdOf ByteArray.empty x13 x14).size : Int))) then (if (strOfNums ((x0.take ((wrap64 (x1 + ((rdOf ByteArray.empty x13 x14).size : Int))) : Int).toNat).drop (x1 : Int).toNat)).toList = (rdOf ByteArray.empty x13 x14).toList then (some (5, ((rdOf ByteArray.empty x13 x14).size : Int), 0)) else (spec_l2token.l0 k x0 x1 x13 (wrap64 (x14 + 1)))) else (none)) else (none)) else (spec_l2token.l0 k x0 x1 x13 (wrap64 (x14 + 1)))) else (none)) else (some (0, 0, 2))
end
def spec_l2token.f (k : Nat) (l0 : List Int) (a1 : Int) : Option (Int × Int × Int) := if 0 ≤ a1 then (if a1 < (l0.length : Int) then ((spec_l2run.f k l0 a1).bind fun t169 => ((spec_l2letter.f (rd l0 a1)).bind fun t170 => (if t170 = true then (if a1 ≤ (wrap64 (a1 + t169)) then (if (wrap64 (a1 + t169)) ≤ (l0.length : Int) then ((spec_l2isWord.f k (strOfNums ((l0.take ((wrap64 (a1 + t169)) : Int).toNat).drop (a1 : Int).toNat))).bind fun t172 => (if t172 = true then (some (4, t169, 0)) else (some (1, t169, 0)))) else (none)) else (none)) else ((spec_l2digit.f (rd l0 a1)).bind fun t173 => (if t173 = true then (if a1 ≤ (wrap64 (a1 + t169)) then (if (wrap64 (a1 + t169)) ≤ (l0.length : Int) then ((spec_ScanInt.f k ((l0.take ((wrap64 (a1 + t169)) : Int).toNat).drop (a1 : Int).toNat)).bind fun bt175 => (some (2, t169, bt175.2))) else (none)) else (none)) else (if (rd l0 a1) = 34 then (spec_l2token.j0 k l0 a1 true) else (spec_l2token.j0 k l0 a1 ((rd l0 a1) == 39)))))))) else (none)) else (none)
theorem spec_l2token.mono_l : ∀ k, (∀ y0 y1 y2, LeO (spec_l2token.j0 k y0 y1 y2) (spec_l2token.j0 (k + 1) y0 y1 y2)) ∧ (∀ y0 y1 y2 y3, LeO (spec_l2token.l0 k y0 y1 y2 y3) (spec_l2token.l0 (k + 1) y0 y1 y2 y3))
 | 0 => ⟨fun _ _ _ r h => by simp [spec_l2token.j0] at h, fun _ _ _ _ r h => by simp [spec_l2token.l0] at h⟩
 | k + 1 => by
  obtain ⟨ih0, ih1⟩ := spec_l2token.mono_l k
  refine ⟨?_, ?_⟩
  ·
   intro y0 y1 y2
   unfold spec_l2token.j0
   repeat' first
   | (with_reducible exact ih0 _ _ _)
   | (with_reducible exact ih1 _ _ _ _)
   | (with_reducible exact spec_ScanInt.mono _ _)
   | (with_reducible exact spec_l1literal.mono _ _ _)
   | (with_reducible exact spec_l2isWord.mono _ _)
   | (with_reducible exact spec_l2run.mono _ _ _)
   | (with_reducible exact LeO.refl _)
   | (with_reducible exact LeO.none _)
   | (with_reducible refine LeO.ite ?_ ?_)
   | (with_reducible refine LeO.bind ?_ (fun _ => ?_))
   | exact ih0 _ _ _
   | exact ih1 _ _ _ _
   | exact spec_ScanInt.mono _ _
   | exact spec_l1literal.mono _ _ _
   | exact spec_l2isWord.mono _ _
   | exact spec_l2run.mono _ _ _
   | exact LeO.none _
   | refine LeO.ite ?_ ?_
   | refine LeO.bind ?_ (fun _ => ?_)
  ·
   intro y0 y1 y2 y3
   unfold spec_l2token.l0
   repeat' first
   | (with_reducible exact ih0 _ _ _)
   | (with_reducible exact ih1 _ _ _ _)
   | (with_reducible exact spec_ScanInt.mono _ _)
   | (with_reducible exact spec_l1literal.mono _ _ _)
   | (with_reducible exact spec_l2isWord.mono _ _)
   | (with_reducible exact spec_l2run.mono _ _ _)
   | (with_reducible exact LeO.refl _)
   | (with_reducible exact LeO.none _)
   | (with_reducible refine LeO.ite ?_ ?_)
   | (with_reducible refine LeO.bind ?_ (fun _ => ?_))
   | exact ih0 _ _ _
   | exact ih1 _ _ _ _
   | exact spec_ScanInt.mono _ _
   | exact spec_l1literal.mono _ _ _
   | exact spec_l2isWord.mono _ _
   | exact spec_l2run.mono _ _ _
   | exact LeO.none _
   | refine LeO.ite ?_ ?_
   | refine LeO.bind ?_ (fun _ => ?_)
theorem spec_l2token.mono : ∀ a0 a1 k, LeO (spec_l2token.f k a0 a1) (spec_l2token.f (k + 1) a0 a1) := by
 intro a0 a1 k
 obtain ⟨ih0, ih1⟩ := spec_l2token.mono_l k
 unfold spec_l2token.f
 repeat' first
   | (with_reducible exact ih0 _ _ _)
   | (with_reducible exact ih1 _ _ _ _)
   | (with_reducible exact spec_ScanInt.mono _ _)
   | (with_reducible exact spec_l1literal.mono _ _ _)
   | (with_reducible exact spec_l2isWord.mono _ _)
   | (with_reducible exact spec_l2run.mono _ _ _)
   | (with_reducible exact LeO.refl _)
   | (with_reducible exact LeO.none _)
   | (with_reducible refine LeO.ite ?_ ?_)
   | (with_reducible refine LeO.bind ?_ (fun _ => ?_))
   | exact ih0 _ _ _
   | exact ih1 _ _ _ _
   | exact spec_ScanInt.mono _ _
   | exact spec_l1literal.mono _ _ _
   | exact spec_l2isWord.mono _ _
   | exact spec_l2run.mono _ _ _
   | exact LeO.none _
   | refine LeO.ite ?_ ?_
   | refine LeO.bind ?_ (fun _ => ?_)
set_option maxHeartbeats 8000000 in
set_option maxRecDepth 100000 in
theorem spec_l2token.calls (k : Nat) (A0 : Option Addr) (c0 : Nat) (l0 : List Int) (a1 : Int) (r1 : Int) (r2 : Int) (r3 : Int) (w : World) (hr0 : Kd.C (Kd.int .u8) w A0 l0.length l0) (hc0 : l0.length ≤ c0) (h : spec_l2token.f k l0 a1 = some (r1, r2, r3)) :
  Calls Try.prog 31 #[.slice A0 l0.length c0, .int .i64 a1] w fun e w' => e = .returned (.tuple #[.int .i64 r1, .int .i64 r2, .int .i64 r3]) ∧ Below w.heap.size w w' := by
 have HR0 := Aside0.mk hr0
 have HC0 := Aside0.mk hc0
 clear hr0 hc0
 have HB := Aside0.mk (Below.refl w.heap.size w)
 have H : (if 0 ≤ a1 then (if a1 < (l0.length : Int) then ((spec_l2run.f k l0 a1).bind fun t169 => ((spec_l2letter.f (rd l0 a1)).bind fun t170 => (if t170 = true then (if a1 ≤ (wrap64 (a1 + t169)) then (if (wrap64 (a1 + t169)) ≤ (l0.length : Int) then ((spec_l2isWord.f k (strOfNums ((l0.take ((wrap64 (a1 + t169)) : Int).toNat).drop (a1 : Int).toNat))).bind fun t172 => (if t172 = true then (some (4, t169, 0)) else (some (1, t169, 0)))) else (none)) else (none)) else ((spec_l2digit.f (rd l0 a1)).bind fun t173 => (if t173 = true then (if a1 ≤ (wrap64 (a1 + t169)) then (if (wrap64 (a1 + t169)) ≤ (l0.length : Int) then ((spec_ScanInt.f k ((l0.take ((wrap64 (a1 + t169)) : Int).toNat).drop (a1 : Int).toNat)).bind fun bt175 => (some (2, t169, bt175.2))) else (none)) else (none)) else (if (rd l0 a1) = 34 then (spec_l2token.j0 k l0 a1 true) else (spec_l2token.j0 k l0 a1 ((rd l0 a1) == 39)))))))) else (none)) else (none)) = some (r1, r2, r3) := h
 clear h
 by_cases c3 : 0 ≤ a1
 ·
  rw [if_pos c3] at H
  have c3b0 : decide (0 ≤ a1) = true := decide_eq_true c3
  clear c3
  by_cases c4 : a1 < (l0.length : Int)
  ·
   rw [if_pos c4] at H
   have c4b0 : decide (a1 < (l0.length : Int)) = true := decide_eq_true c4
   clear c4
   replace H := Option.bind_eq_some_iff.mp H
   obtain ⟨t169, A50, H⟩ := H
   replace H : ((spec_l2letter.f (rd l0 a1)).bind fun t170 => (if t170 = true then (if a1 ≤ (wrap64 (a1 + t169)) then (if (wrap64 (a1 + t169)) ≤ (l0.length : Int) then ((spec_l2isWord.f k (strOfNums ((l0.take ((wrap64 (a1 + t169)) : Int).toNat).drop (a1 : Int).toNat))).bind fun t172 => (if t172 = true then (some (4, t169, 0)) else (some (1, t169, 0)))) else (none)) else (none)) else ((spec_l2digit.f (rd l0 a1)).bind fun t173 => (if t173 = true then (if a1 ≤ (wrap64 (a1 + t169)) then (if (wrap64 (a1 + t169)) ≤ (l0.length : Int) then ((spec_ScanInt.f k ((l0.take ((wrap64 (a1 + t169)) : Int).toNat).drop (a1 : Int).toNat)).bind fun bt175 => (some (2, t169, bt175.2))) else (none)) else (none)) else (if (rd l0 a1) = 34 then (spec_l2token.j0 k l0 a1 true) else (spec_l2token.j0 k l0 a1 ((rd l0 a1) == 39))))))) = some (r1, r2, r3) := H
   have A5 := Aside0.mk A50
   clear A50
   replace H := Option.bind_eq_some_iff.mp H
   obtain ⟨t170, A60, H⟩ := H
   replace H : (if t170 = true then (if a1 ≤ (wrap64 (a1 + t169)) then (if (wrap64 (a1 + t169)) ≤ (l0.length : Int) then ((spec_l2isWord.f k (strOfNums ((l0.take ((wrap64 (a1 + t169)) : Int).toNat).drop (a1 : Int).toNat))).bind fun t172 => (if t172 = true then (some (4, t169, 0)) else (some (1, t169, 0)))) else (none)) else (none)) else ((spec_l2digit.f (rd l0 a1)).bind fun t173 => (if t173 = true then (if a1 ≤ (wrap64 (a1 + t169)) then (if (wrap64 (a1 + t169)) ≤ (l0.length : Int) then ((spec_ScanInt.f k ((l0.take ((wrap64 (a1 + t169)) : Int).toNat).drop (a1 : Int).toNat)).bind fun bt175 => (some (2, t169, bt175.2))) else (none)) else (none)) else (if (rd l0 a1) = 34 then (spec_l2token.j0 k l0 a1 true) else (spec_l2token.j0 k l0 a1 ((rd l0 a1) == 39)))))) = some (r1, r2, r3) := H
   have A6 := Aside0.mk A60
   clear A60
   by_cases c7 : t170 = true
   ·
    subst c7
    have H1 : (if a1 ≤ (wrap64 (a1 + t169)) then (if (wrap64 (a1 + t169)) ≤ (l0.length : Int) then ((spec_l2isWord.f k (strOfNums ((l0.take ((wrap64 (a1 + t169)) : Int).toNat).drop (a1 : Int).toNat))).bind fun t172 => (if t172 = true then (some (4, t169, 0)) else (some (1, t169, 0)))) else (none)) else (none)) = some (r1, r2, r3) := by rw [if_pos rfl] at H; exact H
    clear H
    have H := H1
    clear H1
    have c8b0 := eq_true (of_decide_eq_true (by first | (with_reducible assumption) | assumption) : 0 ≤ a1)
    by_cases c9 : a1 ≤ (wrap64 (a1 + t169))
    ·
     rw [if_pos c9] at H
     have c9b0 := eq_true c9
     have c9b1 : decide (a1 ≤ (wrap64 (a1 + t169))) = true := decide_eq_true c9
     by_cases c10 : (wrap64 (a1 + t169)) ≤ (l0.length : Int)
     ·
      rw [if_pos c10] at H
      have c10b0 := eq_true c10
      have c10b1 : decide ((wrap64 (a1 + t169)) ≤ (l0.length : Int)) = true := decide_eq_true c10
      replace H := Option.bind_eq_some_iff.mp H
      obtain ⟨t172, A110, H⟩ := H
      replace H : (if t172 = true then (some (4, t169, 0)) else (some (1, t169, 0))) = some (r1, r2, r3) := H
      have A11 := Aside0.mk A110
      clear A110
      by_cases c12 : t172 = true
      ·
       subst c12
       have H1 : (some (4, t169, 0)) = some (r1, r2, r3) := by rw [if_pos rfl] at H; exact H
       clear H
       have H := H1
       clear H1
       simp only [Option.some.injEq, Prod.mk.injEq] at H
       obtain ⟨rfl, rfl, rfl⟩ := H
       have p168 : 0 ≤ (a1 : Int) := of_decide_eq_true (by first | (with_reducible assumption) | assumption)
       have q168 : a1 < (l0.length : Int) := of_decide_eq_true (by first | (with_reducible assumption) | assumption)
       obtain ⟨ad168, e168, hx168_0⟩ := Kd.at_int HR0.out a1 p168 q168
       cases e168
       replace p168 := eq_true p168
       replace q168 := eq_true q168
       go_enter Try.func31, Try.ntmps31
       go_wp2_with (first | (go_at_call 44; (with_reducible refine (spec_l2run.calls k _ _ l0 a1 t169 _ ?side1 ?side2 A5.out).mono ?_); (case side1 => repeat (first | exact HR0.out | (with_reducible refine Kd.C_alloc ?_ _) | (with_reducible refine Kd.C_drewN ?_ _) | (with_reducible refine Kd.C_drew ?_))); (case side2 => exact HC0.out); rintro e w' ⟨rfl, ⟨nd, rfl⟩⟩; (try first | exact ⟨rfl, _, World.drewN_drewN _ _ _⟩ | exact ⟨rfl, _, Eq.trans (World.drewN_drewN _ _ _) (congrArg (World.drewN _) (Nat.add_assoc _ _ _))⟩)) | (go_at_call 45; (with_reducible refine (spec_l2letter.calls (rd l0 a1) true _ A6.out).mono ?_); rintro e w' ⟨rfl, ⟨nd, rfl⟩⟩; (try first | exact ⟨rfl, _, World.drewN_drewN _ _ _⟩ | exact ⟨rfl, _, Eq.trans (World.drewN_drewN _ _ _) (congrArg (World.drewN _) (Nat.add_assoc _ _ _))⟩); obtain ⟨i013, hi013, _, hsz13, _⟩ := info_parts info5; obtain ⟨A13, hcut13, hA13, hC13⟩ := print_mid_of (P := Try.prog) (Value.int .u8) 0 23 5 .i64 .i64 Try.underlying23 hi013 hsz13 (some ad168) c0 l0 a1 (wrap64 (a1 + t169)) (of_decide_eq_true (by first | (with_reducible assumption) | assumption)) (by first | omega | exact of_decide_eq_true (by first | (with_reducible assumption) | assumption)) (of_decide_eq_true (by first | (with_reducible assumption) | assumption)) HC0.out; have HR171 := Aside0.mk (Kd.C_of_reads (h1 := fun _ => rfl) (hA13 _ (Kd.reads_of_C HR0.out))); have HC171 := Aside0.mk hC13; clear hA13 hC13 hi013 hsz13; have hcv14 := Kd.C_string (P := Try.prog) (A := A13) (c := (c0 - a1.toNat)) Try.underlying23 Try.underlying5 Try.underlying9 HR171.out; have hcv14q := fun nd_ => Kd.C_string (P := Try.prog) (A := A13) (c := (c0 - a1.toNat)) Try.underlying23 Try.underlying5 Try.underlying9 (Kd.C_drewN HR171.out nd_); (try rw [midlen_spec_l2token _ _ _ (of_decide_eq_true (by first | (with_reducible assumption) | assumption))] at hcv14q)) | (go_at_call 46; (with_reducible refine (spec_l2isWord.calls k (strOfNums ((l0.take ((wrap64 (a1 + t169)) : Int).toNat).drop (a1 : Int).toNat)) true _ A11.out).mono ?_); rintro e w15 ⟨rfl, hb⟩; have n0_ := Aside0.mk (below_step (by repeat (first | (with_reducible first | exact HB.out | apply below_alloc | apply pw_below_drewN | apply below_drew1) | exact HB.out)) hb); clear HB; have HB := n0_; clear n0_; (try clear hb); (try clear hb2); (try clear hk); (try clear hi)))
       repeat (go_quiet (first | (go_at_call 44; (with_reducible refine (spec_l2run.calls k _ _ l0 a1 t169 _ ?side1 ?side2 A5.out).mono ?_); (case side1 => repeat (first | exact HR0.out | (with_reducible refine Kd.C_alloc ?_ _) | (with_reducible refine Kd.C_drewN ?_ _) | (with_reducible refine Kd.C_drew ?_))); (case side2 => exact HC0.out); rintro e w' ⟨rfl, ⟨nd, rfl⟩⟩; (try first | exact ⟨rfl, _, World.drewN_drewN _ _ _⟩ | exact ⟨rfl, _, Eq.trans (World.drewN_drewN _ _ _) (congrArg (World.drewN _) (Nat.add_assoc _ _ _))⟩)) | (go_at_call 45; (with_reducible refine (spec_l2letter.calls (rd l0 a1) true _ A6.out).mono ?_); rintro e w' ⟨rfl, ⟨nd, rfl⟩⟩; (try first | exact ⟨rfl, _, World.drewN_drewN _ _ _⟩ | exact ⟨rfl, _, Eq.trans (World.drewN_drewN _ _ _) (congrArg (World.drewN _) (Nat.add_assoc _ _ _))⟩); obtain ⟨i013, hi013, _, hsz13, _⟩ := info_parts info5; obtain ⟨A13, hcut13, hA13, hC13⟩ := print_mid_of (P := Try.prog) (Value.int .u8) 0 23 5 .i64 .i64 Try.underlying23 hi013 hsz13 (some ad168) c0 l0 a1 (wrap64 (a1 + t169)) (of_decide_eq_true (by first | (with_reducible assumption) | assumption)) (by first | omega | exact of_decide_eq_true (by first | (with_reducible assumption) | assumption)) (of_decide_eq_true (by first | (with_reducible assumption) | assumption)) HC0.out; have HR171 := Aside0.mk (Kd.C_of_reads (h1 := fun _ => rfl) (hA13 _ (Kd.reads_of_C HR0.out))); have HC171 := Aside0.mk hC13; clear hA13 hC13 hi013 hsz13; have hcv14 := Kd.C_string (P := Try.prog) (A := A13) (c := (c0 - a1.toNat)) Try.underlying23 Try.underlying5 Try.underlying9 HR171.out; have hcv14q := fun nd_ => Kd.C_string (P := Try.prog) (A := A13) (c := (c0 - a1.toNat)) Try.underlying23 Try.underlying5 Try.underlying9 (Kd.C_drewN HR171.out nd_); (try rw [midlen_spec_l2token _ _ _ (of_decide_eq_true (by first | (with_reducible assumption) | assumption))] at hcv14q)) | (go_at_call 46; (with_reducible refine (spec_l2isWord.calls k (strOfNums ((l0.take ((wrap64 (a1 + t169)) : Int).toNat).drop (a1 : Int).toNat)) true _ A11.out).mono ?_); rintro e w15 ⟨rfl, hb⟩; have n0_ := Aside0.mk (below_step (by repeat (first | (with_reducible first | exact HB.out | apply below_alloc | apply pw_below_drewN | apply below_drew1) | exact HB.out)) hb); clear HB; have HB := n0_; clear n0_; (try clear hb); (try clear hb2); (try clear hk); (try clear hi))); try go_wp2_with (first | (go_at_call 44; (with_reducible refine (spec_l2run.calls k _ _ l0 a1 t169 _ ?side1 ?side2 A5.out).mono ?_); (case side1 => repeat (first | exact HR0.out | (with_reducible refine Kd.C_alloc ?_ _) | (with_reducible refine Kd.C_drewN ?_ _) | (with_reducible refine Kd.C_drew ?_))); (case side2 => exact HC0.out); rintro e w' ⟨rfl, ⟨nd, rfl⟩⟩; (try first | exact ⟨rfl, _, World.drewN_drewN _ _ _⟩ | exact ⟨rfl, _, Eq.trans (World.drewN_drewN _ _ _) (congrArg (World.drewN _) (Nat.add_assoc _ _ _))⟩)) | (go_at_call 45; (with_reducible refine (spec_l2letter.calls (rd l0 a1) true _ A6.out).mono ?_); rintro e w' ⟨rfl, ⟨nd, rfl⟩⟩; (try first | exact ⟨rfl, _, World.drewN_drewN _ _ _⟩ | exact ⟨rfl, _, Eq.trans (World.drewN_drewN _ _ _) (congrArg (World.drewN _) (Nat.add_assoc _ _ _))⟩); obtain ⟨i013, hi013, _, hsz13, _⟩ := info_parts info5; obtain ⟨A13, hcut13, hA13, hC13⟩ := print_mid_of (P := Try.prog) (Value.int .u8) 0 23 5 .i64 .i64 Try.underlying23 hi013 hsz13 (some ad168) c0 l0 a1 (wrap64 (a1 + t169)) (of_decide_eq_true (by first | (with_reducible assumption) | assumption)) (by first | omega | exact of_decide_eq_true (by first | (with_reducible assumption) | assumption)) (of_decide_eq_true (by first | (with_reducible assumption) | assumption)) HC0.out; have HR171 := Aside0.mk (Kd.C_of_reads (h1 := fun _ => rfl) (hA13 _ (Kd.reads_of_C HR0.out))); have HC171 := Aside0.mk hC13; clear hA13 hC13 hi013 hsz13; have hcv14 := Kd.C_string (P := Try.prog) (A := A13) (c := (c0 - a1.toNat)) Try.underlying23 Try.underlying5 Try.underlying9 HR171.out; have hcv14q := fun nd_ => Kd.C_string (P := Try.prog) (A := A13) (c := (c0 - a1.toNat)) Try.underlying23 Try.underlying5 Try.underlying9 (Kd.C_drewN HR171.out nd_); (try rw [midlen_spec_l2token _ _ _ (of_decide_eq_true (by first | (with_reducible assumption) | assumption))] at hcv14q)) | (go_at_call 46; (with_reducible refine (spec_l2isWord.calls k (strOfNums ((l0.take ((wrap64 (a1 + t169)) : Int).toNat).drop (a1 : Int).toNat)) true _ A11.out).mono ?_); rintro e w15 ⟨rfl, hb⟩; have n0_ := Aside0.mk (below_step (by repeat (first | (with_reducible first | exact HB.out | apply below_alloc | apply pw_below_drewN | apply below_drew1) | exact HB.out)) hb); clear HB; have HB := n0_; clear n0_; (try clear hb); (try clear hb2); (try clear hk); (try clear hi))))
       go_ret3
       exact ⟨by first | rfl | (simp [errW_none, errW_some] <;> rfl) | (simp [*, errW_none, errW_some] <;> rfl), by repeat (first | (with_reducible first | exact HB.out | apply below_alloc | apply pw_below_drewN | apply below_drew1) | exact HB.out)⟩
      ·
       replace c12 := Bool.eq_false_iff.mpr c12
       subst c12
       have H1 : (some (1, t169, 0)) = some (r1, r2, r3) := by rw [if_neg (show ¬ (false = true) by decide)] at H; exact H
       clear H
       have H := H1
       clear H1
       simp only [Option.some.injEq, Prod.mk.injEq] at H
       obtain ⟨rfl, rfl, rfl⟩ := H
       have p168 : 0 ≤ (a1 : Int) := of_decide_eq_true (by first | (with_reducible assumption) | assumption)
       have q168 : a1 < (l0.length : Int) := of_decide_eq_true (by first | (with_reducible assumption) | assumption)
       obtain ⟨ad168, e168, hx168_0⟩ := Kd.at_int HR0.out a1 p168 q168
       cases e168
       replace p168 := eq_true p168
       replace q168 := eq_true q168
       go_enter Try.func31, Try.ntmps31
       go_wp2_with (first | (go_at_call 44; (with_reducible refine (spec_l2run.calls k _ _ l0 a1 t169 _ ?side1 ?side2 A5.out).mono ?_); (case side1 => repeat (first | exact HR0.out | (with_reducible refine Kd.C_alloc ?_ _) | (with_reducible refine Kd.C_drewN ?_ _) | (with_reducible refine Kd.C_drew ?_))); (case side2 => exact HC0.out); rintro e w' ⟨rfl, ⟨nd, rfl⟩⟩; (try first | exact ⟨rfl, _, World.drewN_drewN _ _ _⟩ | exact ⟨rfl, _, Eq.trans (World.drewN_drewN _ _ _) (congrArg (World.drewN _) (Nat.add_assoc _ _ _))⟩)) | (go_at_call 45; (with_reducible refine (spec_l2letter.calls (rd l0 a1) true _ A6.out).mono ?_); rintro e w' ⟨rfl, ⟨nd, rfl⟩⟩; (try first | exact ⟨rfl, _, World.drewN_drewN _ _ _⟩ | exact ⟨rfl, _, Eq.trans (World.drewN_drewN _ _ _) (congrArg (World.drewN _) (Nat.add_assoc _ _ _))⟩); obtain ⟨i016, hi016, _, hsz16, _⟩ := info_parts info5; obtain ⟨A16, hcut16, hA16, hC16⟩ := print_mid_of (P := Try.prog) (Value.int .u8) 0 23 5 .i64 .i64 Try.underlying23 hi016 hsz16 (some ad168) c0 l0 a1 (wrap64 (a1 + t169)) (of_decide_eq_true (by first | (with_reducible assumption) | assumption)) (by first | omega | exact of_decide_eq_true (by first | (with_reducible assumption) | assumption)) (of_decide_eq_true (by first | (with_reducible assumption) | assumption)) HC0.out; have HR171 := Aside0.mk (Kd.C_of_reads (h1 := fun _ => rfl) (hA16 _ (Kd.reads_of_C HR0.out))); have HC171 := Aside0.mk hC16; clear hA16 hC16 hi016 hsz16; have hcv17 := Kd.C_string (P := Try.prog) (A := A16) (c := (c0 - a1.toNat)) Try.underlying23 Try.underlying5 Try.underlying9 HR171.out; have hcv17q := fun nd_ => Kd.C_string (P := Try.prog) (A := A16) (c := (c0 - a1.toNat)) Try.underlying23 Try.underlying5 Try.underlying9 (Kd.C_drewN HR171.out nd_); (try rw [midlen_spec_l2token _ _ _ (of_decide_eq_true (by first | (with_reducible assumption) | assumption))] at hcv17q)) | (go_at_call 46; (with_reducible refine (spec_l2isWord.calls k (strOfNums ((l0.take ((wrap64 (a1 + t169)) : Int).toNat).drop (a1 : Int).toNat)) false _ A11.out).mono ?_); rintro e w18 ⟨rfl, hb⟩; have n0_ := Aside0.mk (below_step (by repeat (first | (with_reducible first | exact HB.out | apply below_alloc | apply pw_below_drewN | apply below_drew1) | exact HB.out)) hb); clear HB; have HB := n0_; clear n0_; (try clear hb); (try clear hb2); (try clear hk); (try clear hi)))
       repeat (go_quiet (first | (go_at_call 44; (with_reducible refine (spec_l2run.calls k _ _ l0 a1 t169 _ ?side1 ?side2 A5.out).mono ?_); (case side1 => repeat (first | exact HR0.out | (with_reducible refine Kd.C_alloc ?_ _) | (with_reducible refine Kd.C_drewN ?_ _) | (with_reducible refine Kd.C_drew ?_))); (case side2 => exact HC0.out); rintro e w' ⟨rfl, ⟨nd, rfl⟩⟩; (try first | exact ⟨rfl, _, World.drewN_drewN _ _ _⟩ | exact ⟨rfl, _, Eq.trans (World.drewN_drewN _ _ _) (congrArg (World.drewN _) (Nat.add_assoc _ _ _))⟩)) | (go_at_call 45; (with_reducible refine (spec_l2letter.calls (rd l0 a1) true _ A6.out).mono ?_); rintro e w' ⟨rfl, ⟨nd, rfl⟩⟩; (try first | exact ⟨rfl, _, World.drewN_drewN _ _ _⟩ | exact ⟨rfl, _, Eq.trans (World.drewN_drewN _ _ _) (congrArg (World.drewN _) (Nat.add_assoc _ _ _))⟩); obtain ⟨i016, hi016, _, hsz16, _⟩ := info_parts info5; obtain ⟨A16, hcut16, hA16, hC16⟩ := print_mid_of (P := Try.prog) (Value.int .u8) 0 23 5 .i64 .i64 Try.underlying23 hi016 hsz16 (some ad168) c0 l0 a1 (wrap64 (a1 + t169)) (of_decide_eq_true (by first | (with_reducible assumption) | assumption)) (by first | omega | exact of_decide_eq_true (by first | (with_reducible assumption) | assumption)) (of_decide_eq_true (by first | (with_reducible assumption) | assumption)) HC0.out; have HR171 := Aside0.mk (Kd.C_of_reads (h1 := fun _ => rfl) (hA16 _ (Kd.reads_of_C HR0.out))); have HC171 := Aside0.mk hC16; clear hA16 hC16 hi016 hsz16; have hcv17 := Kd.C_string (P := Try.prog) (A := A16) (c := (c0 - a1.toNat)) Try.underlying23 Try.underlying5 Try.underlying9 HR171.out; have hcv17q := fun nd_ => Kd.C_string (P := Try.prog) (A := A16) (c := (c0 - a1.toNat)) Try.underlying23 Try.underlying5 Try.underlying9 (Kd.C_drewN HR171.out nd_); (try rw [midlen_spec_l2token _ _ _ (of_decide_eq_true (by first | (with_reducible assumption) | assumption))] at hcv17q)) | (go_at_call 46; (with_reducible refine (spec_l2isWord.calls k (strOfNums ((l0.take ((wrap64 (a1 + t169)) : Int).toNat).drop (a1 : Int).toNat)) false _ A11.out).mono ?_); rintro e w18 ⟨rfl, hb⟩; have n0_ := Aside0.mk (below_step (by repeat (first | (with_reducible first | exact HB.out | apply below_alloc | apply pw_below_drewN | apply below_drew1) | exact HB.out)) hb); clear HB; have HB := n0_; clear n0_; (try clear hb); (try clear hb2); (try clear hk); (try clear hi))); try go_wp2_with (first | (go_at_call 44; (with_reducible refine (spec_l2run.calls k _ _ l0 a1 t169 _ ?side1 ?side2 A5.out).mono ?_); (case side1 => repeat (first | exact HR0.out | (with_reducible refine Kd.C_alloc ?_ _) | (with_reducible refine Kd.C_drewN ?_ _) | (with_reducible refine Kd.C_drew ?_))); (case side2 => exact HC0.out); rintro e w' ⟨rfl, ⟨nd, rfl⟩⟩; (try first | exact ⟨rfl, _, World.drewN_drewN _ _ _⟩ | exact ⟨rfl, _, Eq.trans (World.drewN_drewN _ _ _) (congrArg (World.drewN _) (Nat.add_assoc _ _ _))⟩)) | (go_at_call 45; (with_reducible refine (spec_l2letter.calls (rd l0 a1) true _ A6.out).mono ?_); rintro e w' ⟨rfl, ⟨nd, rfl⟩⟩; (try first | exact ⟨rfl, _, World.drewN_drewN _ _ _⟩ | exact ⟨rfl, _, Eq.trans (World.drewN_drewN _ _ _) (congrArg (World.drewN _) (Nat.add_assoc _ _ _))⟩); obtain ⟨i016, hi016, _, hsz16, _⟩ := info_parts info5; obtain ⟨A16, hcut16, hA16, hC16⟩ := print_mid_of (P := Try.prog) (Value.int .u8) 0 23 5 .i64 .i64 Try.underlying23 hi016 hsz16 (some ad168) c0 l0 a1 (wrap64 (a1 + t169)) (of_decide_eq_true (by first | (with_reducible assumption) | assumption)) (by first | omega | exact of_decide_eq_true (by first | (with_reducible assumption) | assumption)) (of_decide_eq_true (by first | (with_reducible assumption) | assumption)) HC0.out; have HR171 := Aside0.mk (Kd.C_of_reads (h1 := fun _ => rfl) (hA16 _ (Kd.reads_of_C HR0.out))); have HC171 := Aside0.mk hC16; clear hA16 hC16 hi016 hsz16; have hcv17 := Kd.C_string (P := Try.prog) (A := A16) (c := (c0 - a1.toNat)) Try.underlying23 Try.underlying5 Try.underlying9 HR171.out; have hcv17q := fun nd_ => Kd.C_string (P := Try.prog) (A := A16) (c := (c0 - a1.toNat)) Try.underlying23 Try.underlying5 Try.underlying9 (Kd.C_drewN HR171.out nd_); (try rw [midlen_spec_l2token _ _ _ (of_decide_eq_true (by first | (with_reducible assumption) | assumption))] at hcv17q)) | (go_at_call 46; (with_reducible refine (spec_l2isWord.calls k (strOfNums ((l0.take ((wrap64 (a1 + t169)) : Int).toNat).drop (a1 : Int).toNat)) false _ A11.out).mono ?_); rintro e w18 ⟨rfl, hb⟩; have n0_ := Aside0.mk (below_step (by repeat (first | (with_reducible first | exact HB.out | apply below_alloc | apply pw_below_drewN | apply below_drew1) | exact HB.out)) hb); clear HB; have HB := n0_; clear n0_; (try clear hb); (try clear hb2); (try clear hk); (try clear hi))))
       go_ret3
       exact ⟨by first | rfl | (simp [errW_none, errW_some] <;> rfl) | (simp [*, errW_none, errW_some] <;> rfl), by repeat (first | (with_reducible first | exact HB.out | apply below_alloc | apply pw_below_drewN | apply below_drew1) | exact HB.out)⟩
     ·
      rw [if_neg c10] at H
      exact absurd H (by simp)
    ·
     rw [if_neg c9] at H
     exact absurd H (by simp)
   ·
    replace c7 := Bool.eq_false_iff.mpr c7
    subst c7
    have H1 : ((spec_l2digit.f (rd l0 a1)).bind fun t173 => (if t173 = true then (if a1 ≤ (wrap64 (a1 + t169)) then (if (wrap64 (a1 + t169)) ≤ (l0.length : Int) then ((spec_ScanInt.f k ((l0.take ((wrap64 (a1 + t169)) : Int).toNat).drop (a1 : Int).toNat)).bind fun bt175 => (some (2, t169, bt175.2))) else (none)) else (none)) else (if (rd l0 a1) = 34 then (spec_l2token.j0 k l0 a1 true) else (spec_l2token.j0 k l0 a1 ((rd l0 a1) == 39))))) = some (r1, r2, r3) := by rw [if_neg (show ¬ (false = true) by decide)] at H; exact H
    clear H
    have H := H1
    clear H1
    replace H := Option.bind_eq_some_iff.mp H
    obtain ⟨t173, A190, H⟩ := H
    replace H : (if t173 = true then (if a1 ≤ (wrap64 (a1 + t169)) then (if (wrap64 (a1 + t169)) ≤ (l0.length : Int) then ((spec_ScanInt.f k ((l0.take ((wrap64 (a1 + t169)) : Int).toNat).drop (a1 : Int).toNat)).bind fun bt175 => (some (2, t169, bt175.2))) else (none)) else (none)) else (if (rd l0 a1) = 34 then (spec_l2token.j0 k l0 a1 true) else (spec_l2token.j0 k l0 a1 ((rd l0 a1) == 39)))) = some (r1, r2, r3) := H
    have A19 := Aside0.mk A190
    clear A190
    by_cases c20 : t173 = true
    ·
     subst c20
     have H1 : (if a1 ≤ (wrap64 (a1 + t169)) then (if (wrap64 (a1 + t169)) ≤ (l0.length : Int) then ((spec_ScanInt.f k ((l0.take ((wrap64 (a1 + t169)) : Int).toNat).drop (a1 : Int).toNat)).bind fun bt175 => (some (2, t169, bt175.2))) else (none)) else (none)) = some (r1, r2, r3) := by rw [if_pos rfl] at H; exact H
     clear H
     have H := H1
     clear H1
     have c21b0 := eq_true (of_decide_eq_true (by first | (with_reducible assumption) | assumption) : 0 ≤ a1)
     by_cases c22 : a1 ≤ (wrap64 (a1 + t169))
     ·
      rw [if_pos c22] at H
      have c22b0 := eq_true c22
      have c22b1 : decide (a1 ≤ (wrap64 (a1 + t169))) = true := decide_eq_true c22
      by_cases c23 : (wrap64 (a1 + t169)) ≤ (l0.length : Int)
      ·
       rw [if_pos c23] at H
       have c23b0 := eq_true c23
       have c23b1 : decide ((wrap64 (a1 + t169)) ≤ (l0.length : Int)) = true := decide_eq_true c23
       replace H := Option.bind_eq_some_iff.mp H
       obtain ⟨⟨t175, t176⟩, A240, H⟩ := H
       replace H : (some (2, t169, t176)) = some (r1, r2, r3) := H
       have A24 := Aside0.mk A240
       clear A240
       simp only [Option.some.injEq, Prod.mk.injEq] at H
       obtain ⟨rfl, rfl, rfl⟩ := H
       have p168 : 0 ≤ (a1 : Int) := of_decide_eq_true (by first | (with_reducible assumption) | assumption)
       have q168 : a1 < (l0.length : Int) := of_decide_eq_true (by first | (with_reducible assumption) | assumption)
       obtain ⟨ad168, e168, hx168_0⟩ := Kd.at_int HR0.out a1 p168 q168
       cases e168
       replace p168 := eq_true p168
       replace q168 := eq_true q168
       go_enter Try.func31, Try.ntmps31
       go_wp2_with (first | (go_at_call 44; (with_reducible refine (spec_l2run.calls k _ _ l0 a1 t169 _ ?side1 ?side2 A5.out).mono ?_); (case side1 => repeat (first | exact HR0.out | (with_reducible refine Kd.C_alloc ?_ _) | (with_reducible refine Kd.C_drewN ?_ _) | (with_reducible refine Kd.C_drew ?_))); (case side2 => exact HC0.out); rintro e w' ⟨rfl, ⟨nd, rfl⟩⟩; (try first | exact ⟨rfl, _, World.drewN_drewN _ _ _⟩ | exact ⟨rfl, _, Eq.trans (World.drewN_drewN _ _ _) (congrArg (World.drewN _) (Nat.add_assoc _ _ _))⟩)) | (go_at_call 45; (with_reducible refine (spec_l2letter.calls (rd l0 a1) false _ A6.out).mono ?_); rintro e w' ⟨rfl, ⟨nd, rfl⟩⟩; (try first | exact ⟨rfl, _, World.drewN_drewN _ _ _⟩ | exact ⟨rfl, _, Eq.trans (World.drewN_drewN _ _ _) (congrArg (World.drewN _) (Nat.add_assoc _ _ _))⟩)) | (go_at_call 47; (with_reducible refine (spec_l2digit.calls (rd l0 a1) true _ A19.out).mono ?_); rintro e w' ⟨rfl, ⟨nd, rfl⟩⟩; (try first | exact ⟨rfl, _, World.drewN_drewN _ _ _⟩ | exact ⟨rfl, _, Eq.trans (World.drewN_drewN _ _ _) (congrArg (World.drewN _) (Nat.add_assoc _ _ _))⟩); obtain ⟨i025, hi025, _, hsz25, _⟩ := info_parts info5; obtain ⟨A25, hcut25, hA25, hC25⟩ := print_mid_of (P := Try.prog) (Value.int .u8) 0 23 5 .i64 .i64 Try.underlying23 hi025 hsz25 (some ad168) c0 l0 a1 (wrap64 (a1 + t169)) (of_decide_eq_true (by first | (with_reducible assumption) | assumption)) (by first | omega | exact of_decide_eq_true (by first | (with_reducible assumption) | assumption)) (of_decide_eq_true (by first | (with_reducible assumption) | assumption)) HC0.out; have HR174 := Aside0.mk (Kd.C_of_reads (h1 := fun _ => rfl) (hA25 _ (Kd.reads_of_C HR0.out))); have HC174 := Aside0.mk hC25; clear hA25 hC25 hi025 hsz25) | (go_at_call 15; (try rw [← midlen_spec_l2token l0 (a1) ((wrap64 (a1 + t169))) (of_decide_eq_true (by first | (with_reducible assumption) | assumption))]); (with_reducible refine (spec_ScanInt.calls k (fun k_ => k_ < w.heap.size) _ _ ((l0.take ((wrap64 (a1 + t169)) : Int).toNat).drop (a1 : Int).toNat) t175 t176 _ ?side1 A24.out).mono ?_); (case side1 => exact Kd.V_mk HC174.out (Kd.F_below (Kd.C_F (Kd.heap_int .u8) HR174.out) (by repeat (first | (with_reducible first | exact HB.out | apply below_alloc | apply pw_below_drewN | apply below_drew1) | exact HB.out)))); rintro e w26 ⟨rfl, hb⟩; have n0_ := Aside0.mk (below_step (by repeat (first | (with_reducible first | exact HB.out | apply below_alloc | apply pw_below_drewN | apply below_drew1) | exact HB.out)) hb); clear HB; have HB := n0_; clear n0_; (try clear hb); (try clear hb2); (try clear hk); (try clear hi)))
       repeat (go_quiet (first | (go_at_call 44; (with_reducible refine (spec_l2run.calls k _ _ l0 a1 t169 _ ?side1 ?side2 A5.out).mono ?_); (case side1 => repeat (first | exact HR0.out | (with_reducible refine Kd.C_alloc ?_ _) | (with_reducible refine Kd.C_drewN ?_ _) | (with_reducible refine Kd.C_drew ?_))); (case side2 => exact HC0.out); rintro e w' ⟨rfl, ⟨nd, rfl⟩⟩; (try first | exact ⟨rfl, _, World.drewN_drewN _ _ _⟩ | exact ⟨rfl, _, Eq.trans (World.drewN_drewN _ _ _) (congrArg (World.drewN _) (Nat.add_assoc _ _ _))⟩)) | (go_at_call 45; (with_reducible refine (spec_l2letter.calls (rd l0 a1) false _ A6.out).mono ?_); rintro e w' ⟨rfl, ⟨nd, rfl⟩⟩; (try first | exact ⟨rfl, _, World.drewN_drewN _ _ _⟩ | exact ⟨rfl, _, Eq.trans (World.drewN_drewN _ _ _) (congrArg (World.drewN _) (Nat.add_assoc _ _ _))⟩)) | (go_at_call 47; (with_reducible refine (spec_l2digit.calls (rd l0 a1) true _ A19.out).mono ?_); rintro e w' ⟨rfl, ⟨nd, rfl⟩⟩; (try first | exact ⟨rfl, _, World.drewN_drewN _ _ _⟩ | exact ⟨rfl, _, Eq.trans (World.drewN_drewN _ _ _) (congrArg (World.drewN _) (Nat.add_assoc _ _ _))⟩); obtain ⟨i025, hi025, _, hsz25, _⟩ := info_parts info5; obtain ⟨A25, hcut25, hA25, hC25⟩ := print_mid_of (P := Try.prog) (Value.int .u8) 0 23 5 .i64 .i64 Try.underlying23 hi025 hsz25 (some ad168) c0 l0 a1 (wrap64 (a1 + t169)) (of_decide_eq_true (by first | (with_reducible assumption) | assumption)) (by first | omega | exact of_decide_eq_true (by first | (with_reducible assumption) | assumption)) (of_decide_eq_true (by first | (with_reducible assumption) | assumption)) HC0.out; have HR174 := Aside0.mk (Kd.C_of_reads (h1 := fun _ => rfl) (hA25 _ (Kd.reads_of_C HR0.out))); have HC174 := Aside0.mk hC25; clear hA25 hC25 hi025 hsz25) | (go_at_call 15; (try rw [← midlen_spec_l2token l0 (a1) ((wrap64 (a1 + t169))) (of_decide_eq_true (by first | (with_reducible assumption) | assumption))]); (with_reducible refine (spec_ScanInt.calls k (fun k_ => k_ < w.heap.size) _ _ ((l0.take ((wrap64 (a1 + t169)) : Int).toNat).drop (a1 : Int).toNat) t175 t176 _ ?side1 A24.out).mono ?_); (case side1 => exact Kd.V_mk HC174.out (Kd.F_below (Kd.C_F (Kd.heap_int .u8) HR174.out) (by repeat (first | (with_reducible first | exact HB.out | apply below_alloc | apply pw_below_drewN | apply below_drew1) | exact HB.out)))); rintro e w26 ⟨rfl, hb⟩; have n0_ := Aside0.mk (below_step (by repeat (first | (with_reducible first | exact HB.out | apply below_alloc | apply pw_below_drewN | apply below_drew1) | exact HB.out)) hb); clear HB; have HB := n0_; clear n0_; (try clear hb); (try clear hb2); (try clear hk); (try clear hi))); try go_wp2_with (first | (go_at_call 44; (with_reducible refine (spec_l2run.calls k _ _ l0 a1 t169 _ ?side1 ?side2 A5.out).mono ?_); (case side1 => repeat (first | exact HR0.out | (with_reducible refine Kd.C_alloc ?_ _) | (with_reducible refine Kd.C_drewN ?_ _) | (with_reducible refine Kd.C_drew ?_))); (case side2 => exact HC0.out); rintro e w' ⟨rfl, ⟨nd, rfl⟩⟩; (try first | exact ⟨rfl, _, World.drewN_drewN _ _ _⟩ | exact ⟨rfl, _, Eq.trans (World.drewN_drewN _ _ _) (congrArg (World.drewN _) (Nat.add_assoc _ _ _))⟩)) | (go_at_call 45; (with_reducible refine (spec_l2letter.calls (rd l0 a1) false _ A6.out).mono ?_); rintro e w' ⟨rfl, ⟨nd, rfl⟩⟩; (try first | exact ⟨rfl, _, World.drewN_drewN _ _ _⟩ | exact ⟨rfl, _, Eq.trans (World.drewN_drewN _ _ _) (congrArg (World.drewN _) (Nat.add_assoc _ _ _))⟩)) | (go_at_call 47; (with_reducible refine (spec_l2digit.calls (rd l0 a1) true _ A19.out).mono ?_); rintro e w' ⟨rfl, ⟨nd, rfl⟩⟩; (try first | exact ⟨rfl, _, World.drewN_drewN _ _ _⟩ | exact ⟨rfl, _, Eq.trans (World.drewN_drewN _ _ _) (congrArg (World.drewN _) (Nat.add_assoc _ _ _))⟩); obtain ⟨i025, hi025, _, hsz25, _⟩ := info_parts info5; obtain ⟨A25, hcut25, hA25, hC25⟩ := print_mid_of (P := Try.prog) (Value.int .u8) 0 23 5 .i64 .i64 Try.underlying23 hi025 hsz25 (some ad168) c0 l0 a1 (wrap64 (a1 + t169)) (of_decide_eq_true (by first | (with_reducible assumption) | assumption)) (by first | omega | exact of_decide_eq_true (by first | (with_reducible assumption) | assumption)) (of_decide_eq_true (by first | (with_reducible assumption) | assumption)) HC0.out; have HR174 := Aside0.mk (Kd.C_of_reads (h1 := fun _ => rfl) (hA25 _ (Kd.reads_of_C HR0.out))); have HC174 := Aside0.mk hC25; clear hA25 hC25 hi025 hsz25) | (go_at_call 15; (try rw [← midlen_spec_l2token l0 (a1) ((wrap64 (a1 + t169))) (of_decide_eq_true (by first | (with_reducible assumption) | assumption))]); (with_reducible refine (spec_ScanInt.calls k (fun k_ => k_ < w.heap.size) _ _ ((l0.take ((wrap64 (a1 + t169)) : Int).toNat).drop (a1 : Int).toNat) t175 t176 _ ?side1 A24.out).mono ?_); (case side1 => exact Kd.V_mk HC174.out (Kd.F_below (Kd.C_F (Kd.heap_int .u8) HR174.out) (by repeat (first | (with_reducible first | exact HB.out | apply below_alloc | apply pw_below_drewN | apply below_drew1) | exact HB.out)))); rintro e w26 ⟨rfl, hb⟩; have n0_ := Aside0.mk (below_step (by repeat (first | (with_reducible first | exact HB.out | apply below_alloc | apply pw_below_drewN | apply below_drew1) | exact HB.out)) hb); clear HB; have HB := n0_; clear n0_; (try clear hb); (try clear hb2); (try clear hk); (try clear hi))))
       go_ret3
       exact ⟨by first | rfl | (simp [errW_none, errW_some] <;> rfl) | (simp [*, errW_none, errW_some] <;> rfl), by repeat (first | (with_reducible first | exact HB.out | apply below_alloc | apply pw_below_drewN | apply below_drew1) | exact HB.out)⟩
      ·
       rw [if_neg c23] at H
       exact absurd H (by simp)
     ·
      rw [if_neg c22] at H
      exact absurd H (by simp)
    ·
     replace c20 := Bool.eq_false_iff.mpr c20
     subst c20
     have H1 : (if (rd l0 a1) = 34 then (spec_l2token.j0 k l0 a1 true) else (spec_l2token.j0 k l0 a1 ((rd l0 a1) == 39))) = some (r1, r2, r3) := by rw [if_neg (show ¬ (false = true) by decide)] at H; exact H
     clear H
     have H := H1
     clear H1
     have HC27 := Aside0.mk H
     clear H
     have p168 : 0 ≤ (a1 : Int) := of_decide_eq_true (by first | (with_reducible assumption) | assumption)
     have q168 : a1 < (l0.length : Int) := of_decide_eq_true (by first | (with_reducible assumption) | assumption)
     obtain ⟨ad168, e168, hx168_0⟩ := Kd.at_int HR0.out a1 p168 q168
     cases e168
     replace p168 := eq_true p168
     replace q168 := eq_true q168
     go_enter Try.func31, Try.ntmps31
     go_upto_region 10 with (first | (go_at_call 44; (with_reducible refine (spec_l2run.calls k _ _ l0 a1 t169 _ ?side1 ?side2 A5.out).mono ?_); (case side1 => repeat (first | exact HR0.out | (with_reducible refine Kd.C_alloc ?_ _) | (with_reducible refine Kd.C_drewN ?_ _) | (with_reducible refine Kd.C_drew ?_))); (case side2 => exact HC0.out); rintro e w' ⟨rfl, ⟨nd, rfl⟩⟩; (try first | exact ⟨rfl, _, World.drewN_drewN _ _ _⟩ | exact ⟨rfl, _, Eq.trans (World.drewN_drewN _ _ _) (congrArg (World.drewN _) (Nat.add_assoc _ _ _))⟩)) | (go_at_call 45; (with_reducible refine (spec_l2letter.calls (rd l0 a1) false _ A6.out).mono ?_); rintro e w' ⟨rfl, ⟨nd, rfl⟩⟩; (try first | exact ⟨rfl, _, World.drewN_drewN _ _ _⟩ | exact ⟨rfl, _, Eq.trans (World.drewN_drewN _ _ _) (congrArg (World.drewN _) (Nat.add_assoc _ _ _))⟩)) | (go_at_call 47; (with_reducible refine (spec_l2digit.calls (rd l0 a1) false _ A19.out).mono ?_); rintro e w' ⟨rfl, ⟨nd, rfl⟩⟩; (try first | exact ⟨rfl, _, World.drewN_drewN _ _ _⟩ | exact ⟨rfl, _, Eq.trans (World.drewN_drewN _ _ _) (congrArg (World.drewN _) (Nat.add_assoc _ _ _))⟩)))
     repeat (go_quiet (first | (go_at_call 44; (with_reducible refine (spec_l2run.calls k _ _ l0 a1 t169 _ ?side1 ?side2 A5.out).mono ?_); (case side1 => repeat (first | exact HR0.out | (with_reducible refine Kd.C_alloc ?_ _) | (with_reducible refine Kd.C_drewN ?_ _) | (with_reducible refine Kd.C_drew ?_))); (case side2 => exact HC0.out); rintro e w' ⟨rfl, ⟨nd, rfl⟩⟩; (try first | exact ⟨rfl, _, World.drewN_drewN _ _ _⟩ | exact ⟨rfl, _, Eq.trans (World.drewN_drewN _ _ _) (congrArg (World.drewN _) (Nat.add_assoc _ _ _))⟩)) | (go_at_call 45; (with_reducible refine (spec_l2letter.calls (rd l0 a1) false _ A6.out).mono ?_); rintro e w' ⟨rfl, ⟨nd, rfl⟩⟩; (try first | exact ⟨rfl, _, World.drewN_drewN _ _ _⟩ | exact ⟨rfl, _, Eq.trans (World.drewN_drewN _ _ _) (congrArg (World.drewN _) (Nat.add_assoc _ _ _))⟩)) | (go_at_call 47; (with_reducible refine (spec_l2digit.calls (rd l0 a1) false _ A19.out).mono ?_); rintro e w' ⟨rfl, ⟨nd, rfl⟩⟩; (try first | exact ⟨rfl, _, World.drewN_drewN _ _ _⟩ | exact ⟨rfl, _, Eq.trans (World.drewN_drewN _ _ _) (congrArg (World.drewN _) (Nat.add_assoc _ _ _))⟩))); go_upto_region 10 with (first | (go_at_call 44; (with_reducible refine (spec_l2run.calls k _ _ l0 a1 t169 _ ?side1 ?side2 A5.out).mono ?_); (case side1 => repeat (first | exact HR0.out | (with_reducible refine Kd.C_alloc ?_ _) | (with_reducible refine Kd.C_drewN ?_ _) | (with_reducible refine Kd.C_drew ?_))); (case side2 => exact HC0.out); rintro e w' ⟨rfl, ⟨nd, rfl⟩⟩; (try first | exact ⟨rfl, _, World.drewN_drewN _ _ _⟩ | exact ⟨rfl, _, Eq.trans (World.drewN_drewN _ _ _) (congrArg (World.drewN _) (Nat.add_assoc _ _ _))⟩)) | (go_at_call 45; (with_reducible refine (spec_l2letter.calls (rd l0 a1) false _ A6.out).mono ?_); rintro e w' ⟨rfl, ⟨nd, rfl⟩⟩; (try first | exact ⟨rfl, _, World.drewN_drewN _ _ _⟩ | exact ⟨rfl, _, Eq.trans (World.drewN_drewN _ _ _) (congrArg (World.drewN _) (Nat.add_assoc _ _ _))⟩)) | (go_at_call 47; (with_reducible refine (spec_l2digit.calls (rd l0 a1) false _ A19.out).mono ?_); rintro e w' ⟨rfl, ⟨nd, rfl⟩⟩; (try first | exact ⟨rfl, _, World.drewN_drewN _ _ _⟩ | exact ⟨rfl, _, Eq.trans (World.drewN_drewN _ _ _) (congrArg (World.drewN _) (Nat.add_assoc _ _ _))⟩))))
     (try simp only [Act.put, List.setIfInBounds_toArray, List.set_cons_zero, List.set_cons_succ])
     go_cut [54] (fun v54 wc => ∃ (kq : Nat) (x54_26 : Bool), v54 = .bool x54_26 ∧ Aside0 (spec_l2token.j0 kq l0 a1 x54_26 = some (r1, r2, r3)) ∧ Aside0 (kq ≤ k) ∧ Aside0 (Below w.heap.size w wc))
     case first =>
      have H := HC27.out
      clear HC27
      by_cases c28 : (rd l0 a1) = 34
      ·
       rw [if_pos c28] at H
       have c28b0 : ((rd l0 a1) == 34) = true := beq_iff_eq.mpr c28
       have c28b1 : ((rd l0 a1) != 34) = false := bne_eq_false_iff_eq.mpr c28
       clear c28
       (first | rw [c28b0] | (simp only [i64_w, i32_w]; rw [c28b0]) | skip)
       have H' := Aside0.mk H
       clear H
       go_wp2
       repeat (go_quiet (fail); try go_wp2)
       go_meet
       case rel => exact ⟨_, (true), (by first | rfl | (simp; done) | (simp [*]; done)), H', ⟨by first | omega | exact Nat.le_refl _⟩, ⟨by repeat (first | (with_reducible first | exact HB.out | apply below_alloc | apply pw_below_drewN | apply below_drew1) | exact HB.out)⟩⟩
      ·
       rw [if_neg c28] at H
       have c28b0 : ((rd l0 a1) == 34) = false := beq_eq_false_iff_ne.mpr c28
       have c28b1 : ((rd l0 a1) != 34) = true := bne_iff_ne.mpr c28
       (first | rw [c28b0] | (simp only [i64_w, i32_w]; rw [c28b0]) | skip)
       have H' := Aside0.mk H
       clear H
       go_wp2
       repeat (go_quiet (fail); try go_wp2)
       go_meet
       case rel => exact ⟨_, (((rd l0 a1) == 39)), (by first | rfl | (simp; done) | (simp [*]; done)), H', ⟨by first | omega | exact Nat.le_refl _⟩, ⟨by repeat (first | (with_reducible first | exact HB.out | apply below_alloc | apply pw_below_drewN | apply below_drew1) | exact HB.out)⟩⟩
     case rest =>
      clear HC27
      try clear c1
      try clear p1
      try clear q1
      try clear hx1
      try clear hcv1
      try clear c2
      try clear p2
      try clear c3
      try clear c3b0
      try clear c4
      try clear c4b0
      try clear p6
      try clear c7
      try clear c8
      try clear c8b0
      try clear c9
      try clear c9b0
      try clear c9b1
      try clear c10
      try clear c10b0
      try clear c10b1
      try clear c12
      try clear hcv14
      try clear p16
      try clear q16
      try clear hx16
      try clear hcv17
      try clear c20
      try clear c21
      try clear c21b0
      try clear c22
      try clear c22b0
      try clear c22b1
      try clear c23
      try clear c23b0
      try clear c23b1
      try clear c28
      try clear c28b0
      try clear c28b1
      try clear hx168_0
      try clear p168
      try clear q168
      obtain ⟨kq, x54_26, rfl, HA, HJ26, HB⟩ := hcut
      cases kq with
      | zero => exact absurd HA.out (by simp [spec_l2token.j0])
      | succ kj26 =>
       have H := HA.out
       clear HA
       simp only [spec_l2token.j0] at H
       by_cases c29 : x54_26 = true
       ·
        subst c29
        have H1 : ((spec_l1literal.f kj26 l0 a1).bind fun bt177 => (if bt177.2 = 0 then (some (0, 0, 2)) else (some (3, bt177.2, 0)))) = some (r1, r2, r3) := by rw [if_pos rfl] at H; exact H
        clear H
        have H := H1
        clear H1
        replace H := Option.bind_eq_some_iff.mp H
        obtain ⟨⟨t177, t178⟩, A300, H⟩ := H
        replace H : (if t178 = 0 then (some (0, 0, 2)) else (some (3, t178, 0))) = some (r1, r2, r3) := H
        have A30 := Aside0.mk A300
        clear A300
        by_cases c31 : t178 = 0
        ·
         rw [if_pos c31] at H
         have c31b0 : (t178 == 0) = true := beq_iff_eq.mpr c31
         have c31b1 : (t178 != 0) = false := bne_eq_false_iff_eq.mpr c31
         clear c31
         simp only [Option.some.injEq, Prod.mk.injEq] at H
         obtain ⟨rfl, rfl, rfl⟩ := H
         go_wp2_with (first | (go_at_call 29; (with_reducible refine (spec_l1literal.calls kj26 _ _ l0 a1 t177 t178 _ ?side1 ?side2 A30.out).mono ?_); (case side1 => repeat (first | exact (Kd.C_below HR0.out HB.out) | (with_reducible refine Kd.C_alloc ?_ _) | (with_reducible refine Kd.C_drewN ?_ _) | (with_reducible refine Kd.C_drew ?_))); (case side2 => exact HC0.out); rintro e w32 ⟨v179, rfl, ho0, hb⟩; have n0_ := Aside0.mk (Kd.R_lower ho0 (below_size (by repeat (first | (with_reducible first | exact HB.out | apply below_alloc | apply pw_below_drewN | apply below_drew1) | exact HB.out)))); have n1_ := Aside0.mk (below_step (by repeat (first | (with_reducible first | exact HB.out | apply below_alloc | apply pw_below_drewN | apply below_drew1) | exact HB.out)) hb); clear HB; have HO180 := n0_; have HB := n1_; clear n0_ n1_; (try clear hb); (try clear hb2); (try clear hk); (try clear hi); (try clear ho0)))
         repeat (go_quiet (first | (go_at_call 29; (with_reducible refine (spec_l1literal.calls kj26 _ _ l0 a1 t177 t178 _ ?side1 ?side2 A30.out).mono ?_); (case side1 => repeat (first | exact (Kd.C_below HR0.out HB.out) | (with_reducible refine Kd.C_alloc ?_ _) | (with_reducible refine Kd.C_drewN ?_ _) | (with_reducible refine Kd.C_drew ?_))); (case side2 => exact HC0.out); rintro e w32 ⟨v179, rfl, ho0, hb⟩; have n0_ := Aside0.mk (Kd.R_lower ho0 (below_size (by repeat (first | (with_reducible first | exact HB.out | apply below_alloc | apply pw_below_drewN | apply below_drew1) | exact HB.out)))); have n1_ := Aside0.mk (below_step (by repeat (first | (with_reducible first | exact HB.out | apply below_alloc | apply pw_below_drewN | apply below_drew1) | exact HB.out)) hb); clear HB; have HO180 := n0_; have HB := n1_; clear n0_ n1_; (try clear hb); (try clear hb2); (try clear hk); (try clear hi); (try clear ho0))); try go_wp2_with (first | (go_at_call 29; (with_reducible refine (spec_l1literal.calls kj26 _ _ l0 a1 t177 t178 _ ?side1 ?side2 A30.out).mono ?_); (case side1 => repeat (first | exact (Kd.C_below HR0.out HB.out) | (with_reducible refine Kd.C_alloc ?_ _) | (with_reducible refine Kd.C_drewN ?_ _) | (with_reducible refine Kd.C_drew ?_))); (case side2 => exact HC0.out); rintro e w32 ⟨v179, rfl, ho0, hb⟩; have n0_ := Aside0.mk (Kd.R_lower ho0 (below_size (by repeat (first | (with_reducible first | exact HB.out | apply below_alloc | apply pw_below_drewN | apply below_drew1) | exact HB.out)))); have n1_ := Aside0.mk (below_step (by repeat (first | (with_reducible first | exact HB.out | apply below_alloc | apply pw_below_drewN | apply below_drew1) | exact HB.out)) hb); clear HB; have HO180 := n0_; have HB := n1_; clear n0_ n1_; (try clear hb); (try clear hb2); (try clear hk); (try clear hi); (try clear ho0))))
         go_ret3
         exact ⟨by first | rfl | (simp [errW_none, errW_some] <;> rfl) | (simp [*, errW_none, errW_some] <;> rfl), by repeat (first | (with_reducible first | exact HB.out | apply below_alloc | apply pw_below_drewN | apply below_drew1) | exact HB.out)⟩
        ·
         rw [if_neg c31] at H
         have c31b0 : (t178 == 0) = false := beq_eq_false_iff_ne.mpr c31
         have c31b1 : (t178 != 0) = true := bne_iff_ne.mpr c31
         simp only [Option.some.injEq, Prod.mk.injEq] at H
         obtain ⟨rfl, rfl, rfl⟩ := H
         go_wp2_with (first | (go_at_call 29; (with_reducible refine (spec_l1literal.calls kj26 _ _ l0 a1 t177 t178 _ ?side1 ?side2 A30.out).mono ?_); (case side1 => repeat (first | exact (Kd.C_below HR0.out HB.out) | (with_reducible refine Kd.C_alloc ?_ _) | (with_reducible refine Kd.C_drewN ?_ _) | (with_reducible refine Kd.C_drew ?_))); (case side2 => exact HC0.out); rintro e w33 ⟨v179, rfl, ho0, hb⟩; have n0_ := Aside0.mk (Kd.R_lower ho0 (below_size (by repeat (first | (with_reducible first | exact HB.out | apply below_alloc | apply pw_below_drewN | apply below_drew1) | exact HB.out)))); have n1_ := Aside0.mk (below_step (by repeat (first | (with_reducible first | exact HB.out | apply below_alloc | apply pw_below_drewN | apply below_drew1) | exact HB.out)) hb); clear HB; have HO180 := n0_; have HB := n1_; clear n0_ n1_; (try clear hb); (try clear hb2); (try clear hk); (try clear hi); (try clear ho0)))
         repeat (go_quiet (first | (go_at_call 29; (with_reducible refine (spec_l1literal.calls kj26 _ _ l0 a1 t177 t178 _ ?side1 ?side2 A30.out).mono ?_); (case side1 => repeat (first | exact (Kd.C_below HR0.out HB.out) | (with_reducible refine Kd.C_alloc ?_ _) | (with_reducible refine Kd.C_drewN ?_ _) | (with_reducible refine Kd.C_drew ?_))); (case side2 => exact HC0.out); rintro e w33 ⟨v179, rfl, ho0, hb⟩; have n0_ := Aside0.mk (Kd.R_lower ho0 (below_size (by repeat (first | (with_reducible first | exact HB.out | apply below_alloc | apply pw_below_drewN | apply below_drew1) | exact HB.out)))); have n1_ := Aside0.mk (below_step (by repeat (first | (with_reducible first | exact HB.out | apply below_alloc | apply pw_below_drewN | apply below_drew1) | exact HB.out)) hb); clear HB; have HO180 := n0_; have HB := n1_; clear n0_ n1_; (try clear hb); (try clear hb2); (try clear hk); (try clear hi); (try clear ho0))); try go_wp2_with (first | (go_at_call 29; (with_reducible refine (spec_l1literal.calls kj26 _ _ l0 a1 t177 t178 _ ?side1 ?side2 A30.out).mono ?_); (case side1 => repeat (first | exact (Kd.C_below HR0.out HB.out) | (with_reducible refine Kd.C_alloc ?_ _) | (with_reducible refine Kd.C_drewN ?_ _) | (with_reducible refine Kd.C_drew ?_))); (case side2 => exact HC0.out); rintro e w33 ⟨v179, rfl, ho0, hb⟩; have n0_ := Aside0.mk (Kd.R_lower ho0 (below_size (by repeat (first | (with_reducible first | exact HB.out | apply below_alloc | apply pw_below_drewN | apply below_drew1) | exact HB.out)))); have n1_ := Aside0.mk (below_step (by repeat (first | (with_reducible first | exact HB.out | apply below_alloc | apply pw_below_drewN | apply below_drew1) | exact HB.out)) hb); clear HB; have HO180 := n0_; have HB := n1_; clear n0_ n1_; (try clear hb); (try clear hb2); (try clear hk); (try clear hi); (try clear ho0))))
         go_ret3
         exact ⟨by first | rfl | (simp [errW_none, errW_some] <;> rfl) | (simp [*, errW_none, errW_some] <;> rfl), by repeat (first | (with_reducible first | exact HB.out | apply below_alloc | apply pw_below_drewN | apply below_drew1) | exact HB.out)⟩
       ·
        replace c29 := Bool.eq_false_iff.mpr c29
        subst c29
        have H1 : ((spec_l2signs.f).bind fun t181 => (spec_l2token.l0 kj26 l0 a1 t181 0)) = some (r1, r2, r3) := by rw [if_neg (show ¬ (false = true) by decide)] at H; exact H
        clear H
        have H := H1
        clear H1
        replace H := Option.bind_eq_some_iff.mp H
        obtain ⟨t181, A340, H⟩ := H
        replace H : (spec_l2token.l0 kj26 l0 a1 t181 0) = some (r1, r2, r3) := H
        have A34 := Aside0.mk A340
        clear A340
        have H' := Aside0.mk H
        clear H
        go_wp2_with (first | (go_at_call 48; (with_reducible refine (spec_l2signs.calls  t181 _ A34.out).mono ?_); rintro e w35 ⟨v182, rfl, ho0, hb⟩; have n0_ := Aside0.mk (Kd.R_lower ho0 (below_size (by repeat (first | (with_reducible first | exact HB.out | apply below_alloc | apply pw_below_drewN | apply below_drew1) | exact HB.out)))); have n1_ := Aside0.mk (below_step (by repeat (first | (with_reducible first | exact HB.out | apply below_alloc | apply pw_below_drewN | apply below_drew1) | exact HB.out)) hb); clear HB; have HO183 := n0_; have HB := n1_; clear n0_ n1_; (try clear hb); (try clear hb2); (try clear hk); (try clear hi); (try clear ho0)))
        repeat (go_quiet (first | (go_at_call 48; (with_reducible refine (spec_l2signs.calls  t181 _ A34.out).mono ?_); rintro e w35 ⟨v182, rfl, ho0, hb⟩; have n0_ := Aside0.mk (Kd.R_lower ho0 (below_size (by repeat (first | (with_reducible first | exact HB.out | apply below_alloc | apply pw_below_drewN | apply below_drew1) | exact HB.out)))); have n1_ := Aside0.mk (below_step (by repeat (first | (with_reducible first | exact HB.out | apply below_alloc | apply pw_below_drewN | apply below_drew1) | exact HB.out)) hb); clear HB; have HO183 := n0_; have HB := n1_; clear n0_ n1_; (try clear hb); (try clear hb2); (try clear hk); (try clear hi); (try clear ho0))); try go_wp2_with (first | (go_at_call 48; (with_reducible refine (spec_l2signs.calls  t181 _ A34.out).mono ?_); rintro e w35 ⟨v182, rfl, ho0, hb⟩; have n0_ := Aside0.mk (Kd.R_lower ho0 (below_size (by repeat (first | (with_reducible first | exact HB.out | apply below_alloc | apply pw_below_drewN | apply below_drew1) | exact HB.out)))); have n1_ := Aside0.mk (below_step (by repeat (first | (with_reducible first | exact HB.out | apply below_alloc | apply pw_below_drewN | apply below_drew1) | exact HB.out)) hb); clear HB; have HO183 := n0_; have HB := n1_; clear n0_ n1_; (try clear hb); (try clear hb2); (try clear hk); (try clear hi); (try clear ho0))))
        go_loopg [14] kj26 (fun kq v14 w' => ∃ (x14_2 : Int), v14 = .int .i64 x14_2 ∧ Aside0 (spec_l2token.l0 kq l0 a1 t181 x14_2 = some (r1, r2, r3)) ∧ Aside0 (kq ≤ kj26) ∧ Aside0 (Kd.R Kd.string 9 w' w.heap.size (fun _ => True) v182 t181) ∧ Aside0 (Below w.heap.size w w'))
        case atStart => exact ⟨(0), (by first | rfl | (simp; done) | (simp [*]; done)), H', ⟨Nat.le_refl _⟩, ⟨by (with_reducible repeat (first | apply Kd.R_alloc | apply Kd.R_drewN | apply Kd.R_drew)); exact HO183.out⟩, ⟨by repeat (first | (with_reducible first | exact HB.out | apply below_alloc | apply pw_below_drewN | apply below_drew1) | exact HB.out)⟩⟩
        case round =>
         clear H'
         try clear c1
         try clear p1
         try clear q1
         try clear hx1
         try clear hcv1
         try clear c2
         try clear p2
         try clear c3
         try clear c3b0
         try clear c4
         try clear c4b0
         try clear p6
         try clear c7
         try clear c8
         try clear c8b0
         try clear c9
         try clear c9b0
         try clear c9b1
         try clear c10
         try clear c10b0
         try clear c10b1
         try clear c12
         try clear hcv14
         try clear p16
         try clear q16
         try clear hx16
         try clear hcv17
         try clear c20
         try clear c21
         try clear c21b0
         try clear c22
         try clear c22b0
         try clear c22b1
         try clear c23
         try clear c23b0
         try clear c23b1
         try clear c28
         try clear c28b0
         try clear c28b1
         try clear c29
         try clear c31
         try clear c31b0
         try clear c31b1
         try clear hx168_0
         try clear p1
         try clear p16
         try clear p168
         try clear p2
         try clear p6
         try clear q1
         try clear q16
         try clear q168
         obtain ⟨x14_2, rfl, HA, HK2, HO_13, HB⟩ := hrel
         cases gk with
         | zero => exact absurd HA.out (by simp [spec_l2token.l0])
         | succ k2 =>
          have H := HA.out
          clear HA
          simp only [spec_l2token.l0] at H
          by_cases c36 : x14_2 < (t181.length : Int)
          ·
           rw [if_pos c36] at H
           have c36b0 : decide (x14_2 < (t181.length : Int)) = true := decide_eq_true c36
           clear c36
           by_cases c37 : 0 ≤ x14_2
           ·
            rw [if_pos c37] at H
            have c37b0 : decide (0 ≤ x14_2) = true := decide_eq_true c37
            clear c37
            by_cases c38 : (wrap64 (a1 + ((rdOf ByteArray.empty t181 x14_2).size : Int))) ≤ (l0.length : Int)
            ·
             rw [if_pos c38] at H
             have c38b0 : decide ((wrap64 (a1 + ((rdOf ByteArray.empty t181 x14_2).size : Int))) ≤ (l0.length : Int)) = true := decide_eq_true c38
             have c38sum := i64_w (a1 + ((rdOf ByteArray.empty t181 x14_2).size : Int))
             clear c38
             by_cases c39 : 0 ≤ a1
             ·
              rw [if_pos c39] at H
              have c39b0 := eq_true c39
              have c39b1 : decide (0 ≤ a1) = true := decide_eq_true c39
              clear c39
              by_cases c40 : a1 ≤ (wrap64 (a1 + ((rdOf ByteArray.empty t181 x14_2).size : Int)))
              ·
               rw [if_pos c40] at H
               have c40b0 := eq_true c40
               have c40b1 : decide (a1 ≤ (wrap64 (a1 + ((rdOf ByteArray.empty t181 x14_2).size : Int)))) = true := decide_eq_true c40
               have c41b0 := eq_true (of_decide_eq_true (by first | (with_reducible assumption) | assumption) : (wrap64 (a1 + ((rdOf ByteArray.empty t181 x14_2).size : Int))) ≤ (l0.length : Int))
               by_cases c42 : (strOfNums ((l0.take ((wrap64 (a1 + ((rdOf ByteArray.empty t181 x14_2).size : Int))) : Int).toNat).drop (a1 : Int).toNat)).toList = (rdOf ByteArray.empty t181 x14_2).toList
               ·
                rw [if_pos c42] at H
                have c42b0 : ((strOfNums ((l0.take ((wrap64 (a1 + ((rdOf ByteArray.empty t181 x14_2).size : Int))) : Int).toNat).drop (a1 : Int).toNat)).toList == (rdOf ByteArray.empty t181 x14_2).toList) = true := beq_iff_eq.mpr c42
                have c42b1 : ((strOfNums ((l0.take ((wrap64 (a1 + ((rdOf ByteArray.empty t181 x14_2).size : Int))) : Int).toNat).drop (a1 : Int).toNat)).toList != (rdOf ByteArray.empty t181 x14_2).toList) = false := bne_eq_false_iff_eq.mpr c42
                clear c42
                simp only [Option.some.injEq, Prod.mk.injEq] at H
                obtain ⟨rfl, rfl, rfl⟩ := H
                obtain ⟨Ao43, co43, eo43⟩ := Kd.R_slice HO_13.out
                subst eo43
                have p184 : 0 ≤ (x14_2 : Int) := of_decide_eq_true (by first | (with_reducible assumption) | assumption)
                have q184 : x14_2 < (t181.length : Int) := of_decide_eq_true (by first | (with_reducible assumption) | assumption)
                obtain ⟨ad184, e184, hx184_0⟩ := Kd.at_string (Kd.R_reads' HO_13.out).2.2 x14_2 p184 q184
                cases e184
                replace p184 := eq_true p184
                replace q184 := eq_true q184
                obtain ⟨i044, hi044, _, hsz44, _⟩ := info_parts info5
                obtain ⟨A44, hcut44, hA44, hC44⟩ := print_mid_of (P := Try.prog) (Value.int .u8) 0 23 5 .i64 .i64 Try.underlying23 hi044 hsz44 (some ad168) c0 l0 a1 (wrap64 (a1 + ((rdOf ByteArray.empty t181 x14_2).size : Int))) (of_decide_eq_true (by first | (with_reducible assumption) | assumption)) (by first | omega | exact of_decide_eq_true (by first | (with_reducible assumption) | assumption)) (of_decide_eq_true (by first | (with_reducible assumption) | assumption)) HC0.out
                have HR185 := Aside0.mk (Kd.C_of_reads (h1 := fun _ => rfl) (hA44 _ (Kd.reads_of_C HR0.out)))
                have HC185 := Aside0.mk hC44
                clear hA44 hC44 hi044 hsz44
                have hcv45 := Kd.C_string (P := Try.prog) (A := A44) (c := (c0 - a1.toNat)) Try.underlying23 Try.underlying5 Try.underlying9 (Kd.C_below HR185.out HB.out)
                have hcv45q := fun nd_ => Kd.C_string (P := Try.prog) (A := A44) (c := (c0 - a1.toNat)) Try.underlying23 Try.underlying5 Try.underlying9 (Kd.C_drewN (Kd.C_below HR185.out HB.out) nd_)
                try rw [midlen_spec_l2token _ _ _ (of_decide_eq_true (by first | (with_reducible assumption) | assumption))] at hcv45q
                have p186 : 0 ≤ (x14_2 : Int) := of_decide_eq_true (by first | (with_reducible assumption) | assumption)
                have q186 : x14_2 < (t181.length : Int) := of_decide_eq_true (by first | (with_reducible assumption) | assumption)
                obtain ⟨ad186, e186, hx186_0⟩ := Kd.at_string (Kd.R_reads' HO_13.out).2.2 x14_2 p186 q186
                obtain rfl : ad184 = ad186 := (by injection e186)
                replace p186 := eq_true p186
                replace q186 := eq_true q186
                go_wp2
                repeat (go_quiet (fail); try go_wp2)
                go_ret3
                exact ⟨by first | rfl | (simp [errW_none, errW_some] <;> rfl) | (simp [*, errW_none, errW_some] <;> rfl), by repeat (first | (with_reducible first | exact HB.out | apply below_alloc | apply pw_below_drewN | apply below_drew1) | exact HB.out)⟩
               ·
                rw [if_neg c42] at H
                have c42b0 : ((strOfNums ((l0.take ((wrap64 (a1 + ((rdOf ByteArray.empty t181 x14_2).size : Int))) : Int).toNat).drop (a1 : Int).toNat)).toList == (rdOf ByteArray.empty t181 x14_2).toList) = false := beq_eq_false_iff_ne.mpr c42
                have c42b1 : ((strOfNums ((l0.take ((wrap64 (a1 + ((rdOf ByteArray.empty t181 x14_2).size : Int))) : Int).toNat).drop (a1 : Int).toNat)).toList != (rdOf ByteArray.empty t181 x14_2).toList) = true := bne_iff_ne.mpr c42
                have H' := Aside0.mk H
                clear H
                obtain ⟨Ao46, co46, eo46⟩ := Kd.R_slice HO_13.out
                subst eo46
                have p184 : 0 ≤ (x14_2 : Int) := of_decide_eq_true (by first | (with_reducible assumption) | assumption)
                have q184 : x14_2 < (t181.length : Int) := of_decide_eq_true (by first | (with_reducible assumption) | assumption)
                obtain ⟨ad184, e184, hx184_0⟩ := Kd.at_string (Kd.R_reads' HO_13.out).2.2 x14_2 p184 q184
                cases e184
                replace p184 := eq_true p184
                replace q184 := eq_true q184
                obtain ⟨i047, hi047, _, hsz47, _⟩ := info_parts info5
                obtain ⟨A47, hcut47, hA47, hC47⟩ := print_mid_of (P := Try.prog) (Value.int .u8) 0 23 5 .i64 .i64 Try.underlying23 hi047 hsz47 (some ad168) c0 l0 a1 (wrap64 (a1 + ((rdOf ByteArray.empty t181 x14_2).size : Int))) (of_decide_eq_true (by first | (with_reducible assumption) | assumption)) (by first | omega | exact of_decide_eq_true (by first | (with_reducible assumption) | assumption)) (of_decide_eq_true (by first | (with_reducible assumption) | assumption)) HC0.out
                have HR185 := Aside0.mk (Kd.C_of_reads (h1 := fun _ => rfl) (hA47 _ (Kd.reads_of_C HR0.out)))
                have HC185 := Aside0.mk hC47
                clear hA47 hC47 hi047 hsz47
                have hcv48 := Kd.C_string (P := Try.prog) (A := A47) (c := (c0 - a1.toNat)) Try.underlying23 Try.underlying5 Try.underlying9 (Kd.C_below HR185.out HB.out)
                have hcv48q := fun nd_ => Kd.C_string (P := Try.prog) (A := A47) (c := (c0 - a1.toNat)) Try.underlying23 Try.underlying5 Try.underlying9 (Kd.C_drewN (Kd.C_below HR185.out HB.out) nd_)
                try rw [midlen_spec_l2token _ _ _ (of_decide_eq_true (by first | (with_reducible assumption) | assumption))] at hcv48q
                have p186 : 0 ≤ (x14_2 : Int) := of_decide_eq_true (by first | (with_reducible assumption) | assumption)
                have q186 : x14_2 < (t181.length : Int) := of_decide_eq_true (by first | (with_reducible assumption) | assumption)
                obtain ⟨ad186, e186, hx186_0⟩ := Kd.at_string (Kd.R_reads' HO_13.out).2.2 x14_2 p186 q186
                obtain rfl : ad184 = ad186 := (by injection e186)
                replace p186 := eq_true p186
                replace q186 := eq_true q186
                go_wp2
                repeat (go_quiet (fail); try go_wp2)
                go_roundg k2
                case measure => have := HJ26.out; have := HK2.out; omega
                case rel => exact ⟨(wrap64 (x14_2 + 1)), (by first | rfl | (simp; done) | (simp [*]; done)), H', ⟨by have := HJ26.out; have := HK2.out; omega⟩, ⟨by (with_reducible repeat (first | apply Kd.R_alloc | apply Kd.R_drewN | apply Kd.R_drew)); exact HO_13.out⟩, ⟨by repeat (first | (with_reducible first | exact HB.out | apply below_alloc | apply pw_below_drewN | apply below_drew1) | exact HB.out)⟩⟩
              ·
               rw [if_neg c40] at H
               exact absurd H (by simp)
             ·
              rw [if_neg c39] at H
              exact absurd H (by simp)
            ·
             rw [if_neg c38] at H
             have c38b0 : decide ((wrap64 (a1 + ((rdOf ByteArray.empty t181 x14_2).size : Int))) ≤ (l0.length : Int)) = false := decide_eq_false c38
             have c38sum := i64_w (a1 + ((rdOf ByteArray.empty t181 x14_2).size : Int))
             clear c38
             have H' := Aside0.mk H
             clear H
             obtain ⟨Ao49, co49, eo49⟩ := Kd.R_slice HO_13.out
             subst eo49
             have p184 : 0 ≤ (x14_2 : Int) := of_decide_eq_true (by first | (with_reducible assumption) | assumption)
             have q184 : x14_2 < (t181.length : Int) := of_decide_eq_true (by first | (with_reducible assumption) | assumption)
             obtain ⟨ad184, e184, hx184_0⟩ := Kd.at_string (Kd.R_reads' HO_13.out).2.2 x14_2 p184 q184
             cases e184
             replace p184 := eq_true p184
             replace q184 := eq_true q184
             go_wp2
             repeat (go_quiet (fail); try go_wp2)
             go_roundg k2
             case measure => have := HJ26.out; have := HK2.out; omega
             case rel => exact ⟨(wrap64 (x14_2 + 1)), (by first | rfl | (simp; done) | (simp [*]; done)), H', ⟨by have := HJ26.out; have := HK2.out; omega⟩, ⟨by (with_reducible repeat (first | apply Kd.R_alloc | apply Kd.R_drewN | apply Kd.R_drew)); exact HO_13.out⟩, ⟨by repeat (first | (with_reducible first | exact HB.out | apply below_alloc | apply pw_below_drewN | apply below_drew1) | exact HB.out)⟩⟩
           ·
            rw [if_neg c37] at H
            exact absurd H (by simp)
          ·
           rw [if_neg c36] at H
           have c36b0 : decide (x14_2 < (t181.length : Int)) = false := decide_eq_false c36
           clear c36
           simp only [Option.some.injEq, Prod.mk.injEq] at H
           obtain ⟨rfl, rfl, rfl⟩ := H
           obtain ⟨Ao50, co50, eo50⟩ := Kd.R_slice HO_13.out
           subst eo50
           go_wp2
           repeat (go_quiet (fail); try go_wp2)
           go_ret3
           exact ⟨by first | rfl | (simp [errW_none, errW_some] <;> rfl) | (simp [*, errW_none, errW_some] <;> rfl), by repeat (first | (with_reducible first | exact HB.out | apply below_alloc | apply pw_below_drewN | apply below_drew1) | exact HB.out)⟩
  ·
   rw [if_neg c4] at H
   exact absurd H (by simp)
 ·
  rw [if_neg c3] at H
  exact absurd H (by simp)

end Go.Proofs.Ytchfdpmkgjblgaa.M
