/- A line of the listing. -/
import Derived.Test.YtmmpiojekgfdjaaDoorZpB5
import Derived.Test.YtmmpiojekgfdjaaDoorZpK
namespace Go.Proofs.YtmmpiojekgfdjaaDoor.C
open Go.RowKit YtmmpiojekgfdjaaDoorW.PrintWords YtmmpiojekgfdjaaDoorW.PrintLast
set_option linter.unusedVariables false
set_option linter.unusedSimpArgs false
theorem noBig {n : Nat} (h : n ≤ 100000000000) : (9223372036854775807 < n) = False := eq_false (by omega)
set_option maxHeartbeats 40000000 in
set_option maxRecDepth 100000 in
theorem line17_calls (A0_0 : Option Addr) (c0_0 : Nat) (l0_0 : List S69) (A0_1 : Option Addr) (c0_1 : Nat) (l0_1 : List S45) (i n : Nat) (a b : Int) (w : World) (hr0 : Kd.C k69 w A0_0 l0_0.length l0_0) (hn : n < 28) (hi : i ≤ 20000) (ha : IntOK a) (hb : IntOK b) (h0 : n = 0 → 0 ≤ a ∧ a < l0_0.length) (hc : ∀ c ∈ l0_0, IntOK c.f1 ∧ c.f2.length ≤ 5000 ∧ ∀ x ∈ c.f2, 0 ≤ x ∧ x ≤ 255) :
  Calls Tryd.prog 17 #[.agg #[.slice A0_0 l0_0.length c0_0, .slice A0_1 l0_1.length c0_1], .int .i64 (i : Int), .agg #[.int .i64 (n : Int), .int .i64 a, .int .i64 b]] w fun e w' => e = .returned (.string (strOfNums (insL qtL l0_0 i ⟨(n : Int), a, b⟩))) ∧ Below w.heap.size w w' := by
 have hI : IntOK (i : Int) := by unfold IntOK; omega
 have zi := decS_size hI
 have za := decS_size ha
 have zb := decS_size hb
 obtain ⟨hw, zw⟩ := word_all ⟨n, hn⟩
 simp only at hw zw
 obtain ⟨s, t, l, hr, zs, b0, b1⟩ := l4row_some n hn
 obtain ⟨q1, q2, _, _⟩ := rowA_45 n hn
 obtain ⟨ki, hki⟩ := (dec_ev _ hI).rounds
 obtain ⟨ka, hka⟩ := (dec_ev _ ha).rounds
 obtain ⟨kb, hkb⟩ := (dec_ev _ hb).rounds
 rw [insS]
 obtain ⟨di, hdi⟩ : ∃ d, d = decS (i : Int) := ⟨_, rfl⟩
 obtain ⟨da, hda⟩ : ∃ d, d = decS a := ⟨_, rfl⟩
 obtain ⟨db, hdb⟩ : ∃ d, d = decS b := ⟨_, rfl⟩
 rw [← hdi] at zi hki ⊢
 rw [← hda] at za hka
 rw [← hdb] at zb hkb
 have HDA := amZ hda
 have HDB := amZ hdb
 have HKI := amZ hki
 have HKA := amZ hka
 have HKB := amZ hkb
 have HW := amZ hw
 have HR := amZ hr
 have HR0 := amZ hr0
 have H0 := amZ h0
 have HC := amZ hc
 have HSZ : Aside0 (di.size ≤ 21 ∧ da.size ≤ 21 ∧ db.size ≤ 21 ∧ (rowW n).size ≤ 16) := ⟨⟨zi, za, zb, zw⟩⟩
 have z1 : (9223372036854775807 < 2 + di.size) = False := noBig (by omega)
 have z2 : (9223372036854775807 < 2 + di.size + 1) = False := noBig (by omega)
 have z3 : (9223372036854775807 < 2 + di.size + 1 + (rowW n).size) = False := noBig (by omega)
 have hu51 := Tryd.underlying51
 clear hdi hda hdb hki hka hkb hw hr hr0 h0 hc zi za zb zw
 go_enter Tryd.func17, Tryd.ntmps17
 go_upto_region 1 with (fail)
 obtain ⟨W, hW⟩ : ∃ W, W = (w.alloc (.cells #[.slice A0_0 l0_0.length c0_0, .slice A0_1 l0_1.length c0_1] 32)).alloc (.cells #[.int .i64 (n : Int), .int .i64 a, .int .i64 b] 51) := ⟨_, rfl⟩
 obtain ⟨bx, hbx⟩ : ∃ m, m = w.heap.size + 1 := ⟨_, rfl⟩
 obtain ⟨bp, hbp⟩ : ∃ m, m = w.heap.size := ⟨_, rfl⟩
 have HB : Aside0 (Below w.heap.size w W) := ⟨by rw [hW]; exact ((Below.refl _ _).alloc (Nat.le_refl _) _).alloc (by simp) _⟩
 have HX : Aside0 (W.heap[bx]? = some (.cells #[.int .i64 (n : Int), .int .i64 a, .int .i64 b] 51 (0, 0))) := ⟨by rw [hW, hbx, show w.heap.size + 1 = (w.alloc (.cells #[.slice A0_0 l0_0.length c0_0, .slice A0_1 l0_1.length c0_1] 32)).heap.size by simp, heap_alloc_new]⟩
 have HP : Aside0 (W.heap[bp]? = some (.cells #[.slice A0_0 l0_0.length c0_0, .slice A0_1 l0_1.length c0_1] 32 (0, 0))) := ⟨by rw [hW, hbp, heap_alloc_old _ _ (by simp), heap_alloc_new]⟩
 rw [← hW, ← hbx, ← hbp]
 clear hW hbx hbp
 go_cut [7] (fun v7 wx => v7 = .string (lineS ((⟨#[32, 32]⟩ : ByteArray) ++ di) [rowW n]) ∧ Aside0 (Below W.heap.size W wx))
 case first =>
  have F0 := cellB (show W.cell? ⟨bx, 0, none⟩ = some (.int .i64 (n : Int)) from (zaY HX.out 0).trans rfl)
  refine wp_region_below (by kernel_rfl) (by kernel_rfl) ?_
  repeat (go_big_quiet_step ((first | (intro hC; with_reducible rfl) | (intro hC; go_at_call 16; refine (spec_l5dec.calls ki _ _ _ HKI.out).mono ?_; rintro e w' ⟨rfl, hb⟩; exact ⟨rfl, zcY hC hb⟩) | (intro hC; go_at_call 37; refine (spec_l5word.calls _ _ _ HW.out).mono ?_; rintro e w' ⟨rfl, hb⟩; exact ⟨rfl, zcY hC hb⟩) | (intro hC; simp [go_sem, F0 _ hC, z1, z2, z3]; with_reducible rfl))))
  refine wpQuiet_nil ?_
  intro W1 hW1
  go_wp2_with fail
  go_meet
  exact ⟨congrArg Value.string (ba_ext (by simp [lineS, ByteArray.data_append])), ⟨hW1⟩⟩
 case rest =>
 clear z1 z2 z3
 obtain ⟨rfl, HQ⟩ := hcut
 have x0 := zdY HQ.out (show W.cell? ⟨bx, 0, none⟩ = some (.int .i64 (n : Int)) from (zaY HX.out 0).trans rfl)
 go_upto_region 3 with (go_at_call 38; go_loud (refine (spec_l4row.calls _ s t l _ HR.out).mono ?_; rintro e w3 ⟨rfl, hb⟩; have HQ3 := amZ (zcY HQ.out hb); clear hb))
 clear x0
 have x0 := zdY HQ3.out (show W.cell? ⟨bx, 0, none⟩ = some (.int .i64 (n : Int)) from (zaY HX.out 0).trans rfl)
 have x1 := zdY HQ3.out (show W.cell? ⟨bx, 1, none⟩ = some (.int .i64 a) from (zaY HX.out 1).trans rfl)
 have x2 := zdY HQ3.out (show W.cell? ⟨bx, 2, none⟩ = some (.int .i64 b) from (zaY HX.out 2).trans rfl)
 have p0 := zdY HQ3.out (show W.cell? ⟨bp, 0, none⟩ = some (.slice A0_0 l0_0.length c0_0) from (zaY HP.out 0).trans rfl)
 obtain ⟨T, hT⟩ : ∃ T, T = lineS ((⟨#[32, 32]⟩ : ByteArray) ++ di) [rowW n] := ⟨_, rfl⟩
 have HT : Aside0 (T.size ≤ 40) := ⟨by rw [hT]; have := HSZ.out; have s1 : (⟨#[32]⟩ : ByteArray).size = 1 := rfl; have s2 : (⟨#[32, 32]⟩ : ByteArray).size = 2 := rfl; simp only [lineS, List.foldl_cons, List.foldl_nil, ByteArray.size_append]; omega⟩
 have HTT := amZ hT
 rw [← hT]
 clear hT
 by_cases hn0 : n = 0
 ·
  subst hn0
  obtain ⟨ca0, ca1⟩ := H0.out rfl
  obtain ⟨adk, Ak, ck, eA, cc0, cc1, cc2, hkl, hkc⟩ := at_T69 HR0.out a ca0 ca1
  subst eA
  have hm : rd_T69 l0_0 a ∈ l0_0 := by
   obtain ⟨m, hm⟩ := Int.eq_ofNat_of_zero_le ca0
   rw [hm, rdT48_nat l0_0 m (by omega)]
   exact List.getElem_mem _
  have hcm := HC.out _ hm
  have HE : Aside0 (insP qtL l0_0 ⟨((0 : Nat) : Int), a, b⟩ = rowW 0 :: (if (rd_T69 l0_0 a).f0 = true then [strOfNums (qtL (rd_T69 l0_0 a).f2)] else [decS (rd_T69 l0_0 a).f1])) := ⟨rfl⟩
  obtain ⟨cc, hcc⟩ : ∃ x, x = rd_T69 l0_0 a := ⟨_, rfl⟩
  rw [← hcc] at cc0 cc1 cc2 hkl hkc hcm HE
  clear hcc hm
  obtain ⟨g0, g1, g2⟩ := cc
  simp only at cc0 cc1 cc2 hkl hkc hcm HE
  have HBW := amZ (zcY HB.out HQ3.out)
  replace cc0 := zdY HBW.out cc0
  replace cc1 := zdY HBW.out cc1
  replace cc2 := zdY HBW.out cc2
  have HKL := amZ hkl
  have HKC := amZ (Kd.C_below hkc HBW.out)
  obtain ⟨hcn, hcl, hcb⟩ := hcm
  have dca : decide (a < (l0_0.length : Int)) = true := decide_eq_true ca1
  replace ca0 := eq_true ca0
  replace ca1 := eq_true ca1
  clear hkl hkc
  cases g0 with
  | true =>
   obtain ⟨kq, hkq⟩ := (QP.spec_ev g2 hcb (by omega)).rounds
   have HKQ : Aside0 (spec_QuoteText.f kq g2 = some (qtL g2)) := ⟨hkq⟩
   have zq : (strOfNums (qtL g2)).size ≤ 20002 := by rw [strOfNums_size]; have := QP.quoted_length g2; unfold qtL; omega
   have hE := HE.out
   rw [if_pos rfl] at hE
   obtain ⟨qs, hqs⟩ : ∃ x, x = strOfNums (qtL g2) := ⟨_, rfl⟩
   rw [← hqs] at zq hE
   have HQS := amZ hqs
   have HE2 := amZ hE
   have zz1 : (9223372036854775807 < T.size + 1) = False := noBig (by have := HT.out; omega)
   have zz2 : (9223372036854775807 < T.size + 1 + qs.size) = False := noBig (by have := HT.out; omega)
   have zz3 : (9223372036854775807 < T.size + 1 + qs.size + 1) = False := noBig (by have := HT.out; omega)
   have HB4 := amZ (HBW.out.alloc HBW.out.size (.cells #[.bool true, .int .i64 g1, .slice Ak g2.length ck] 69))
   clear hE hqs hkq hcn hcl hcb
   go_wp2_with (go_at_call 39; go_loud (refine (spec_QuoteText.calls kq Ak ck g2 (qtL g2) _ (Kd.C_alloc HKC.out _) HKL.out HKQ.out).mono ?_; rintro e w7 ⟨u, rfl, hu, hb⟩; obtain ⟨Aq, cq, rfl⟩ := Kd.R_slice hu; have kc : (convert 27 9 (.slice Aq (qtL g2).length cq)).run Tryd.prog w7 = .ok (.string qs) w7 := (Kd.C_string Tryd.underlying27 Tryd.underlying5 Tryd.underlying9 (Kd.R_reads' hu).2.2).trans (by rw [HQS.out]); have HB7 := amZ (zcY HB4.out hb); clear hb hu))
   go_ret
   refine ⟨congrArg (fun x => Ending.returned (.string x)) (ba_ext ?_), HB7.out⟩
   rw [HE2.out, HTT.out]
   simp [lineS, ByteArray.data_append]
  | false =>
   obtain ⟨kg, hkg⟩ := (dec_ev _ hcn).rounds
   have zq := decS_size hcn
   have hE := HE.out
   rw [if_neg (by simp)] at hE
   obtain ⟨qs, hqs⟩ : ∃ x, x = decS g1 := ⟨_, rfl⟩
   rw [← hqs] at zq hE hkg
   have HKG := amZ hkg
   have HE2 := amZ hE
   have zz1 : (9223372036854775807 < T.size + 1) = False := noBig (by have := HT.out; omega)
   have zz2 : (9223372036854775807 < T.size + 1 + qs.size) = False := noBig (by have := HT.out; omega)
   have zz3 : (9223372036854775807 < T.size + 1 + qs.size + 1) = False := noBig (by have := HT.out; omega)
   have HB4 := amZ (HBW.out.alloc HBW.out.size (.cells #[.bool false, .int .i64 g1, .slice Ak g2.length ck] 69))
   clear hE hqs hkg hcn hcl hcb
   go_wp2_with (go_at_call 16; go_loud (refine (spec_l5dec.calls kg _ _ _ HKG.out).mono ?_; rintro e w7 ⟨rfl, hb⟩; have HB7 := amZ (zcY HB4.out hb); clear hb))
   go_ret
   refine ⟨congrArg (fun x => Ending.returned (.string x)) (ba_ext ?_), HB7.out⟩
   rw [HE2.out, HTT.out]
   simp [lineS, ByteArray.data_append]
 ·
  have e0 : ((n : Int) == 0) = false := beq_eq_false_iff_ne.2 (by omega)
  have hs1 : decide ((0 : Int) < (s.size : Int)) = true := decide_eq_true (by omega)
  have hs2 : decide ((1 : Int) < (s.size : Int)) = true := decide_eq_true (by omega)
  have hs3 : decide (0 < s.size) = true := decide_eq_true (by omega)
  have hs4 : decide (1 < s.size) = true := decide_eq_true (by omega)
  have HE : Aside0 (insP qtL l0_0 ⟨(n : Int), a, b⟩ = rowW n :: ((if rowA n = 0 then [] else [decS a]) ++ (if rowB n = 0 then [] else [decS b]))) := ⟨by
   unfold insP argP
   rw [if_neg (by show ¬(n : Int) = 0; omega)]
   rfl⟩
  have zz1 : (9223372036854775807 < T.size + 1) = False := noBig (by have := HT.out; omega)
  have zz2 : (9223372036854775807 < 1 + da.size) = False := noBig (by have := HSZ.out; omega)
  have zz3 : (9223372036854775807 < 1 + db.size) = False := noBig (by have := HSZ.out; omega)
  have zz4 : (9223372036854775807 < T.size + (1 + da.size)) = False := noBig (by have := HSZ.out; have := HT.out; omega)
  have zz5 : (9223372036854775807 < T.size + (1 + db.size)) = False := noBig (by have := HSZ.out; have := HT.out; omega)
  have zz6 : (9223372036854775807 < T.size + (1 + da.size) + (1 + db.size)) = False := noBig (by have := HSZ.out; have := HT.out; omega)
  have zz7 : (9223372036854775807 < T.size + (1 + da.size) + 1) = False := noBig (by have := HSZ.out; have := HT.out; omega)
  have zz8 : (9223372036854775807 < T.size + (1 + db.size) + 1) = False := noBig (by have := HSZ.out; have := HT.out; omega)
  have zz9 : (9223372036854775807 < T.size + (1 + da.size) + (1 + db.size) + 1) = False := noBig (by have := HSZ.out; have := HT.out; omega)
  have hb0 : (((s[0]'(by omega)).toNat : Int)) = bt s 0 := by
   unfold bt
   rw [dif_pos (show (0 : Int).toNat < s.size by show 0 < s.size; omega)]
   rfl
  have hb1 : (((s[1]'(by omega)).toNat : Int)) = bt s 1 := by
   unfold bt
   rw [dif_pos (show (1 : Int).toNat < s.size by show 1 < s.size; omega)]
   rfl
  by_cases kka : rowA n = 0
  ·
   rw [if_pos kka] at b0
   have ea : (bt s 0 != 45) = false := by rw [b0]; rfl
   by_cases kkb : rowB n = 0
   ·
    rw [if_pos kkb] at b1
    have eb : (bt s 1 != 45) = false := by rw [b1]; rfl
    rw [← hb0] at ea
    rw [← hb1] at eb
    clear b0 b1 hb0 hb1
    go_wp2_with fail
    go_ret
    refine ⟨congrArg (fun x => Ending.returned (.string x)) (ba_ext ?_), zcY HB.out HQ3.out⟩
    rw [HE.out, HTT.out]
    simp [lineS, ByteArray.data_append, kka, kkb]
   ·
    rw [if_neg kkb] at b1
    have eb : (bt s 1 != 45) = true := by rw [b1]; exact bne_iff_ne.2 q2
    rw [← hb0] at ea
    rw [← hb1] at eb
    clear b0 b1 hb0 hb1
    go_wp2_with (go_at_call 16; go_loud (refine (spec_l5dec.calls kb _ _ _ HKB.out).mono ?_; rintro e w4 ⟨rfl, hb⟩; have HQ4 := amZ (zcY HQ3.out hb); clear hb))
    go_ret
    refine ⟨congrArg (fun x => Ending.returned (.string x)) (ba_ext ?_), zcY HB.out HQ4.out⟩
    rw [HE.out, HTT.out, ← HDB.out]
    simp [lineS, ByteArray.data_append, kka, kkb]
  ·
   rw [if_neg kka] at b0
   have ea : (bt s 0 != 45) = true := by rw [b0]; exact bne_iff_ne.2 q1
   by_cases kkb : rowB n = 0
   ·
    rw [if_pos kkb] at b1
    have eb : (bt s 1 != 45) = false := by rw [b1]; rfl
    rw [← hb0] at ea
    rw [← hb1] at eb
    clear b0 b1 hb0 hb1
    go_wp2_with (go_at_call 16; go_loud (refine (spec_l5dec.calls ka _ _ _ HKA.out).mono ?_; rintro e w4 ⟨rfl, hb⟩; have HQ4 := amZ (zcY HQ3.out hb); clear hb))
    go_ret
    refine ⟨congrArg (fun x => Ending.returned (.string x)) (ba_ext ?_), zcY HB.out HQ4.out⟩
    rw [HE.out, HTT.out, ← HDA.out]
    simp [lineS, ByteArray.data_append, kka, kkb]
   ·
    rw [if_neg kkb] at b1
    have eb : (bt s 1 != 45) = true := by rw [b1]; exact bne_iff_ne.2 q2
    rw [← hb0] at ea
    rw [← hb1] at eb
    clear b0 b1 hb0 hb1
    go_wp2_with (first | (go_at_call 16; go_loud (refine (spec_l5dec.calls ka _ _ _ HKA.out).mono ?_; rintro e w4 ⟨rfl, hb⟩; have x2' := zdY hb x2; have HQ4 := amZ (zcY HQ3.out hb); clear hb)) | (go_at_call 16; go_loud (refine (spec_l5dec.calls kb _ _ _ HKB.out).mono ?_; rintro e w5 ⟨rfl, hb⟩; have HQ5 := amZ (zcY HQ4.out hb); clear hb)))
    go_ret
    refine ⟨congrArg (fun x => Ending.returned (.string x)) (ba_ext ?_), zcY HB.out HQ5.out⟩
    rw [HE.out, HTT.out, ← HDA.out, ← HDB.out]
    simp [lineS, ByteArray.data_append, kka, kkb]
end Go.Proofs.YtmmpiojekgfdjaaDoor.C
