/- The specification lists: the walk. -/
import Derived.Test.YtmmpiojekgfdjaaDoorZpBl
import Derived.Test.YtmmpiojekgfdjaaDoorZpK
namespace Go.Proofs.YtmmpiojekgfdjaaDoor.C
open Go.RowKit YtmmpiojekgfdjaaDoorW.PrintWords YtmmpiojekgfdjaaDoorW.PrintLast
set_option linter.unusedVariables false
set_option linter.unusedSimpArgs false
theorem bytesOf_str {xs : List Int} (h : BytL xs) : bytesOf (strOfNums xs) = xs := by
 unfold bytesOf
 rw [strOfNums_data, List.map_map]
 refine (List.map_congr_left fun x hx => ?_).trans (List.map_id _)
 have := h x hx
 simp
 omega
set_option maxHeartbeats 40000000 in
set_option maxRecDepth 100000 in
theorem spec_ListProgram.calls (A0_0 : Option Addr) (c0_0 : Nat) (l0_0 : List S69) (A0_1 : Option Addr) (c0_1 : Nat) (l0_1 : List S45) (r : Bool) (w : World) (hr0_0 : Kd.C k69 w A0_0 l0_0.length l0_0) (hc0_0 : l0_0.length ≤ c0_0)
  (hr0_1 : Kd.C k45 w A0_1 l0_1.length l0_1) (hc0_1 : l0_1.length ≤ c0_1) (hck : ∃ k, spec_Check.f k l0_0 l0_1 = some r) (hg : r = true → GoodP qtL l0_0 l0_1) (hsp : r = true → SpecP qtL l0_0 l0_1) :
  Calls Tryd.prog 5 #[.agg #[.slice A0_0 l0_0.length c0_0, .slice A0_1 l0_1.length c0_1]] w fun e w' => ∃ A c, e = .returned (.slice A (impl_ListProgram.f qtL l0_0 l0_1 r).length c) ∧ Kd.R (Kd.int .u8) 5 w' w.heap.size (fun _ => True) (.slice A (impl_ListProgram.f qtL l0_0 l0_1 r).length c) (impl_ListProgram.f qtL l0_0 l0_1 r) ∧ Below w.heap.size w w' := by
 obtain ⟨kk, hck⟩ := hck
 have HR0 := amZ hr0_0
 have HC0 := amZ hc0_0
 have HR1 := amZ hr0_1
 have HC1 := amZ hc0_1
 have HCK := amZ hck
 have hu32 := Tryd.underlying32
 have HG := amZ hg
 have HSP := amZ hsp
 clear hr0_0 hc0_0 hr0_1 hc0_1 hck hg hsp
 have HB0 : Aside0 (Below w.heap.size w (w.alloc (.cells #[.slice A0_0 l0_0.length c0_0, .slice A0_1 l0_1.length c0_1] 32))) := ⟨(Below.refl _ _).alloc (Nat.le_refl _) _⟩
 cases r with
 | false =>
  go_enter Tryd.func5, Tryd.ntmps5
  go_wp2_with (go_at_call 15; go_loud (refine (spec_Check.calls kk A0_0 c0_0 l0_0 A0_1 c0_1 l0_1 false _ (Kd.C_alloc HR0.out _) HC0.out (Kd.C_alloc HR1.out _) HC1.out HCK.out).mono ?_; rintro e w1 ⟨rfl, hb⟩; have HB1 := amZ (zcY HB0.out hb); clear hb))
  go_ret
  exact ⟨none, 0, rfl, Kd.R_nil _ _ _ _ _, HB1.out⟩
 | true =>
  have HGP := amZ (HG.out rfl)
  have HS := amZ (HSP.out rfl)
  clear HG HSP
  go_enter Tryd.func5, Tryd.ntmps5
  go_wp2_with (go_at_call 15; go_loud (refine (spec_Check.calls kk A0_0 c0_0 l0_0 A0_1 c0_1 l0_1 true _ (Kd.C_alloc HR0.out _) HC0.out (Kd.C_alloc HR1.out _) HC1.out HCK.out).mono ?_; rintro e w1 ⟨rfl, hb⟩; have HW1 : Aside0 (SW w none 0 [] [(w.heap.size, #[.slice A0_0 l0_0.length c0_0, .slice A0_1 l0_1.length c0_1], 32)] w1) := ⟨⟨zcY HB0.out hb, Kd.R_nil _ _ _ _ _, fun q hq => by obtain rfl := List.mem_singleton.1 hq; exact ⟨(hb.block _ (by simp)).trans (heap_alloc_new _ _), by show (32 : Nat) ≠ 5; decide⟩⟩⟩; clear hb))
  clear HB0
  go_loopg [4, 3] l0_1.length (fun gq v4 v3 wr => ∃ (j : Nat) (done : List Int) (A : Option Addr) (c : Nat), v4 = .int .i64 (j : Int) ∧ v3 = .slice A done.length c ∧ Aside0 (j + gq = l0_1.length) ∧ Aside0 (done ++ listL qtL l0_0 j (l0_1.drop j) = listL qtL l0_0 0 l0_1) ∧ Aside0 (SW w A c done [(w.heap.size, #[.slice A0_0 l0_0.length c0_0, .slice A0_1 l0_1.length c0_1], 32)] wr))
  case atStart => exact ⟨0, [], none, 0, rfl, rfl, ⟨by omega⟩, ⟨by simp⟩, HW1⟩
  case round =>
   clear HW1
   obtain ⟨j, done, A, c, rfl, rfl, hj, hi, HL⟩ := hrel
   have y1 : wr.cell? ⟨w.heap.size, 1, none⟩ = some (.slice A0_1 l0_1.length c0_1) := (HL.out.cell _ List.mem_cons_self 1).trans rfl
   by_cases hlt : j < l0_1.length
   ·
    have p0 : 0 ≤ (j : Int) := by omega
    have q0 : (j : Int) < (l0_1.length : Int) := by omega
    obtain ⟨adp, B2, e2, B3, e3, eA, c0, c1, c2, c3, hl2, hi2, hl3, hi3⟩ := at_T45 HR1.out (j : Int) p0 q0
    cases eA
    rw [rdT52_nat l0_1 j hlt, Int.toNat_natCast] at c0 c1 c2 c3
    rw [rdT52_nat l0_1 j hlt] at hl2 hi2 hl3 hi3
    have HGF := amZ (HGP.out.p _ (List.getElem_mem hlt))
    obtain ⟨f, hf⟩ : ∃ f, f = l0_1[j] := ⟨_, rfl⟩
    rw [← hf] at c0 c1 c2 c3 hl2 hi2 hl3 hi3 HGF
    have hd : l0_1.drop j = f :: l0_1.drop (j + 1) := by rw [List.drop_eq_getElem_cons hlt, hf]
    have HI : Aside0 (done ++ (funcL qtL l0_0 j f ++ listL qtL l0_0 (j + 1) (l0_1.drop (j + 1))) = listL qtL l0_0 0 l0_1) := ⟨by have := hi.out; rw [hd] at this; exact this⟩
    clear hd hi
    replace c0 := zdY HL.out.b0 c0
    replace c1 := zdY HL.out.b0 c1
    replace c2 := zdY HL.out.b0 c2
    replace c3 := zdY HL.out.b0 c3
    have HI2 := amZ hi2
    have HL2 := amZ hl2
    have HI3 := amZ hi3
    have HL3 := amZ hl3
    clear hf hi2 hl2 hl3 hi3
    obtain ⟨f0, f1, f2, f3⟩ := f
    simp only at c0 c1 c2 c3 HI HI2 HL2 HI3 HL3 HGF
    have dl : decide ((j : Int) < (l0_1.length : Int)) = true := decide_eq_true q0
    have dn : decide (j < l0_1.length) = true := decide_eq_true hlt
    have HLT := amZ hlt
    replace p0 := eq_true p0
    replace q0 := eq_true q0
    have HJ : Aside0 (IntOK (j : Int)) := ⟨by have := HGP.out.n; unfold IntOK; omega⟩
    obtain ⟨kj, hkj⟩ := HS.out.dec _ HJ.out
    obtain ⟨k0, hk0⟩ := HS.out.dec _ HGF.out.1
    obtain ⟨k1, hk1⟩ := HS.out.dec _ HGF.out.2.1
    have hzj := decS_size HJ.out
    have hz0 := decS_size HGF.out.1
    have hz1 := decS_size HGF.out.2.1
    have HHD : Aside0 ([decS j, decS f0, decS f1] ++ f2.map capW = headP j ⟨f0, f1, f2, f3⟩) := ⟨rfl⟩
    obtain ⟨dj, hdj⟩ : ∃ d, d = decS (j : Int) := ⟨_, rfl⟩
    obtain ⟨d0, hd0⟩ : ∃ d, d = decS f0 := ⟨_, rfl⟩
    obtain ⟨d1, hd1⟩ : ∃ d, d = decS f1 := ⟨_, rfl⟩
    rw [← hdj] at hkj hzj HHD
    rw [← hd0] at hk0 hz0 HHD
    rw [← hd1] at hk1 hz1 HHD
    clear hdj hd0 hd1
    have HKJ := amZ hkj
    have HK0 := amZ hk0
    have HK1 := amZ hk1
    have z1 : (9223372036854775807 < 9 + dj.size) = False := eq_false (by omega)
    have z2 : (9223372036854775807 < 9 + dj.size + 1) = False := eq_false (by omega)
    have z3 : (9223372036854775807 < 9 + dj.size + 1 + d0.size) = False := eq_false (by omega)
    have z4 : (9223372036854775807 < 9 + dj.size + 1 + d0.size + 1) = False := eq_false (by omega)
    have z5 : (9223372036854775807 < 9 + dj.size + 1 + d0.size + 1 + d1.size) = False := eq_false (by omega)
    clear hkj hk0 hk1 hzj hz0 hz1
    go_upto_region 8 with (fail)
    obtain ⟨W, hW⟩ : ∃ W, W = wr.alloc (.cells #[.int .i64 f0, .int .i64 f1, .slice B2 f2.length e2, .slice B3 f3.length e3] 45) := ⟨_, rfl⟩
    obtain ⟨bf, hbf⟩ : ∃ n, n = wr.heap.size := ⟨_, rfl⟩
    have HX : Aside0 (SW w A c done [(bf, #[.int .i64 f0, .int .i64 f1, .slice B2 f2.length e2, .slice B3 f3.length e3], 45), (w.heap.size, #[.slice A0_0 l0_0.length c0_0, .slice (some adp) l0_1.length c0_1], 32)] W) := ⟨by rw [hW, hbf]; exact (HL.out.alloc _).add _ _ _ (heap_alloc_new _ _) (by decide)⟩
    simp only [← hW, ← hbf]
    clear hW hbf c0 c1 c2 c3 HL y1
    have HK : Aside0 (∃ K, K = ([(bf, #[.int .i64 f0, .int .i64 f1, .slice B2 f2.length e2, .slice B3 f3.length e3], 45), (w.heap.size, #[.slice A0_0 l0_0.length c0_0, .slice (some adp) l0_1.length c0_1], 32)] : List (Nat × Array Value × TypeId))) := ⟨⟨_, rfl⟩⟩
    obtain ⟨K, hK⟩ := HK.out
    rw [← hK] at HX
    have HKK := amZ hK
    clear hK HK
    go_cut [6] (fun v6 wx => v6 = .string (lineS wordFn [dj, d0, d1]) ∧ Aside0 (SW w A c done K wx))
    case first =>
     have F0 := cellB (show W.cell? ⟨bf, 0, none⟩ = some (.int .i64 f0) from (HX.out.cell _ (by rw [HKK.out]; exact List.mem_cons_self) 0).trans rfl)
     have F1 := cellB (show W.cell? ⟨bf, 1, none⟩ = some (.int .i64 f1) from (HX.out.cell _ (by rw [HKK.out]; exact List.mem_cons_self) 1).trans rfl)
     refine wp_region_below (by kernel_rfl) (by kernel_rfl) ?_
     repeat (go_big_quiet_step ((first | (intro hC; with_reducible rfl) | (intro hC; go_at_call 16; (first | refine (spec_l5dec.calls kj _ _ _ HKJ.out).mono ?_ | refine (spec_l5dec.calls k0 _ _ _ HK0.out).mono ?_ | refine (spec_l5dec.calls k1 _ _ _ HK1.out).mono ?_); rintro e w' ⟨rfl, hb⟩; exact ⟨rfl, zcY hC hb⟩) | (intro hC; simp [go_sem, F0 _ hC, F1 _ hC, z1, z2, z3, z4, z5]; with_reducible rfl))))
     refine wpQuiet_nil ?_
     intro W1 hW1
     go_wp2_with fail
     go_meet
     exact ⟨by rw [← head_eq], ⟨HX.out.below hW1⟩⟩
    case rest =>
     clear HX z1 z2 z3 z4 z5
     obtain ⟨rfl, HX⟩ := hcut
     go_wp2_with fail
     go_loopg [7, 6] f2.length (fun gq v7 v6 wx => ∃ (i : Nat) (pts : List ByteArray), v7 = .int .i64 (i : Int) ∧ v6 = .string (lineS wordFn pts) ∧ Aside0 (i + gq = f2.length) ∧ Aside0 (pts ++ (f2.drop i).map capW = headP j ⟨f0, f1, f2, f3⟩) ∧ Aside0 (SW w A c done K wx))
     case atStart => exact ⟨0, _, rfl, rfl, ⟨by omega⟩, ⟨by rw [List.drop_zero]; exact HHD.out⟩, HX⟩
     case round =>
      clear HX HHD
      obtain ⟨i, pts, rfl, rfl, hi1, hpt, HX⟩ := hrel
      have HTOT : Aside0 (done.length + (lineS wordFn (headP j ⟨f0, f1, f2, f3⟩)).size + 1 ≤ 100000000000) := ⟨by
       have h1 := congrArg List.length HI.out
       have h2 := HGP.out.t
       unfold funcL at h1
       rw [lineL_of] at h1
       simp only [List.length_append, bytesOf_length, List.length_singleton] at h1
       omega⟩
      have x2 : wr.cell? ⟨bf, 2, none⟩ = some (.slice B2 f2.length e2) := (HX.out.cell (bf, #[.int .i64 f0, .int .i64 f1, .slice B2 f2.length e2, .slice B3 f3.length e3], 45) (by rw [HKK.out]; exact List.mem_cons_self) 2).trans rfl
      by_cases hlt1 : i < f2.length
      ·
       have p1 : 0 ≤ (i : Int) := by omega
       have q1 : (i : Int) < (f2.length : Int) := by omega
       obtain ⟨adc, eA, u0, u1⟩ := at_T48 HI2.out (i : Int) p1 q1
       cases eA
       rw [rdT54_nat f2 i hlt1, Int.toNat_natCast] at u0 u1
       replace u0 := zdY HX.out.b0 u0
       replace u1 := zdY HX.out.b0 u1
       have HGC := amZ (HGF.out.2.2.2.2.1 _ (List.getElem_mem hlt1))
       have hd1 : f2.drop i = f2[i] :: f2.drop (i + 1) := List.drop_eq_getElem_cons hlt1
       obtain ⟨cp, hcp⟩ : ∃ x, x = f2[i] := ⟨_, rfl⟩
       rw [← hcp] at u0 u1 HGC hd1
       have HPT : Aside0 ((pts ++ [capW cp]) ++ (f2.drop (i + 1)).map capW = headP j ⟨f0, f1, f2, f3⟩) := ⟨by have := hpt.out; rw [hd1, List.map_cons] at this; rw [List.append_assoc]; exact this⟩
       clear hcp hd1
       have HLS : Aside0 ((lineS wordFn pts).size ≤ 100000000000) := ⟨by have h1 := lineS_le wordFn pts ((f2.drop i).map capW); rw [hpt.out] at h1; have := HTOT.out; omega⟩
       clear hpt
       obtain ⟨kb, k1⟩ := cp
       simp only at u0 u1 HGC HPT
       have dl1 : decide ((i : Int) < (f2.length : Int)) = true := decide_eq_true q1
       have dn1 : decide (i < f2.length) = true := decide_eq_true hlt1
       have HLT1 := amZ hlt1
       replace p1 := eq_true p1
       replace q1 := eq_true q1
       obtain ⟨kc, hkc⟩ := HS.out.dec _ HGC.out
       have hz0 := decS_size HGC.out
       obtain ⟨d, hd⟩ : ∃ d, d = decS k1 := ⟨_, rfl⟩
       have HDD := amZ hd
       rw [← hd] at hkc hz0
       have HKC := amZ hkc
       have HZS : Aside0 (d.size ≤ 21 ∧ (lineS wordFn pts).size ≤ 100000000000) := ⟨⟨hz0, HLS.out⟩⟩
       clear hd hkc hz0 hlt1
       cases kb with
       | true =>
        have hzz := HZS.out
        have hza : (3 + d.size ≤ 9223372036854775807) = True := eq_true (by omega)
        have hzb : (9223372036854775807 < 3 + d.size) = False := eq_false (by omega)
        have hzc : (9223372036854775807 < (lineS wordFn pts).size + (3 + d.size)) = False := eq_false (by omega)
        have hzd : decide (3 + d.size ≤ 9223372036854775807) = true := decide_eq_true (by omega)
        have hze : ((lineS wordFn pts).size + (3 + d.size) ≤ 9223372036854775807) = True := eq_true (by omega)
        have hzf : decide ((lineS wordFn pts).size + (3 + d.size) ≤ 9223372036854775807) = true := decide_eq_true (by omega)
        clear hzz
        go_wp2_with (go_at_call 16; go_loud (refine (spec_l5dec.calls kc _ _ _ HKC.out).mono ?_; rintro e wn ⟨rfl, hb⟩; have HZ := amZ (HX.out.below hb); clear hb))
        go_roundg (f2.length - (i + 1))
        case measure => have := hi1.out; have := HLT1.out; omega
        case rel => exact ⟨i + 1, pts ++ [capW ⟨true, k1⟩], i64_next HLT1.out (by have := HGF.out.2.2.1; omega), by rw [lineS_snoc, ← cap_eq, ← HDD.out]; rfl, ⟨by have := HLT1.out; omega⟩, HPT, HZ⟩
       | false =>
        have hzz := HZS.out
        have hza : (5 + d.size ≤ 9223372036854775807) = True := eq_true (by omega)
        have hzb : (9223372036854775807 < 5 + d.size) = False := eq_false (by omega)
        have hzc : (9223372036854775807 < (lineS wordFn pts).size + (5 + d.size)) = False := eq_false (by omega)
        have hzd : decide (5 + d.size ≤ 9223372036854775807) = true := decide_eq_true (by omega)
        have hze : ((lineS wordFn pts).size + (5 + d.size) ≤ 9223372036854775807) = True := eq_true (by omega)
        have hzf : decide ((lineS wordFn pts).size + (5 + d.size) ≤ 9223372036854775807) = true := decide_eq_true (by omega)
        clear hzz
        go_wp2_with (go_at_call 16; go_loud (refine (spec_l5dec.calls kc _ _ _ HKC.out).mono ?_; rintro e wn ⟨rfl, hb⟩; have HZ := amZ (HX.out.below hb); clear hb))
        go_roundg (f2.length - (i + 1))
        case measure => have := hi1.out; have := HLT1.out; omega
        case rel => exact ⟨i + 1, pts ++ [capW ⟨false, k1⟩], i64_next HLT1.out (by have := HGF.out.2.2.1; omega), by rw [lineS_snoc, ← cap_eq, ← HDD.out]; rfl, ⟨by have := HLT1.out; omega⟩, HPT, HZ⟩
      ·
       have dl1 : decide ((i : Int) < (f2.length : Int)) = false := decide_eq_false (by omega)
       have dn1 : decide (i < f2.length) = false := decide_eq_false hlt1
       have hpe : pts = headP j ⟨f0, f1, f2, f3⟩ := by have := hpt.out; rwa [List.drop_eq_nil_of_le (by omega), List.map_nil, List.append_nil] at this
       have HPE := amZ hpe
       clear hpe hpt hi1 hlt1
       have HTT : Aside0 (done.length + (lineS wordFn pts).size + 1 ≤ 100000000000) := ⟨by rw [HPE.out]; exact HTOT.out⟩
       have HI1 : Aside0 (((done ++ bytesOf (lineS wordFn pts)) ++ [10]) ++ (codeL qtL l0_0 0 f3 ++ listL qtL l0_0 (j + 1) (l0_1.drop (j + 1))) = listL qtL l0_0 0 l0_1) := ⟨by have := HI.out; unfold funcL at this; rw [← HPE.out, lineL_of] at this; simpa only [List.append_assoc] using this⟩
       go_wp2_with (first
        | (at_builtin; go_loud (refine SW.str_list HX.out (lineS wordFn pts) (by have := HTT.out; omega) rfl (.tmp 70) (.tmp 71) rfl rfl rfl ?_; intro A4 c4 w4 h4; obtain ⟨ys, hys⟩ : ∃ l, l = done ++ bytesOf (lineS wordFn pts) := ⟨_, rfl⟩; rw [← hys] at h4; rw [← hys]; have HYS := amZ hys; clear hys; have H4 := amZ h4; clear h4))
        | (at_builtin; go_loud (refine SW.byte_list H4.out 10 (by have := HTT.out; rw [HYS.out, List.length_append, bytesOf_length]; omega) rfl (.tmp 73) (.tmp 74) rfl rfl rfl ?_; intro A5 c5 w5 h5; obtain ⟨zs, hzs⟩ : ∃ l, l = ys ++ [(10 : Int)] := ⟨_, rfl⟩; rw [← hzs] at h5; rw [← hzs]; have HZS := amZ hzs; clear hzs; have H5 := amZ h5; clear h5)))
       clear HX HTT HTOT HPE x2
       go_loopg [8, 3] f3.length (fun gq v8 v3 wx => ∃ (i : Nat) (d2 : List Int) (A : Option Addr) (c : Nat), v8 = .int .i64 (i : Int) ∧ v3 = .slice A d2.length c ∧ Aside0 (i + gq = f3.length) ∧ Aside0 (d2 ++ (codeL qtL l0_0 i (f3.drop i) ++ listL qtL l0_0 (j + 1) (l0_1.drop (j + 1))) = listL qtL l0_0 0 l0_1) ∧ Aside0 (SW w A c d2 K wx))
       case atStart => exact ⟨0, _, A5, c5, rfl, rfl, ⟨by omega⟩, ⟨by rw [List.drop_zero, HZS.out, HYS.out]; exact HI1.out⟩, H5⟩
       case round =>
        clear H4 H5 HI1 HI HZS HYS
        obtain ⟨i2, d2, A6, c6, rfl, rfl, hi2, hdn, HX⟩ := hrel
        have x3 : wr.cell? ⟨bf, 3, none⟩ = some (.slice B3 f3.length e3) := (HX.out.cell (bf, #[.int .i64 f0, .int .i64 f1, .slice B2 f2.length e2, .slice B3 f3.length e3], 45) (by rw [HKK.out]; exact List.mem_cons_self) 3).trans rfl
        by_cases hlt2 : i2 < f3.length
        ·
         have p2 : 0 ≤ (i2 : Int) := by omega
         have q2 : (i2 : Int) < (f3.length : Int) := by omega
         obtain ⟨adi, eA, u0, u1, u2⟩ := at_T51 HI3.out (i2 : Int) p2 q2
         cases eA
         rw [rdT57_nat f3 i2 hlt2, Int.toNat_natCast] at u0 u1 u2
         have hgi := HGF.out.2.2.2.2.2 _ (List.getElem_mem hlt2)
         have HI20 : Aside0 (i2 ≤ 20000) := ⟨by have := HGF.out.2.2.2.1; omega⟩
         have hd2 : f3.drop i2 = f3[i2] :: f3.drop (i2 + 1) := List.drop_eq_getElem_cons hlt2
         obtain ⟨xi, hxi⟩ : ∃ x, x = f3[i2] := ⟨_, rfl⟩
         rw [← hxi] at u0 u1 u2 hgi hd2
         have HI2N : Aside0 ((d2 ++ insL qtL l0_0 i2 xi) ++ (codeL qtL l0_0 (i2 + 1) (f3.drop (i2 + 1)) ++ listL qtL l0_0 (j + 1) (l0_1.drop (j + 1))) = listL qtL l0_0 0 l0_1) := ⟨by have := hdn.out; rw [hd2] at this; simpa only [codeL, List.append_assoc] using this⟩
         clear hxi hd2 hdn
         have HIB : Aside0 (BytL (insL qtL l0_0 i2 xi)) := ⟨fun z hz => HGP.out.b z (by rw [← HI2N.out]; simp [hz])⟩
         have HIS : Aside0 (d2.length + (insL qtL l0_0 i2 xi).length ≤ 100000000000) := ⟨by have h1 := congrArg List.length HI2N.out; have h2 := HGP.out.t; simp only [List.length_append] at h1; omega⟩
         obtain ⟨op, xa, xb⟩ := xi
         simp only at u0 u1 u2 hgi
         obtain ⟨n, rfl⟩ : ∃ n : Nat, op = (n : Int) := ⟨op.toNat, by omega⟩
         have HGI := amZ hgi
         clear hgi
         obtain ⟨tx, htx⟩ : ∃ t, t = insL qtL l0_0 i2 ⟨(n : Int), xa, xb⟩ := ⟨_, rfl⟩
         rw [← htx] at HI2N HIB HIS
         have HTX := amZ htx
         clear htx
         obtain ⟨ts, hts⟩ : ∃ t, t = strOfNums tx := ⟨_, rfl⟩
         have HTS : Aside0 (bytesOf ts = tx) := ⟨by rw [hts, bytesOf_str HIB.out]⟩
         have HTZ : Aside0 (ts.size = tx.length) := ⟨by rw [hts, strOfNums_size]⟩
         have HKL : Aside0 (strOfNums (insL qtL l0_0 i2 ⟨(n : Int), xa, xb⟩) = ts) := ⟨by rw [hts, HTX.out]⟩
         clear hts
         have dl2 : decide ((i2 : Int) < (f3.length : Int)) = true := decide_eq_true q2
         have dn2 : decide (i2 < f3.length) = true := decide_eq_true hlt2
         have HLT2 := amZ hlt2
         replace p2 := eq_true p2
         replace q2 := eq_true q2
         clear hlt2
         go_upto_region 20 with (fail)
         have HXd := amZ HX.out.drew
         clear HX x3
         replace u0 := zdY HXd.out.b0 u0
         replace u1 := zdY HXd.out.b0 u1
         replace u2 := zdY HXd.out.b0 u2
         have x3 : wr.drew.cell? ⟨bf, 3, none⟩ = some (.slice (some adi) f3.length e3) := (HXd.out.cell (bf, #[.int .i64 f0, .int .i64 f1, .slice B2 f2.length e2, .slice (some adi) f3.length e3], 45) (by rw [HKK.out]; exact List.mem_cons_self) 3).trans rfl
         have y0 : wr.drew.cell? ⟨w.heap.size, 0, none⟩ = some (.slice A0_0 l0_0.length c0_0) := (HXd.out.cell (w.heap.size, #[.slice A0_0 l0_0.length c0_0, .slice (some adp) l0_1.length c0_1], 32) (by rw [HKK.out]; simp) 0).trans rfl
         have y1 : wr.drew.cell? ⟨w.heap.size, 1, none⟩ = some (.slice (some adp) l0_1.length c0_1) := (HXd.out.cell (w.heap.size, #[.slice A0_0 l0_0.length c0_0, .slice (some adp) l0_1.length c0_1], 32) (by rw [HKK.out]; simp) 1).trans rfl
         go_region_law (first | (go_simp; go_at_call 17; refine (line17_calls A0_0 c0_0 l0_0 (some adp) c0_1 l0_1 i2 n xa xb _ (Kd.C_below HR0.out HXd.out.b0) (by have := HGI.out.2.1; omega) HI20.out HGI.out.2.2.1 HGI.out.2.2.2.1 (fun e => HGI.out.2.2.2.2 (by omega)) HS.out.cst).mono ?_; rintro e wn ⟨rfl, hb⟩; rw [HKL.out]; have HY := amZ (HXd.out.below hb); clear hb) | (refine SW.str_step HY.out ts (by have := HIS.out; have := HTZ.out; omega) rfl (.tmp 83) (.tmp 91) rfl rfl rfl ?_; intro A7 c7 w7 h7; obtain ⟨ys, hys⟩ : ∃ l, l = d2 ++ bytesOf ts := ⟨_, rfl⟩; rw [← hys] at h7; rw [← hys]; have HYS := amZ hys; clear hys; have H7 := amZ h7; clear h7))
         all_goals (
          go_wp2_with fail
          go_roundg (f3.length - (i2 + 1))
          case measure => have := hi2.out; have := HLT2.out; omega
          case rel => exact ⟨i2 + 1, ys, A7, c7, i64_next HLT2.out (by have := HGF.out.2.2.2.1; omega), rfl, ⟨by have := HLT2.out; omega⟩, ⟨by rw [HYS.out, HTS.out]; exact HI2N.out⟩, H7⟩)
        ·
         have dl2 : decide ((i2 : Int) < (f3.length : Int)) = false := decide_eq_false (by omega)
         have dn2 : decide (i2 < f3.length) = false := decide_eq_false hlt2
         have HD2 : Aside0 (d2 ++ listL qtL l0_0 (j + 1) (l0_1.drop (j + 1)) = listL qtL l0_0 0 l0_1) := ⟨by have := hdn.out; rw [List.drop_eq_nil_of_le (by omega)] at this; exact this⟩
         clear hdn
         go_wp2_with fail
         go_roundg (l0_1.length - (j + 1))
         case measure => have := hj.out; have := HLT.out; omega
         case rel => exact ⟨j + 1, d2, A6, c6, i64_next HLT.out (by have := HGP.out.n; omega), rfl, ⟨by have := HLT.out; omega⟩, HD2, ⟨HX.out.less (fun q hq => by rw [HKK.out]; exact List.mem_cons_of_mem _ hq)⟩⟩
   ·
    have dl : decide ((j : Int) < (l0_1.length : Int)) = false := decide_eq_false (by omega)
    have dn : decide (j < l0_1.length) = false := decide_eq_false hlt
    have hde : done = listL qtL l0_0 0 l0_1 := by have := hi.out; rw [List.drop_eq_nil_of_le (by omega)] at this; simpa [listL] using this
    have hf : impl_ListProgram.f qtL l0_0 l0_1 true = done := by unfold impl_ListProgram.f; rw [if_pos rfl, hde]
    have HF := amZ hf
    clear hde hi hlt hf
    go_wp2_with fail
    go_ret
    rw [HF.out]
    exact ⟨_, _, rfl, HL.out.r, HL.out.b0⟩
end Go.Proofs.YtmmpiojekgfdjaaDoor.C
