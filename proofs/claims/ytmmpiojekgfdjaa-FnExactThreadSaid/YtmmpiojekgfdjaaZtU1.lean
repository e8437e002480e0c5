/- The copy of a program. -/
import Derived.Test.YtmmpiojekgfdjaaZtU0
import Derived.Test.YtmmpiojekgfdjaaZtK
namespace Go.Proofs.Ytmmpiojekgfdjaa.C
open Go.RowKit YtmmpiojekgfdjaaW.PrintWords YtmmpiojekgfdjaaW.PrintLast
set_option linter.unusedVariables false
set_option linter.unusedSimpArgs false
set_option maxHeartbeats 8000000 in
set_option maxRecDepth 100000 in
theorem cloned_calls (A0 A1 : Option Addr) (c0 c1 : Nat) (cs : List S48) (ps : List S52) (w : World) (hr0 : Kd.C k48 w A0 cs.length cs) (hr1 : Kd.C k52 w A1 ps.length ps) (hf : FineP cs ps) :
  Calls Try.prog 46 #[.agg #[.slice A0 cs.length c0, .slice A1 ps.length c1]] w fun e w' => ∃ v0 v1, e = .returned (.agg #[v0, v1]) ∧ Kd.S k48 48 w' w.heap.size (fun _ => True) v0 cs ∧ Kd.S k52 52 w' w.heap.size (fun _ => True) v1 ps ∧ Below w.heap.size w w' := by
 have HB := amZ (znY (znY (Below.refl w.heap.size w) (.cells #[.slice A0 cs.length c0, .slice A1 ps.length c1] 31)) (.cells #[.slice none 0 0, .slice none 0 0] 31))
 have HR0 := amZ hr0
 have HR1 := amZ hr1
 have HF := amZ hf
 have hp : ((w.alloc (.cells #[.slice A0 cs.length c0, .slice A1 ps.length c1] 31)).alloc (.cells #[.slice none 0 0, .slice none 0 0] 31)).heap[w.heap.size]? = some (.cells #[.slice A0 cs.length c0, .slice A1 ps.length c1] 31 (0, 0)) := by rw [heap_alloc_old _ _ (by simp), heap_alloc_new]
 have hq : ((w.alloc (.cells #[.slice A0 cs.length c0, .slice A1 ps.length c1] 31)).alloc (.cells #[.slice none 0 0, .slice none 0 0] 31)).heap[w.heap.size + 1]? = some (.cells #[.slice none 0 0, .slice none 0 0] 31 (0, 0)) := by rw [show w.heap.size + 1 = (w.alloc (.cells #[.slice A0 cs.length c0, .slice A1 ps.length c1] 31)).heap.size by simp, heap_alloc_new]
 have HP := amZ hp
 have HQ := amZ hq
 clear hr0 hr1 hf hp hq
 go_enter Try.func46, Try.ntmps46
 go_upto_region 1 with (fail)
 obtain ⟨W, hW⟩ : ∃ W, W = (w.alloc (.cells #[.slice A0 cs.length c0, .slice A1 ps.length c1] 31)).alloc (.cells #[.slice none 0 0, .slice none 0 0] 31) := ⟨_, rfl⟩
 rw [← hW] at HB HP HQ
 rw [← hW]
 clear hW
 go_cut [3] (fun s3 wx => ∃ (b3 : Nat) (B0 : Option Addr) (d0 : Nat) (B1 : Option Addr) (d1 : Nat) (ys zs : List (List Value)), s3 = .pointer (some ⟨b3, 0, none⟩) ∧ Aside0 (ClW w b3 (.slice B0 cs.length d0) (.slice B1 ps.length d1) (ys.map .inr) (zs.map .inr) wx) ∧ Aside0 (ys.length = cs.length ∧ ∀ (j : Nat) (x : S48), cs[j]? = some x → ∃ c, ys[j]? = some c ∧ k48.K w x c) ∧ Aside0 (zs.length = ps.length ∧ ∀ (j : Nat) (x : S52), ps[j]? = some x → ∃ c, zs[j]? = some c ∧ k52.K w x c))
 case first =>
  have p0 : W.cell? ⟨w.heap.size, 0, none⟩ = some (.slice A0 cs.length c0) := (zaY HP.out 0).trans rfl
  have p1 : W.cell? ⟨w.heap.size, 1, none⟩ = some (.slice A1 ps.length c1) := (zaY HP.out 1).trans rfl
  have HV := amZ (Below.refl W.heap.size W)
  have p0d := fun o_ => zgY (znY (Below.refl W.heap.size W) o_) (show W.cell? ⟨w.heap.size, 0, none⟩ = some (.slice A0 cs.length c0) from p0)
  have p1d := fun o_ => zgY (znY (Below.refl W.heap.size W) o_) (show W.cell? ⟨w.heap.size, 1, none⟩ = some (.slice A1 ps.length c1) from p1)
  go_region_with (first | (go_at_call 72; refine Calls.mono (cloneConst_calls A0 c0 cs w _ HR0.out ?_ HF.out.1) ?_; exact (zfY HB.out (by repeat (first | exact HV.out | apply znY | apply below_drew))); rintro e w3 ⟨v0, rfl, ⟨ys, hy, hR, hK⟩, hb⟩; have HV2 := amZ (zfY (show Below W.heap.size W _ from by repeat (first | exact HV.out | apply znY | apply below_drew)) hb); obtain ⟨B0, d0, ev⟩ := Kd.R_slice hR; rw [List.length_map, hy] at ev; subst ev; (try (have BK : Aside0 (w3.heap[W.heap.size]? = some (.cells #[.slice none 0 0, .slice none 0 0] 31 (0, 0))) := ⟨(hb.block W.heap.size (by simp)).trans (heap_alloc_new _ _)⟩)); have HS0 : Aside0 (Kd.S (alt k48) 48 w3 w.heap.size (fun _ => True) (.slice B0 cs.length d0) (ys.map .inr)) := ⟨Kd.S_lower (S_of_raws hR) (by have := HB.out.size; simp; omega)⟩; have HC := amZ (And.intro hy hK); have p2 := zgY HV2.out p1; have p2d := fun o_ => zgY (znY (Below.refl w3.heap.size w3) o_) p2; clear p0 p1 HV hb hy hR hK) | (go_at_call 73; refine Calls.mono (cloneProto_calls A1 c1 ps w _ HR1.out ?_ HF.out.2.1) ?_; exact (zfY HB.out (by repeat (first | exact HV2.out | apply znY | apply below_drew))); rintro e w4 ⟨v1, rfl, ⟨zs, hz, hR2, hK2⟩, hb2⟩; have HV3 := amZ (zfY (show Below W.heap.size W _ from by repeat (first | exact HV2.out | apply znY | apply below_drew)) hb2); obtain ⟨B1, d1, ev⟩ := Kd.R_slice hR2; rw [List.length_map, hz] at ev; subst ev; (try (have BL : Aside0 (w4.heap[W.heap.size]? = some (.cells #[.slice none 0 0, .slice none 0 0] 31 (0, 0))) := ⟨(hb2.block W.heap.size (zkY BK.out)).trans BK.out⟩)); (try (have BL : Aside0 (w4.heap[w3.heap.size]? = some (.cells #[.slice none 0 0, .slice none 0 0] 31 (0, 0))) := ⟨(hb2.block w3.heap.size (by simp)).trans (heap_alloc_new _ _)⟩)); (try (have y0 := (zaY BL.out 0).trans rfl; have y1 := (zaY BL.out 1).trans rfl; have y2 := zbY BL.out 0; have y3 := zbY BL.out 1)); have HS1 : Aside0 (Kd.S (alt k52) 52 w4 w.heap.size (fun _ => True) (.slice B1 ps.length d1) (zs.map .inr)) := ⟨Kd.S_lower (S_of_raws hR2) (by have := HB.out.size; have := HV2.out.size; simp; omega)⟩; have HS2 := amZ (Kd.S_below HS0.out (zfY (show Below w3.heap.size w3 _ from by repeat (first | exact Below.refl _ _ | apply znY | apply below_drew)) hb2)); have HD := amZ (And.intro hz hK2); have HX := amZ (HV2.out.size); clear hb2 hz hR2 hK2 p2 HV2))
  all_goals go_wp2_with fail
  all_goals go_meet
  all_goals (first
   | exact ⟨_, _, _, _, _, ys, zs, rfl, ⟨ClW.made1 (zfY HB.out HV3.out) ((HV3.out.block _ (zkY HQ.out)).trans HQ.out) HS2.out HS1.out⟩, HC, HD⟩
   | exact ⟨_, _, _, _, _, ys, zs, rfl, ⟨ClW.made2 (zfY HB.out HV3.out) ((HV3.out.block _ (zkY HQ.out)).trans HQ.out) HS2.out HS1.out BL.out (by have := zkY HQ.out; have := HX.out; omega)⟩, HC, HD⟩)
 case rest =>
 obtain ⟨b3, B0, d0, B1, d1, ys, zs, rfl, HS, HY, HZ⟩ := hcut
 clear HP HQ HB
 have y0 : wc.cell? ⟨b3, 0, none⟩ = some (.slice B0 cs.length d0) := (zaY HS.out.o 0).trans rfl
 go_wp2_with fail
 go_loopg [17] cs.length (fun gq v17 wr => ∃ i : Nat, v17 = .int .i64 (i : Int) ∧ Aside0 (i + gq = cs.length) ∧ Aside0 (ClW w b3 (.slice B0 cs.length d0) (.slice B1 ps.length d1) ((cs.take i).map .inl ++ (ys.drop i).map .inr) (zs.map .inr) wr))
 case atStart => exact ⟨0, rfl, ⟨by omega⟩, by simpa using HS⟩
 case round =>
  clear HS y0
  obtain ⟨i, rfl, hi, HS⟩ := hrel
  by_cases hlt : i < cs.length
  ·
   have hl0 : ((cs.take i).map Sum.inl ++ (ys.drop i).map (Sum.inr (α := S48))).length = cs.length := by have := HY.out.1; simp; omega
   obtain ⟨g, cap, e, hga, hgl, hgc⟩ := Kd.S_form HS.out.s0 (by omega)
   injection e with e1 e3 e2
   clear e3
   subst e1 e2
   have p : 0 ≤ (i : Int) := by omega
   have q : (i : Int) < (cs.length : Int) := by omega
   obtain ⟨c, hc, hK⟩ := HY.out.2 i cs[i] (List.getElem?_eq_getElem hlt)
   obtain ⟨A2, c2, rfl, l2, g2⟩ := k48_open hK
   obtain ⟨oki, c', hcl, hM, hcc, hfr, hoki, hH⟩ := Kd.S_elem HS.out.s0 (.inr []) (i : Int) p q
   have hyd : ys.drop i = [.bool cs[i].f0, .int .i64 cs[i].f1, .slice A2 cs[i].f2.length c2] :: ys.drop (i + 1) := by
    obtain ⟨h1, h2⟩ := List.getElem?_eq_some_iff.1 hc
    rw [List.drop_eq_getElem_cons h1, h2]
   have hgd : ((cs.take i).map Sum.inl ++ (ys.drop i).map (Sum.inr (α := S48))).getD (i : Int).toNat (.inr []) = .inr [.bool cs[i].f0, .int .i64 cs[i].f1, .slice A2 cs[i].f2.length c2] := by
    rw [hyd, List.map_cons, Int.toNat_natCast]
    exact mid_getD _ _ _ _ _ (by simp; omega)
   rw [hgd] at hM
   obtain ⟨rfl, hm1, hm2⟩ := hM
   clear hm1 hm2
   have hset : ((cs.take i).map Sum.inl ++ (ys.drop i).map (Sum.inr (α := S48))).set (i : Int).toNat (.inl cs[i]) = (cs.take (i + 1)).map Sum.inl ++ (ys.drop (i + 1)).map (Sum.inr (α := S48)) := by
    rw [hyd, List.map_cons, Int.toNat_natCast, mid_set _ _ _ _ _ (by simp; omega), List.take_succ_eq_append_getElem hlt, List.map_append]
    rfl
   have HSET := amZ hset
   have hfl := HF.out.2.2.1 cs[i] (List.getElem_mem hlt)
   have HH := amZ hH
   have hx2 : wr.cell? ⟨g, i * 3 + 2, none⟩ = some (.slice A2 cs[i].f2.length c2) := hcc 2 _ rfl
   generalize cs[i] = x at *
   have HG2 := amZ g2
   have HFL := amZ hfl
   have HGL := amZ hgl
   have HLT := amZ hlt
   have hil : decide ((i : Int) < (cs.length : Int)) = true := decide_eq_true q
   have hin : decide (i < cs.length) = true := decide_eq_true hlt
   have y0 : wr.cell? ⟨b3, 0, none⟩ = some (.slice (some ⟨g, 0, none⟩) cs.length d0) := (zaY HS.out.o 0).trans rfl
   have PQ := amZ (And.intro p q)
   replace p := eq_true p
   replace q := eq_true q
   clear hga hgc hl0 hc hK hcl hcc hfr hoki hH hyd hgd hset hfl g2 l2 hgl hlt
   go_upto_region 5 with (fail)
   have HSd := amZ (HS.out.below (below_drew (Below.refl _ _)))
   go_region_with (go_at_call 74; refine (cloneU8_calls A2 c2 x.f2 wr.drew (Kd.C_below HG2.out HSd.out.b) HFL.out).mono ?_; rintro e w3 ⟨v, rfl, hv, hb⟩; obtain ⟨Bv, dv, ev⟩ := Kd.R_slice hv; subst ev; have HV := amZ hv; have HBv := amZ hb; have HS3 := amZ (HSd.out.below hb); have y0' : w3.cell? ⟨b3, 0, none⟩ = some (.slice (some ⟨g, 0, none⟩) cs.length d0) := (zaY HS3.out.o 0).trans rfl; have hx2' := zgY hb hx2; have hf2 : w3.frozen? ⟨g, i * 3 + 2, none⟩ = false := (by obtain ⟨cc, hcc⟩ := Kd.S_typed HS3.out.s0 g rfl; exact zbY hcc _); clear hv hb)
   all_goals go_wp2_with fail
   all_goals (
    have hfin := put_text (Kd.H_drew HH.out) PQ.out.1 PQ.out.2 HBv.out HV.out HSd.out.b.size HGL.out
    rw [HSET.out, Int.toNat_natCast] at hfin
    have HFIN := amZ (HS3.out.set0 _ _ hfin)
    clear hfin
    go_roundg (cs.length - (i + 1))
    case measure => have := hi.out; have := HLT.out; omega
    case rel => exact ⟨i + 1, i64_next HLT.out (by have := HF.out.1; omega), ⟨by have := HLT.out; omega⟩, HFIN⟩)
  ·
   have hil : decide ((i : Int) < (cs.length : Int)) = false := decide_eq_false (by omega)
   have hin : decide (i < cs.length) = false := decide_eq_false hlt
   have HS2 : Aside0 (ClW w b3 (.slice B0 cs.length d0) (.slice B1 ps.length d1) (cs.map .inl) (zs.map .inr) wr) := ⟨by have := HS.out; rwa [List.take_of_length_le (by omega), List.drop_eq_nil_of_le (by have := HY.out.1; omega), List.map_nil, List.append_nil] at this⟩
   have y1 : wr.cell? ⟨b3, 1, none⟩ = some (.slice B1 ps.length d1) := (zaY HS2.out.o 1).trans rfl
   clear hlt HS hi
   go_wp2_with fail
   go_loopg [36] ps.length (fun gq v36 wr => ∃ i : Nat, v36 = .int .i64 (i : Int) ∧ Aside0 (i + gq = ps.length) ∧ Aside0 (ClW w b3 (.slice B0 cs.length d0) (.slice B1 ps.length d1) (cs.map .inl) ((ps.take i).map .inl ++ (zs.drop i).map .inr) wr))
   case atStart => exact ⟨0, rfl, ⟨by omega⟩, by simpa using HS2⟩
   case round =>
    clear HS2 y1
    obtain ⟨i, rfl, hi, HS⟩ := hrel
    by_cases hlt : i < ps.length
    ·
     have hl0 : ((ps.take i).map Sum.inl ++ (zs.drop i).map (Sum.inr (α := S52))).length = ps.length := by have := HZ.out.1; simp; omega
     obtain ⟨g, cap, e, hga, hgl, hgc⟩ := Kd.S_form HS.out.s1 (by omega)
     injection e with e1 e3 e2
     clear e3
     subst e1 e2
     have p : 0 ≤ (i : Int) := by omega
     have q : (i : Int) < (ps.length : Int) := by omega
     obtain ⟨c, hc, hK⟩ := HZ.out.2 i ps[i] (List.getElem?_eq_getElem hlt)
     obtain ⟨A2, c2, A3, c3, rfl, l2, g2, l3, g3⟩ := k52_open hK
     obtain ⟨oki, c', hcl, hM, hcc, hfr, hoki, hH⟩ := Kd.S_elem HS.out.s1 (.inr []) (i : Int) p q
     have hyd : zs.drop i = [.int .i64 ps[i].f0, .int .i64 ps[i].f1, .slice A2 ps[i].f2.length c2, .slice A3 ps[i].f3.length c3] :: zs.drop (i + 1) := by
      obtain ⟨h1, h2⟩ := List.getElem?_eq_some_iff.1 hc
      rw [List.drop_eq_getElem_cons h1, h2]
     have hgd : ((ps.take i).map Sum.inl ++ (zs.drop i).map (Sum.inr (α := S52))).getD (i : Int).toNat (.inr []) = .inr [.int .i64 ps[i].f0, .int .i64 ps[i].f1, .slice A2 ps[i].f2.length c2, .slice A3 ps[i].f3.length c3] := by
      rw [hyd, List.map_cons, Int.toNat_natCast]
      exact mid_getD _ _ _ _ _ (by simp; omega)
     rw [hgd] at hM
     obtain ⟨rfl, hm1, hm2⟩ := hM
     clear hm1 hm2
     have hset : ((ps.take i).map Sum.inl ++ (zs.drop i).map (Sum.inr (α := S52))).set (i : Int).toNat (.inl ps[i]) = (ps.take (i + 1)).map Sum.inl ++ (zs.drop (i + 1)).map (Sum.inr (α := S52)) := by
      rw [hyd, List.map_cons, Int.toNat_natCast, mid_set _ _ _ _ _ (by simp; omega), List.take_succ_eq_append_getElem hlt, List.map_append]
      rfl
     have HSET := amZ hset
     have hfl := HF.out.2.2.2 ps[i] (List.getElem_mem hlt)
     have HH := amZ hH
     have hx2 : wr.cell? ⟨g, i * 4 + 2, none⟩ = some (.slice A2 ps[i].f2.length c2) := hcc 2 _ rfl
     have hx3 : wr.cell? ⟨g, i * 4 + 3, none⟩ = some (.slice A3 ps[i].f3.length c3) := hcc 3 _ rfl
     generalize ps[i] = x at *
     have HG2 := amZ g2
     have HG3 := amZ g3
     have HFL := amZ hfl
     have HGL := amZ hgl
     have HLT := amZ hlt
     have hil' : decide ((i : Int) < (ps.length : Int)) = true := decide_eq_true q
     have hin' : decide (i < ps.length) = true := decide_eq_true hlt
     have y1 : wr.cell? ⟨b3, 1, none⟩ = some (.slice (some ⟨g, 0, none⟩) ps.length d1) := (zaY HS.out.o 1).trans rfl
     have PQ := amZ (And.intro p q)
     replace p := eq_true p
     replace q := eq_true q
     clear hga hgc hl0 hc hK hcl hcc hfr hoki hH hyd hgd hset hfl g2 l2 g3 l3 hgl hlt
     go_upto_region 11 with (fail)
     have HSd := amZ (HS.out.below (below_drew (Below.refl _ _)))
     go_region_with (first | (go_at_call 75; refine (cloneCap_calls A2 c2 x.f2 wr.drew (Kd.C_below HG2.out HSd.out.b) HFL.out.1).mono ?_; rintro e w3 ⟨v, rfl, hv, hb⟩; obtain ⟨Bv, dv, ev⟩ := Kd.R_slice hv; subst ev; have HV := amZ hv; have HBv := amZ hb; have HS3 := amZ (HSd.out.below hb); have hx3' := zgY hb hx3; have hx2' := zgY hb hx2; clear hv hb) | (go_at_call 76; refine (cloneIns_calls A3 c3 x.f3 w3 (Kd.C_below HG3.out HS3.out.b) HFL.out.2).mono ?_; rintro e w4 ⟨u, rfl, hv, hb⟩; obtain ⟨Bu, du, ev⟩ := Kd.R_slice hv; subst ev; have HV2 := amZ (Kd.R_lower hv HBv.out.size); have HV1 := amZ (Kd.R_below HV.out hb); have HBu := amZ (zfY HBv.out hb); have HS4 := amZ (HS3.out.below hb); have hx2'' := zgY hb hx2'; have hx3'' := zgY hb hx3'; have hf2 : ∀ j, w4.frozen? ⟨g, j, none⟩ = false := (by obtain ⟨cc, hcc⟩ := Kd.S_typed HS4.out.s1 g rfl; exact zbY hcc); clear hv hb))
     all_goals go_wp2_with fail
     all_goals (
      have hfin := put_rows (Kd.H_drew HH.out) PQ.out.1 PQ.out.2 HBu.out HV1.out HV2.out HSd.out.b.size HGL.out
      rw [HSET.out, Int.toNat_natCast] at hfin
      have HFIN := amZ (HS4.out.set1b _ _ _ _ hfin)
      clear hfin
      go_roundg (ps.length - (i + 1))
      case measure => have := hi.out; have := HLT.out; omega
      case rel => exact ⟨i + 1, i64_next HLT.out (by have := HF.out.2.1; omega), ⟨by have := HLT.out; omega⟩, HFIN⟩)
    ·
     have hil' : decide ((i : Int) < (ps.length : Int)) = false := decide_eq_false (by omega)
     have hin' : decide (i < ps.length) = false := decide_eq_false hlt
     have HS2 : Aside0 (ClW w b3 (.slice B0 cs.length d0) (.slice B1 ps.length d1) (cs.map .inl) (ps.map .inl) wr) := ⟨by have := HS.out; rwa [List.take_of_length_le (by omega), List.drop_eq_nil_of_le (by have := HZ.out.1; omega), List.map_nil, List.append_nil] at this⟩
     have y0 : wr.cell? ⟨b3, 0, none⟩ = some (.slice B0 cs.length d0) := (zaY HS2.out.o 0).trans rfl
     have y1 : wr.cell? ⟨b3, 1, none⟩ = some (.slice B1 ps.length d1) := (zaY HS2.out.o 1).trans rfl
     have z0 := (zaY HS2.out.p 0).trans rfl
     have z1 := (zaY HS2.out.p 1).trans rfl
     have z2 := zbY HS2.out.p 0
     have z3 := zbY HS2.out.p 1
     clear hlt HS hi
     go_wp2_with fail
     obtain ⟨f1, f2, f3, f4⟩ := HS2.out.fin (.slice B0 cs.length d0) (.slice B1 ps.length d1)
     refine bodyPost_ret (results_cell_row rfl _ _ (w.heap.size + 1) 31 #[.slice B0 cs.length d0, .slice B1 ps.length d1] (0, 0) _ rfl f4 Try.underlying31 rfl (by kernel_rfl)) rfl ?_
     exact ⟨_, _, rfl, f1, f2, f3⟩
end Go.Proofs.Ytmmpiojekgfdjaa.C
