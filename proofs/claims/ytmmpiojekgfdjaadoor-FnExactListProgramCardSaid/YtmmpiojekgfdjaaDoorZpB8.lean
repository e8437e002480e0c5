/- The law. -/
import Derived.Test.YtmmpiojekgfdjaaDoorZpB7
import Derived.Test.YtmmpiojekgfdjaaDoorZpK
namespace Go.Proofs.YtmmpiojekgfdjaaDoor.C
open Go.RowKit YtmmpiojekgfdjaaDoorW.PrintWords YtmmpiojekgfdjaaDoorW.PrintLast
set_option linter.unusedVariables false
set_option linter.unusedSimpArgs false
theorem mcS_size : ∀ cs : List S77, mcS (cs.map cC) ≤ 2 * (((cs.length + (cs.map sC).sum : Nat)) : Int)
 | [] => by simp [mcS]
 | x :: cs => by
  have := mcS_size cs
  have e : mcN (cC x) = 2 + (sC x : Int) := rfl
  simp only [mcS, List.map_cons, List.sum_cons, List.length_cons, Int.natCast_add, Int.natCast_one] at *
  omega
theorem mpS_size : ∀ ps : List S82, mpS (ps.map cP) ≤ 3 * (((ps.length + (ps.map sP).sum : Nat)) : Int)
 | [] => by simp [mpS]
 | x :: ps => by
  have := mpS_size ps
  have e : mpN (cP x) = 2 + 2 * (x.f2.length : Int) + 3 * (x.f3.length : Int) := by simp [mpN, cP]
  have e2 : (sP x : Int) = x.f2.length + x.f3.length := by simp [sP]
  simp only [mpS, List.map_cons, List.sum_cons, List.length_cons, Int.natCast_add, Int.natCast_one] at *
  omega
theorem progS_size (cs : List S77) (ps : List S82) (h : sizeP cs ps ≤ 1048576) : progS (cs.map cC) (ps.map cP) ≤ 4194304 := by
 have h0 := mcS_size cs
 have h1 := mpS_size ps
 unfold progS
 unfold sizeP at h
 omega
theorem R_made {α : Type} {d : Kd α} {e n : Nat} {W W1 : World} {v : Value} {xs : List α} (h : d.R e W1 W.heap.size (fun _ => True) v xs) (hn : n ≤ W.heap.size) (hw : W.heap.size ≤ W1.heap.size) : d.R e W1 n (fun b => W.heap.size ≤ b ∧ b < W1.heap.size) v xs :=
 Kd.R_lower (Kd.R_mono (Kd.R_bound h) (fun _ hk => ⟨hk.2.1, hk.2.2.1⟩)) hn
theorem S_made {α : Type} {d : Kd α} {e n : Nat} {W W1 : World} {v : Value} {xs : List α} (h : Kd.S d e W1 W.heap.size (fun _ => True) v xs) (hn : n ≤ W.heap.size) (hw : W.heap.size ≤ W1.heap.size) : Kd.S d e W1 n (fun b => W.heap.size ≤ b ∧ b < W1.heap.size) v xs :=
 Kd.S_lower (Kd.S_mono (Kd.S_bound h) (fun _ hk => ⟨hk.2.1, hk.2.2.1⟩)) hn
theorem Grew.on {ok : Nat → Prop} {w W W1 : World} (h : Below w.heap.size w W) (hg : Grew ok W W1) (hk : ∀ k, k < w.heap.size → ¬ ok k) : Below w.heap.size w W1 :=
 ⟨hg.os.trans h.os, hg.tape.trans h.tape, hg.output.trans h.output, Nat.le_trans h.size hg.size, fun k hl => (hg.block k (Nat.lt_of_lt_of_le hl h.size) (hk k hl)).trans (h.block k hl)⟩
theorem list_prep (cs : List S77) (ps : List S82) (h : sizeP cs ps ≤ 1048576) (hc : ∀ y ∈ cs, IntOK y.f1 ∧ ∀ b ∈ y.f2, 0 ≤ b ∧ b ≤ 255) :
  ∃ (k : Nat) (C : List S69) (P : List S45) (r : Bool), laws_toProgram.f k cs ps = some (C, P) ∧ impl_Check.f C P = some r ∧ (∃ k1, spec_Check.f k1 C P = some r) ∧ (r = true → GoodP qtL C P) ∧ (r = true → SpecP qtL C P) ∧ progS C P ≤ 4194304 := by
 obtain ⟨k, hk⟩ := (toProgram_ev cs ps h).rounds
 obtain ⟨r, hr, er⟩ := check_ev (cs.map cC) (ps.map cP) (fine_size h) (by have := sumCode_size cs ps; omega)
 have hrc : RangeC (cs.map cC) := ⟨fun c hc' => by obtain ⟨y, hy, rfl⟩ := List.mem_map.1 hc'; exact (hc y hy).1, fun c hc' => by obtain ⟨y, hy, rfl⟩ := List.mem_map.1 hc'; exact (hc y hy).2⟩
 exact ⟨k, _, _, r, hk, hr, er.rounds, fun e => by subst e; exact (sound_of hr).good hrc, fun e => by subst e; exact (sound_of hr).spec hrc, progS_size cs ps h⟩
structure LSl (w : World) (n4 n5 : Nat) (pv tv : Array Value) (u x0 x1 : Value) (A : Option Addr) (c : Nat) (L H : List Int) (C : List S69) (P : List S45) (W : World) : Prop where
 b : Below w.heap.size w W
 p : W.heap[w.heap.size]? = some (.cells pv 25 (0, 0))
 u : Kd.R (Kd.int .u8) 5 W w.heap.size (fun b => b < n4) u L
 x0 : Kd.S k69 69 W w.heap.size (fun b => n4 ≤ b ∧ b < n5) x0 C
 x1 : Kd.S k45 45 W w.heap.size (fun b => n4 ≤ b ∧ b < n5) x1 P
 t : W.heap[n5]? = some (.cells tv 32 (0, 0))
 h : Bw W (n5 + 1) A c H
 n : w.heap.size < n4 ∧ n4 ≤ n5
section
variable {w : World} {n4 n5 : Nat} {pv tv : Array Value} {u x0 x1 : Value} {A : Option Addr} {c : Nat} {L H : List Int} {C : List S69} {P : List S45} {W : World}
theorem LSl.below {W1 : World} (h : LSl w n4 n5 pv tv u x0 x1 A c L H C P W) (hb : Below W.heap.size W W1) : LSl w n4 n5 pv tv u x0 x1 A c L H C P W1 :=
 ⟨zcY h.b hb, (hb.block _ (zlY h.p)).trans h.p, Kd.R_below h.u hb, Kd.S_below h.x0 hb, Kd.S_below h.x1 hb, (hb.block _ (zlY h.t)).trans h.t, h.h.below hb, h.n⟩
theorem LSl.marked {W1 : World} {C1 : List S69} {P1 : List S45} (h : LSl w n4 n5 pv tv u x0 x1 A c L H C P W) (hg : Grew (fun b => n4 ≤ b ∧ b < n5) W W1)
  (s0 : Kd.S k69 69 W1 w.heap.size (fun b => n4 ≤ b ∧ b < n5) x0 C1) (s1 : Kd.S k45 45 W1 w.heap.size (fun b => n4 ≤ b ∧ b < n5) x1 P1) : LSl w n4 n5 pv tv u x0 x1 A c L H C1 P1 W1 := by
 have hn := h.n
 exact ⟨hg.on h.b (fun k hl => by omega), (hg.block _ (zlY h.p) (by omega)).trans h.p, hg.R h.u (fun k hl => by omega), s0, s1, (hg.block _ (zlY h.t) (by omega)).trans h.t, h.h.keep (fun k hk hl => hg.block k hl (by omega)), h.n⟩
theorem LSl.wrote {W1 : World} {H1 : List Int} {row : Option Nat} (h : LSl w n4 n5 pv tv u x0 x1 A c L H C P W) (hw : W.grownBy W1 row) (hrow : ∀ g, row = some g → n5 + 1 ≤ g) (hr : Bw W1 (n5 + 1) A c H1) : LSl w n4 n5 pv tv u x0 x1 A c L H1 C P W1 := by
 have hn := h.n
 have hg : Grew (fun b => n5 < b) W W1 := Grew.of_grown hw (fun k e => hrow k e)
 exact ⟨hg.on h.b (fun k hl => by omega), (hg.block _ (zlY h.p) (by omega)).trans h.p, hg.R h.u (fun k hl => by omega), hg.S h.x0 (fun k hl => by omega), hg.S h.x1 (fun k hl => by omega), (hg.block _ (zlY h.t) (by omega)).trans h.t, hr, h.n⟩
end
set_option maxHeartbeats 8000000 in
set_option maxRecDepth 100000 in
theorem law_List_calls (A0 A1 : Option Addr) (c0 c1 : Nat) (cs : List S77) (ps : List S82) (w : World) (hr0 : Kd.C k77 w A0 cs.length cs) (hc0 : cs.length ≤ c0) (hr1 : Kd.C k82 w A1 ps.length ps) (hc1 : ps.length ≤ c1)
  (hn0 : ∀ y ∈ cs, y.f2.length ≤ 9223372036854775807) (hn1 : ∀ y ∈ ps, y.f2.length ≤ 9223372036854775807 ∧ y.f3.length ≤ 9223372036854775807)
  (hrg : ∀ y ∈ cs, IntOK y.f1 ∧ ∀ b ∈ y.f2, 0 ≤ b ∧ b ≤ 255) (hpw : PowTab w) :
  Calls Tryd.prog 3 #[.agg #[.slice A0 cs.length c0, .slice A1 ps.length c1]] w fun e w' => e = .returned (.bool true) ∧ Below w.heap.size w w' := by
 have HB := amZ ((Below.refl w.heap.size w).alloc (Nat.le_refl _) (.cells #[.slice A0 cs.length c0, .slice A1 ps.length c1] 25))
 have HP : Aside0 ((w.alloc (.cells #[.slice A0 cs.length c0, .slice A1 ps.length c1] 25)).heap[w.heap.size]? = some (.cells #[.slice A0 cs.length c0, .slice A1 ps.length c1] 25 (0, 0))) := ⟨heap_alloc_new _ _⟩
 have HR0 := amZ hr0
 have HC0 := amZ hc0
 have HR1 := amZ hr1
 have HC1 := amZ hc1
 have HN0 := amZ hn0
 have HN1 := amZ hn1
 have HRG := amZ hrg
 have HPW0 := amZ hpw
 clear hr0 hc0 hr1 hc1 hn0 hn1 hrg hpw
 go_enter Tryd.func3, Tryd.ntmps3
 go_wp2_with fail
 refine (szProgram_calls A0 A1 c0 c1 cs ps _ (Kd.C_below HR0.out HB.out) (Kd.C_below HR1.out HB.out) HN0.out HN1.out).mono ?_
 rintro e w2 ⟨rfl, hb⟩
 have HB2 := amZ (zcY HB.out hb)
 have HP2 := amZ ((hb.block _ (zlY HP.out)).trans HP.out)
 clear hb HP HB
 by_cases hs : (szProgN cs ps : Int) ≤ 1048576
 case neg =>
  have e : szr (szProgN cs ps) 1048576 = -1 := if_neg hs
  rw [e]
  clear e hs
  go_wp2_with fail
  go_ret
  exact ⟨rfl, HB2.out⟩
 have e : szr (szProgN cs ps) 1048576 = 1048576 - (szProgN cs ps : Int) := if_pos hs
 rw [e]
 have hd : decide (1048576 - (szProgN cs ps : Int) < 0) = false := decide_eq_false (by omega)
 have hd2 : (1048576 - (szProgN cs ps : Int) < 0) = False := eq_false (by omega)
 obtain ⟨k, C, P, r, hk, hI, hS, hok, hsp, hsz⟩ := list_prep cs ps (show sizeP cs ps ≤ 1048576 from Int.ofNat_le.1 hs) HRG.out
 have HK := amZ hk
 have HI := amZ hI
 have HS := amZ hS
 have HOK := amZ hok
 have HSP := amZ hsp
 have HSZ := amZ hsz
 obtain ⟨L, hL⟩ : ∃ L, L = impl_ListProgram.f qtL C P r := ⟨_, rfl⟩
 have HL : Aside0 (L.length ≤ 100000000000) := ⟨by
  subst hL
  cases r with
  | false => simp [impl_ListProgram.f]
  | true => exact (hok rfl).t⟩
 have HEL := amZ hL
 have HPOS : Aside0 (0 ≤ progS C P) := ⟨by have := mcS_pos C; have := mpS_pos P; unfold progS; omega⟩
 clear hk hI hS hok hsp hL hsz hs e
 have hp0 : w2.cell? ⟨w.heap.size, 0, none⟩ = some (.slice A0 cs.length c0) := (zaY HP2.out 0).trans rfl
 have hp1 : w2.cell? ⟨w.heap.size, 1, none⟩ = some (.slice A1 ps.length c1) := (zaY HP2.out 1).trans rfl
 go_wp2_with fail
 refine (laws_toProgram.calls k A0 c0 cs A1 c1 ps C P _ (Kd.C_below HR0.out HB2.out) HC0.out (Kd.C_below HR1.out HB2.out) HC1.out HK.out).mono ?_
 rintro e w3 ⟨v0, v1, rfl, hs0, hs1, hb⟩
 have HB3 := amZ (zcY HB2.out hb)
 have HP3 := amZ ((hb.block _ (zlY HP2.out)).trans HP2.out)
 obtain ⟨B0, d0, rfl, le0, rd0⟩ := Kd.S_reads hs0
 obtain ⟨B1, d1, rfl, le1, rd1⟩ := Kd.S_reads hs1
 have HD := amZ (And.intro le0 (And.intro rd0 (And.intro le1 rd1)))
 clear hb hs0 hs1 le0 rd0 le1 rd1 hp0 hp1 HP2
 go_wp2_with fail
 refine (spec_ListProgram.calls B0 d0 C B1 d1 P r w3 HD.out.2.1 HD.out.1 HD.out.2.2.2 HD.out.2.2.1 HS.out HOK.out HSP.out).mono ?_
 rintro e w4 ⟨Au, cu, rfl, hu, hb⟩
 rw [← HEL.out]
 rw [← HEL.out] at hu
 have HB4 := amZ (zcY HB3.out hb)
 have HP4 := amZ ((hb.block _ (zlY HP3.out)).trans HP3.out)
 have HU : Aside0 (Kd.R (Kd.int .u8) 5 w4 w.heap.size (fun b => b < w4.heap.size) (.slice Au L.length cu) L) := ⟨Kd.R_mono (R_made hu HB3.out.size hb.size) (fun _ h => h.2)⟩
 clear hb hu HD
 have hp0 : w4.cell? ⟨w.heap.size, 0, none⟩ = some (.slice A0 cs.length c0) := (zaY HP4.out 0).trans rfl
 have hp1 : w4.cell? ⟨w.heap.size, 1, none⟩ = some (.slice A1 ps.length c1) := (zaY HP4.out 1).trans rfl
 go_wp2_with fail
 refine (laws_toProgram.calls k A0 c0 cs A1 c1 ps C P _ (Kd.C_below HR0.out HB4.out) HC0.out (Kd.C_below HR1.out HB4.out) HC1.out HK.out).mono ?_
 rintro e w5 ⟨v0, v1, rfl, hs0, hs1, hb⟩
 have HB5 := amZ (zcY HB4.out hb)
 have HP5 := amZ ((hb.block _ (zlY HP4.out)).trans HP4.out)
 have HU5 := amZ (Kd.R_below HU.out hb)
 have HX0 := amZ (S_made hs0 HB4.out.size hb.size)
 have HX1 := amZ (S_made hs1 HB4.out.size hb.size)
 obtain ⟨E0, d2, rfl⟩ := Kd.S_slice hs0
 obtain ⟨E1, d3, rfl⟩ := Kd.S_slice hs1
 obtain ⟨n4, hn4⟩ : ∃ n, n = w4.heap.size := ⟨_, rfl⟩
 rw [← hn4] at HX0 HX1 HU5
 have hn45 : n4 ≤ w5.heap.size := hn4 ▸ hb.size
 have hn04 : w.heap.size < n4 := hn4 ▸ zlY HP4.out
 clear hb hs0 hs1 hp0 hp1 HP4 HU hn4
 go_upto_region 7 with (fail)
 obtain ⟨W, hW⟩ : ∃ W, W = w5.alloc (.cells #[.slice E0 C.length d2, .slice E1 P.length d3] 32) := ⟨_, rfl⟩
 obtain ⟨n5, hn5⟩ : ∃ n, n = w5.heap.size := ⟨_, rfl⟩
 have hbw : Below w5.heap.size w5 W := by rw [hW]; exact (Below.refl _ _).alloc (Nat.le_refl _) _
 have HBW := amZ (zcY HB5.out hbw)
 have HPW := amZ ((hbw.block _ (zlY HP5.out)).trans HP5.out)
 have HUW := amZ (Kd.R_below HU5.out hbw)
 have HX0W := amZ (Kd.S_below HX0.out hbw)
 have HX1W := amZ (Kd.S_below HX1.out hbw)
 have HTW : Aside0 (W.heap[n5]? = some (.cells #[.slice E0 C.length d2, .slice E1 P.length d3] 32 (0, 0))) := ⟨by rw [hW, hn5, heap_alloc_new]⟩
 have HSW : Aside0 (W.heap.size = n5 + 1) := ⟨by rw [hW, hn5]; simp⟩
 rw [← hW, ← hn5]
 rw [← hn5] at HX0W HX1W
 have HN : Aside0 (w.heap.size < n4 ∧ n4 ≤ n5) := ⟨by omega⟩
 clear hW hbw hn5 hn45 hn04 HB5 HP5 HU5 HX0 HX1
 have q0 : W.cell? ⟨n5, 0, none⟩ = some (.slice E0 C.length d2) := (zaY HTW.out 0).trans rfl
 have q1 : W.cell? ⟨n5, 1, none⟩ = some (.slice E1 P.length d3) := (zaY HTW.out 1).trans rfl
 go_wp2_with fail
 refine (impl_ListProgram.calls qtL E0 d2 C E1 d3 P r W (Kd.S_reads' HX0W.out).2.2 (Kd.S_reads' HX0W.out).2.1 (Kd.S_reads' HX1W.out).2.2 (Kd.S_reads' HX1W.out).2.1 HI.out HOK.out (HPW0.out.below HBW.out trivial)).mono ?_
 rintro e w7 ⟨Ag, cg, rfl, hg, hb⟩
 rw [← HEL.out]
 rw [← HEL.out] at hg
 have HS7 : Aside0 (LSl w n4 n5 #[.slice A0 cs.length c0, .slice A1 ps.length c1] #[.slice E0 C.length d2, .slice E1 P.length d3] (.slice Au L.length cu) (.slice E0 C.length d2) (.slice E1 P.length d3) Ag cg L L C P w7) :=
  ⟨⟨zcY HBW.out hb, (hb.block _ (zlY HPW.out)).trans HPW.out, Kd.R_below HUW.out hb, Kd.S_below HX0W.out hb, Kd.S_below HX1W.out hb, (hb.block _ (zlY HTW.out)).trans HTW.out, by rw [← HSW.out]; exact hg, HN.out⟩⟩
 clear hg hb q0 q1 HBW HPW HUW HX0W HX1W HTW HSW HN
 go_wp2_with fail
 refine (eqByteS_same Ag Au cg cu L w7 HS7.out.h.C (Kd.R_reads' HS7.out.u).2.2).mono ?_
 rintro e w8 ⟨rfl, hb⟩
 have HS8 := amZ (HS7.out.below hb)
 clear hb HS7
 go_upto_region 10 with (fail)
 go_cut [31] (fun s31 wx => s31 = .bool false ∧ Aside0 (LSl w n4 n5 #[.slice A0 cs.length c0, .slice A1 ps.length c1] #[.slice E0 C.length d2, .slice E1 P.length d3] (.slice Au L.length cu) (.slice E0 C.length d2) (.slice E1 P.length d3) Ag cg L L C P wx))
 case first =>
  have HSd := amZ (HS8.out.below (below_drew (Below.refl _ _)))
  have q0 : w8.drew.cell? ⟨n5, 0, none⟩ = some (.slice E0 C.length d2) := (zaY HSd.out.t 0).trans rfl
  have q1 : w8.drew.cell? ⟨n5, 1, none⟩ = some (.slice E1 P.length d3) := (zaY HSd.out.t 1).trans rfl
  have p0 : w8.drew.cell? ⟨w.heap.size, 0, none⟩ = some (.slice A0 cs.length c0) := (zaY HSd.out.p 0).trans rfl
  have p1 : w8.drew.cell? ⟨w.heap.size, 1, none⟩ = some (.slice A1 ps.length c1) := (zaY HSd.out.p 1).trans rfl
  clear HS8
  go_region_with (first | (go_at_call 6; refine (laws_toProgram.calls k A0 c0 cs A1 c1 ps C P w8.drew (Kd.C_below HR0.out HSd.out.b) HC0.out (Kd.C_below HR1.out HSd.out.b) HC1.out HK.out).mono ?_; rintro e w9 ⟨y0, y1, rfl, hs0, hs1, hb⟩; have HS9 := amZ (HSd.out.below hb); obtain ⟨F0, f0, rfl, le0, rd0⟩ := Kd.S_reads hs0; obtain ⟨F1, f1, rfl, le1, rd1⟩ := Kd.S_reads hs1; have HY0 := amZ rd0; have HY1 := amZ rd1; clear hs0 hs1 hb rd0 rd1 le0 le1 q0 q1 p0 p1; have q0 : w9.cell? ⟨n5, 0, none⟩ = some (.slice E0 C.length d2) := (zaY HS9.out.t 0).trans rfl; have q1 : w9.cell? ⟨n5, 1, none⟩ = some (.slice E1 P.length d3) := (zaY HS9.out.t 1).trans rfl) | (go_at_call 9; refine (eqProgram_same C P E0 F0 E1 F1 d2 f0 d3 f1 w9 (Kd.S_reads' HS9.out.x0).2.2 HY0.out (Kd.S_reads' HS9.out.x1).2.2 HY1.out).mono ?_; rintro e w10 ⟨rfl, hb⟩; have HS10 := amZ (HS9.out.below hb); clear hb HS9 q0 q1))
  all_goals (go_wp2_with fail; go_meet; exact ⟨rfl, HS10⟩)
 case rest =>
 obtain ⟨rfl, HS⟩ := hcut
 clear HS8
 have q0 : wc.cell? ⟨n5, 0, none⟩ = some (.slice E0 C.length d2) := (zaY HS.out.t 0).trans rfl
 have q1 : wc.cell? ⟨n5, 1, none⟩ = some (.slice E1 P.length d3) := (zaY HS.out.t 1).trans rfl
 go_upto_region 13 with (fail)
 go_wp2_with fail
 refine (markProgram_calls w.heap.size (fun b => n4 ≤ b ∧ b < n5) _ _ C P 1 wc HS.out.x0 HS.out.x1 (by decide) (by have := HSZ.out; omega)).mono ?_
 rintro e wm ⟨rfl, hm0, hm1, hgr⟩
 have HSm := amZ (HS.out.marked hgr hm0 hm1)
 clear hm0 hm1 hgr q0 q1 HS
 have hm := HPOS.out
 have dm : decide (1 + progS C P < 0) = false := decide_eq_false (by omega)
 have em : (1 + progS C P < 0) = False := eq_false (by omega)
 clear hm
 go_wp2_with fail
 refine (eqByteS_same Ag Au cg cu L wm HSm.out.h.C (Kd.R_reads' HSm.out.u).2.2).mono ?_
 rintro e wn ⟨rfl, hb⟩
 have HSn := amZ (HSm.out.below hb)
 clear hb HSm
 go_wp2_with fail
 refine (markBw_calls (n5 + 1) Ag cg L 1 wn HSn.out.h (by decide) (by have := HL.out; omega)).mono ?_
 rintro e wo ⟨rfl, hr, row, hg, hrow⟩
 have HSo := amZ (HSn.out.wrote hg hrow hr)
 clear hr hg hrow HSn
 go_wp2_with fail
 refine (heldByteS_calls Ag cg L.length 1 wo (by simpa only [markByteSL_length] using HSo.out.h.C) (by decide) (by have := HL.out; omega)).mono ?_
 rintro e wq ⟨he, rfl⟩
 rw [Int.one_mul] at he
 subst he
 have dl : decide (1 + (L.length : Int) < 0) = false := decide_eq_false (by omega)
 have el : (1 + (L.length : Int) < 0) = False := eq_false (by omega)
 have p0 : wo.cell? ⟨w.heap.size, 0, none⟩ = some (.slice A0 cs.length c0) := (zaY HSo.out.p 0).trans rfl
 have p1 : wo.cell? ⟨w.heap.size, 1, none⟩ = some (.slice A1 ps.length c1) := (zaY HSo.out.p 1).trans rfl
 go_wp2_with fail
 refine (laws_toProgram.calls k A0 c0 cs A1 c1 ps C P _ (Kd.C_below HR0.out HSo.out.b) HC0.out (Kd.C_below HR1.out HSo.out.b) HC1.out HK.out).mono ?_
 rintro e wr ⟨y0, y1, rfl, hs0, hs1, hb⟩
 have HSr := amZ (HSo.out.below hb)
 obtain ⟨F0, f0, rfl, le0, rd0⟩ := Kd.S_reads hs0
 obtain ⟨F1, f1, rfl, le1, rd1⟩ := Kd.S_reads hs1
 have HD := amZ (And.intro le0 (And.intro rd0 (And.intro le1 rd1)))
 clear hb hs0 hs1 le0 rd0 le1 rd1 p0 p1 HSo
 go_wp2_with fail
 refine (impl_ListProgram.calls qtL F0 f0 C F1 f1 P r wr HD.out.2.1 HD.out.1 HD.out.2.2.2 HD.out.2.2.1 HI.out HOK.out (HPW0.out.below HSr.out.b trivial)).mono ?_
 rintro e ws ⟨Ah, ch, rfl, hh, hb⟩
 rw [← HEL.out]
 rw [← HEL.out] at hh
 have HSs := amZ (HSr.out.below hb)
 have HH := amZ hh.C
 clear hb hh HSr HD
 go_wp2_with fail
 refine (eqByteS_same Ah Au ch cu L ws HH.out (Kd.R_reads' HSs.out.u).2.2).mono ?_
 rintro e wt ⟨rfl, hb⟩
 have HSt := amZ (HSs.out.below hb)
 clear hb HSs HH
 go_wp2_with fail
 refine (heldByteS_calls Ag cg L.length 1 wt (by simpa only [markByteSL_length] using HSt.out.h.C) (by decide) (by have := HL.out; omega)).mono ?_
 rintro e wq ⟨he, rfl⟩
 rw [Int.one_mul] at he
 subst he
 go_wp2_with fail
 go_ret
 exact ⟨rfl, HSt.out.b⟩
end Go.Proofs.YtmmpiojekgfdjaaDoor.C
