/- The law of LoadProgram. -/
import Derived.Test.YtmmpiojekgfdjaaZlG7
import Derived.Test.YtmmpiojekgfdjaaZlK
namespace Go.Proofs.Ytmmpiojekgfdjaa.C
open Go.RowKit YtmmpiojekgfdjaaW.PrintWords YtmmpiojekgfdjaaW.PrintLast
set_option linter.unusedVariables false
set_option linter.unusedSimpArgs false
theorem mcS_w : ∀ C : List S48, mcS C ≤ 2 * (((C.map wC).sum : Nat) : Int)
 | [] => by simp [mcS]
 | x :: C => by
  have := mcS_w C
  have e : mcN x = 2 + (x.f2.length : Int) := rfl
  have e2 : wC x = 1 + x.f2.length := rfl
  simp only [mcS, List.map_cons, List.sum_cons, Int.natCast_add] at *
  omega
theorem mpS_w : ∀ P : List S52, mpS P ≤ 3 * (((P.map wP).sum : Nat) : Int)
 | [] => by simp [mpS]
 | x :: P => by
  have := mpS_w P
  have e : mpN x = 2 + 2 * (x.f2.length : Int) + 3 * (x.f3.length : Int) := by simp [mpN]
  have e2 : wP x = 1 + x.f2.length + x.f3.length := rfl
  simp only [mpS, List.map_cons, List.sum_cons, Int.natCast_add] at *
  omega
theorem load_prep (l : List Int) (hb : Byt l) (hl : l.length ≤ 1048576) :
  ∃ (k : Nat) (RC : List S48) (RP : List S52) (code : Int), laws_toByteS.f k l = some l ∧ sAns l = ((RC, RP), code) ∧ iAns l = ((RC, RP), code) ∧ progS RC RP ≤ 4194304 ∧ 0 ≤ progS RC RP := by
 obtain ⟨k, hk⟩ := (toByteS_ev l hl).rounds
 refine ⟨k, (iAns l).1.1, (iAns l).1.2, (iAns l).2, hk, ans_same l hb, rfl, ?_, ?_⟩
 ·
  unfold iAns
  split
  ·
   rename_i h
   have e := ldProg_inv l hb h.1
   have hs := saveL_size (ldProg (l, false)).1.1 (ldProg (l, false)).1.2 (fun c hc => (ldProg_rng _ c hc).2.2.2)
   rw [← e] at hs
   have h1 := mcS_w (ldProg (l, false)).1.1
   have h2 := mpS_w (ldProg (l, false)).1.2
   unfold progS
   dsimp only
   omega
  ·
   simp [progS, mcS, mpS]
 ·
  have h1 := mcS_pos (iAns l).1.1
  have h2 := mpS_pos (iAns l).1.2
  unfold progS
  omega
theorem R_made {α : Type} {d : Kd α} {e n : Nat} {W W1 : World} {v : Value} {xs : List α} (h : d.R e W1 W.heap.size (fun _ => True) v xs) (hn : n ≤ W.heap.size) (hw : W.heap.size ≤ W1.heap.size) : d.R e W1 n (fun b => W.heap.size ≤ b ∧ b < W1.heap.size) v xs :=
 Kd.R_lower (Kd.R_mono (Kd.R_bound h) (fun _ hk => ⟨hk.2.1, hk.2.2.1⟩)) hn
theorem S_made {α : Type} {d : Kd α} {e n : Nat} {W W1 : World} {v : Value} {xs : List α} (h : Kd.S d e W1 W.heap.size (fun _ => True) v xs) (hn : n ≤ W.heap.size) (hw : W.heap.size ≤ W1.heap.size) : Kd.S d e W1 n (fun b => W.heap.size ≤ b ∧ b < W1.heap.size) v xs :=
 Kd.S_lower (Kd.S_mono (Kd.S_bound h) (fun _ hk => ⟨hk.2.1, hk.2.2.1⟩)) hn
theorem Grew.on {ok : Nat → Prop} {w W W1 : World} (h : Below w.heap.size w W) (hg : Grew ok W W1) (hk : ∀ k, k < w.heap.size → ¬ ok k) : Below w.heap.size w W1 :=
 ⟨hg.os.trans h.os, hg.tape.trans h.tape, hg.output.trans h.output, Nat.le_trans h.size hg.size, fun k hl => (hg.block k (Nat.lt_of_lt_of_le hl h.size) (hk k hl)).trans (h.block k hl)⟩
structure LLd (w : World) (bu n3 bg : Nat) (u0 u1 x g0 g1 : Value) (RC : List S48) (RP : List S52) (X : List Int) (GC : List S48) (GP : List S52) (W : World) : Prop where
 b : Below w.heap.size w W
 ub : W.heap[bu]? = some (.cells #[u0, u1] 31 (0, 0))
 gb : W.heap[bg]? = some (.cells #[g0, g1] 31 (0, 0))
 u0 : Kd.S k48 48 W w.heap.size (fun b => b < bu) u0 RC
 u1 : Kd.S k52 52 W w.heap.size (fun b => b < bu) u1 RP
 x : Kd.R (Kd.int .u8) 5 W w.heap.size (fun b => bu < b ∧ b < n3) x X
 g0 : Kd.S k48 48 W w.heap.size (fun b => n3 ≤ b ∧ b < bg) g0 GC
 g1 : Kd.S k52 52 W w.heap.size (fun b => n3 ≤ b ∧ b < bg) g1 GP
 n : w.heap.size ≤ bu ∧ bu < n3 ∧ n3 ≤ bg
section
variable {w : World} {bu n3 bg : Nat} {u0 u1 x g0 g1 : Value} {RC GC C1 : List S48} {RP GP P1 : List S52} {X X1 : List Int} {W W1 : World}
theorem LLd.below (h : LLd w bu n3 bg u0 u1 x g0 g1 RC RP X GC GP W) (hb : Below W.heap.size W W1) : LLd w bu n3 bg u0 u1 x g0 g1 RC RP X GC GP W1 :=
 ⟨zdY h.b hb, (hb.block _ (ziY h.ub)).trans h.ub, (hb.block _ (ziY h.gb)).trans h.gb, Kd.S_below h.u0 hb, Kd.S_below h.u1 hb, Kd.R_below h.x hb, Kd.S_below h.g0 hb, Kd.S_below h.g1 hb, h.n⟩
theorem LLd.markX (h : LLd w bu n3 bg u0 u1 x g0 g1 RC RP X GC GP W) (hg : Grew (fun b => bu < b ∧ b < n3) W W1) (r : Kd.R (Kd.int .u8) 5 W1 w.heap.size (fun b => bu < b ∧ b < n3) x X1) : LLd w bu n3 bg u0 u1 x g0 g1 RC RP X1 GC GP W1 := by
 have hn := h.n
 exact ⟨hg.on h.b (fun k hl => by omega), (hg.block _ (ziY h.ub) (by omega)).trans h.ub, (hg.block _ (ziY h.gb) (by omega)).trans h.gb, hg.S h.u0 (fun k hl => by omega), hg.S h.u1 (fun k hl => by omega), r, hg.S h.g0 (fun k hl => by omega), hg.S h.g1 (fun k hl => by omega), h.n⟩
theorem LLd.markG (h : LLd w bu n3 bg u0 u1 x g0 g1 RC RP X GC GP W) (hg : Grew (fun b => n3 ≤ b ∧ b < bg) W W1) (s0 : Kd.S k48 48 W1 w.heap.size (fun b => n3 ≤ b ∧ b < bg) g0 C1) (s1 : Kd.S k52 52 W1 w.heap.size (fun b => n3 ≤ b ∧ b < bg) g1 P1) : LLd w bu n3 bg u0 u1 x g0 g1 RC RP X C1 P1 W1 := by
 have hn := h.n
 exact ⟨hg.on h.b (fun k hl => by omega), (hg.block _ (ziY h.ub) (by omega)).trans h.ub, (hg.block _ (ziY h.gb) (by omega)).trans h.gb, hg.S h.u0 (fun k hl => by omega), hg.S h.u1 (fun k hl => by omega), hg.R h.x (fun k hl => by omega), s0, s1, h.n⟩
end
set_option maxHeartbeats 8000000 in
set_option maxRecDepth 100000 in
theorem law_Load_calls (A0 : Option Addr) (c0 : Nat) (l : List Int) (w : World) (hr : Kd.C (Kd.int .u8) w A0 l.length l) (hc : l.length ≤ c0) (hy : Byt l) :
  Calls Try.prog 6 #[.slice A0 l.length c0] w fun e w' => e = .returned (.bool true) ∧ Below w.heap.size w w' := by
 have HR := amZ hr
 have HC := amZ hc
 have HY := amZ hy
 clear hr hc hy
 by_cases hl : l.length ≤ 1048576
 case neg =>
  have d1 : decide ((1048576 : Int) < (l.length : Int)) = true := decide_eq_true (by omega)
  go_enter Try.func6, Try.ntmps6
  go_wp2_with fail
  go_ret
  exact ⟨rfl, Below.refl _ _⟩
 have d1 : decide ((1048576 : Int) < (l.length : Int)) = false := decide_eq_false (by omega)
 have HL := amZ hl
 obtain ⟨k, RC, RP, code, hk, hS, hI, hsz, hpos⟩ := load_prep l HY.out hl
 have HK := amZ hk
 have HS := amZ hS
 have HI := amZ hI
 have HSZ := amZ hsz
 have HPOS := amZ hpos
 clear hk hS hI hsz hpos
 go_enter Try.func6, Try.ntmps6
 go_wp2_with fail
 refine (laws_toByteS.calls k A0 c0 l l w HR.out HC.out HK.out).mono ?_
 rintro e w1 ⟨v1, rfl, hv1, hb1⟩
 obtain ⟨A1, c1, rfl, le1, rd1⟩ := Kd.R_reads hv1
 have HB1 := amZ hb1
 have HD1 := amZ (And.intro le1 rd1)
 clear hv1 hb1 le1 rd1
 go_wp2_with fail
 refine (spec_load_calls A1 c1 l w1 HD1.out.2 HD1.out.1 HY.out HL.out).mono ?_
 rintro e w2 ⟨u0, u1, rfl, hs0, hs1, hb⟩
 rw [HS.out] at hs0 hs1
 rw [HS.out]
 have HU0 := amZ (S_made hs0 HB1.out.size hb.size)
 have HU1 := amZ (S_made hs1 HB1.out.size hb.size)
 obtain ⟨U0, f0, rfl⟩ := Kd.S_slice hs0
 obtain ⟨U1, f1, rfl⟩ := Kd.S_slice hs1
 have HB2 := amZ (zdY HB1.out hb)
 clear hs0 hs1 hb HD1
 go_upto_region 4 with (fail)
 obtain ⟨Wb, hWb⟩ : ∃ W, W = w2.alloc (.cells #[.slice U0 RC.length f0, .slice U1 RP.length f1] 31) := ⟨_, rfl⟩
 obtain ⟨bu, hbu⟩ : ∃ b, b = w2.heap.size := ⟨_, rfl⟩
 have hbw : Below w2.heap.size w2 Wb := by rw [hWb]; exact zmY (Below.refl _ _) _
 have HUB : Aside0 (Wb.heap[bu]? = some (.cells #[.slice U0 RC.length f0, .slice U1 RP.length f1] 31 (0, 0))) := ⟨by rw [hWb, hbu, heap_alloc_new]⟩
 have HBb := amZ (zdY HB2.out hbw)
 have HU0b : Aside0 (Kd.S k48 48 Wb w.heap.size (fun b => b < bu) (.slice U0 RC.length f0) RC) := ⟨Kd.S_mono (Kd.S_below HU0.out hbw) (fun b hb => by omega)⟩
 have HU1b : Aside0 (Kd.S k52 52 Wb w.heap.size (fun b => b < bu) (.slice U1 RP.length f1) RP) := ⟨Kd.S_mono (Kd.S_below HU1.out hbw) (fun b hb => by omega)⟩
 have HN1 : Aside0 (w.heap.size ≤ bu ∧ Wb.heap.size = bu + 1) := ⟨by have := HB2.out.size; rw [hWb, hbu]; simp; omega⟩
 rw [← hWb, ← hbu]
 clear hWb hbu hbw HU0 HU1 HB2
 go_wp2_with fail
 refine (laws_toByteS.calls k A0 c0 l l Wb (Kd.C_below HR.out HBb.out) HC.out HK.out).mono ?_
 rintro e w3 ⟨v1, rfl, hv1, hb⟩
 have HX := amZ (R_made hv1 HBb.out.size hb.size)
 obtain ⟨X, cx, rfl⟩ := Kd.R_slice hv1
 have HB3 := amZ (zdY HBb.out hb)
 have HUB3 := amZ ((hb.block _ (ziY HUB.out)).trans HUB.out)
 have HU03 := amZ (Kd.S_below HU0b.out hb)
 have HU13 := amZ (Kd.S_below HU1b.out hb)
 have HN3 : Aside0 (bu < w3.heap.size) := ⟨by have := hb.size; have := HN1.out; omega⟩
 clear hv1 hb HUB HU0b HU1b HBb
 go_wp2_with fail
 refine (load_calls X cx l w3 (Kd.R_reads' HX.out).2.2 (Kd.R_reads' HX.out).2.1 HY.out HL.out).mono ?_
 rintro e w4 ⟨g0, g1, rfl, hs0, hs1, hb⟩
 rw [HI.out] at hs0 hs1
 rw [HI.out]
 obtain ⟨G0, e0, rfl⟩ := Kd.S_slice hs0
 obtain ⟨G1, e1, rfl⟩ := Kd.S_slice hs1
 have HG0 := amZ (S_made hs0 HB3.out.size hb.size)
 have HG1 := amZ (S_made hs1 HB3.out.size hb.size)
 have HB4 := amZ hb
 clear hs0 hs1 hb
 go_upto_region 6 with (fail)
 obtain ⟨Wd, hWd⟩ : ∃ W, W = w4.alloc (.cells #[.slice G0 RC.length e0, .slice G1 RP.length e1] 31) := ⟨_, rfl⟩
 obtain ⟨bg, hbg⟩ : ∃ b, b = w4.heap.size := ⟨_, rfl⟩
 obtain ⟨n3, hn3⟩ : ∃ b, b = w3.heap.size := ⟨_, rfl⟩
 have hbd : Below w3.heap.size w3 Wd := by rw [hWd]; exact zmY HB4.out _
 have hb7 : Below w4.heap.size w4 Wd := by rw [hWd]; exact zmY (Below.refl _ _) _
 have HT : Aside0 (LLd w bu n3 bg (.slice U0 RC.length f0) (.slice U1 RP.length f1) (.slice X l.length cx) (.slice G0 RC.length e0) (.slice G1 RP.length e1) RC RP l RC RP Wd) :=
  ⟨⟨zdY HB3.out hbd, (hbd.block _ (ziY HUB3.out)).trans HUB3.out, by rw [hWd, hbg, heap_alloc_new], Kd.S_below HU03.out hbd, Kd.S_below HU13.out hbd, Kd.R_mono (Kd.R_below HX.out hbd) (fun b hb => by have := HN1.out; omega),
   Kd.S_mono (Kd.S_below HG0.out hb7) (fun b hb => by omega), Kd.S_mono (Kd.S_below HG1.out hb7) (fun b hb => by omega), HN1.out.1, by have := HN3.out; omega, by have := HB4.out.size; omega⟩⟩
 rw [← hWd, ← hbg]
 clear hbd hb7 hWd hbg hn3 HB3 HUB3 HU03 HU13 HX HG0 HG1 HB4 HN1 HN3
 have u0 : Wd.cell? ⟨bu, 0, none⟩ = some (.slice U0 RC.length f0) := (zaY HT.out.ub 0).trans rfl
 have u1 : Wd.cell? ⟨bu, 1, none⟩ = some (.slice U1 RP.length f1) := (zaY HT.out.ub 1).trans rfl
 have g0' : Wd.cell? ⟨bg, 0, none⟩ = some (.slice G0 RC.length e0) := (zaY HT.out.gb 0).trans rfl
 have g1' : Wd.cell? ⟨bg, 1, none⟩ = some (.slice G1 RP.length e1) := (zaY HT.out.gb 1).trans rfl
 go_wp2_with fail
 refine (eqProgram_same RC RP G0 U0 G1 U1 e0 f0 e1 f1 Wd (Kd.S_reads' HT.out.g0).2.2 (Kd.S_reads' HT.out.u0).2.2 (Kd.S_reads' HT.out.g1).2.2 (Kd.S_reads' HT.out.u1).2.2).mono ?_
 rintro e w5 ⟨rfl, hb⟩
 have HS5 := amZ (HT.out.below hb)
 clear hb HT u0 u1 g0' g1'
 go_wp2_with fail
 refine (laws_toByteS.calls k A0 c0 l l w5 (Kd.C_below HR.out HS5.out.b) HC.out HK.out).mono ?_
 rintro e w6 ⟨v1, rfl, hv1, hb⟩
 obtain ⟨Y, cy, rfl, ley, rdy⟩ := Kd.R_reads hv1
 have HS6 := amZ (HS5.out.below hb)
 have HRY := amZ rdy
 clear hv1 hb ley rdy HS5
 go_wp2_with fail
 refine (eqByteS_same X Y cx cy l w6 (Kd.R_reads' HS6.out.x).2.2 HRY.out).mono ?_
 rintro e w7 ⟨rfl, hb⟩
 have HS7 := amZ (HS6.out.below hb)
 clear hb HS6 HRY
 go_wp2_with fail
 refine (markByteS_calls w.heap.size (fun b => bu < b ∧ b < n3) (.slice X l.length cx) l 1 w7 HS7.out.x (by decide) (by have := HL.out; omega)).mono ?_
 rintro e w8 ⟨rfl, hm, hgr⟩
 have HS8 := amZ (HS7.out.markX (Grew.of_grown hgr (fun k e => (HS7.out.x).1 k e)) hm)
 clear hm hgr HS7
 have dm : decide (1 + (l.length : Int) < 0) = false := decide_eq_false (by omega)
 have em : (1 + (l.length : Int) < 0) = False := eq_false (by omega)
 have u0 : w8.cell? ⟨bu, 0, none⟩ = some (.slice U0 RC.length f0) := (zaY HS8.out.ub 0).trans rfl
 have u1 : w8.cell? ⟨bu, 1, none⟩ = some (.slice U1 RP.length f1) := (zaY HS8.out.ub 1).trans rfl
 have g0' : w8.cell? ⟨bg, 0, none⟩ = some (.slice G0 RC.length e0) := (zaY HS8.out.gb 0).trans rfl
 have g1' : w8.cell? ⟨bg, 1, none⟩ = some (.slice G1 RP.length e1) := (zaY HS8.out.gb 1).trans rfl
 go_wp2_with fail
 refine (eqProgram_same RC RP G0 U0 G1 U1 e0 f0 e1 f1 w8 (Kd.S_reads' HS8.out.g0).2.2 (Kd.S_reads' HS8.out.u0).2.2 (Kd.S_reads' HS8.out.g1).2.2 (Kd.S_reads' HS8.out.u1).2.2).mono ?_
 rintro e wn ⟨rfl, hb⟩
 have HSn := amZ (HS8.out.below hb)
 clear hb HS8 u0 u1 g0' g1'
 have g0' : wn.cell? ⟨bg, 0, none⟩ = some (.slice G0 RC.length e0) := (zaY HSn.out.gb 0).trans rfl
 have g1' : wn.cell? ⟨bg, 1, none⟩ = some (.slice G1 RP.length e1) := (zaY HSn.out.gb 1).trans rfl
 go_wp2_with fail
 refine (markProgram_calls w.heap.size (fun b => n3 ≤ b ∧ b < bg) _ _ RC RP 1 wn HSn.out.g0 HSn.out.g1 (by decide) (by have := HSZ.out; omega)).mono ?_
 rintro e wo ⟨rfl, hm0, hm1, hgr⟩
 have HSo := amZ (HSn.out.markG hgr hm0 hm1)
 clear hm0 hm1 hgr g0' g1' HSn
 have g0' : wo.cell? ⟨bg, 0, none⟩ = some (.slice G0 RC.length e0) := (zaY HSo.out.gb 0).trans rfl
 have g1' : wo.cell? ⟨bg, 1, none⟩ = some (.slice G1 RP.length e1) := (zaY HSo.out.gb 1).trans rfl
 go_wp2_with fail
 refine (heldProgram_calls G0 G1 e0 e1 RC RP 1 wo (by have := (Kd.S_reads' HSo.out.g0).2.2; rwa [mcL_length] at this) (by have := (Kd.S_reads' HSo.out.g1).2.2; rwa [mpL_length] at this) (by decide) (by have := HSZ.out; omega)).mono ?_
 rintro e wp ⟨rfl, hb⟩
 have HSp := amZ (HSo.out.below hb)
 clear hb HSo g0' g1'
 have hm := HPOS.out
 have dl : decide (1 + progS RC RP < 0) = false := decide_eq_false (by omega)
 have el : (1 + progS RC RP < 0) = False := eq_false (by omega)
 clear hm
 go_wp2_with fail
 refine (laws_toByteS.calls k A0 c0 l l wp (Kd.C_below HR.out HSp.out.b) HC.out HK.out).mono ?_
 rintro e wr ⟨v1, rfl, hv1, hb⟩
 obtain ⟨Y2, cy2, rfl, ley, rdy⟩ := Kd.R_reads hv1
 have HSr := amZ (HSp.out.below hb)
 have HRY := amZ (And.intro ley rdy)
 clear hv1 hb ley rdy HSp
 go_wp2_with fail
 refine (load_calls Y2 cy2 l wr HRY.out.2 HRY.out.1 HY.out HL.out).mono ?_
 rintro e ws ⟨h0, h1, rfl, hs0, hs1, hb⟩
 rw [HI.out] at hs0 hs1
 rw [HI.out]
 have HSs := amZ (HSr.out.below hb)
 obtain ⟨H0, b0, rfl, le0, rd0⟩ := Kd.S_reads hs0
 obtain ⟨H1, b1, rfl, le1, rd1⟩ := Kd.S_reads hs1
 have HE0 := amZ rd0
 have HE1 := amZ rd1
 clear hb hs0 hs1 le0 le1 rd0 rd1 HSr HRY
 go_upto_region 23 with (fail)
 obtain ⟨Wt, hWt⟩ : ∃ W, W = ws.alloc (.cells #[.slice H0 RC.length b0, .slice H1 RP.length b1] 31) := ⟨_, rfl⟩
 obtain ⟨bh, hbh⟩ : ∃ b, b = ws.heap.size := ⟨_, rfl⟩
 have hbt : Below ws.heap.size ws Wt := by rw [hWt]; exact zmY (Below.refl _ _) _
 have HSt := amZ (HSs.out.below hbt)
 have HF0 := amZ (Kd.C_below HE0.out hbt)
 have HF1 := amZ (Kd.C_below HE1.out hbt)
 have hh : Wt.heap[bh]? = some (.cells #[.slice H0 RC.length b0, .slice H1 RP.length b1] 31 (0, 0)) := by rw [hWt, hbh, heap_alloc_new]
 rw [← hWt, ← hbh]
 have z0 : Wt.cell? ⟨bh, 0, none⟩ = some (.slice H0 RC.length b0) := (zaY hh 0).trans rfl
 have z1 : Wt.cell? ⟨bh, 1, none⟩ = some (.slice H1 RP.length b1) := (zaY hh 1).trans rfl
 have u0 : Wt.cell? ⟨bu, 0, none⟩ = some (.slice U0 RC.length f0) := (zaY HSt.out.ub 0).trans rfl
 have u1 : Wt.cell? ⟨bu, 1, none⟩ = some (.slice U1 RP.length f1) := (zaY HSt.out.ub 1).trans rfl
 clear hbt hWt hbh hh HE0 HE1 HSs
 go_wp2_with fail
 refine (eqProgram_same RC RP H0 U0 H1 U1 b0 f0 b1 f1 Wt HF0.out (Kd.S_reads' HSt.out.u0).2.2 HF1.out (Kd.S_reads' HSt.out.u1).2.2).mono ?_
 rintro e wv ⟨rfl, hb⟩
 have HSv := amZ (HSt.out.below hb)
 clear hb HSt z0 z1 u0 u1 HF0 HF1
 have g0' : wv.cell? ⟨bg, 0, none⟩ = some (.slice G0 RC.length e0) := (zaY HSv.out.gb 0).trans rfl
 have g1' : wv.cell? ⟨bg, 1, none⟩ = some (.slice G1 RP.length e1) := (zaY HSv.out.gb 1).trans rfl
 go_wp2_with fail
 refine (heldProgram_calls G0 G1 e0 e1 RC RP 1 wv (by have := (Kd.S_reads' HSv.out.g0).2.2; rwa [mcL_length] at this) (by have := (Kd.S_reads' HSv.out.g1).2.2; rwa [mpL_length] at this) (by decide) (by have := HSZ.out; omega)).mono ?_
 rintro e wz ⟨rfl, hb⟩
 have HSz := amZ (HSv.out.below hb)
 clear hb HSv g0' g1'
 go_wp2_with fail
 go_ret
 exact ⟨rfl, HSz.out.b⟩
end Go.Proofs.Ytmmpiojekgfdjaa.C
