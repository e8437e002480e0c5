/- The law of the walk. -/
import Derived.Test.YtmmpiojekgfdjaaZsV6
import Derived.Test.YtmmpiojekgfdjaaZsK
namespace Go.Proofs.Ytmmpiojekgfdjaa.C
open Go.RowKit Go.Proofs.YtmmpiojekgfdjaaW.PrintWords Go.Proofs.YtmmpiojekgfdjaaW.PrintLast
set_option linter.unusedVariables false
set_option linter.unusedSimpArgs false
theorem mcS_size : ∀ cs : List S98, mcS (cs.map cC) ≤ 2 * (((cs.length + (cs.map sC).sum : Nat)) : Int)
  | [] => by simp [mcS]
  | x :: cs => by
    have := mcS_size cs
    have e : mcN (cC x) = 2 + (sC x : Int) := rfl
    simp only [mcS, List.map_cons, List.sum_cons, List.length_cons, Int.natCast_add, Int.natCast_one] at *
    omega
theorem mpS_size : ∀ ps : List S103, mpS (ps.map cP) ≤ 3 * (((ps.length + (ps.map sP).sum : Nat)) : Int)
  | [] => by simp [mpS]
  | x :: ps => by
    have := mpS_size ps
    have e : mpN (cP x) = 2 + 2 * (x.f2.length : Int) + 3 * (x.f3.length : Int) := by simp [mpN, cP]
    have e2 : (sP x : Int) = x.f2.length + x.f3.length := by simp [sP]
    simp only [mpS, List.map_cons, List.sum_cons, List.length_cons, Int.natCast_add, Int.natCast_one] at *
    omega
theorem progS_size (cs : List S98) (ps : List S103) (h : sizeP cs ps ≤ 1048576) : progS (cs.map cC) (ps.map cP) ≤ 4194304 := by
  have h0 := mcS_size cs
  have h1 := mpS_size ps
  unfold progS
  unfold sizeP at h
  omega
theorem save_prep (cs : List S98) (ps : List S103) (h : sizeP cs ps ≤ 1048576) :
    ∃ (k : Nat) (C : List S48) (P : List S52) (r : Bool) (k1 : Nat), laws_toProgram.f k cs ps = some (C, P) ∧ impl_Check.f C P = some r ∧ spec_Check.f k1 C P = some r ∧ (r = true → SaveOK C P) ∧ progS C P ≤ 4194304 := by
  obtain ⟨k, hk⟩ := (toProgram_ev cs ps h).rounds
  obtain ⟨r, hr, er⟩ := check_ev (cs.map cC) (ps.map cP) (fine_size h) (by have := sumCode_size cs ps; omega)
  obtain ⟨k1, hk1⟩ := er.rounds
  exact ⟨k, _, _, r, k1, hk, hr, hk1, fun e => by subst e; exact (sound_of hr).save, progS_size cs ps h⟩
/-- A row that a call has made, by the numbers of its blocks. -/
theorem R_made {α : Type} {d : Kd α} {e n : Nat} {W W1 : World} {v : Value} {xs : List α} (h : d.R e W1 W.heap.size (fun _ => True) v xs) (hn : n ≤ W.heap.size) (hw : W.heap.size ≤ W1.heap.size) : d.R e W1 n (fun b => W.heap.size ≤ b ∧ b < W1.heap.size) v xs :=
  Kd.R_lower (Kd.R_mono (Kd.R_bound h) (fun _ hk => ⟨hk.2.1, hk.2.2.1⟩)) hn
theorem S_made {α : Type} {d : Kd α} {e n : Nat} {W W1 : World} {v : Value} {xs : List α} (h : Kd.S d e W1 W.heap.size (fun _ => True) v xs) (hn : n ≤ W.heap.size) (hw : W.heap.size ≤ W1.heap.size) : Kd.S d e W1 n (fun b => W.heap.size ≤ b ∧ b < W1.heap.size) v xs :=
  Kd.S_lower (Kd.S_mono (Kd.S_bound h) (fun _ hk => ⟨hk.2.1, hk.2.2.1⟩)) hn
/-- What the law holds on to: its argument, the answers u and g, its own copy. -/
structure LSv (w : World) (n4 n5 : Nat) (pv tv : Array Value) (u g x0 x1 : Value) (L G : List Int) (C : List S48) (P : List S52) (W : World) : Prop where
  b : Below w.heap.size w W
  p : W.heap[w.heap.size]? = some (.cells pv 25 (0, 0))
  u : Kd.R (Kd.int .u8) 5 W w.heap.size (fun b => b < n4) u L
  x0 : Kd.S k48 48 W w.heap.size (fun b => n4 ≤ b ∧ b < n5) x0 C
  x1 : Kd.S k52 52 W w.heap.size (fun b => n4 ≤ b ∧ b < n5) x1 P
  t : W.heap[n5]? = some (.cells tv 31 (0, 0))
  g : Kd.R (Kd.int .u8) 5 W w.heap.size (fun b => n5 < b) g G
  n : w.heap.size < n4 ∧ n4 ≤ n5
section
variable {w : World} {n4 n5 : Nat} {pv tv : Array Value} {u g x0 x1 : Value} {L G : List Int} {C : List S48} {P : List S52} {W : World}
theorem LSv.below {W1 : World} (h : LSv w n4 n5 pv tv u g x0 x1 L G C P W) (hb : Below W.heap.size W W1) : LSv w n4 n5 pv tv u g x0 x1 L G C P W1 :=
  ⟨below_step h.b hb, (hb.block _ (blk_lt h.p)).trans h.p, Kd.R_below h.u hb, Kd.S_below h.x0 hb, Kd.S_below h.x1 hb, (hb.block _ (blk_lt h.t)).trans h.t, Kd.R_below h.g hb, h.n⟩
theorem Grew.on {ok : Nat → Prop} {w W W1 : World} (h : Below w.heap.size w W) (hg : Grew ok W W1) (hk : ∀ k, k < w.heap.size → ¬ ok k) : Below w.heap.size w W1 :=
  ⟨hg.os.trans h.os, hg.tape.trans h.tape, hg.output.trans h.output, Nat.le_trans h.size hg.size, fun k hl => (hg.block k (Nat.lt_of_lt_of_le hl h.size) (hk k hl)).trans (h.block k hl)⟩
theorem LSv.marked {W1 : World} {C1 : List S48} {P1 : List S52} (h : LSv w n4 n5 pv tv u g x0 x1 L G C P W) (hg : Grew (fun b => n4 ≤ b ∧ b < n5) W W1)
    (s0 : Kd.S k48 48 W1 w.heap.size (fun b => n4 ≤ b ∧ b < n5) x0 C1) (s1 : Kd.S k52 52 W1 w.heap.size (fun b => n4 ≤ b ∧ b < n5) x1 P1) : LSv w n4 n5 pv tv u g x0 x1 L G C1 P1 W1 := by
  have hn := h.n
  exact ⟨hg.on h.b (fun k hl => by omega), (hg.block _ (blk_lt h.p) (by omega)).trans h.p, hg.R h.u (fun k hl => by omega), s0, s1, (hg.block _ (blk_lt h.t) (by omega)).trans h.t, hg.R h.g (fun k hl => by omega), h.n⟩
theorem LSv.wrote {W1 : World} {G1 : List Int} (h : LSv w n4 n5 pv tv u g x0 x1 L G C P W) (hw : W.grownBy W1 g.ownBlock) (hr : Kd.R (Kd.int .u8) 5 W1 w.heap.size (fun b => n5 < b) g G1) : LSv w n4 n5 pv tv u g x0 x1 L G1 C P W1 := by
  have hn := h.n
  have hg : Grew (fun b => n5 < b) W W1 := Grew.of_grown hw (fun k e => h.g.1 k e)
  exact ⟨hg.on h.b (fun k hl => by omega), (hg.block _ (blk_lt h.p) (by omega)).trans h.p, hg.R h.u (fun k hl => by omega), hg.S h.x0 (fun k hl => by omega), hg.S h.x1 (fun k hl => by omega), (hg.block _ (blk_lt h.t) (by omega)).trans h.t, hr, h.n⟩
end
set_option maxHeartbeats 8000000 in
set_option maxRecDepth 100000 in
theorem law_Save_calls (A0 A1 : Option Addr) (c0 c1 : Nat) (cs : List S98) (ps : List S103) (w : World) (hr0 : Kd.C k98 w A0 cs.length cs) (hc0 : cs.length ≤ c0) (hr1 : Kd.C k103 w A1 ps.length ps) (hc1 : ps.length ≤ c1)
    (hn0 : ∀ y ∈ cs, y.f2.length ≤ 9223372036854775807) (hn1 : ∀ y ∈ ps, y.f2.length ≤ 9223372036854775807 ∧ y.f3.length ≤ 9223372036854775807) :
    Calls Try.prog 4 #[.agg #[.slice A0 cs.length c0, .slice A1 ps.length c1]] w fun e w' => e = .returned (.bool true) ∧ Below w.heap.size w w' := by
  have HB := Aside0.mk ((Below.refl w.heap.size w).alloc (Nat.le_refl _) (.cells #[.slice A0 cs.length c0, .slice A1 ps.length c1] 25))
  have HP : Aside0 ((w.alloc (.cells #[.slice A0 cs.length c0, .slice A1 ps.length c1] 25)).heap[w.heap.size]? = some (.cells #[.slice A0 cs.length c0, .slice A1 ps.length c1] 25 (0, 0))) := ⟨heap_alloc_new _ _⟩
  have HR0 := Aside0.mk hr0
  have HC0 := Aside0.mk hc0
  have HR1 := Aside0.mk hr1
  have HC1 := Aside0.mk hc1
  have HN0 := Aside0.mk hn0
  have HN1 := Aside0.mk hn1
  clear hr0 hc0 hr1 hc1 hn0 hn1
  go_enter Try.func4, Try.ntmps4
  go_wp2_with fail
  refine (szProgram_calls A0 A1 c0 c1 cs ps _ (Kd.C_below HR0.out HB.out) (Kd.C_below HR1.out HB.out) HN0.out HN1.out).mono ?_
  rintro e w2 ⟨rfl, hb⟩
  have HB2 := Aside0.mk (below_step HB.out hb)
  have HP2 := Aside0.mk ((hb.block _ (blk_lt HP.out)).trans HP.out)
  clear hb HP HB
  by_cases hs : (szProgN cs ps : Int) ≤ 1048576
  case neg =>
    have e : szr (szProgN cs ps) 1048576 = -1 := if_neg hs
    rw [e]
    clear e hs
    go_wp2_with fail
    go_ret
    exact ⟨rfl, HB2.out⟩
  have e : szr (szProgN cs ps) 1048576 = 1048576 - (szProgN cs ps : Int) := if_pos hs
  rw [e]
  have hd : decide (1048576 - (szProgN cs ps : Int) < 0) = false := decide_eq_false (by omega)
  have hd2 : (1048576 - (szProgN cs ps : Int) < 0) = False := eq_false (by omega)
  obtain ⟨k, C, P, r, k1, hk, hI, hS, hok, hsz⟩ := save_prep cs ps (show sizeP cs ps ≤ 1048576 from Int.ofNat_le.1 hs)
  have HK := Aside0.mk hk
  have HI := Aside0.mk hI
  have HS := Aside0.mk hS
  have HOK := Aside0.mk hok
  have HSZ := Aside0.mk hsz
  obtain ⟨L, hL⟩ : ∃ L, L = if r = true then saveL C P else [] := ⟨_, rfl⟩
  have HL : Aside0 (L.length ≤ 100000000000) := ⟨by
    subst hL
    cases r with
    | false => simp
    | true => rw [if_pos rfl]; exact (hok rfl).tot⟩
  have HEL := Aside0.mk hL
  have HPOS : Aside0 (0 ≤ progS C P) := ⟨by have := mcS_pos C; have := mpS_pos P; unfold progS; omega⟩
  clear hk hI hS hok hL hsz hs e
  have hp0 : w2.cell? ⟨w.heap.size, 0, none⟩ = some (.slice A0 cs.length c0) := (blk_cell HP2.out 0).trans rfl
  have hp1 : w2.cell? ⟨w.heap.size, 1, none⟩ = some (.slice A1 ps.length c1) := (blk_cell HP2.out 1).trans rfl
  go_wp2_with fail
  refine (laws_toProgram.calls k A0 c0 cs A1 c1 ps C P _ (Kd.C_below HR0.out HB2.out) HC0.out (Kd.C_below HR1.out HB2.out) HC1.out HK.out).mono ?_
  rintro e w3 ⟨v0, v1, rfl, hs0, hs1, hb⟩
  have HB3 := Aside0.mk (below_step HB2.out hb)
  have HP3 := Aside0.mk ((hb.block _ (blk_lt HP2.out)).trans HP2.out)
  obtain ⟨B0, d0, rfl, le0, rd0⟩ := Kd.S_reads hs0
  obtain ⟨B1, d1, rfl, le1, rd1⟩ := Kd.S_reads hs1
  have HD := Aside0.mk (And.intro le0 (And.intro rd0 (And.intro le1 rd1)))
  clear hb hs0 hs1 le0 rd0 le1 rd1 hp0 hp1 HP2
  go_wp2_with fail
  refine (spec_Save_calls B0 B1 d0 d1 C P k1 r w3 HD.out.2.1 HD.out.1 HD.out.2.2.2 HD.out.2.2.1 HS.out HOK.out).mono ?_
  rintro e w4 ⟨u, rfl, hu, hb⟩
  rw [← HEL.out] at hu
  have HB4 := Aside0.mk (below_step HB3.out hb)
  have HP4 := Aside0.mk ((hb.block _ (blk_lt HP3.out)).trans HP3.out)
  have HU : Aside0 (Kd.R (Kd.int .u8) 5 w4 w.heap.size (fun b => b < w4.heap.size) u L) := ⟨Kd.R_mono (R_made hu HB3.out.size hb.size) (fun _ h => h.2)⟩
  clear hb hu HD
  have hp0 : w4.cell? ⟨w.heap.size, 0, none⟩ = some (.slice A0 cs.length c0) := (blk_cell HP4.out 0).trans rfl
  have hp1 : w4.cell? ⟨w.heap.size, 1, none⟩ = some (.slice A1 ps.length c1) := (blk_cell HP4.out 1).trans rfl
  go_wp2_with fail
  refine (laws_toProgram.calls k A0 c0 cs A1 c1 ps C P _ (Kd.C_below HR0.out HB4.out) HC0.out (Kd.C_below HR1.out HB4.out) HC1.out HK.out).mono ?_
  rintro e w5 ⟨v0, v1, rfl, hs0, hs1, hb⟩
  have HB5 := Aside0.mk (below_step HB4.out hb)
  have HP5 := Aside0.mk ((hb.block _ (blk_lt HP4.out)).trans HP4.out)
  have HU5 := Aside0.mk (Kd.R_below HU.out hb)
  have HX0 := Aside0.mk (S_made hs0 HB4.out.size hb.size)
  have HX1 := Aside0.mk (S_made hs1 HB4.out.size hb.size)
  obtain ⟨E0, d2, rfl⟩ := Kd.S_slice hs0
  obtain ⟨E1, d3, rfl⟩ := Kd.S_slice hs1
  obtain ⟨n4, hn4⟩ : ∃ n, n = w4.heap.size := ⟨_, rfl⟩
  rw [← hn4] at HX0 HX1 HU5
  have hn45 : n4 ≤ w5.heap.size := hn4 ▸ hb.size
  have hn04 : w.heap.size < n4 := hn4 ▸ blk_lt HP4.out
  clear hb hs0 hs1 hp0 hp1 HP4 HU hn4
  go_upto_region 7 with (fail)
  obtain ⟨W, hW⟩ : ∃ W, W = w5.alloc (.cells #[.slice E0 C.length d2, .slice E1 P.length d3] 31) := ⟨_, rfl⟩
  obtain ⟨n5, hn5⟩ : ∃ n, n = w5.heap.size := ⟨_, rfl⟩
  have hbw : Below w5.heap.size w5 W := by rw [hW]; exact (Below.refl _ _).alloc (Nat.le_refl _) _
  have HBW := Aside0.mk (below_step HB5.out hbw)
  have HPW := Aside0.mk ((hbw.block _ (blk_lt HP5.out)).trans HP5.out)
  have HUW := Aside0.mk (Kd.R_below HU5.out hbw)
  have HX0W := Aside0.mk (Kd.S_below HX0.out hbw)
  have HX1W := Aside0.mk (Kd.S_below HX1.out hbw)
  have HTW : Aside0 (W.heap[n5]? = some (.cells #[.slice E0 C.length d2, .slice E1 P.length d3] 31 (0, 0))) := ⟨by rw [hW, hn5, heap_alloc_new]⟩
  have HSW : Aside0 (W.heap.size = n5 + 1) := ⟨by rw [hW, hn5]; simp⟩
  rw [← hW, ← hn5]
  rw [← hn5] at HX0W HX1W
  have HN : Aside0 (w.heap.size < n4 ∧ n4 ≤ n5) := ⟨by omega⟩
  clear hW hbw hn5 hn45 hn04 HB5 HP5 HU5 HX0 HX1
  have q0 : W.cell? ⟨n5, 0, none⟩ = some (.slice E0 C.length d2) := (blk_cell HTW.out 0).trans rfl
  have q1 : W.cell? ⟨n5, 1, none⟩ = some (.slice E1 P.length d3) := (blk_cell HTW.out 1).trans rfl
  go_wp2_with fail
  refine (impl_Save_calls E0 E1 d2 d3 C P r W (Kd.S_reads' HX0W.out).2.2 (Kd.S_reads' HX0W.out).2.1 (Kd.S_reads' HX1W.out).2.2 (Kd.S_reads' HX1W.out).2.1 HI.out HOK.out).mono ?_
  rintro e w7 ⟨g, rfl, hg, hb⟩
  rw [← HEL.out] at hg
  have HS7 : Aside0 (LSv w n4 n5 #[.slice A0 cs.length c0, .slice A1 ps.length c1] #[.slice E0 C.length d2, .slice E1 P.length d3] u g (.slice E0 C.length d2) (.slice E1 P.length d3) L L C P w7) :=
    ⟨⟨below_step HBW.out hb, (hb.block _ (blk_lt HPW.out)).trans HPW.out, Kd.R_below HUW.out hb, Kd.S_below HX0W.out hb, Kd.S_below HX1W.out hb, (hb.block _ (blk_lt HTW.out)).trans HTW.out, Kd.R_mono (R_made hg HBW.out.size hb.size) (fun k hk => by have := HSW.out; omega), HN.out⟩⟩
  obtain ⟨Au, cu, eu⟩ := Kd.R_slice HS7.out.u
  obtain ⟨Ag, cg, eg⟩ := Kd.R_slice HS7.out.g
  subst eu
  subst eg
  clear hg hb q0 q1 HBW HPW HUW HX0W HX1W HTW HSW HN
  go_wp2_with fail
  refine (eqByteS_same Ag Au cg cu L w7 (Kd.R_reads' HS7.out.g).2.2 (Kd.R_reads' HS7.out.u).2.2).mono ?_
  rintro e w8 ⟨rfl, hb⟩
  have HS8 := Aside0.mk (HS7.out.below hb)
  clear hb HS7
  go_upto_region 10 with (fail)
  go_cut [31] (fun s31 wx => s31 = .bool false ∧ Aside0 (LSv w n4 n5 #[.slice A0 cs.length c0, .slice A1 ps.length c1] #[.slice E0 C.length d2, .slice E1 P.length d3] (.slice Au L.length cu) (.slice Ag L.length cg) (.slice E0 C.length d2) (.slice E1 P.length d3) L L C P wx))
  case first =>
    have HSd := Aside0.mk (HS8.out.below (below_drew (Below.refl _ _)))
    have q0 : w8.drew.cell? ⟨n5, 0, none⟩ = some (.slice E0 C.length d2) := (blk_cell HSd.out.t 0).trans rfl
    have q1 : w8.drew.cell? ⟨n5, 1, none⟩ = some (.slice E1 P.length d3) := (blk_cell HSd.out.t 1).trans rfl
    have p0 : w8.drew.cell? ⟨w.heap.size, 0, none⟩ = some (.slice A0 cs.length c0) := (blk_cell HSd.out.p 0).trans rfl
    have p1 : w8.drew.cell? ⟨w.heap.size, 1, none⟩ = some (.slice A1 ps.length c1) := (blk_cell HSd.out.p 1).trans rfl
    clear HS8
    go_region_with (first | (go_at_call 9; refine (laws_toProgram.calls k A0 c0 cs A1 c1 ps C P w8.drew (Kd.C_below HR0.out HSd.out.b) HC0.out (Kd.C_below HR1.out HSd.out.b) HC1.out HK.out).mono ?_; rintro e w9 ⟨y0, y1, rfl, hs0, hs1, hb⟩; have HS9 := Aside0.mk (HSd.out.below hb); obtain ⟨F0, f0, rfl, le0, rd0⟩ := Kd.S_reads hs0; obtain ⟨F1, f1, rfl, le1, rd1⟩ := Kd.S_reads hs1; have HY0 := Aside0.mk rd0; have HY1 := Aside0.mk rd1; clear hs0 hs1 hb rd0 rd1 le0 le1 q0 q1 p0 p1; have q0 : w9.cell? ⟨n5, 0, none⟩ = some (.slice E0 C.length d2) := (blk_cell HS9.out.t 0).trans rfl; have q1 : w9.cell? ⟨n5, 1, none⟩ = some (.slice E1 P.length d3) := (blk_cell HS9.out.t 1).trans rfl) | (go_at_call 11; refine (eqProgram_same C P E0 F0 E1 F1 d2 f0 d3 f1 w9 (Kd.S_reads' HS9.out.x0).2.2 HY0.out (Kd.S_reads' HS9.out.x1).2.2 HY1.out).mono ?_; rintro e w10 ⟨rfl, hb⟩; have HS10 := Aside0.mk (HS9.out.below hb); clear hb HS9 q0 q1))
    all_goals (go_wp2_with fail; go_meet; exact ⟨rfl, HS10⟩)
  case rest =>
  obtain ⟨rfl, HS⟩ := hcut
  clear HS8
  have q0 : wc.cell? ⟨n5, 0, none⟩ = some (.slice E0 C.length d2) := (blk_cell HS.out.t 0).trans rfl
  have q1 : wc.cell? ⟨n5, 1, none⟩ = some (.slice E1 P.length d3) := (blk_cell HS.out.t 1).trans rfl
  go_upto_region 13 with (fail)
  go_wp2_with fail
  refine (markProgram_calls w.heap.size (fun b => n4 ≤ b ∧ b < n5) _ _ C P 1 wc HS.out.x0 HS.out.x1 (by decide) (by have := HSZ.out; omega)).mono ?_
  rintro e wm ⟨rfl, hm0, hm1, hgr⟩
  have HSm := Aside0.mk (HS.out.marked hgr hm0 hm1)
  clear hm0 hm1 hgr q0 q1 HS
  have hm := HPOS.out
  have dm : decide (1 + progS C P < 0) = false := decide_eq_false (by omega)
  have em : (1 + progS C P < 0) = False := eq_false (by omega)
  clear hm
  go_wp2_with fail
  refine (eqByteS_same Ag Au cg cu L wm (Kd.R_reads' HSm.out.g).2.2 (Kd.R_reads' HSm.out.u).2.2).mono ?_
  rintro e wn ⟨rfl, hb⟩
  have HSn := Aside0.mk (HSm.out.below hb)
  clear hb HSm
  go_wp2_with fail
  refine (markByteS_calls w.heap.size (fun b => n5 < b) (.slice Ag L.length cg) L 1 wn HSn.out.g (by decide) (by have := HL.out; omega)).mono ?_
  rintro e wo ⟨rfl, hr, hg⟩
  have HSo := Aside0.mk (HSn.out.wrote hg hr)
  clear hr hg HSn
  go_wp2_with fail
  refine (heldByteS_calls Ag cg L.length 1 wo (by simpa only [markByteSL_length] using (Kd.R_reads' HSo.out.g).2.2) (by decide) (by have := HL.out; omega)).mono ?_
  rintro e wq ⟨he, rfl⟩
  rw [Int.one_mul] at he
  subst he
  have dl : decide (1 + (L.length : Int) < 0) = false := decide_eq_false (by omega)
  have el : (1 + (L.length : Int) < 0) = False := eq_false (by omega)
  have p0 : wo.cell? ⟨w.heap.size, 0, none⟩ = some (.slice A0 cs.length c0) := (blk_cell HSo.out.p 0).trans rfl
  have p1 : wo.cell? ⟨w.heap.size, 1, none⟩ = some (.slice A1 ps.length c1) := (blk_cell HSo.out.p 1).trans rfl
  go_wp2_with fail
  refine (laws_toProgram.calls k A0 c0 cs A1 c1 ps C P _ (Kd.C_below HR0.out HSo.out.b) HC0.out (Kd.C_below HR1.out HSo.out.b) HC1.out HK.out).mono ?_
  rintro e wr ⟨y0, y1, rfl, hs0, hs1, hb⟩
  have HSr := Aside0.mk (HSo.out.below hb)
  obtain ⟨F0, f0, rfl, le0, rd0⟩ := Kd.S_reads hs0
  obtain ⟨F1, f1, rfl, le1, rd1⟩ := Kd.S_reads hs1
  have HD := Aside0.mk (And.intro le0 (And.intro rd0 (And.intro le1 rd1)))
  clear hb hs0 hs1 le0 rd0 le1 rd1 p0 p1 HSo
  go_wp2_with fail
  refine (impl_Save_calls F0 F1 f0 f1 C P r wr HD.out.2.1 HD.out.1 HD.out.2.2.2 HD.out.2.2.1 HI.out HOK.out).mono ?_
  rintro e ws ⟨h, rfl, hh, hb⟩
  rw [← HEL.out] at hh
  have HSs := Aside0.mk (HSr.out.below hb)
  obtain ⟨Ah, ch, eh⟩ := Kd.R_slice hh
  subst eh
  have HH := Aside0.mk (Kd.R_reads' hh).2.2
  clear hb hh HSr HD
  go_wp2_with fail
  refine (eqByteS_same Ah Au ch cu L ws HH.out (Kd.R_reads' HSs.out.u).2.2).mono ?_
  rintro e wt ⟨rfl, hb⟩
  have HSt := Aside0.mk (HSs.out.below hb)
  clear hb HSs HH
  go_wp2_with fail
  refine (heldByteS_calls Ag cg L.length 1 wt (by simpa only [markByteSL_length] using (Kd.R_reads' HSt.out.g).2.2) (by decide) (by have := HL.out; omega)).mono ?_
  rintro e wq ⟨he, rfl⟩
  rw [Int.one_mul] at he
  subst he
  go_wp2_with fail
  go_ret
  exact ⟨rfl, HSt.out.b⟩
end Go.Proofs.Ytmmpiojekgfdjaa.C
