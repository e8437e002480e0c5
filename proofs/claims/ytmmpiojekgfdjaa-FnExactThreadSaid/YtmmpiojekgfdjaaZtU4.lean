/- The law of Thread. -/
import Derived.Test.YtmmpiojekgfdjaaZtU3
import Derived.Test.YtmmpiojekgfdjaaZtK
namespace Go.Proofs.Ytmmpiojekgfdjaa.C
open Go.RowKit YtmmpiojekgfdjaaW.PrintWords YtmmpiojekgfdjaaW.PrintLast
set_option linter.unusedVariables false
set_option linter.unusedSimpArgs false
structure Sound (cs : List S48) (ps : List S52) : Prop where
 n0 : 1 ≤ ps.length
 n1 : ps.length ≤ 500
 n2 : cs.length ≤ 20000
 cb : cs.any constBad = false
 pb : protosBad 0 ps = false
 sm : sumCode ps ≤ 20000
 ok : ∀ f ∈ ps, codeOK cs.length ps f f.f3 = true ∧ ghL f.f3 (3 * f.f3.length + 5) [] [(0, 0)] = some true
theorem codesOK_all {nc : Nat} {ps : List S52} : ∀ {fs : List S52}, codesOK nc ps fs = some true → ∀ f ∈ fs, codeOK nc ps f f.f3 = true ∧ ghL f.f3 (3 * f.f3.length + 5) [] [(0, 0)] = some true
 | [], _, f, h => by simp at h
 | g :: fs, h, f, hf => by
  rcases codesOK_cons h with ⟨_, h2⟩ | ⟨h1, z, hz, h2⟩
  ·
   cases h2
  ·
   rcases h2 with ⟨_, h3⟩ | ⟨h3, h4⟩
   ·
    cases h3
   ·
    subst h3
    rcases List.mem_cons.1 hf with rfl | hf
    ·
     exact ⟨h1, hz⟩
    ·
     exact codesOK_all h4 f hf
theorem sound_of {cs : List S48} {ps : List S52} (h : impl_Check.f cs ps = some true) : Sound cs ps := by
 unfold impl_Check.f at h
 split at h
 ·
  cases h
 split at h
 ·
  cases h
 rename_i h1
 split at h
 ·
  cases h
 rename_i h2
 split at h
 ·
  cases h
 rename_i h3
 split at h
 ·
  cases h
 rename_i h4
 exact ⟨by omega, by omega, by omega, by simpa using h2, by simpa using h3, by omega, codesOK_all h⟩
theorem Sound.pro {cs : List S48} {ps : List S52} (h : Sound cs ps) {f : S52} (hf : f ∈ ps) :
  0 ≤ f.f0 ∧ f.f0 ≤ f.f1 ∧ f.f1 ≤ 200 ∧ f.f2.length ≤ 100 ∧ 0 < f.f3.length ∧ f.f3.length ≤ 20000 ∧ (∀ c ∈ f.f2, 0 ≤ c.f1 ∧ c.f1 < 200) ∧ ∀ x ∈ f.f3, FineIns f.f3.length x ∧ goodInsB x.f0 x.f1 x.f2 cs.length ps f.f1 f.f2.length f.f3.length = true := by
 have hb := protosBad_mem h.pb f hf
 unfold protoBad at hb
 simp at hb
 obtain ⟨b1, b2, b3, b4, b5, b6⟩ := hb
 have hs := sumCode_mem hf
 have hsm := h.sm
 have hpos : 0 < f.f3.length := List.length_pos_iff.2 b6
 refine ⟨by omega, by omega, by omega, by omega, hpos, by omega, fun c hc => ?_, fun x hx => ?_⟩
 ·
  have := b1 c hc
  unfold capBad at this
  simp at this
  omega
 ·
  have hg := (h.ok f hf).1
  unfold codeOK at hg
  have := List.all_eq_true.1 hg x hx
  exact ⟨fine_of_good this h.n2 h.n1 (by omega) (by omega) (by omega) (by omega), this⟩
theorem mcS_size : ∀ cs : List S98, mcS (cs.map cC) ≤ 2 * (((cs.length + (cs.map sC).sum : Nat)) : Int)
 | [] => by simp [mcS]
 | x :: cs => by
  have := mcS_size cs
  have e : mcN (cC x) = 2 + (sC x : Int) := rfl
  simp only [mcS, List.map_cons, List.sum_cons, List.length_cons, Int.natCast_add, Int.natCast_one] at *
  omega
theorem mpS_size : ∀ ps : List S103, mpS (ps.map cP) ≤ 3 * (((ps.length + (ps.map sP).sum : Nat)) : Int)
 | [] => by simp [mpS]
 | x :: ps => by
  have := mpS_size ps
  have e : mpN (cP x) = 2 + 2 * (x.f2.length : Int) + 3 * (x.f3.length : Int) := by simp [mpN, cP]
  have e2 : (sP x : Int) = x.f2.length + x.f3.length := by simp [sP]
  simp only [mpS, List.map_cons, List.sum_cons, List.length_cons, Int.natCast_add, Int.natCast_one] at *
  omega
theorem progS_size (cs : List S98) (ps : List S103) (h : sizeP cs ps ≤ 1048576) : progS (cs.map cC) (ps.map cP) ≤ 4194304 := by
 have h0 := mcS_size cs
 have h1 := mpS_size ps
 unfold progS
 unfold sizeP at h
 omega
theorem fine_all {C : List S48} {P : List S52} (h : impl_Check.f C P = some true) : ∀ f ∈ P, f.f3.length ≤ 20000 ∧ ∀ x ∈ f.f3, FineIns f.f3.length x := by
 intro f hf
 obtain ⟨_, _, _, _, _, a6, _, a8⟩ := (sound_of h).pro hf
 exact ⟨a6, fun x hx => (a8 x hx).1⟩
theorem mpS_thr : ∀ P : List S52, mpS (P.map thrP) = mpS P
 | [] => rfl
 | x :: P => by
  have := mpS_thr P
  have e : mpN (thrP x) = mpN x := by simp [mpN, thrP]
  simp only [mpS, List.map_cons, List.sum_cons] at *
  omega
theorem thread_prep (cs : List S98) (ps : List S103) (h : sizeP cs ps ≤ 1048576) :
  ∃ (k : Nat) (C : List S48) (P : List S52) (r : Bool) (k1 : Nat) (RC : List S48) (RP : List S52), laws_toProgram.f k cs ps = some (C, P) ∧ impl_Check.f C P = some r ∧ FineP C P ∧ spec_Thread.f k1 C P = some (RC, RP) ∧ RC = (if r = true then C else []) ∧ RP = (if r = true then P.map thrP else []) ∧ (r = true → ∀ f ∈ P, f.f3.length ≤ 20000 ∧ ∀ x ∈ f.f3, FineIns f.f3.length x) ∧ progS C P ≤ 4194304 ∧ progS RC RP ≤ 4194304 ∧ 0 ≤ progS C P ∧ 0 ≤ progS RC RP := by
 obtain ⟨k, hk⟩ := (toProgram_ev cs ps h).rounds
 obtain ⟨r, hr, er⟩ := check_ev (cs.map cC) (ps.map cP) (fine_size h) (by have := sumCode_size cs ps; omega)
 have hok : r = true → ∀ f ∈ ps.map cP, f.f3.length ≤ 20000 ∧ ∀ x ∈ f.f3, FineIns f.f3.length x := fun e => by subst e; exact fine_all hr
 obtain ⟨k1, hk1⟩ := (thread_ev _ _ r (fine_size h) er hok).rounds
 have h0 := progS_size cs ps h
 have p1 := mcS_pos (cs.map cC)
 have p2 := mpS_pos (ps.map cP)
 have hp : ∀ (A : List S48) (B : List S52), 0 ≤ progS A B := fun A B => by have := mcS_pos A; have := mpS_pos B; unfold progS; omega
 refine ⟨k, _, _, r, k1, if r = true then cs.map cC else [], if r = true then (ps.map cP).map thrP else [], hk, hr, fine_size h, ?_, rfl, rfl, hok, h0, ?_, hp _ _, hp _ _⟩
 ·
  rw [hk1]; cases r <;> rfl
 ·
  cases r with
  | false => simp [progS, mcS, mpS]
  | true => simp only [if_pos]; unfold progS at *; rw [mpS_thr]; exact h0
theorem S_made {α : Type} {d : Kd α} {e n : Nat} {W W1 : World} {v : Value} {xs : List α} (h : Kd.S d e W1 W.heap.size (fun _ => True) v xs) (hn : n ≤ W.heap.size) (hw : W.heap.size ≤ W1.heap.size) : Kd.S d e W1 n (fun b => W.heap.size ≤ b ∧ b < W1.heap.size) v xs :=
 Kd.S_lower (Kd.S_mono (Kd.S_bound h) (fun _ hk => ⟨hk.2.1, hk.2.2.1⟩)) hn
structure LTh (w : World) (bu bx bg : Nat) (pv : Array Value) (u0 u1 x0 x1 g0 g1 : Value) (UC : List S48) (UP : List S52) (C : List S48) (P : List S52) (GC : List S48) (GP : List S52) (W : World) : Prop where
 b : Below w.heap.size w W
 p : W.heap[w.heap.size]? = some (.cells pv 25 (0, 0))
 ub : W.heap[bu]? = some (.cells #[u0, u1] 31 (0, 0))
 xb : W.heap[bx]? = some (.cells #[x0, x1] 31 (0, 0))
 gb : W.heap[bg]? = some (.cells #[g0, g1] 31 (0, 0))
 u0 : Kd.S k48 48 W w.heap.size (fun b => b < bu) u0 UC
 u1 : Kd.S k52 52 W w.heap.size (fun b => b < bu) u1 UP
 x0 : Kd.S k48 48 W w.heap.size (fun b => bu < b ∧ b < bx) x0 C
 x1 : Kd.S k52 52 W w.heap.size (fun b => bu < b ∧ b < bx) x1 P
 g0 : Kd.S k48 48 W w.heap.size (fun b => bx < b ∧ b < bg) g0 GC
 g1 : Kd.S k52 52 W w.heap.size (fun b => bx < b ∧ b < bg) g1 GP
 n : w.heap.size < bu ∧ bu < bx ∧ bx < bg
section
variable {w : World} {bu bx bg : Nat} {pv : Array Value} {u0 u1 x0 x1 g0 g1 : Value} {UC C GC C1 : List S48} {UP P GP P1 : List S52} {W W1 : World}
theorem LTh.below (h : LTh w bu bx bg pv u0 u1 x0 x1 g0 g1 UC UP C P GC GP W) (hb : Below W.heap.size W W1) : LTh w bu bx bg pv u0 u1 x0 x1 g0 g1 UC UP C P GC GP W1 :=
 ⟨zfY h.b hb, (hb.block _ (zkY h.p)).trans h.p, (hb.block _ (zkY h.ub)).trans h.ub, (hb.block _ (zkY h.xb)).trans h.xb, (hb.block _ (zkY h.gb)).trans h.gb, Kd.S_below h.u0 hb, Kd.S_below h.u1 hb, Kd.S_below h.x0 hb, Kd.S_below h.x1 hb, Kd.S_below h.g0 hb, Kd.S_below h.g1 hb, h.n⟩
theorem Grew.on {ok : Nat → Prop} {w W W1 : World} (h : Below w.heap.size w W) (hg : Grew ok W W1) (hk : ∀ k, k < w.heap.size → ¬ ok k) : Below w.heap.size w W1 :=
 ⟨hg.os.trans h.os, hg.tape.trans h.tape, hg.output.trans h.output, Nat.le_trans h.size hg.size, fun k hl => (hg.block k (Nat.lt_of_lt_of_le hl h.size) (hk k hl)).trans (h.block k hl)⟩
theorem LTh.markX (h : LTh w bu bx bg pv u0 u1 x0 x1 g0 g1 UC UP C P GC GP W) (hg : Grew (fun b => bu < b ∧ b < bx) W W1) (s0 : Kd.S k48 48 W1 w.heap.size (fun b => bu < b ∧ b < bx) x0 C1) (s1 : Kd.S k52 52 W1 w.heap.size (fun b => bu < b ∧ b < bx) x1 P1) : LTh w bu bx bg pv u0 u1 x0 x1 g0 g1 UC UP C1 P1 GC GP W1 := by
 have hn := h.n
 exact ⟨hg.on h.b (fun k hl => by omega), (hg.block _ (zkY h.p) (by omega)).trans h.p, (hg.block _ (zkY h.ub) (by omega)).trans h.ub, (hg.block _ (zkY h.xb) (by omega)).trans h.xb, (hg.block _ (zkY h.gb) (by omega)).trans h.gb, hg.S h.u0 (fun k hl => by omega), hg.S h.u1 (fun k hl => by omega), s0, s1, hg.S h.g0 (fun k hl => by omega), hg.S h.g1 (fun k hl => by omega), h.n⟩
theorem LTh.markG (h : LTh w bu bx bg pv u0 u1 x0 x1 g0 g1 UC UP C P GC GP W) (hg : Grew (fun b => bx < b ∧ b < bg) W W1) (s0 : Kd.S k48 48 W1 w.heap.size (fun b => bx < b ∧ b < bg) g0 C1) (s1 : Kd.S k52 52 W1 w.heap.size (fun b => bx < b ∧ b < bg) g1 P1) : LTh w bu bx bg pv u0 u1 x0 x1 g0 g1 UC UP C P C1 P1 W1 := by
 have hn := h.n
 exact ⟨hg.on h.b (fun k hl => by omega), (hg.block _ (zkY h.p) (by omega)).trans h.p, (hg.block _ (zkY h.ub) (by omega)).trans h.ub, (hg.block _ (zkY h.xb) (by omega)).trans h.xb, (hg.block _ (zkY h.gb) (by omega)).trans h.gb, hg.S h.u0 (fun k hl => by omega), hg.S h.u1 (fun k hl => by omega), hg.S h.x0 (fun k hl => by omega), hg.S h.x1 (fun k hl => by omega), s0, s1, h.n⟩
end
set_option maxHeartbeats 8000000 in
set_option maxRecDepth 100000 in
theorem law_Thread_calls (A0 A1 : Option Addr) (c0 c1 : Nat) (cs : List S98) (ps : List S103) (w : World) (hr0 : Kd.C k98 w A0 cs.length cs) (hc0 : cs.length ≤ c0) (hr1 : Kd.C k103 w A1 ps.length ps) (hc1 : ps.length ≤ c1)
  (hn0 : ∀ y ∈ cs, y.f2.length ≤ 9223372036854775807) (hn1 : ∀ y ∈ ps, y.f2.length ≤ 9223372036854775807 ∧ y.f3.length ≤ 9223372036854775807) :
  Calls Try.prog 5 #[.agg #[.slice A0 cs.length c0, .slice A1 ps.length c1]] w fun e w' => e = .returned (.bool true) ∧ Below w.heap.size w w' := by
 have HB := amZ ((Below.refl w.heap.size w).alloc (Nat.le_refl _) (.cells #[.slice A0 cs.length c0, .slice A1 ps.length c1] 25))
 have HP : Aside0 ((w.alloc (.cells #[.slice A0 cs.length c0, .slice A1 ps.length c1] 25)).heap[w.heap.size]? = some (.cells #[.slice A0 cs.length c0, .slice A1 ps.length c1] 25 (0, 0))) := ⟨heap_alloc_new _ _⟩
 have HR0 := amZ hr0
 have HC0 := amZ hc0
 have HR1 := amZ hr1
 have HC1 := amZ hc1
 have HN0 := amZ hn0
 have HN1 := amZ hn1
 clear hr0 hc0 hr1 hc1 hn0 hn1
 go_enter Try.func5, Try.ntmps5
 go_wp2_with fail
 refine (szProgram_calls A0 A1 c0 c1 cs ps _ (Kd.C_below HR0.out HB.out) (Kd.C_below HR1.out HB.out) HN0.out HN1.out).mono ?_
 rintro e w2 ⟨rfl, hb⟩
 have HB2 := amZ (zfY HB.out hb)
 have HP2 := amZ ((hb.block _ (zkY HP.out)).trans HP.out)
 clear hb HP HB
 by_cases hs : (szProgN cs ps : Int) ≤ 1048576
 case neg =>
  have e : szr (szProgN cs ps) 1048576 = -1 := if_neg hs
  rw [e]
  clear e hs
  go_wp2_with fail
  go_ret
  exact ⟨rfl, HB2.out⟩
 have e : szr (szProgN cs ps) 1048576 = 1048576 - (szProgN cs ps : Int) := if_pos hs
 rw [e]
 have hd : decide (1048576 - (szProgN cs ps : Int) < 0) = false := decide_eq_false (by omega)
 have hd2 : (1048576 - (szProgN cs ps : Int) < 0) = False := eq_false (by omega)
 obtain ⟨k, C, P, r, k1, RC, RP, hk, hI, hfi, hS, hRC, hRP, hok, hsz, hsz2, hpo, hpo2⟩ := thread_prep cs ps (show sizeP cs ps ≤ 1048576 from Int.ofNat_le.1 hs)
 have HK := amZ hk
 have HI := amZ hI
 have HFI := amZ hfi
 have HS := amZ hS
 have HRC := amZ hRC
 have HRP := amZ hRP
 have HOK := amZ hok
 have HSZ := amZ hsz
 have HSZ2 := amZ hsz2
 have HPOS := amZ hpo
 have HPOS2 := amZ hpo2
 clear hk hI hfi hS hRC hRP hok hsz hsz2 hpo hpo2 hs e
 have hp0 : w2.cell? ⟨w.heap.size, 0, none⟩ = some (.slice A0 cs.length c0) := (zaY HP2.out 0).trans rfl
 have hp1 : w2.cell? ⟨w.heap.size, 1, none⟩ = some (.slice A1 ps.length c1) := (zaY HP2.out 1).trans rfl
 go_wp2_with fail
 refine (laws_toProgram.calls k A0 c0 cs A1 c1 ps C P _ (Kd.C_below HR0.out HB2.out) HC0.out (Kd.C_below HR1.out HB2.out) HC1.out HK.out).mono ?_
 rintro e w3 ⟨v0, v1, rfl, hs0, hs1, hb⟩
 have HB3 := amZ (zfY HB2.out hb)
 have HP3 := amZ ((hb.block _ (zkY HP2.out)).trans HP2.out)
 obtain ⟨B0, d0, rfl, le0, rd0⟩ := Kd.S_reads hs0
 obtain ⟨B1, d1, rfl, le1, rd1⟩ := Kd.S_reads hs1
 have HD := amZ (And.intro le0 (And.intro rd0 (And.intro le1 rd1)))
 clear hb hs0 hs1 le0 rd0 le1 rd1 hp0 hp1 HP2
 go_wp2_with fail
 refine (spec_Thread.calls k1 B0 d0 C B1 d1 P RC RP w3 HD.out.2.1 HD.out.1 HD.out.2.2.2 HD.out.2.2.1 HS.out).mono ?_
 rintro e w4 ⟨v0, v1, rfl, hs0, hs1, hb⟩
 obtain ⟨U0, f0, rfl⟩ := Kd.S_slice hs0
 obtain ⟨U1, f1, rfl⟩ := Kd.S_slice hs1
 have HU0 := amZ (Kd.S_mono (S_made hs0 HB3.out.size hb.size) (fun _ h => h.2))
 have HU1 := amZ (Kd.S_mono (S_made hs1 HB3.out.size hb.size) (fun _ h => h.2))
 have HB4 := amZ (zfY HB3.out hb)
 have HP4 := amZ ((hb.block _ (zkY HP3.out)).trans HP3.out)
 clear hb hs0 hs1 HD HP3 HB3
 go_upto_region 6 with (fail)
 obtain ⟨Wa, hWa⟩ : ∃ W, W = w4.alloc (.cells #[.slice U0 RC.length f0, .slice U1 RP.length f1] 31) := ⟨_, rfl⟩
 obtain ⟨bu, hbu⟩ : ∃ b, b = w4.heap.size := ⟨_, rfl⟩
 have hba : Below w4.heap.size w4 Wa := by rw [hWa]; exact znY (Below.refl _ _) _
 have HBa := amZ (zfY HB4.out hba)
 have HPa := amZ ((hba.block _ (zkY HP4.out)).trans HP4.out)
 have HUa : Aside0 (Wa.heap[bu]? = some (.cells #[.slice U0 RC.length f0, .slice U1 RP.length f1] 31 (0, 0))) := ⟨by rw [hWa, hbu, heap_alloc_new]⟩
 have HV0 := amZ (Kd.S_below HU0.out hba)
 have HV1 := amZ (Kd.S_below HU1.out hba)
 have HN1 : Aside0 (w.heap.size < bu) := ⟨by rw [hbu]; exact zkY HP4.out⟩
 have HN2 : Aside0 (Wa.heap.size = bu + 1) := ⟨by rw [hWa, hbu]; simp⟩
 rw [← hWa, ← hbu]
 rw [← hbu] at HV0 HV1
 clear hba hWa hbu HU0 HU1 HB4 HP4
 have hp0 : Wa.cell? ⟨w.heap.size, 0, none⟩ = some (.slice A0 cs.length c0) := (zaY HPa.out 0).trans rfl
 have hp1 : Wa.cell? ⟨w.heap.size, 1, none⟩ = some (.slice A1 ps.length c1) := (zaY HPa.out 1).trans rfl
 go_wp2_with fail
 refine (laws_toProgram.calls k A0 c0 cs A1 c1 ps C P _ (Kd.C_below HR0.out HBa.out) HC0.out (Kd.C_below HR1.out HBa.out) HC1.out HK.out).mono ?_
 rintro e w5 ⟨v0, v1, rfl, hs0, hs1, hb⟩
 obtain ⟨E0, d2, rfl⟩ := Kd.S_slice hs0
 obtain ⟨E1, d3, rfl⟩ := Kd.S_slice hs1
 have HX0 := amZ (S_made hs0 HBa.out.size hb.size)
 have HX1 := amZ (S_made hs1 HBa.out.size hb.size)
 have HB5 := amZ (zfY HBa.out hb)
 have HP5 := amZ ((hb.block _ (zkY HPa.out)).trans HPa.out)
 have HU5 := amZ ((hb.block _ (zkY HUa.out)).trans HUa.out)
 have HV05 := amZ (Kd.S_below HV0.out hb)
 have HV15 := amZ (Kd.S_below HV1.out hb)
 have HN3 : Aside0 (bu < w5.heap.size) := ⟨zkY HU5.out⟩
 clear hb hs0 hs1 hp0 hp1 HBa HPa HUa HV0 HV1
 go_upto_region 7 with (fail)
 obtain ⟨Wb, hWb⟩ : ∃ W, W = w5.alloc (.cells #[.slice E0 C.length d2, .slice E1 P.length d3] 31) := ⟨_, rfl⟩
 obtain ⟨bx, hbx⟩ : ∃ b, b = w5.heap.size := ⟨_, rfl⟩
 have hba : Below w5.heap.size w5 Wb := by rw [hWb]; exact znY (Below.refl _ _) _
 have HBb := amZ (zfY HB5.out hba)
 have HPb := amZ ((hba.block _ (zkY HP5.out)).trans HP5.out)
 have HUb := amZ ((hba.block _ (zkY HU5.out)).trans HU5.out)
 have HXb : Aside0 (Wb.heap[bx]? = some (.cells #[.slice E0 C.length d2, .slice E1 P.length d3] 31 (0, 0))) := ⟨by rw [hWb, hbx, heap_alloc_new]⟩
 have HV0b := amZ (Kd.S_below HV05.out hba)
 have HV1b := amZ (Kd.S_below HV15.out hba)
 have HX0b : Aside0 (Kd.S k48 48 Wb w.heap.size (fun b => bu < b ∧ b < bx) (.slice E0 C.length d2) C) := ⟨Kd.S_mono (Kd.S_below HX0.out hba) (fun b hb => by have := HN2.out; omega)⟩
 have HX1b : Aside0 (Kd.S k52 52 Wb w.heap.size (fun b => bu < b ∧ b < bx) (.slice E1 P.length d3) P) := ⟨Kd.S_mono (Kd.S_below HX1.out hba) (fun b hb => by have := HN2.out; omega)⟩
 have HN4 : Aside0 (Wb.heap.size = bx + 1) := ⟨by rw [hWb, hbx]; simp⟩
 have HN5 : Aside0 (bu < bx) := ⟨by rw [hbx]; exact HN3.out⟩
 rw [← hWb, ← hbx]
 clear hba hWb hbx HX0 HX1 HB5 HP5 HU5 HV05 HV15 HN3
 have q0 : Wb.cell? ⟨bx, 0, none⟩ = some (.slice E0 C.length d2) := (zaY HXb.out 0).trans rfl
 have q1 : Wb.cell? ⟨bx, 1, none⟩ = some (.slice E1 P.length d3) := (zaY HXb.out 1).trans rfl
 go_wp2_with fail
 refine (impl_Thread_calls E0 E1 d2 d3 C P r Wb (Kd.S_reads' HX0b.out).2.2 (Kd.S_reads' HX0b.out).2.1 (Kd.S_reads' HX1b.out).2.2 (Kd.S_reads' HX1b.out).2.1 HFI.out HI.out HOK.out).mono ?_
 rintro e w7 ⟨v0, v1, rfl, hs0, hs1, hb⟩
 rw [← HRC.out] at hs0
 rw [← HRP.out] at hs1
 obtain ⟨G0, g0, rfl⟩ := Kd.S_slice hs0
 obtain ⟨G1, g1, rfl⟩ := Kd.S_slice hs1
 have HG0 := amZ (S_made hs0 HBb.out.size hb.size)
 have HG1 := amZ (S_made hs1 HBb.out.size hb.size)
 have HB7 := amZ hb
 clear hb hs0 hs1 q0 q1
 go_upto_region 8 with (fail)
 obtain ⟨Wd, hWd⟩ : ∃ W, W = w7.alloc (.cells #[.slice G0 RC.length g0, .slice G1 RP.length g1] 31) := ⟨_, rfl⟩
 obtain ⟨bg, hbg⟩ : ∃ b, b = w7.heap.size := ⟨_, rfl⟩
 have hbd : Below Wb.heap.size Wb Wd := by rw [hWd]; exact znY HB7.out _
 have hb7 : Below w7.heap.size w7 Wd := by rw [hWd]; exact znY (Below.refl _ _) _
 have HT : Aside0 (LTh w bu bx bg #[.slice A0 cs.length c0, .slice A1 ps.length c1] (.slice U0 RC.length f0) (.slice U1 RP.length f1) (.slice E0 C.length d2) (.slice E1 P.length d3) (.slice G0 RC.length g0) (.slice G1 RP.length g1) RC RP C P RC RP Wd) :=
  ⟨⟨zfY HBb.out hbd, (hbd.block _ (zkY HPb.out)).trans HPb.out, (hbd.block _ (zkY HUb.out)).trans HUb.out, (hbd.block _ (zkY HXb.out)).trans HXb.out, by rw [hWd, hbg, heap_alloc_new], Kd.S_below HV0b.out hbd, Kd.S_below HV1b.out hbd, Kd.S_below HX0b.out hbd, Kd.S_below HX1b.out hbd,
   Kd.S_mono (Kd.S_below HG0.out hb7) (fun b hb => by have := HN4.out; omega), Kd.S_mono (Kd.S_below HG1.out hb7) (fun b hb => by have := HN4.out; omega), HN1.out, HN5.out, by have := zkY HXb.out; have := HB7.out.size; omega⟩⟩
 rw [← hWd, ← hbg]
 clear hbd hb7 hWd hbg HBb HPb HUb HXb HV0b HV1b HX0b HX1b HG0 HG1 HB7 HN1 HN2 HN4 HN5
 have u0 : Wd.cell? ⟨bu, 0, none⟩ = some (.slice U0 RC.length f0) := (zaY HT.out.ub 0).trans rfl
 have u1 : Wd.cell? ⟨bu, 1, none⟩ = some (.slice U1 RP.length f1) := (zaY HT.out.ub 1).trans rfl
 have g0' : Wd.cell? ⟨bg, 0, none⟩ = some (.slice G0 RC.length g0) := (zaY HT.out.gb 0).trans rfl
 have g1' : Wd.cell? ⟨bg, 1, none⟩ = some (.slice G1 RP.length g1) := (zaY HT.out.gb 1).trans rfl
 go_wp2_with fail
 refine (eqProgram_same RC RP G0 U0 G1 U1 g0 f0 g1 f1 Wd (Kd.S_reads' HT.out.g0).2.2 (Kd.S_reads' HT.out.u0).2.2 (Kd.S_reads' HT.out.g1).2.2 (Kd.S_reads' HT.out.u1).2.2).mono ?_
 rintro e w8 ⟨rfl, hb⟩
 have HS8 := amZ (HT.out.below hb)
 clear hb HT u0 u1 g0' g1'
 go_upto_region 10 with (fail)
 go_cut [31] (fun s31 wx => s31 = .bool false ∧ Aside0 (LTh w bu bx bg #[.slice A0 cs.length c0, .slice A1 ps.length c1] (.slice U0 RC.length f0) (.slice U1 RP.length f1) (.slice E0 C.length d2) (.slice E1 P.length d3) (.slice G0 RC.length g0) (.slice G1 RP.length g1) RC RP C P RC RP wx))
 case first =>
  have HSd := amZ (HS8.out.below (below_drew (Below.refl _ _)))
  have q0 : w8.drew.cell? ⟨bx, 0, none⟩ = some (.slice E0 C.length d2) := (zaY HSd.out.xb 0).trans rfl
  have q1 : w8.drew.cell? ⟨bx, 1, none⟩ = some (.slice E1 P.length d3) := (zaY HSd.out.xb 1).trans rfl
  have p0 : w8.drew.cell? ⟨w.heap.size, 0, none⟩ = some (.slice A0 cs.length c0) := (zaY HSd.out.p 0).trans rfl
  have p1 : w8.drew.cell? ⟨w.heap.size, 1, none⟩ = some (.slice A1 ps.length c1) := (zaY HSd.out.p 1).trans rfl
  clear HS8
  go_region_with (first | (go_at_call 9; refine (laws_toProgram.calls k A0 c0 cs A1 c1 ps C P w8.drew (Kd.C_below HR0.out HSd.out.b) HC0.out (Kd.C_below HR1.out HSd.out.b) HC1.out HK.out).mono ?_; rintro e w9 ⟨y0, y1, rfl, hs0, hs1, hb⟩; have HS9 := amZ (HSd.out.below hb); obtain ⟨F0, f2, rfl, le0, rd0⟩ := Kd.S_reads hs0; obtain ⟨F1, f3, rfl, le1, rd1⟩ := Kd.S_reads hs1; have HY0 := amZ rd0; have HY1 := amZ rd1; clear hs0 hs1 hb rd0 rd1 le0 le1 q0 q1 p0 p1; have q0 : w9.cell? ⟨bx, 0, none⟩ = some (.slice E0 C.length d2) := (zaY HS9.out.xb 0).trans rfl; have q1 : w9.cell? ⟨bx, 1, none⟩ = some (.slice E1 P.length d3) := (zaY HS9.out.xb 1).trans rfl) | (go_at_call 11; refine (eqProgram_same C P E0 F0 E1 F1 d2 f2 d3 f3 w9 (Kd.S_reads' HS9.out.x0).2.2 HY0.out (Kd.S_reads' HS9.out.x1).2.2 HY1.out).mono ?_; rintro e w10 ⟨rfl, hb⟩; have HS10 := amZ (HS9.out.below hb); clear hb HS9 q0 q1))
  all_goals (go_wp2_with fail; go_meet; exact ⟨rfl, HS10⟩)
 case rest =>
 obtain ⟨rfl, HS⟩ := hcut
 clear HS8
 have q0 : wc.cell? ⟨bx, 0, none⟩ = some (.slice E0 C.length d2) := (zaY HS.out.xb 0).trans rfl
 have q1 : wc.cell? ⟨bx, 1, none⟩ = some (.slice E1 P.length d3) := (zaY HS.out.xb 1).trans rfl
 go_upto_region 13 with (fail)
 go_wp2_with fail
 refine (markProgram_calls w.heap.size (fun b => bu < b ∧ b < bx) _ _ C P 1 wc HS.out.x0 HS.out.x1 (by decide) (by have := HSZ.out; omega)).mono ?_
 rintro e wm ⟨rfl, hm0, hm1, hgr⟩
 have HSm := amZ (HS.out.markX hgr hm0 hm1)
 clear hm0 hm1 hgr q0 q1 HS
 have hm := HPOS.out
 have dm : decide (1 + progS C P < 0) = false := decide_eq_false (by omega)
 have em : (1 + progS C P < 0) = False := eq_false (by omega)
 clear hm
 have u0 : wm.cell? ⟨bu, 0, none⟩ = some (.slice U0 RC.length f0) := (zaY HSm.out.ub 0).trans rfl
 have u1 : wm.cell? ⟨bu, 1, none⟩ = some (.slice U1 RP.length f1) := (zaY HSm.out.ub 1).trans rfl
 have g0' : wm.cell? ⟨bg, 0, none⟩ = some (.slice G0 RC.length g0) := (zaY HSm.out.gb 0).trans rfl
 have g1' : wm.cell? ⟨bg, 1, none⟩ = some (.slice G1 RP.length g1) := (zaY HSm.out.gb 1).trans rfl
 go_wp2_with fail
 refine (eqProgram_same RC RP G0 U0 G1 U1 g0 f0 g1 f1 wm (Kd.S_reads' HSm.out.g0).2.2 (Kd.S_reads' HSm.out.u0).2.2 (Kd.S_reads' HSm.out.g1).2.2 (Kd.S_reads' HSm.out.u1).2.2).mono ?_
 rintro e wn ⟨rfl, hb⟩
 have HSn := amZ (HSm.out.below hb)
 clear hb HSm u0 u1 g0' g1'
 have g0' : wn.cell? ⟨bg, 0, none⟩ = some (.slice G0 RC.length g0) := (zaY HSn.out.gb 0).trans rfl
 have g1' : wn.cell? ⟨bg, 1, none⟩ = some (.slice G1 RP.length g1) := (zaY HSn.out.gb 1).trans rfl
 go_wp2_with fail
 refine (markProgram_calls w.heap.size (fun b => bx < b ∧ b < bg) _ _ RC RP 1 wn HSn.out.g0 HSn.out.g1 (by decide) (by have := HSZ2.out; omega)).mono ?_
 rintro e wo ⟨rfl, hm0, hm1, hgr⟩
 have HSo := amZ (HSn.out.markG hgr hm0 hm1)
 clear hm0 hm1 hgr g0' g1' HSn
 have g0' : wo.cell? ⟨bg, 0, none⟩ = some (.slice G0 RC.length g0) := (zaY HSo.out.gb 0).trans rfl
 have g1' : wo.cell? ⟨bg, 1, none⟩ = some (.slice G1 RP.length g1) := (zaY HSo.out.gb 1).trans rfl
 go_wp2_with fail
 refine (heldProgram_calls G0 G1 g0 g1 RC RP 1 wo (by have := (Kd.S_reads' HSo.out.g0).2.2; rwa [mcL_length] at this) (by have := (Kd.S_reads' HSo.out.g1).2.2; rwa [mpL_length] at this) (by decide) (by have := HSZ2.out; omega)).mono ?_
 rintro e wp ⟨rfl, hb⟩
 have HSp := amZ (HSo.out.below hb)
 clear hb HSo g0' g1'
 have hm := HPOS2.out
 have dl : decide (1 + progS RC RP < 0) = false := decide_eq_false (by omega)
 have el : (1 + progS RC RP < 0) = False := eq_false (by omega)
 clear hm
 have p0 : wp.cell? ⟨w.heap.size, 0, none⟩ = some (.slice A0 cs.length c0) := (zaY HSp.out.p 0).trans rfl
 have p1 : wp.cell? ⟨w.heap.size, 1, none⟩ = some (.slice A1 ps.length c1) := (zaY HSp.out.p 1).trans rfl
 go_wp2_with fail
 refine (laws_toProgram.calls k A0 c0 cs A1 c1 ps C P _ (Kd.C_below HR0.out HSp.out.b) HC0.out (Kd.C_below HR1.out HSp.out.b) HC1.out HK.out).mono ?_
 rintro e wr ⟨y0, y1, rfl, hs0, hs1, hb⟩
 have HSr := amZ (HSp.out.below hb)
 obtain ⟨F0, f2, rfl, le0, rd0⟩ := Kd.S_reads hs0
 obtain ⟨F1, f3, rfl, le1, rd1⟩ := Kd.S_reads hs1
 have HD := amZ (And.intro le0 (And.intro rd0 (And.intro le1 rd1)))
 clear hb hs0 hs1 le0 rd0 le1 rd1 p0 p1 HSp
 go_wp2_with fail
 refine (impl_Thread_calls F0 F1 f2 f3 C P r wr HD.out.2.1 HD.out.1 HD.out.2.2.2 HD.out.2.2.1 HFI.out HI.out HOK.out).mono ?_
 rintro e ws ⟨v0, v1, rfl, hs0, hs1, hb⟩
 rw [← HRC.out] at hs0
 rw [← HRP.out] at hs1
 have HSs := amZ (HSr.out.below hb)
 obtain ⟨H0, h0, rfl, le0, rd0⟩ := Kd.S_reads hs0
 obtain ⟨H1, h1, rfl, le1, rd1⟩ := Kd.S_reads hs1
 have HE0 := amZ rd0
 have HE1 := amZ rd1
 clear hb hs0 hs1 le0 le1 rd0 rd1 HSr HD
 go_upto_region 25 with (fail)
 obtain ⟨Wt, hWt⟩ : ∃ W, W = ws.alloc (.cells #[.slice H0 RC.length h0, .slice H1 RP.length h1] 31) := ⟨_, rfl⟩
 obtain ⟨bh, hbh⟩ : ∃ b, b = ws.heap.size := ⟨_, rfl⟩
 have hbt : Below ws.heap.size ws Wt := by rw [hWt]; exact znY (Below.refl _ _) _
 have HSt := amZ (HSs.out.below hbt)
 have HF0 := amZ (Kd.C_below HE0.out hbt)
 have HF1 := amZ (Kd.C_below HE1.out hbt)
 have hh : Wt.heap[bh]? = some (.cells #[.slice H0 RC.length h0, .slice H1 RP.length h1] 31 (0, 0)) := by rw [hWt, hbh, heap_alloc_new]
 rw [← hWt, ← hbh]
 have z0 : Wt.cell? ⟨bh, 0, none⟩ = some (.slice H0 RC.length h0) := (zaY hh 0).trans rfl
 have z1 : Wt.cell? ⟨bh, 1, none⟩ = some (.slice H1 RP.length h1) := (zaY hh 1).trans rfl
 have u0 : Wt.cell? ⟨bu, 0, none⟩ = some (.slice U0 RC.length f0) := (zaY HSt.out.ub 0).trans rfl
 have u1 : Wt.cell? ⟨bu, 1, none⟩ = some (.slice U1 RP.length f1) := (zaY HSt.out.ub 1).trans rfl
 clear hbt hWt hbh hh HE0 HE1 HSs
 go_wp2_with fail
 refine (eqProgram_same RC RP H0 U0 H1 U1 h0 f0 h1 f1 Wt HF0.out (Kd.S_reads' HSt.out.u0).2.2 HF1.out (Kd.S_reads' HSt.out.u1).2.2).mono ?_
 rintro e wv ⟨rfl, hb⟩
 have HSv := amZ (HSt.out.below hb)
 clear hb HSt z0 z1 u0 u1 HF0 HF1
 have g0' : wv.cell? ⟨bg, 0, none⟩ = some (.slice G0 RC.length g0) := (zaY HSv.out.gb 0).trans rfl
 have g1' : wv.cell? ⟨bg, 1, none⟩ = some (.slice G1 RP.length g1) := (zaY HSv.out.gb 1).trans rfl
 go_wp2_with fail
 refine (heldProgram_calls G0 G1 g0 g1 RC RP 1 wv (by have := (Kd.S_reads' HSv.out.g0).2.2; rwa [mcL_length] at this) (by have := (Kd.S_reads' HSv.out.g1).2.2; rwa [mpL_length] at this) (by decide) (by have := HSZ2.out; omega)).mono ?_
 rintro e wz ⟨rfl, hb⟩
 have HSz := amZ (HSv.out.below hb)
 clear hb HSv g0' g1'
 go_wp2_with fail
 go_ret
 exact ⟨rfl, HSz.out.b⟩
end Go.Proofs.Ytmmpiojekgfdjaa.C
