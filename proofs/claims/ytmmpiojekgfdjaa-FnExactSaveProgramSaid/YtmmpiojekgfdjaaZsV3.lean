/- The program as bytes. -/
import Derived.Test.YtmmpiojekgfdjaaZsV2
import Derived.Test.YtmmpiojekgfdjaaZsK
namespace Go.Proofs.Ytmmpiojekgfdjaa.C
open Go.RowKit Go.Proofs.YtmmpiojekgfdjaaW.PrintWords Go.Proofs.YtmmpiojekgfdjaaW.PrintLast
set_option linter.unusedVariables false
set_option linter.unusedSimpArgs false
def eightB (n : Int) : List Int := (List.range 8).map fun i => IntKind.u64.wrap n / 2 ^ (8 * i) % 256
theorem eightB_drop (n : Int) (i : Nat) (h : i < 8) : (eightB n).drop i = (IntKind.u64.wrap n / 2 ^ (8 * i) % 256) :: (eightB n).drop (i + 1) := by
  have hl : i < (eightB n).length := by simpa [eightB] using h
  rw [List.drop_eq_getElem_cons hl]
  simp [eightB]
def constB (c : S48) : List Int := if c.f0 = true then 1 :: (varF 10 c.f2.length ++ c.f2) else 0 :: eightB c.f1
def tI (b : Bool) : Int := if b = true then 1 else 0
theorem tI_mod (b : Bool) : tI b % 256 = tI b := by cases b <;> rfl
def capB (c : S54) : List Int := tI c.f0 :: varF 10 c.f1
def insB (x : S57) : List Int := (x.f0 % 256) :: (varF 10 x.f1 ++ varF 10 x.f2)
def protoB (f : S52) : List Int := varF 10 f.f0 ++ (varF 10 f.f1 ++ (varF 10 f.f2.length ++ (f.f2.flatMap capB ++ (varF 10 f.f3.length ++ f.f3.flatMap insB))))
def restB (ps : List S52) : List Int := varF 10 ps.length ++ ps.flatMap protoB
def saveL (cs : List S48) (ps : List S52) : List Int := [77, 78, 76, 84] ++ (varF 10 cs.length ++ (cs.flatMap constB ++ restB ps))
def Num (x : Int) : Prop := 0 ≤ x ∧ x ≤ 4611686018427387904
structure SaveOK (cs : List S48) (ps : List S52) : Prop where
  cl : cs.length ≤ 1000000
  pl : ps.length ≤ 1000000
  ct : ∀ c ∈ cs, c.f2.length ≤ 1000000
  pr : ∀ f ∈ ps, Num f.f0 ∧ Num f.f1 ∧ f.f2.length ≤ 1000000 ∧ f.f3.length ≤ 1000000 ∧ (∀ c ∈ f.f2, Num c.f1) ∧ ∀ x ∈ f.f3, Num x.f1 ∧ Num x.f2
  tot : (saveL cs ps).length ≤ 100000000000
theorem pre_len {a b t : List Int} (h : a ++ b = t) (ht : t.length ≤ 100000000000) : a.length ≤ 100000000000 := by
  have := congrArg List.length h
  simp at this; omega
structure SvW (w : World) (bp bq : Nat) (pv : Array Value) (W : World) (v : Value) (xs : List Int) : Prop where
  q : WIs w.heap.size W bq v xs
  b : Below w.heap.size w W
  p : W.heap[bp]? = some (.cells pv 31 (0, 0))
theorem SvW.below {w W W1 : World} {bp bq : Nat} {pv : Array Value} {v : Value} {xs : List Int} (h : SvW w bp bq pv W v xs) (hb : Below W.heap.size W W1) : SvW w bp bq pv W1 v xs :=
  ⟨h.q.below hb, below_step h.b hb, (hb.block _ (blk_lt h.p)).trans h.p⟩
theorem SvW.alloc {w W : World} {bp bq : Nat} {pv : Array Value} {v : Value} {xs : List Int} (h : SvW w bp bq pv W v xs) (o : Obj) : SvW w bp bq pv (W.alloc o) v xs := h.below ((Below.refl _ _).alloc (Nat.le_refl _) o)
theorem SvW.to {w W W1 : World} {bp bq : Nat} {pv : Array Value} {v v1 : Value} {xs ys : List Int} (h : SvW w bp bq pv W v xs) (t : WTo w.heap.size W bq v W1 v1 ys) : SvW w bp bq pv W1 v1 ys :=
  ⟨t.q, h.b.trans t.b, t.blk h.q h.p (by decide) (by decide)⟩
theorem SvW.c0 {w W : World} {bp bq : Nat} {x0 x1 v : Value} {xs : List Int} (h : SvW w bp bq #[x0, x1] W v xs) : W.cell? ⟨bp, 0, none⟩ = some x0 := (blk_cell h.p 0).trans rfl
theorem SvW.c1 {w W : World} {bp bq : Nat} {x0 x1 v : Value} {xs : List Int} (h : SvW w bp bq #[x0, x1] W v xs) : W.cell? ⟨bp, 1, none⟩ = some x1 := (blk_cell h.p 1).trans rfl
/-- What a writer's call leaves: more bytes; blocks of other types as they were. -/
def SvPost (w : World) (bp bq : Nat) (pv : Array Value) (W : World) (xs : List Int) (e : Ending) (W1 : World) : Prop :=
  e = .returned (.tuple #[]) ∧ ∃ v1, SvW w bp bq pv W1 v1 xs ∧ ∀ (b : Nat) (cells : Array Value) (t : TypeId), t ≠ 73 → t ≠ 5 → W.heap[b]? = some (Obj.cells cells t (0, 0)) → W1.heap[b]? = some (Obj.cells cells t (0, 0))
theorem sv_of {w W W0 : World} {bp bq : Nat} {pv : Array Value} {v : Value} {xs ys : List Int} {e : Ending} {W1 : World} (h : SvW w bp bq pv W v xs) (hb : Below W.heap.size W W0) (p : WPost w.heap.size W0 bq v ys e W1) : SvPost w bp bq pv W ys e W1 := by
  obtain ⟨rfl, v1, t⟩ := p
  have h0 := h.below hb
  exact ⟨rfl, v1, h0.to t, fun b cells ty h1 h2 hc => t.blk h0.q ((hb.block b (blk_lt hc)).trans hc) h1 h2⟩
theorem sv_byte {w W : World} {bp bq : Nat} {pv : Array Value} {v : Value} {xs : List Int} (h : SvW w bp bq pv W v xs) (c : Int) (hl : xs.length ≤ 100000000000) :
    Calls Try.prog 39 #[.pointer (some ⟨bq, 0, none⟩), .slice (some ⟨W.heap.size, 0, none⟩) 1 1] (W.alloc (.cells #[.int .u8 c] 5)) (SvPost w bp bq pv W (xs ++ [c])) := by
  have hb : Below W.heap.size W (W.alloc (.cells #[.int .u8 c] 5)) := (Below.refl _ _).alloc (Nat.le_refl _) _
  refine (wbytes_calls w.heap.size _ bq v xs [c] _ 1 (h.below hb).q (bytesC_blk (t := 5) (heap_alloc_new _ _) (by simp)) (by simp; omega)).mono ?_
  intro e W1 p
  exact sv_of h hb p
theorem sv_nums {w W : World} {bp bq : Nat} {pv : Array Value} {v : Value} {xs : List Int} (h : SvW w bp bq pv W v xs) (vs : List Int) (hv : ∀ x ∈ vs, Num x) (hn : vs.length ≤ 3) (hl : xs.length ≤ 100000000000) :
    Calls Try.prog 38 #[.pointer (some ⟨bq, 0, none⟩), .slice (some ⟨W.heap.size, 0, none⟩) vs.length vs.length] (W.alloc (.cells (ic vs).toArray 3)) (SvPost w bp bq pv W (xs ++ varsL vs)) := by
  have hb : Below W.heap.size W (W.alloc (.cells (ic vs).toArray 3)) := (Below.refl _ _).alloc (Nat.le_refl _) _
  refine (wnums_calls w.heap.size _ bq W.heap.size v xs vs (h.below hb).q (heap_alloc_new _ _) hv (by omega) (by omega)).mono ?_
  intro e W1 p
  exact sv_of h hb p
theorem sv_text {w W : World} {bp bq : Nat} {pv : Array Value} {v : Value} {xs ys : List Int} (h : SvW w bp bq pv W v xs) (A : Option Addr) (c : Nat) (hy : Kd.C (Kd.int .u8) w A ys.length ys) (hn : ys.length ≤ 1000000) (hl : xs.length ≤ 100000000000) :
    Calls Try.prog 39 #[.pointer (some ⟨bq, 0, none⟩), .slice A ys.length c] W (SvPost w bp bq pv W (xs ++ ys)) := by
  refine (wbytes_calls w.heap.size _ bq v xs ys A c h.q (Kd.C_below hy h.b) (by omega)).mono ?_
  intro e W1 p
  exact sv_of h (Below.refl _ _) p
theorem varsL_one (x : Int) : varsL [x] = varF 10 x := by simp [varsL]
theorem num_len {n : Nat} (h : n ≤ 1000000) : Num (n : Int) := ⟨by omega, by omega⟩
theorem varF_ne (x : Int) : (varF 10 x).length ≠ 0 := by
  unfold varF
  split <;> simp
theorem heap_alloc_keep {w : World} {b : Nat} {x : Obj} (h : w.heap[b]? = some x) (o : Obj) : (w.alloc o).heap[b]? = some x := by
  rw [heap_alloc_old _ _ (Array.getElem?_eq_some_iff.1 h).1]; exact h
theorem truth_calls (b : Bool) (w : World) : Calls Try.prog 40 #[.bool b] w fun e w' => e = .returned (.int .i64 (tI b)) ∧ w = w' := by
  cases b <;> (go_enter Try.func40, Try.ntmps40; go_wp2; go_ret; exact ⟨rfl, rfl⟩)
set_option maxHeartbeats 8000000 in
set_option maxRecDepth 100000 in
theorem impl_Save_calls (A0 A1 : Option Addr) (c0 c1 : Nat) (cs : List S48) (ps : List S52) (r : Bool) (w : World) (hr0 : Kd.C k48 w A0 cs.length cs) (hc0 : cs.length ≤ c0) (hr1 : Kd.C k52 w A1 ps.length ps) (hc1 : ps.length ≤ c1)
    (h : impl_Check.f cs ps = some r) (hok : r = true → SaveOK cs ps) :
    Calls Try.prog 13 #[.agg #[.slice A0 cs.length c0, .slice A1 ps.length c1]] w fun e w' => ∃ v, e = .returned v ∧ Kd.R (Kd.int .u8) 5 w' w.heap.size (fun _ => True) v (if r = true then saveL cs ps else []) ∧ Below w.heap.size w w' := by
  obtain ⟨pv, hpv⟩ : ∃ pv : Array Value, pv = #[.slice A0 cs.length c0, .slice A1 ps.length c1] := ⟨_, rfl⟩
  have HB := Aside0.mk ((Below.refl w.heap.size w).alloc (Nat.le_refl _) (.cells #[.slice A0 cs.length c0, .slice A1 ps.length c1] 31))
  have HR0 := Aside0.mk hr0
  have HC0 := Aside0.mk hc0
  have HR1 := Aside0.mk hr1
  have HC1 := Aside0.mk hc1
  have HH := Aside0.mk h
  clear hr0 hc0 hr1 hc1 h
  cases r with
  | false =>
    clear hok hpv
    go_enter Try.func13, Try.ntmps13
    go_wp2_with (go_at_call 10; ((with_reducible refine (impl_Check.calls A0 c0 cs A1 c1 ps false _ (Kd.C_below HR0.out HB.out) HC0.out (Kd.C_below HR1.out HB.out) HC1.out HH.out).mono ?_); rintro e w2 ⟨rfl, hb⟩; have HB2 := Aside0.mk (below_step HB.out hb); clear hb))
    go_ret
    exact ⟨_, rfl, Kd.R_nil _ _ _ _ _, HB2.out⟩
  | true =>
    have HOK := Aside0.mk (hok rfl)
    clear hok
    have HP : Aside0 ((w.alloc (.cells #[.slice A0 cs.length c0, .slice A1 ps.length c1] 31)).heap[w.heap.size]? = some (.cells #[.slice A0 cs.length c0, .slice A1 ps.length c1] 31 (0, 0))) := ⟨heap_alloc_new _ _⟩
    go_enter Try.func13, Try.ntmps13
    go_wp2_with fail
    refine (impl_Check.calls A0 c0 cs A1 c1 ps true _ (Kd.C_below HR0.out HB.out) HC0.out (Kd.C_below HR1.out HB.out) HC1.out HH.out).mono ?_
    rintro e w2 ⟨rfl, hb⟩
    have HB2 := Aside0.mk (below_step HB.out hb)
    have hP2 := (hb.block _ (blk_lt HP.out)).trans HP.out
    have hp0 : w2.cell? ⟨w.heap.size, 0, none⟩ = some (.slice A0 cs.length c0) := (blk_cell hP2 0).trans rfl
    have hp1 : w2.cell? ⟨w.heap.size, 1, none⟩ = some (.slice A1 ps.length c1) := (blk_cell hP2 1).trans rfl
    have hz := World.new_ne w2 _ hp0
    have HP2 := Aside0.mk hP2
    clear hb hP2
    have kc := Lib.run_convert_bytes_const (P := Try.prog) w2 73 5 #[.int .u8 77, .int .u8 78, .int .u8 76, .int .u8 84] 4 4 Try.underlying73 Try.underlying5
    go_upto_region 4 with (fail)
    obtain ⟨W, hW⟩ : ∃ W, W = (w2.alloc (.cells #[.int .u8 77, .int .u8 78, .int .u8 76, .int .u8 84] 5 (4, 5))).alloc (.cells #[.slice (some ⟨w2.heap.size, 0, none⟩) 4 4] 73) := ⟨_, rfl⟩
    have hBW : Below w2.heap.size w2 W := by rw [hW]; exact ((Below.refl _ _).alloc (Nat.le_refl _) _).alloc (by simp) _
    obtain ⟨bq, hbq⟩ : ∃ b, b = w2.heap.size + 1 := ⟨_, rfl⟩
    have hq : WIs w.heap.size W bq (.slice (some ⟨w2.heap.size, 0, none⟩) 4 4) [77, 78, 76, 84] := by
      refine ⟨?_, .inr ⟨rfl, w2.heap.size, (4, 5), rfl, HB2.out.size, ?_⟩, by rw [hbq]; have := HB2.out.size; omega⟩
      · rw [hW, hbq, show w2.heap.size + 1 = (w2.alloc (.cells #[.int .u8 77, .int .u8 78, .int .u8 76, .int .u8 84] 5 (4, 5))).heap.size by simp, heap_alloc_new]
      · rw [hW, heap_alloc_old _ _ (by simp), heap_alloc_new]; rfl
    obtain ⟨bp, hbp⟩ : ∃ b, b = w.heap.size := ⟨_, rfl⟩
    have HS : Aside0 (SvW w bp bq #[.slice A0 cs.length c0, .slice A1 ps.length c1] W (.slice (some ⟨w2.heap.size, 0, none⟩) 4 4) [77, 78, 76, 84]) := ⟨⟨hq, below_step HB2.out hBW, by rw [hbp]; exact (hBW.block _ (blk_lt HP2.out)).trans HP2.out⟩⟩
    rw [← hW, ← hbq, ← hbp]
    have HT : Aside0 ([77, 78, 76, 84] ++ (varF 10 cs.length ++ (cs.flatMap constB ++ restB ps)) = saveL cs ps) := ⟨rfl⟩
    have HTOT := Aside0.mk HOK.out.tot
    have HBP := Aside0.mk hbp
    clear hW hBW hq hbq hbp kc hp0 hp1 hz
    have hp0 := HS.out.c0
    have hz0 := World.new_ne W _ hp0
    go_wp2_with fail
    refine (sv_nums HS.out [(cs.length : Int)] (by intro x hx; simp at hx; subst hx; exact num_len HOK.out.cl) (by simp) (pre_len HT.out HTOT.out)).mono ?_
    rintro e W1 ⟨rfl, v1, hs1, _⟩
    rw [varsL_one] at hs1
    have HS1 := Aside0.mk hs1
    have HE1 : Aside0 ([77, 78, 76, 84] ++ varF 10 cs.length ++ (cs.flatMap constB ++ restB ps) = saveL cs ps) := ⟨by rw [← HT.out, List.append_assoc]⟩
    clear hs1 hp0 hz0 HT HS
    have hp0 := HS1.out.c0
    go_wp2_with fail
    go_loopg [26] cs.length (fun g v26 wr => ∃ (j : Nat) (v2 : Value) (xs : List Int), v26 = .int .i64 (j : Int) ∧ Aside0 (j + g = cs.length) ∧ Aside0 (SvW w bp bq #[.slice A0 cs.length c0, .slice A1 ps.length c1] wr v2 xs) ∧ Aside0 (xs ++ ((cs.drop j).flatMap constB ++ restB ps) = saveL cs ps))
    case atStart => exact ⟨0, v1, _, rfl, ⟨by omega⟩, HS1, HE1⟩
    case round =>
      clear HS1 HE1 hp0
      obtain ⟨j, v2, xs, rfl, hj, HS, HE⟩ := hrel
      by_cases hlt : j < cs.length
      · have p : 0 ≤ (j : Int) := by omega
        have q : (j : Int) < (cs.length : Int) := by omega
        obtain ⟨ad, A2, c2, e, hx0, hx1, hx2, lx2, gx2⟩ := at_T48 HR0.out (j : Int) p q
        cases e
        have hr : rd_T48 cs (j : Int) = cs[j] := getD_nat _ _ _ hlt
        rw [hr, Int.toNat_natCast] at hx0 hx1 hx2
        rw [hr] at gx2
        have hd : cs.drop j = cs[j] :: cs.drop (j + 1) := List.drop_eq_getElem_cons hlt
        have hct := HOK.out.ct cs[j] (List.getElem_mem hlt)
        have HE1 : Aside0 (xs ++ (constB cs[j] ++ ((cs.drop (j + 1)).flatMap constB ++ restB ps)) = saveL cs ps) := ⟨by rw [← HE.out, hd, List.flatMap_cons, List.append_assoc]⟩
        generalize cs[j] = x at *
        have HCT := Aside0.mk hct
        have HGX := Aside0.mk gx2
        replace hx0 := pw_cell_below HS.out.b hx0
        replace hx1 := pw_cell_below HS.out.b hx1
        replace hx2 := pw_cell_below HS.out.b hx2
        have hdl : decide ((j : Int) < (cs.length : Int)) = true := decide_eq_true q
        have hdn : decide (j < cs.length) = true := decide_eq_true hlt
        have HL := Aside0.mk hlt
        replace p := eq_true p
        replace q := eq_true q
        clear hr hd hct gx2 lx2 hlt HE
        go_upto_region 8 with (fail)
        obtain ⟨Wc, hWc⟩ : ∃ W, W = wr.alloc (.cells #[.bool x.f0, .int .i64 x.f1, .slice A2 x.f2.length c2] 48) := ⟨_, rfl⟩
        obtain ⟨bc, hbc⟩ : ∃ b, b = wr.heap.size := ⟨_, rfl⟩
        have HSc := Aside0.mk (HS.out.alloc (.cells #[.bool x.f0, .int .i64 x.f1, .slice A2 x.f2.length c2] 48))
        rw [← hWc] at HSc
        have HX : Aside0 (Wc.heap[bc]? = some (.cells #[.bool x.f0, .int .i64 x.f1, .slice A2 x.f2.length c2] 48 (0, 0))) := ⟨by rw [hWc, hbc, heap_alloc_new]⟩
        rw [← hWc, ← hbc]
        clear hWc hbc hx0 hx1 hx2 HS
        have y0 : Wc.cell? ⟨bc, 0, none⟩ = some (.bool x.f0) := (blk_cell HX.out 0).trans rfl
        cases hf0 : x.f0 with
        | true =>
          rw [hf0] at y0
          have HE2 : Aside0 (xs ++ [1] ++ (varF 10 x.f2.length ++ x.f2 ++ ((cs.drop (j + 1)).flatMap constB ++ restB ps)) = saveL cs ps) := ⟨by rw [← HE1.out]; unfold constB; rw [if_pos hf0]; simp⟩
          clear hf0
          go_wp2_with fail
          refine (sv_byte HSc.out 1 (pre_len HE1.out HTOT.out)).mono ?_
          rintro e W1 ⟨rfl, v3, hs1, hk1⟩
          have HSd := Aside0.mk hs1
          have HX1 := Aside0.mk (hk1 _ _ _ (by decide) (by decide) HX.out)
          clear hs1 hk1 HSc y0
          have y2 : W1.cell? ⟨bc, 2, none⟩ = some (.slice A2 x.f2.length c2) := (blk_cell HX1.out 2).trans rfl
          have hn2 := World.new_ne W1 _ y2
          go_wp2_with fail
          refine (sv_nums HSd.out [(x.f2.length : Int)] (by intro z hz; simp at hz; subst hz; exact num_len HCT.out) (by simp) (pre_len HE2.out HTOT.out)).mono ?_
          rintro e W2 ⟨rfl, v4, hs2, hk2⟩
          rw [varsL_one] at hs2
          have HSe := Aside0.mk hs2
          have HX2 := Aside0.mk (hk2 _ _ _ (by decide) (by decide) HX1.out)
          have HE3 : Aside0 (xs ++ [1] ++ varF 10 x.f2.length ++ (x.f2 ++ ((cs.drop (j + 1)).flatMap constB ++ restB ps)) = saveL cs ps) := ⟨by rw [← HE2.out]; simp⟩
          clear hs2 hk2 HSd y2 hn2 HX1 HX
          have y2 : W2.cell? ⟨bc, 2, none⟩ = some (.slice A2 x.f2.length c2) := (blk_cell HX2.out 2).trans rfl
          go_wp2_with fail
          refine (sv_text HSe.out A2 c2 HGX.out HCT.out (pre_len HE3.out HTOT.out)).mono ?_
          rintro e W3 ⟨rfl, v5, hs3, _⟩
          have HSf := Aside0.mk hs3
          clear hs3 y2
          go_wp2_with fail
          go_roundg (cs.length - (j + 1))
          case measure => have := hj.out; have := HL.out; omega
          case rel => exact ⟨j + 1, v5, xs ++ [1] ++ varF 10 x.f2.length ++ x.f2, i64_next HL.out (by have := HOK.out.cl; omega), ⟨by have := HL.out; omega⟩, HSf, ⟨by rw [← HE3.out]; simp⟩⟩
        | false =>
          rw [hf0] at y0
          have HE2 : Aside0 (xs ++ [0] ++ (eightB x.f1 ++ ((cs.drop (j + 1)).flatMap constB ++ restB ps)) = saveL cs ps) := ⟨by rw [← HE1.out]; unfold constB; rw [if_neg (by simp [hf0])]; simp⟩
          clear hf0
          go_wp2_with fail
          refine (sv_byte HSc.out 0 (pre_len HE1.out HTOT.out)).mono ?_
          rintro e W1 ⟨rfl, v3, hs1, hk1⟩
          have HSd := Aside0.mk hs1
          have HX1 := Aside0.mk (hk1 _ _ _ (by decide) (by decide) HX.out)
          clear hs1 hk1 HSc y0 HX
          go_wp2_with fail
          go_loopg [6] 8 (fun g v6 wi => ∃ (i : Nat) (v4 : Value) (zs : List Int), v6 = .int .i64 (8 * (i : Int)) ∧ Aside0 (i + g = 8) ∧ Aside0 (SvW w bp bq #[.slice (some ad) cs.length c0, .slice A1 ps.length c1] wi v4 zs) ∧ Aside0 (zs ++ ((eightB x.f1).drop i ++ ((cs.drop (j + 1)).flatMap constB ++ restB ps)) = saveL cs ps) ∧ Aside0 (wi.heap[bc]? = some (.cells #[.bool x.f0, .int .i64 x.f1, .slice A2 x.f2.length c2] 48 (0, 0))))
          case atStart => exact ⟨0, v3, _, rfl, ⟨by omega⟩, HSd, HE2, HX1⟩
          case round =>
            clear HSd HE2 HX1
            obtain ⟨i, v4, zs, rfl, hi, HS, HE, HX⟩ := hrel
            have y1 : wr.cell? ⟨bc, 1, none⟩ = some (.int .i64 x.f1) := (blk_cell HX.out 1).trans rfl
            have hn1 := World.new_ne wr _ y1
            by_cases h8 : i < 8
            · have d8 : decide (8 * (i : Int) < 64) = true := decide_eq_true (by omega)
              have k0 : 0 ≤ 8 * (i : Int) := by omega
              have k1 : 8 * (i : Int) ≤ 64 := by omega
              have HI := Aside0.mk h8
              clear h8
              go_wp2_with fail
              refine (sv_byte HS.out _ (pre_len HE.out HTOT.out)).mono ?_
              rintro e W2 ⟨rfl, v5, hs2, hk2⟩
              have HS2 := Aside0.mk hs2
              have HX2 := Aside0.mk (hk2 _ _ _ (by decide) (by decide) HX.out)
              have HE2 : Aside0 (zs ++ [IntKind.u64.wrap x.f1 / 2 ^ (8 * i) % 256] ++ ((eightB x.f1).drop (i + 1) ++ ((cs.drop (j + 1)).flatMap constB ++ restB ps)) = saveL cs ps) := ⟨by rw [← HE.out, eightB_drop _ _ HI.out]; simp⟩
              clear hs2 hk2 HS HX HE y1 hn1
              go_wp2_with fail
              go_roundg (8 - (i + 1))
              case measure => have := hi.out; have := HI.out; omega
              case rel => exact ⟨i + 1, v5, _, i64_num (by omega), ⟨by have := HI.out; omega⟩, HS2, HE2, HX2⟩
            · have d8 : decide (8 * (i : Int) < 64) = false := decide_eq_false (by omega)
              have h8' : i = 8 := by have := hi.out; omega
              subst h8'
              have HE2 : Aside0 (zs ++ ((cs.drop (j + 1)).flatMap constB ++ restB ps) = saveL cs ps) := ⟨by rw [← HE.out]; simp [eightB]⟩
              clear h8 HX y1 hn1
              go_wp2_with fail
              go_roundg (cs.length - (j + 1))
              case measure => have := hj.out; have := HL.out; omega
              case rel => exact ⟨j + 1, v4, zs, i64_next HL.out (by have := HOK.out.cl; omega), ⟨by have := HL.out; omega⟩, HS, HE2⟩
      · have hdl : decide ((j : Int) < (cs.length : Int)) = false := decide_eq_false (by omega)
        have hdn : decide (j < cs.length) = false := decide_eq_false hlt
        have HE1 : Aside0 (xs ++ restB ps = saveL cs ps) := ⟨by rw [← HE.out, List.drop_eq_nil_of_le (by omega)]; simp⟩
        have hp1 := HS.out.c1
        have hn1 := World.new_ne wr _ hp1
        clear hlt HE hj
        go_wp2_with fail
        refine (sv_nums HS.out [(ps.length : Int)] (by intro z hz; simp at hz; subst hz; exact num_len HOK.out.pl) (by simp) (pre_len HE1.out HTOT.out)).mono ?_
        rintro e W1 ⟨rfl, v3, hs1, _⟩
        rw [varsL_one] at hs1
        have HS1 := Aside0.mk hs1
        have HE2 : Aside0 (xs ++ varF 10 ps.length ++ ps.flatMap protoB = saveL cs ps) := ⟨by rw [← HE1.out]; unfold restB; simp⟩
        clear hs1 HS hp1 hn1 HE1
        have hp1 := HS1.out.c1
        go_wp2_with fail
        go_loopg [65] ps.length (fun g v65 wr => ∃ (j : Nat) (v2 : Value) (xs : List Int), v65 = .int .i64 (j : Int) ∧ Aside0 (j + g = ps.length) ∧ Aside0 (SvW w bp bq #[.slice A0 cs.length c0, .slice A1 ps.length c1] wr v2 xs) ∧ Aside0 (xs ++ (ps.drop j).flatMap protoB = saveL cs ps))
        case atStart => exact ⟨0, v3, _, rfl, ⟨by omega⟩, HS1, HE2⟩
        case round =>
          clear HS1 HE2 hp1
          obtain ⟨j, v2, xs, rfl, hj, HS, HE⟩ := hrel
          by_cases hlt : j < ps.length
          · have p : 0 ≤ (j : Int) := by omega
            have q : (j : Int) < (ps.length : Int) := by omega
            obtain ⟨ad, A2, c2, A3, c3, e, hx0, hx1, hx2, hx3, lx2, gx2, lx3, gx3⟩ := at_T52 HR1.out (j : Int) p q
            cases e
            have hr : rd_T52 ps (j : Int) = ps[j] := getD_nat _ _ _ hlt
            rw [hr, Int.toNat_natCast] at hx0 hx1 hx2 hx3
            rw [hr] at gx2 gx3
            have hd : ps.drop j = ps[j] :: ps.drop (j + 1) := List.drop_eq_getElem_cons hlt
            have hpr := HOK.out.pr ps[j] (List.getElem_mem hlt)
            have HE1 : Aside0 (xs ++ (protoB ps[j] ++ (ps.drop (j + 1)).flatMap protoB) = saveL cs ps) := ⟨by rw [← HE.out, hd, List.flatMap_cons]⟩
            generalize ps[j] = f at *
            have HPR := Aside0.mk hpr
            have HG2 := Aside0.mk gx2
            have HG3 := Aside0.mk gx3
            replace hx0 := pw_cell_below HS.out.b hx0
            replace hx1 := pw_cell_below HS.out.b hx1
            replace hx2 := pw_cell_below HS.out.b hx2
            replace hx3 := pw_cell_below HS.out.b hx3
            have hdl : decide ((j : Int) < (ps.length : Int)) = true := decide_eq_true q
            have hdn : decide (j < ps.length) = true := decide_eq_true hlt
            have HL := Aside0.mk hlt
            replace p := eq_true p
            replace q := eq_true q
            clear hr hd hpr gx2 lx2 gx3 lx3 hlt HE
            go_upto_region 22 with (fail)
            obtain ⟨Wc, hWc⟩ : ∃ W, W = wr.alloc (.cells #[.int .i64 f.f0, .int .i64 f.f1, .slice A2 f.f2.length c2, .slice A3 f.f3.length c3] 52) := ⟨_, rfl⟩
            obtain ⟨bc, hbc⟩ : ∃ b, b = wr.heap.size := ⟨_, rfl⟩
            have HSc := Aside0.mk (HS.out.alloc (.cells #[.int .i64 f.f0, .int .i64 f.f1, .slice A2 f.f2.length c2, .slice A3 f.f3.length c3] 52))
            rw [← hWc] at HSc
            have HX : Aside0 (Wc.heap[bc]? = some (.cells #[.int .i64 f.f0, .int .i64 f.f1, .slice A2 f.f2.length c2, .slice A3 f.f3.length c3] 52 (0, 0))) := ⟨by rw [hWc, hbc, heap_alloc_new]⟩
            rw [← hWc, ← hbc]
            clear hWc hbc hx0 hx1 hx2 hx3 HS
            have y0 : Wc.cell? ⟨bc, 0, none⟩ = some (.int .i64 f.f0) := (blk_cell HX.out 0).trans rfl
            have y1 : Wc.cell? ⟨bc, 1, none⟩ = some (.int .i64 f.f1) := (blk_cell HX.out 1).trans rfl
            have y2 : Wc.cell? ⟨bc, 2, none⟩ = some (.slice A2 f.f2.length c2) := (blk_cell HX.out 2).trans rfl
            have hn2 := World.new_ne Wc _ y2
            have HE2 : Aside0 (xs ++ varsL [f.f0, f.f1, (f.f2.length : Int)] ++ (f.f2.flatMap capB ++ (varF 10 f.f3.length ++ (f.f3.flatMap insB ++ (ps.drop (j + 1)).flatMap protoB))) = saveL cs ps) := ⟨by rw [← HE1.out]; simp [varsL, protoB]⟩
            go_wp2_with fail
            refine (sv_nums HSc.out [f.f0, f.f1, (f.f2.length : Int)] (by intro z hz; simp at hz; rcases hz with rfl | rfl | rfl; exact HPR.out.1; exact HPR.out.2.1; exact num_len HPR.out.2.2.1) (by simp) (pre_len HE1.out HTOT.out)).mono ?_
            rintro e W1 ⟨rfl, v3, hs1, hk1⟩
            have HSd := Aside0.mk hs1
            have HX1 := Aside0.mk (hk1 _ _ _ (by decide) (by decide) HX.out)
            clear hs1 hk1 HSc y0 y1 y2 hn2 HX HE1
            have y2 : W1.cell? ⟨bc, 2, none⟩ = some (.slice A2 f.f2.length c2) := (blk_cell HX1.out 2).trans rfl
            go_wp2_with fail
            go_loopg [81] f.f2.length (fun g v81 wi => ∃ (i : Nat) (v4 : Value) (zs : List Int), v81 = .int .i64 (i : Int) ∧ Aside0 (i + g = f.f2.length) ∧ Aside0 (SvW w bp bq #[.slice A0 cs.length c0, .slice (some ad) ps.length c1] wi v4 zs) ∧ Aside0 (zs ++ ((f.f2.drop i).flatMap capB ++ (varF 10 f.f3.length ++ (f.f3.flatMap insB ++ (ps.drop (j + 1)).flatMap protoB))) = saveL cs ps) ∧ Aside0 (wi.heap[bc]? = some (.cells #[.int .i64 f.f0, .int .i64 f.f1, .slice A2 f.f2.length c2, .slice A3 f.f3.length c3] 52 (0, 0))))
            case atStart => exact ⟨0, v3, _, rfl, ⟨by omega⟩, HSd, HE2, HX1⟩
            case round =>
              clear HSd HE2 HX1 y2
              obtain ⟨i, v4, zs, rfl, hi, HS, HE, HX⟩ := hrel
              by_cases hlt : i < f.f2.length
              · have p : 0 ≤ (i : Int) := by omega
                have q : (i : Int) < (f.f2.length : Int) := by omega
                obtain ⟨ae, e, hx0, hx1⟩ := at_T54 HG2.out (i : Int) p q
                cases e
                have hr : rd_T54 f.f2 (i : Int) = f.f2[i] := getD_nat _ _ _ hlt
                rw [hr, Int.toNat_natCast] at hx0 hx1
                have hd : f.f2.drop i = f.f2[i] :: f.f2.drop (i + 1) := List.drop_eq_getElem_cons hlt
                have hcx := HPR.out.2.2.2.2.1 f.f2[i] (List.getElem_mem hlt)
                rw [hd, List.flatMap_cons, List.append_assoc] at HE
                generalize f.f2[i] = x at *
                have HE1 := Aside0.mk HE.out
                have HCX := Aside0.mk hcx
                replace hx0 := pw_cell_below HS.out.b hx0
                replace hx1 := pw_cell_below HS.out.b hx1
                have hil : decide ((i : Int) < (f.f2.length : Int)) = true := decide_eq_true q
                have hin : decide (i < f.f2.length) = true := decide_eq_true hlt
                have HI := Aside0.mk hlt
                replace p := eq_true p
                replace q := eq_true q
                clear hr hd hcx hlt HE
                go_upto_region 26 with (fail)
                obtain ⟨Wd, hWd⟩ : ∃ W, W = wr.alloc (.cells #[.bool x.f0, .int .i64 x.f1] 54) := ⟨_, rfl⟩
                obtain ⟨bd, hbd⟩ : ∃ b, b = wr.heap.size := ⟨_, rfl⟩
                have HSc := Aside0.mk (HS.out.alloc (.cells #[.bool x.f0, .int .i64 x.f1] 54))
                rw [← hWd] at HSc
                have HY : Aside0 (Wd.heap[bd]? = some (.cells #[.bool x.f0, .int .i64 x.f1] 54 (0, 0))) := ⟨by rw [hWd, hbd, heap_alloc_new]⟩
                have HXd := Aside0.mk (heap_alloc_keep HX.out (.cells #[.bool x.f0, .int .i64 x.f1] 54))
                rw [← hWd] at HXd
                rw [← hWd, ← hbd]
                clear hWd hbd hx0 hx1 HS HX
                have y0 : Wd.cell? ⟨bd, 0, none⟩ = some (.bool x.f0) := (blk_cell HY.out 0).trans rfl
                have HE2 : Aside0 (zs ++ [tI x.f0 % 256] ++ (varF 10 x.f1 ++ ((f.f2.drop (i + 1)).flatMap capB ++ (varF 10 f.f3.length ++ (f.f3.flatMap insB ++ (ps.drop (j + 1)).flatMap protoB)))) = saveL cs ps) := ⟨by rw [← HE1.out]; unfold capB; rw [tI_mod]; simp⟩
                go_wp2_with fail
                refine (truth_calls x.f0 _).mono ?_
                rintro e w' ⟨rfl, rfl⟩
                go_wp2_with fail
                refine (sv_byte HSc.out _ (pre_len HE1.out HTOT.out)).mono ?_
                rintro e W2 ⟨rfl, v5, hs2, hk2⟩
                have HSd := Aside0.mk hs2
                have HY2 := Aside0.mk (hk2 _ _ _ (by decide) (by decide) HY.out)
                have HX2 := Aside0.mk (hk2 _ _ _ (by decide) (by decide) HXd.out)
                clear hs2 hk2 HSc y0 HY HXd HE1
                have y1 : W2.cell? ⟨bd, 1, none⟩ = some (.int .i64 x.f1) := (blk_cell HY2.out 1).trans rfl
                have hn1 := World.new_ne W2 _ y1
                go_wp2_with fail
                refine (sv_nums HSd.out [x.f1] (by intro z hz; simp at hz; subst hz; exact HCX.out) (by simp) (pre_len HE2.out HTOT.out)).mono ?_
                rintro e W3 ⟨rfl, v6, hs3, hk3⟩
                rw [varsL_one] at hs3
                have HSe := Aside0.mk hs3
                have HX3 := Aside0.mk (hk3 _ _ _ (by decide) (by decide) HX2.out)
                have HE3 : Aside0 (zs ++ [tI x.f0 % 256] ++ varF 10 x.f1 ++ ((f.f2.drop (i + 1)).flatMap capB ++ (varF 10 f.f3.length ++ (f.f3.flatMap insB ++ (ps.drop (j + 1)).flatMap protoB))) = saveL cs ps) := ⟨by rw [← HE2.out]; simp⟩
                clear hs3 hk3 HSd y1 hn1 HY2 HX2 HE2
                go_wp2_with fail
                go_roundg (f.f2.length - (i + 1))
                case measure => have := hi.out; have := HI.out; omega
                case rel => exact ⟨i + 1, v6, _, i64_next HI.out (by have := HPR.out.2.2.1; have := HI.out; omega), ⟨by have := HI.out; omega⟩, HSe, HE3, HX3⟩
              · have hil : decide ((i : Int) < (f.f2.length : Int)) = false := decide_eq_false (by omega)
                have hin : decide (i < f.f2.length) = false := decide_eq_false hlt
                have HE1 : Aside0 (zs ++ (varF 10 f.f3.length ++ (f.f3.flatMap insB ++ (ps.drop (j + 1)).flatMap protoB)) = saveL cs ps) := ⟨by rw [← HE.out, show f.f2.drop i = [] from List.drop_eq_nil_of_le (by omega)]; simp⟩
                clear hlt HE hi
                have y3 : wr.cell? ⟨bc, 3, none⟩ = some (.slice A3 f.f3.length c3) := (blk_cell HX.out 3).trans rfl
                have hn3 := World.new_ne wr _ y3
                go_wp2_with fail
                refine (sv_nums HS.out [(f.f3.length : Int)] (by intro z hz; simp at hz; subst hz; exact num_len HPR.out.2.2.2.1) (by simp) (pre_len HE1.out HTOT.out)).mono ?_
                rintro e W2 ⟨rfl, v5, hs2, hk2⟩
                rw [varsL_one] at hs2
                have HSd := Aside0.mk hs2
                have HX2 := Aside0.mk (hk2 _ _ _ (by decide) (by decide) HX.out)
                have HE2 : Aside0 (zs ++ varF 10 f.f3.length ++ (f.f3.flatMap insB ++ (ps.drop (j + 1)).flatMap protoB) = saveL cs ps) := ⟨by rw [← HE1.out]; simp⟩
                clear hs2 hk2 HS y3 hn3 HX HE1
                have y3 : W2.cell? ⟨bc, 3, none⟩ = some (.slice A3 f.f3.length c3) := (blk_cell HX2.out 3).trans rfl
                go_wp2_with fail
                go_loopg [104] f.f3.length (fun g v104 wi => ∃ (i : Nat) (v4 : Value) (zs : List Int), v104 = .int .i64 (i : Int) ∧ Aside0 (i + g = f.f3.length) ∧ Aside0 (SvW w bp bq #[.slice A0 cs.length c0, .slice (some ad) ps.length c1] wi v4 zs) ∧ Aside0 (zs ++ ((f.f3.drop i).flatMap insB ++ (ps.drop (j + 1)).flatMap protoB) = saveL cs ps))
                case atStart => exact ⟨0, v5, _, rfl, ⟨by omega⟩, HSd, HE2⟩
                case round =>
                  clear HSd HE2 HX2 y3
                  obtain ⟨i, v4, zs, rfl, hi, HS, HE⟩ := hrel
                  by_cases hlt : i < f.f3.length
                  · have p : 0 ≤ (i : Int) := by omega
                    have q : (i : Int) < (f.f3.length : Int) := by omega
                    obtain ⟨ae, e, hx0, hx1, hx2⟩ := at_T57 HG3.out (i : Int) p q
                    cases e
                    have hr : rd_T57 f.f3 (i : Int) = f.f3[i] := getD_nat _ _ _ hlt
                    rw [hr, Int.toNat_natCast] at hx0 hx1 hx2
                    have hd : f.f3.drop i = f.f3[i] :: f.f3.drop (i + 1) := List.drop_eq_getElem_cons hlt
                    have hcx := HPR.out.2.2.2.2.2 f.f3[i] (List.getElem_mem hlt)
                    rw [hd, List.flatMap_cons, List.append_assoc] at HE
                    generalize f.f3[i] = x at *
                    have HE1 := Aside0.mk HE.out
                    have HCX := Aside0.mk hcx
                    replace hx0 := pw_cell_below HS.out.b hx0
                    replace hx1 := pw_cell_below HS.out.b hx1
                    replace hx2 := pw_cell_below HS.out.b hx2
                    have hil : decide ((i : Int) < (f.f3.length : Int)) = true := decide_eq_true q
                    have hin : decide (i < f.f3.length) = true := decide_eq_true hlt
                    have HI := Aside0.mk hlt
                    replace p := eq_true p
                    replace q := eq_true q
                    clear hr hd hcx hlt HE
                    go_upto_region 33 with (fail)
                    obtain ⟨Wd, hWd⟩ : ∃ W, W = wr.alloc (.cells #[.int .i64 x.f0, .int .i64 x.f1, .int .i64 x.f2] 57) := ⟨_, rfl⟩
                    obtain ⟨bd, hbd⟩ : ∃ b, b = wr.heap.size := ⟨_, rfl⟩
                    have HSc := Aside0.mk (HS.out.alloc (.cells #[.int .i64 x.f0, .int .i64 x.f1, .int .i64 x.f2] 57))
                    rw [← hWd] at HSc
                    have HY : Aside0 (Wd.heap[bd]? = some (.cells #[.int .i64 x.f0, .int .i64 x.f1, .int .i64 x.f2] 57 (0, 0))) := ⟨by rw [hWd, hbd, heap_alloc_new]⟩
                    rw [← hWd, ← hbd]
                    clear hWd hbd hx0 hx1 hx2 HS
                    have y0 : Wd.cell? ⟨bd, 0, none⟩ = some (.int .i64 x.f0) := (blk_cell HY.out 0).trans rfl
                    have hn0 := World.new_ne Wd _ y0
                    have HE2 : Aside0 (zs ++ [x.f0 % 256] ++ (varsL [x.f1, x.f2] ++ ((f.f3.drop (i + 1)).flatMap insB ++ (ps.drop (j + 1)).flatMap protoB)) = saveL cs ps) := ⟨by rw [← HE1.out]; simp [insB, varsL]⟩
                    go_wp2_with fail
                    refine (sv_byte HSc.out _ (pre_len HE1.out HTOT.out)).mono ?_
                    rintro e W2 ⟨rfl, v5, hs2, hk2⟩
                    have HSd := Aside0.mk hs2
                    have HY2 := Aside0.mk (hk2 _ _ _ (by decide) (by decide) HY.out)
                    clear hs2 hk2 HSc y0 hn0 HY HE1
                    have y1 : W2.cell? ⟨bd, 1, none⟩ = some (.int .i64 x.f1) := (blk_cell HY2.out 1).trans rfl
                    have y2 : W2.cell? ⟨bd, 2, none⟩ = some (.int .i64 x.f2) := (blk_cell HY2.out 2).trans rfl
                    have hn1 := World.new_ne W2 _ y1
                    go_wp2_with fail
                    refine (sv_nums HSd.out [x.f1, x.f2] (by intro z hz; simp at hz; rcases hz with rfl | rfl; exact HCX.out.1; exact HCX.out.2) (by simp) (pre_len HE2.out HTOT.out)).mono ?_
                    rintro e W3 ⟨rfl, v6, hs3, _⟩
                    have HSe := Aside0.mk hs3
                    have HE3 : Aside0 (zs ++ [x.f0 % 256] ++ varsL [x.f1, x.f2] ++ ((f.f3.drop (i + 1)).flatMap insB ++ (ps.drop (j + 1)).flatMap protoB) = saveL cs ps) := ⟨by rw [← HE2.out]; simp⟩
                    clear hs3 HSd y1 y2 hn1 HY2 HE2
                    go_wp2_with fail
                    go_roundg (f.f3.length - (i + 1))
                    case measure => have := hi.out; have := HI.out; omega
                    case rel => exact ⟨i + 1, v6, _, i64_next HI.out (by have := HPR.out.2.2.2.1; have := HI.out; omega), ⟨by have := HI.out; omega⟩, HSe, HE3⟩
                  · have hil : decide ((i : Int) < (f.f3.length : Int)) = false := decide_eq_false (by omega)
                    have hin : decide (i < f.f3.length) = false := decide_eq_false hlt
                    have HE1 : Aside0 (zs ++ (ps.drop (j + 1)).flatMap protoB = saveL cs ps) := ⟨by rw [← HE.out, show f.f3.drop i = [] from List.drop_eq_nil_of_le (by omega)]; simp⟩
                    clear hlt HE hi
                    go_wp2_with fail
                    go_roundg (ps.length - (j + 1))
                    case measure => have := hj.out; have := HL.out; omega
                    case rel => exact ⟨j + 1, v4, zs, i64_next HL.out (by have := HOK.out.pl; have := HL.out; omega), ⟨by have := HL.out; omega⟩, HS, HE1⟩
          · have hdl : decide ((j : Int) < (ps.length : Int)) = false := decide_eq_false (by omega)
            have hdn : decide (j < ps.length) = false := decide_eq_false hlt
            have HE1 : Aside0 (xs = saveL cs ps) := ⟨by rw [← HE.out, List.drop_eq_nil_of_le (by omega)]; simp⟩
            clear hlt HE hj
            have y0 : wr.cell? ⟨bq, 0, none⟩ = some v2 := (blk_cell HS.out.q.var 0).trans rfl
            go_wp2_with fail
            go_ret
            refine ⟨v2, rfl, ?_, HS.out.b⟩
            have hrow := HS.out.q.row
            rw [HE1.out] at hrow
            rcases hrow with h | ⟨h4, _⟩
            · exact Kd.R_of_own h (fun _ _ => trivial)
            · have := varF_ne (cs.length : Int)
              unfold saveL at h4
              simp only [List.length_append, List.length_cons, List.length_nil] at h4
              omega
end Go.Proofs.Ytmmpiojekgfdjaa.C
