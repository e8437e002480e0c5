/- The specification writes a program. -/
import Derived.Test.YtmmpiojekgfdjaaZlV4
import Derived.Test.YtmmpiojekgfdjaaZlK
namespace Go.Proofs.Ytmmpiojekgfdjaa.C
open Go.RowKit YtmmpiojekgfdjaaW.PrintWords YtmmpiojekgfdjaaW.PrintLast
set_option linter.unusedVariables false
set_option linter.unusedSimpArgs false
structure OvW (w : World) (bp : Nat) (pv : Array Value) (W : World) (v : Value) (xs : List Int) : Prop where
 r : Kd.R (Kd.int .u8) 5 W w.heap.size (fun _ => True) v xs
 b : Below w.heap.size w W
 p : W.heap[bp]? = some (.cells pv 31 (0, 0))
theorem OvW.below {w W W1 : World} {bp : Nat} {pv : Array Value} {v : Value} {xs : List Int} (h : OvW w bp pv W v xs) (hb : Below W.heap.size W W1) : OvW w bp pv W1 v xs :=
 ⟨Kd.R_below h.r hb, zdY h.b hb, (hb.block _ (ziY h.p)).trans h.p⟩
theorem OvW.alloc {w W : World} {bp : Nat} {pv : Array Value} {v : Value} {xs : List Int} (h : OvW w bp pv W v xs) (o : Obj) : OvW w bp pv (W.alloc o) v xs := h.below ((Below.refl _ _).alloc (Nat.le_refl _) o)
theorem OvW.c0 {w W : World} {bp : Nat} {x0 x1 v : Value} {xs : List Int} (h : OvW w bp #[x0, x1] W v xs) : W.cell? ⟨bp, 0, none⟩ = some x0 := (zaY h.p 0).trans rfl
theorem OvW.c1 {w W : World} {bp : Nat} {x0 x1 v : Value} {xs : List Int} (h : OvW w bp #[x0, x1] W v xs) : W.cell? ⟨bp, 1, none⟩ = some x1 := (zaY h.p 1).trans rfl
def Keep5 (W W1 : World) : Prop := ∀ (b : Nat) (cells : Array Value) (t : TypeId), t ≠ 5 → W.heap[b]? = some (Obj.cells cells t (0, 0)) → W1.heap[b]? = some (Obj.cells cells t (0, 0))
theorem Keep5.of_below {W W1 : World} (hb : Below W.heap.size W W1) : Keep5 W W1 := fun b _ _ _ h => (hb.block b (ziY h)).trans h
theorem Keep5.trans {W W1 W2 : World} (h : Keep5 W W1) (k : Keep5 W1 W2) : Keep5 W W2 := fun b c t ht hb => k b c t ht (h b c t ht hb)
def VarPost (w : World) (bp : Nat) (pv : Array Value) (W : World) (v : Value) (xs ys : List Int) (e : Ending) (w' : World) : Prop :=
 ∃ A c, e = .returned (.slice A ys.length c) ∧ OvW w bp pv w' v xs ∧ Kd.C (Kd.int .u8) w' A ys.length ys ∧ Keep5 W w'
theorem num_fuel {y : Int} (h : Num y) : y < 128 ^ 10 := by have := h.2; omega
theorem ov_var {w W : World} {bp : Nat} {pv : Array Value} {v : Value} {xs : List Int} (h : OvW w bp pv W v xs) (y : Int) (hy : Num y) : Calls Try.prog 67 #[.int .i64 y] W (VarPost w bp pv W v xs (varF 10 y)) := by
 refine (l5var_calls 10 y W hy.1 hy.2 (num_fuel hy) (by decide) (by decide)).mono ?_
 rintro e w' ⟨u, rfl, hr, hb⟩
 obtain ⟨A, c, rfl⟩ := Kd.R_slice hr
 exact ⟨A, c, rfl, h.below hb, (Kd.R_reads' hr).2.2, Keep5.of_below hb⟩
theorem ov_eight {w W : World} {bp : Nat} {pv : Array Value} {v : Value} {xs : List Int} (h : OvW w bp pv W v xs) (y : Int) : Calls Try.prog 68 #[.int .i64 y] W (VarPost w bp pv W v xs (eightB y)) := by
 refine (l5eight_calls y W).mono ?_
 rintro e w' ⟨u, rfl, hr, hb⟩
 obtain ⟨A, c, rfl⟩ := Kd.R_slice hr
 exact ⟨A, c, rfl, h.below hb, (Kd.R_reads' hr).2.2, Keep5.of_below hb⟩
theorem ov_append {ops : Array Oper} {rest : List Oper} {o : Oper} {a : Act} {Q : Exit → Act → World → Prop} {w W : World} {bp : Nat} {pv : Array Value} {v : Value} {xs ys : List Int} (hgd : o.guard = none) (s x : Operand)
  (ho : o.op = .call { callee := .builtin .append, args := #[s, x], argTypes := #[35, 35] }) (A : Option Addr) (c : Nat) (hs : a.eval s = v) (hx : a.eval x = .slice A ys.length c)
  (h : OvW w bp pv W v xs) (hy : Kd.C (Kd.int .u8) W A ys.length ys) (hl : xs.length + ys.length ≤ 1099511627776)
  (hK : ∀ v1 w1, OvW w bp pv w1 v1 (xs ++ ys) → Keep5 W w1 → wpList Try.prog ops Q rest (a.put o.dst v1) w1) : wpList Try.prog ops Q (o :: rest) a W := by
 refine wp_append_bytes hgd s x ho w.heap.size v xs ys A c hs hx h.r h.b.size hy hl ?_
 intro v1 w1 hr hg
 have hk : Keep5 W w1 := by
  intro b cells t ht hb
  refine (hg.block b (ziY hb) (fun e => ?_)).trans hb
  obtain ⟨c', hc⟩ := own_typed (Kd.own_of_R h.r) b e.symm
  rw [hc] at hb; injection hb with hb; injection hb with _ hb; exact ht hb.symm
 exact hK v1 w1 ⟨hr, h.b.grown hg h.b.size (fun k hk => Kd.R_base h.r k hk), hk _ _ _ (by decide) h.p⟩ hk
theorem room {a b r t : List Int} (h : a ++ (b ++ r) = t) (ht : t.length ≤ 100000000000) : a.length + b.length ≤ 1099511627776 := by
 have := congrArg List.length h
 simp at this; omega
theorem one_C (W : World) (c : Int) : Kd.C (Kd.int .u8) (W.alloc (.cells #[.int .u8 c] 5)) (some ⟨W.heap.size, 0, none⟩) [c].length [c] := bytesC_blk (t := 5) (heap_alloc_new _ _) (by simp)
set_option maxHeartbeats 8000000 in
set_option maxRecDepth 100000 in
theorem l5save_calls (A0 A1 : Option Addr) (c0 c1 : Nat) (cs : List S48) (ps : List S52) (w : World) (hr0 : Kd.C k48 w A0 cs.length cs) (hr1 : Kd.C k52 w A1 ps.length ps) (hok : SaveOK cs ps) :
  Calls Try.prog 37 #[.agg #[.slice A0 cs.length c0, .slice A1 ps.length c1]] w fun e w' => ∃ v, e = .returned v ∧ Kd.R (Kd.int .u8) 5 w' w.heap.size (fun _ => True) v (saveL cs ps) ∧ Below w.heap.size w w' := by
 have HR0 := amZ hr0
 have HR1 := amZ hr1
 have HOK := amZ hok
 have HTOT := amZ hok.tot
 clear hr0 hr1 hok
 go_enter Try.func37, Try.ntmps37
 go_upto_region 2 with (fail)
 obtain ⟨W, hW⟩ : ∃ W, W = (w.alloc (.cells #[.slice A0 cs.length c0, .slice A1 ps.length c1] 31)).alloc (.cells #[.int .u8 77, .int .u8 78, .int .u8 76, .int .u8 84] 5) := ⟨_, rfl⟩
 obtain ⟨bp, hbp⟩ : ∃ b, b = w.heap.size := ⟨_, rfl⟩
 have hb1 : Below w.heap.size w (w.alloc (.cells #[.slice A0 cs.length c0, .slice A1 ps.length c1] 31)) := (Below.refl _ _).alloc (Nat.le_refl _) _
 have hr := bytes_lit (w.alloc (.cells #[.slice A0 cs.length c0, .slice A1 ps.length c1] 31)) w.heap.size (by simp) [77, 78, 76, 84] (by simp)
 have HS : Aside0 (OvW w bp #[.slice A0 cs.length c0, .slice A1 ps.length c1] W (.slice (some ⟨w.heap.size + 1, 0, none⟩) 4 4) [77, 78, 76, 84]) := by
  refine ⟨⟨?_, by rw [hW]; exact hb1.alloc (by simp) _, by rw [hW, hbp, heap_alloc_old _ _ (by simp), heap_alloc_new]⟩⟩
  rw [show w.heap.size + 1 = (w.alloc (.cells #[.slice A0 cs.length c0, .slice A1 ps.length c1] 31)).heap.size by simp, hW]
  exact hr
 rw [← hW]
 generalize hv0 : Value.slice (some ⟨w.heap.size + 1, 0, none⟩) 4 4 = v0 at *
 rw [← hbp]
 have HT : Aside0 ([77, 78, 76, 84] ++ (varF 10 cs.length ++ (cs.flatMap constB ++ restB ps)) = saveL cs ps) := ⟨rfl⟩
 clear hW hbp hb1 hr hv0
 have hp0 := HS.out.c0
 go_wp2_with fail
 refine (ov_var HS.out _ (num_len HOK.out.cl)).mono ?_
 rintro e w2 ⟨A2, c2, rfl, hs2, hy2, _⟩
 have HS2 := amZ hs2
 have HY2 := amZ hy2
 have HE : Aside0 ([77, 78, 76, 84] ++ varF 10 cs.length ++ (cs.flatMap constB ++ restB ps) = saveL cs ps) := ⟨by rw [← HT.out, List.append_assoc]⟩
 have HL2 : Aside0 ([77, 78, 76, 84].length + (varF 10 (cs.length : Int)).length ≤ 1099511627776) := ⟨by have := pre_len HE.out HTOT.out; simp only [List.length_append] at this; omega⟩
 clear hs2 hy2 hp0 HS HT
 go_wp2_with (at_builtin; refine ov_append rfl _ _ rfl A2 c2 rfl rfl HS2.out HY2.out HL2.out ?_; intro v3 w3 hs3 hk3; have HS3 := amZ hs3; clear hs3 hk3 HS2 HY2)
 clear HE
 have HE : Aside0 ([77, 78, 76, 84] ++ varF 10 cs.length ++ (cs.flatMap constB ++ restB ps) = saveL cs ps) := ⟨by unfold saveL; simp⟩
 go_loopg [3, 4] cs.length (fun g v3 v4 wr => ∃ (j : Nat) (xs : List Int), v4 = .int .i64 (j : Int) ∧ Aside0 (j + g = cs.length) ∧ Aside0 (OvW w bp #[.slice A0 cs.length c0, .slice A1 ps.length c1] wr v3 xs) ∧ Aside0 (xs ++ ((cs.drop j).flatMap constB ++ restB ps) = saveL cs ps))
 case atStart => exact ⟨0, _, rfl, ⟨by omega⟩, HS3, HE⟩
 case round =>
  clear HS3 HE HL2
  obtain ⟨j, xs, rfl, hj, HS, HE⟩ := hrel
  have hp0 := HS.out.c0
  have hnp := World.new_ne wr _ hp0
  by_cases hlt : j < cs.length
  ·
   have p : 0 ≤ (j : Int) := by omega
   have q : (j : Int) < (cs.length : Int) := by omega
   obtain ⟨ad, A2, c2, e, hx0, hx1, hx2, lx2, gx2⟩ := at_T48 HR0.out (j : Int) p q
   cases e
   have hr : rd_T48 cs (j : Int) = cs[j] := getD_nat _ _ _ hlt
   rw [hr, Int.toNat_natCast] at hx0 hx1 hx2
   rw [hr] at gx2
   have hd : cs.drop j = cs[j] :: cs.drop (j + 1) := List.drop_eq_getElem_cons hlt
   have hct := HOK.out.ct cs[j] (List.getElem_mem hlt)
   have HE1 : Aside0 (xs ++ (constB cs[j] ++ ((cs.drop (j + 1)).flatMap constB ++ restB ps)) = saveL cs ps) := ⟨by rw [← HE.out, hd, List.flatMap_cons, List.append_assoc]⟩
   generalize cs[j] = x at *
   have HCT := amZ hct
   have HGX := amZ gx2
   replace hx0 := zcY HS.out.b hx0
   replace hx1 := zcY HS.out.b hx1
   replace hx2 := zcY HS.out.b hx2
   have hdl : decide ((j : Int) < (cs.length : Int)) = true := decide_eq_true q
   have hdn : decide (j < cs.length) = true := decide_eq_true hlt
   have HL := amZ hlt
   replace p := eq_true p
   replace q := eq_true q
   clear hr hd hct gx2 lx2 hlt HE
   go_upto_region 7 with (fail)
   obtain ⟨Wc, hWc⟩ : ∃ W, W = wr.alloc (.cells #[.bool x.f0, .int .i64 x.f1, .slice A2 x.f2.length c2] 48) := ⟨_, rfl⟩
   obtain ⟨bc, hbc⟩ : ∃ b, b = wr.heap.size := ⟨_, rfl⟩
   have HSc := amZ (HS.out.alloc (.cells #[.bool x.f0, .int .i64 x.f1, .slice A2 x.f2.length c2] 48))
   rw [← hWc] at HSc
   have HX : Aside0 (Wc.heap[bc]? = some (.cells #[.bool x.f0, .int .i64 x.f1, .slice A2 x.f2.length c2] 48 (0, 0))) := ⟨by rw [hWc, hbc, heap_alloc_new]⟩
   rw [← hWc, ← hbc]
   clear hWc hbc hx0 hx1 hx2 HS hp0 hnp
   have y0 : Wc.cell? ⟨bc, 0, none⟩ = some (.bool x.f0) := (zaY HX.out 0).trans rfl
   cases hf0 : x.f0 with
   | true =>
    rw [hf0] at y0
    have HE2 : Aside0 (xs ++ ([1] ++ (varF 10 x.f2.length ++ (x.f2 ++ ((cs.drop (j + 1)).flatMap constB ++ restB ps)))) = saveL cs ps) := ⟨by rw [← HE1.out]; unfold constB; rw [if_pos hf0]; simp⟩
    have HE3 : Aside0 (xs ++ [1] ++ (varF 10 x.f2.length ++ (x.f2 ++ ((cs.drop (j + 1)).flatMap constB ++ restB ps))) = saveL cs ps) := ⟨by rw [← HE2.out]; simp⟩
    have HE4 : Aside0 (xs ++ [1] ++ varF 10 x.f2.length ++ (x.f2 ++ ((cs.drop (j + 1)).flatMap constB ++ restB ps)) = saveL cs ps) := ⟨by rw [← HE2.out]; simp⟩
    have HE5 : Aside0 (xs ++ [1] ++ varF 10 x.f2.length ++ x.f2 ++ ((cs.drop (j + 1)).flatMap constB ++ restB ps) = saveL cs ps) := ⟨by rw [← HE2.out]; simp⟩
    clear hf0
    have y2 : Wc.cell? ⟨bc, 2, none⟩ = some (.slice A2 x.f2.length c2) := (zaY HX.out 2).trans rfl
    have HL5 := amZ (room HE2.out HTOT.out)
    go_wp2_with (at_builtin; refine ov_append rfl _ _ rfl (some ⟨_, 0, none⟩) 1 rfl rfl (HSc.out.alloc _) (one_C _ 1) HL5.out ?_; intro v5 w5 hs5 hk5; have HS5 := amZ hs5; have HX5 := amZ (hk5 _ _ _ (by decide) (heap_alloc_keep HX.out _)); have y2' : w5.cell? ⟨bc, 2, none⟩ = some (.slice A2 x.f2.length c2) := (zaY HX5.out 2).trans rfl; clear hs5 hk5)
    clear y0 y2 HX HSc
    refine (ov_var HS5.out _ (num_len HCT.out)).mono ?_
    rintro e w6 ⟨A6, c6, rfl, hs6, hy6, hk6⟩
    have HS6 := amZ hs6
    have HY6 := amZ hy6
    have HX6 := amZ (hk6 _ _ _ (by decide) HX5.out)
    clear hs6 hy6 hk6 HS5 HX5 y2'
    have HL7 := amZ (room HE3.out HTOT.out)
    have HL8 := amZ (room HE4.out HTOT.out)
    go_wp2_with (first | (at_builtin; refine ov_append rfl _ _ rfl A6 c6 rfl rfl HS6.out HY6.out HL7.out ?_; intro v7 w7 hs7 hk7; have HS7 := amZ hs7; have HX7 := amZ (hk7 _ _ _ (by decide) HX6.out); have y2' : w7.cell? ⟨bc, 2, none⟩ = some (.slice A2 x.f2.length c2) := (zaY HX7.out 2).trans rfl; have HG7 := amZ (Kd.C_below HGX.out hs7.b); clear hs7 hk7 HS6) | (at_builtin; refine ov_append rfl _ _ rfl A2 c2 rfl rfl HS7.out HG7.out HL8.out ?_; intro v8 w8 hs8 hk8; have HS8 := amZ hs8; clear hs8 hk8))
    go_roundg (cs.length - (j + 1))
    case measure => have := hj.out; have := HL.out; omega
    case rel => exact ⟨j + 1, _, i64_next HL.out (by have := HOK.out.cl; omega), ⟨by have := HL.out; omega⟩, HS8, HE5⟩
   | false =>
    rw [hf0] at y0
    have HE2 : Aside0 (xs ++ ([0] ++ (eightB x.f1 ++ ((cs.drop (j + 1)).flatMap constB ++ restB ps))) = saveL cs ps) := ⟨by rw [← HE1.out]; unfold constB; rw [if_neg (by simp [hf0])]; simp⟩
    have HE3 : Aside0 (xs ++ [0] ++ (eightB x.f1 ++ ((cs.drop (j + 1)).flatMap constB ++ restB ps)) = saveL cs ps) := ⟨by rw [← HE2.out]; simp⟩
    have HE4 : Aside0 (xs ++ [0] ++ eightB x.f1 ++ ((cs.drop (j + 1)).flatMap constB ++ restB ps) = saveL cs ps) := ⟨by rw [← HE2.out]; simp⟩
    clear hf0
    have HL5 := amZ (room HE2.out HTOT.out)
    have HL7 := amZ (room HE3.out HTOT.out)
    go_wp2_with (at_builtin; refine ov_append rfl _ _ rfl (some ⟨_, 0, none⟩) 1 rfl rfl (HSc.out.alloc _) (one_C _ 0) HL5.out ?_; intro v5 w5 hs5 hk5; have HS5 := amZ hs5; have HX5 := amZ (hk5 _ _ _ (by decide) (heap_alloc_keep HX.out _)); have y1' : w5.cell? ⟨bc, 1, none⟩ = some (.int .i64 x.f1) := (zaY HX5.out 1).trans rfl; clear hs5 hk5)
    clear y0 HX HSc
    refine (ov_eight HS5.out _).mono ?_
    rintro e w6 ⟨A6, c6, rfl, hs6, hy6, _⟩
    have HS6 := amZ hs6
    have HY6 := amZ hy6
    clear hs6 hy6 HS5 HX5 y1'
    go_wp2_with (at_builtin; refine ov_append rfl _ _ rfl A6 c6 rfl rfl HS6.out HY6.out HL7.out ?_; intro v7 w7 hs7 hk7; have HS7 := amZ hs7; clear hs7 hk7)
    go_roundg (cs.length - (j + 1))
    case measure => have := hj.out; have := HL.out; omega
    case rel => exact ⟨j + 1, _, i64_next HL.out (by have := HOK.out.cl; omega), ⟨by have := HL.out; omega⟩, HS7, HE4⟩
  ·
   have hdl : decide ((j : Int) < (cs.length : Int)) = false := decide_eq_false (by omega)
   have hdn : decide (j < cs.length) = false := decide_eq_false hlt
   have HE1 : Aside0 (xs ++ (varF 10 ps.length ++ ps.flatMap protoB) = saveL cs ps) := ⟨by rw [← HE.out, show cs.drop j = [] from List.drop_eq_nil_of_le (by omega)]; simp [restB]⟩
   have HE2 : Aside0 (xs ++ varF 10 ps.length ++ ps.flatMap protoB = saveL cs ps) := ⟨by rw [← HE1.out]; simp⟩
   have hp1 := HS.out.c1
   have HL5 := amZ (room HE1.out HTOT.out)
   clear hlt HE hj
   go_wp2_with fail
   refine (ov_var HS.out _ (num_len HOK.out.pl)).mono ?_
   rintro e w4 ⟨A4, c4, rfl, hs4, hy4, _⟩
   have HS4 := amZ hs4
   have HY4 := amZ hy4
   clear hs4 hy4 HS hp0 hp1 hnp
   go_wp2_with (at_builtin; refine ov_append rfl _ _ rfl A4 c4 rfl rfl HS4.out HY4.out HL5.out ?_; intro v5 w5 hs5 hk5; have HS5 := amZ hs5; clear hs5 hk5)
   clear HS4 HY4
   go_loopg [3, 6] ps.length (fun g v3 v6 wr => ∃ (j : Nat) (xs : List Int), v6 = .int .i64 (j : Int) ∧ Aside0 (j + g = ps.length) ∧ Aside0 (OvW w bp #[.slice A0 cs.length c0, .slice A1 ps.length c1] wr v3 xs) ∧ Aside0 (xs ++ (ps.drop j).flatMap protoB = saveL cs ps))
   case atStart => exact ⟨0, _, rfl, ⟨by omega⟩, HS5, HE2⟩
   case round =>
    clear HS5 HE1 HE2 HL5
    obtain ⟨j, xs, rfl, hj, HS, HE⟩ := hrel
    have hp1 := HS.out.c1
    have hnp := World.new_ne wr _ hp1
    by_cases hlt : j < ps.length
    ·
     have p : 0 ≤ (j : Int) := by omega
     have q : (j : Int) < (ps.length : Int) := by omega
     obtain ⟨ad, A2, c2, A3, c3, e, hx0, hx1, hx2, hx3, lx2, gx2, lx3, gx3⟩ := at_T52 HR1.out (j : Int) p q
     cases e
     have hr : rd_T52 ps (j : Int) = ps[j] := getD_nat _ _ _ hlt
     rw [hr, Int.toNat_natCast] at hx0 hx1 hx2 hx3
     rw [hr] at gx2 gx3
     have hd : ps.drop j = ps[j] :: ps.drop (j + 1) := List.drop_eq_getElem_cons hlt
     have hpr := HOK.out.pr ps[j] (List.getElem_mem hlt)
     have HE1 : Aside0 (xs ++ (protoB ps[j] ++ (ps.drop (j + 1)).flatMap protoB) = saveL cs ps) := ⟨by rw [← HE.out, hd, List.flatMap_cons]⟩
     generalize ps[j] = f at *
     have HPR := amZ hpr
     have HG2 := amZ gx2
     have HG3 := amZ gx3
     replace hx0 := zcY HS.out.b hx0
     replace hx1 := zcY HS.out.b hx1
     replace hx2 := zcY HS.out.b hx2
     replace hx3 := zcY HS.out.b hx3
     have hdl : decide ((j : Int) < (ps.length : Int)) = true := decide_eq_true q
     have hdn : decide (j < ps.length) = true := decide_eq_true hlt
     have HL := amZ hlt
     replace p := eq_true p
     replace q := eq_true q
     clear hr hd hpr gx2 lx2 gx3 lx3 hlt HE
     go_upto_region 18 with (fail)
     obtain ⟨Wc, hWc⟩ : ∃ W, W = wr.alloc (.cells #[.int .i64 f.f0, .int .i64 f.f1, .slice A2 f.f2.length c2, .slice A3 f.f3.length c3] 52) := ⟨_, rfl⟩
     obtain ⟨bc, hbc⟩ : ∃ b, b = wr.heap.size := ⟨_, rfl⟩
     have HSc := amZ (HS.out.alloc (.cells #[.int .i64 f.f0, .int .i64 f.f1, .slice A2 f.f2.length c2, .slice A3 f.f3.length c3] 52))
     rw [← hWc] at HSc
     have HX : Aside0 (Wc.heap[bc]? = some (.cells #[.int .i64 f.f0, .int .i64 f.f1, .slice A2 f.f2.length c2, .slice A3 f.f3.length c3] 52 (0, 0))) := ⟨by rw [hWc, hbc, heap_alloc_new]⟩
     rw [← hWc, ← hbc]
     clear hWc hbc hx0 hx1 hx2 hx3 HS hp1 hnp
     have HE2 : Aside0 (xs ++ (varF 10 f.f0 ++ (varF 10 f.f1 ++ (varF 10 f.f2.length ++ (f.f2.flatMap capB ++ (varF 10 f.f3.length ++ (f.f3.flatMap insB ++ (ps.drop (j + 1)).flatMap protoB)))))) = saveL cs ps) := ⟨by rw [← HE1.out]; simp [protoB]⟩
     have HE3 : Aside0 (xs ++ varF 10 f.f0 ++ (varF 10 f.f1 ++ (varF 10 f.f2.length ++ (f.f2.flatMap capB ++ (varF 10 f.f3.length ++ (f.f3.flatMap insB ++ (ps.drop (j + 1)).flatMap protoB))))) = saveL cs ps) := ⟨by rw [← HE2.out]; simp⟩
     have HE4 : Aside0 (xs ++ varF 10 f.f0 ++ varF 10 f.f1 ++ (varF 10 f.f2.length ++ (f.f2.flatMap capB ++ (varF 10 f.f3.length ++ (f.f3.flatMap insB ++ (ps.drop (j + 1)).flatMap protoB)))) = saveL cs ps) := ⟨by rw [← HE2.out]; simp⟩
     have HE5 : Aside0 (xs ++ varF 10 f.f0 ++ varF 10 f.f1 ++ varF 10 f.f2.length ++ (f.f2.flatMap capB ++ (varF 10 f.f3.length ++ (f.f3.flatMap insB ++ (ps.drop (j + 1)).flatMap protoB))) = saveL cs ps) := ⟨by rw [← HE2.out]; simp⟩
     have HL2 := amZ (room HE2.out HTOT.out)
     have HL3 := amZ (room HE3.out HTOT.out)
     have HL4 := amZ (room HE4.out HTOT.out)
     have y0 : Wc.cell? ⟨bc, 0, none⟩ = some (.int .i64 f.f0) := (zaY HX.out 0).trans rfl
     go_wp2_with fail
     refine (ov_var HSc.out _ HPR.out.1).mono ?_
     rintro e w6 ⟨A6, c6, rfl, hs6, hy6, hk6⟩
     have HS6 := amZ hs6
     have HY6 := amZ hy6
     have HX6 := amZ (hk6 _ _ _ (by decide) HX.out)
     clear hs6 hy6 hk6 HSc HX y0
     go_wp2_with (at_builtin; refine ov_append rfl _ _ rfl A6 c6 rfl rfl HS6.out HY6.out HL2.out ?_; intro v7 w7 hs7 hk7; have HS7 := amZ hs7; have HX7 := amZ (hk7 _ _ _ (by decide) HX6.out); have y1 : w7.cell? ⟨bc, 1, none⟩ = some (.int .i64 f.f1) := (zaY HX7.out 1).trans rfl; clear hs7 hk7 HS6 HX6 HY6)
     refine (ov_var HS7.out _ HPR.out.2.1).mono ?_
     rintro e w8 ⟨A8, c8, rfl, hs8, hy8, hk8⟩
     have HS8 := amZ hs8
     have HY8 := amZ hy8
     have HX8 := amZ (hk8 _ _ _ (by decide) HX7.out)
     clear hs8 hy8 hk8 HS7 HX7 y1
     go_wp2_with (at_builtin; refine ov_append rfl _ _ rfl A8 c8 rfl rfl HS8.out HY8.out HL3.out ?_; intro v9 w9 hs9 hk9; have HS9 := amZ hs9; have HX9 := amZ (hk9 _ _ _ (by decide) HX8.out); have y2 : w9.cell? ⟨bc, 2, none⟩ = some (.slice A2 f.f2.length c2) := (zaY HX9.out 2).trans rfl; clear hs9 hk9 HS8 HX8 HY8)
     refine (ov_var HS9.out _ (num_len HPR.out.2.2.1)).mono ?_
     rintro e wa ⟨Aa, ca, rfl, hsa, hya, hka⟩
     have HSa := amZ hsa
     have HYa := amZ hya
     have HXa := amZ (hka _ _ _ (by decide) HX9.out)
     clear hsa hya hka HS9 HX9 y2
     go_wp2_with (at_builtin; refine ov_append rfl _ _ rfl Aa ca rfl rfl HSa.out HYa.out HL4.out ?_; intro vb wb hsb hkb; have HSb := amZ hsb; have HXb := amZ (hkb _ _ _ (by decide) HXa.out); clear hsb hkb HSa HXa HYa)
     go_loopg [3, 8] f.f2.length (fun g v3 v8 wi => ∃ (i : Nat) (zs : List Int), v8 = .int .i64 (i : Int) ∧ Aside0 (i + g = f.f2.length) ∧ Aside0 (OvW w bp #[.slice A0 cs.length c0, .slice (some ad) ps.length c1] wi v3 zs) ∧ Aside0 (zs ++ ((f.f2.drop i).flatMap capB ++ (varF 10 f.f3.length ++ (f.f3.flatMap insB ++ (ps.drop (j + 1)).flatMap protoB))) = saveL cs ps) ∧ Aside0 (wi.heap[bc]? = some (.cells #[.int .i64 f.f0, .int .i64 f.f1, .slice A2 f.f2.length c2, .slice A3 f.f3.length c3] 52 (0, 0))))
     case atStart => exact ⟨0, _, rfl, ⟨by omega⟩, HSb, HE5, HXb⟩
     case round =>
      clear HSb HE1 HE2 HE3 HE4 HE5 HL2 HL3 HL4 HXb
      obtain ⟨i, zs, rfl, hi, HS, HE, HX⟩ := hrel
      have y2 : wr.cell? ⟨bc, 2, none⟩ = some (.slice A2 f.f2.length c2) := (zaY HX.out 2).trans rfl
      by_cases hlt : i < f.f2.length
      ·
       have p : 0 ≤ (i : Int) := by omega
       have q : (i : Int) < (f.f2.length : Int) := by omega
       obtain ⟨ae, e, hx0, hx1⟩ := at_T54 HG2.out (i : Int) p q
       cases e
       have hr : rd_T54 f.f2 (i : Int) = f.f2[i] := getD_nat _ _ _ hlt
       rw [hr, Int.toNat_natCast] at hx0 hx1
       have hd : f.f2.drop i = f.f2[i] :: f.f2.drop (i + 1) := List.drop_eq_getElem_cons hlt
       have hcx := HPR.out.2.2.2.2.1 f.f2[i] (List.getElem_mem hlt)
       rw [hd, List.flatMap_cons, List.append_assoc] at HE
       generalize f.f2[i] = x at *
       have HE2 : Aside0 (zs ++ ([tI x.f0] ++ (varF 10 x.f1 ++ ((f.f2.drop (i + 1)).flatMap capB ++ (varF 10 f.f3.length ++ (f.f3.flatMap insB ++ (ps.drop (j + 1)).flatMap protoB))))) = saveL cs ps) := ⟨by rw [← HE.out]; simp [capB]⟩
       have HE3 : Aside0 (zs ++ [tI x.f0] ++ (varF 10 x.f1 ++ ((f.f2.drop (i + 1)).flatMap capB ++ (varF 10 f.f3.length ++ (f.f3.flatMap insB ++ (ps.drop (j + 1)).flatMap protoB)))) = saveL cs ps) := ⟨by rw [← HE2.out]; simp⟩
       have HE4 : Aside0 (zs ++ [tI x.f0] ++ varF 10 x.f1 ++ ((f.f2.drop (i + 1)).flatMap capB ++ (varF 10 f.f3.length ++ (f.f3.flatMap insB ++ (ps.drop (j + 1)).flatMap protoB))) = saveL cs ps) := ⟨by rw [← HE2.out]; simp⟩
       have HL2 := amZ (room HE2.out HTOT.out)
       have HL3 := amZ (room HE3.out HTOT.out)
       have HCX := amZ hcx
       have HH0 := amZ hx0
       have HH1 := amZ hx1
       replace hx0 := zcY HS.out.b hx0
       have hil : decide ((i : Int) < (f.f2.length : Int)) = true := decide_eq_true q
       have hin : decide (i < f.f2.length) = true := decide_eq_true hlt
       have HI := amZ hlt
       replace p := eq_true p
       replace q := eq_true q
       clear hr hd hcx hlt HE hx1
       cases hf0 : x.f0 with
       | true =>
        rw [hf0] at hx0
        have HT : Aside0 (tI x.f0 = 1) := ⟨by rw [hf0]; rfl⟩
        rw [HT.out] at HE2 HE3 HE4 HL2 HL3
        clear hf0
        go_wp2_with (at_builtin; refine ov_append rfl _ _ rfl (some ⟨_, 0, none⟩) 1 rfl rfl (HS.out.alloc _) (one_C _ 1) HL2.out ?_; intro v5 w5 hs5 hk5; have HS5 := amZ hs5; have HX5 := amZ (hk5 _ _ _ (by decide) (heap_alloc_keep HX.out _)); have y2' : w5.cell? ⟨bc, 2, none⟩ = some (.slice (some ae) f.f2.length c2) := (zaY HX5.out 2).trans rfl; have hx1 := zcY hs5.b HH1.out; clear hs5 hk5)
        clear y2 hx0 HX HS
        refine (ov_var HS5.out _ HCX.out).mono ?_
        rintro e w6 ⟨A6, c6, rfl, hs6, hy6, hk6⟩
        have HS6 := amZ hs6
        have HY6 := amZ hy6
        have HX6 := amZ (hk6 _ _ _ (by decide) HX5.out)
        clear hs6 hy6 hk6 HS5 HX5 y2' hx1
        go_wp2_with (at_builtin; refine ov_append rfl _ _ rfl A6 c6 rfl rfl HS6.out HY6.out HL3.out ?_; intro v7 w7 hs7 hk7; have HS7 := amZ hs7; have HX7 := amZ (hk7 _ _ _ (by decide) HX6.out); clear hs7 hk7)
        go_roundg (f.f2.length - (i + 1))
        case measure => have := hi.out; have := HI.out; omega
        case rel => exact ⟨i + 1, _, i64_next HI.out (by have := HPR.out.2.2.1; have := HI.out; omega), ⟨by have := HI.out; omega⟩, HS7, HE4, HX7⟩
       | false =>
        rw [hf0] at hx0
        have HT : Aside0 (tI x.f0 = 0) := ⟨by rw [hf0]; rfl⟩
        rw [HT.out] at HE2 HE3 HE4 HL2 HL3
        clear hf0
        go_wp2_with (at_builtin; refine ov_append rfl _ _ rfl (some ⟨_, 0, none⟩) 1 rfl rfl (HS.out.alloc _) (one_C _ 0) HL2.out ?_; intro v5 w5 hs5 hk5; have HS5 := amZ hs5; have HX5 := amZ (hk5 _ _ _ (by decide) (heap_alloc_keep HX.out _)); have y2' : w5.cell? ⟨bc, 2, none⟩ = some (.slice (some ae) f.f2.length c2) := (zaY HX5.out 2).trans rfl; have hx1 := zcY hs5.b HH1.out; clear hs5 hk5)
        clear y2 hx0 HX HS
        refine (ov_var HS5.out _ HCX.out).mono ?_
        rintro e w6 ⟨A6, c6, rfl, hs6, hy6, hk6⟩
        have HS6 := amZ hs6
        have HY6 := amZ hy6
        have HX6 := amZ (hk6 _ _ _ (by decide) HX5.out)
        clear hs6 hy6 hk6 HS5 HX5 y2' hx1
        go_wp2_with (at_builtin; refine ov_append rfl _ _ rfl A6 c6 rfl rfl HS6.out HY6.out HL3.out ?_; intro v7 w7 hs7 hk7; have HS7 := amZ hs7; have HX7 := amZ (hk7 _ _ _ (by decide) HX6.out); clear hs7 hk7)
        go_roundg (f.f2.length - (i + 1))
        case measure => have := hi.out; have := HI.out; omega
        case rel => exact ⟨i + 1, _, i64_next HI.out (by have := HPR.out.2.2.1; have := HI.out; omega), ⟨by have := HI.out; omega⟩, HS7, HE4, HX7⟩
      ·
       have hil : decide ((i : Int) < (f.f2.length : Int)) = false := decide_eq_false (by omega)
       have hin : decide (i < f.f2.length) = false := decide_eq_false hlt
       have HE1 : Aside0 (zs ++ (varF 10 f.f3.length ++ (f.f3.flatMap insB ++ (ps.drop (j + 1)).flatMap protoB)) = saveL cs ps) := ⟨by rw [← HE.out, show f.f2.drop i = [] from List.drop_eq_nil_of_le (by omega)]; simp⟩
       have HE2 : Aside0 (zs ++ varF 10 f.f3.length ++ (f.f3.flatMap insB ++ (ps.drop (j + 1)).flatMap protoB) = saveL cs ps) := ⟨by rw [← HE1.out]; simp⟩
       have HL1 := amZ (room HE1.out HTOT.out)
       have y3 : wr.cell? ⟨bc, 3, none⟩ = some (.slice A3 f.f3.length c3) := (zaY HX.out 3).trans rfl
       clear hlt HE hi
       go_wp2_with fail
       refine (ov_var HS.out _ (num_len HPR.out.2.2.2.1)).mono ?_
       rintro e w4 ⟨A4, c4, rfl, hs4, hy4, hk4⟩
       have HS4 := amZ hs4
       have HY4 := amZ hy4
       have HX4 := amZ (hk4 _ _ _ (by decide) HX.out)
       clear hs4 hy4 hk4 HS HX y2 y3
       go_wp2_with (at_builtin; refine ov_append rfl _ _ rfl A4 c4 rfl rfl HS4.out HY4.out HL1.out ?_; intro v5 w5 hs5 hk5; have HS5 := amZ hs5; have HX5 := amZ (hk5 _ _ _ (by decide) HX4.out); clear hs5 hk5)
       clear HS4 HX4 HY4
       go_loopg [3, 10] f.f3.length (fun g v3 v10 wi => ∃ (i : Nat) (zs : List Int), v10 = .int .i64 (i : Int) ∧ Aside0 (i + g = f.f3.length) ∧ Aside0 (OvW w bp #[.slice A0 cs.length c0, .slice (some ad) ps.length c1] wi v3 zs) ∧ Aside0 (zs ++ ((f.f3.drop i).flatMap insB ++ (ps.drop (j + 1)).flatMap protoB) = saveL cs ps) ∧ Aside0 (wi.heap[bc]? = some (.cells #[.int .i64 f.f0, .int .i64 f.f1, .slice A2 f.f2.length c2, .slice A3 f.f3.length c3] 52 (0, 0))))
       case atStart => exact ⟨0, _, rfl, ⟨by omega⟩, HS5, HE2, HX5⟩
       case round =>
        clear HS5 HE1 HE2 HL1 HX5
        obtain ⟨i, zs, rfl, hi, HS, HE, HX⟩ := hrel
        have y3 : wr.cell? ⟨bc, 3, none⟩ = some (.slice A3 f.f3.length c3) := (zaY HX.out 3).trans rfl
        by_cases hlt : i < f.f3.length
        ·
         have p : 0 ≤ (i : Int) := by omega
         have q : (i : Int) < (f.f3.length : Int) := by omega
         obtain ⟨ae, e, hx0, hx1, hx2⟩ := at_T57 HG3.out (i : Int) p q
         cases e
         have hr : rd_T57 f.f3 (i : Int) = f.f3[i] := getD_nat _ _ _ hlt
         rw [hr, Int.toNat_natCast] at hx0 hx1 hx2
         have hd : f.f3.drop i = f.f3[i] :: f.f3.drop (i + 1) := List.drop_eq_getElem_cons hlt
         have hcx := HPR.out.2.2.2.2.2 f.f3[i] (List.getElem_mem hlt)
         rw [hd, List.flatMap_cons, List.append_assoc] at HE
         generalize f.f3[i] = x at *
         have HE2 : Aside0 (zs ++ ([x.f0 % 256] ++ (varF 10 x.f1 ++ (varF 10 x.f2 ++ ((f.f3.drop (i + 1)).flatMap insB ++ (ps.drop (j + 1)).flatMap protoB)))) = saveL cs ps) := ⟨by rw [← HE.out]; simp [insB]⟩
         have HE3 : Aside0 (zs ++ [x.f0 % 256] ++ (varF 10 x.f1 ++ (varF 10 x.f2 ++ ((f.f3.drop (i + 1)).flatMap insB ++ (ps.drop (j + 1)).flatMap protoB))) = saveL cs ps) := ⟨by rw [← HE2.out]; simp⟩
         have HE4 : Aside0 (zs ++ [x.f0 % 256] ++ varF 10 x.f1 ++ (varF 10 x.f2 ++ ((f.f3.drop (i + 1)).flatMap insB ++ (ps.drop (j + 1)).flatMap protoB)) = saveL cs ps) := ⟨by rw [← HE2.out]; simp⟩
         have HE5 : Aside0 (zs ++ [x.f0 % 256] ++ varF 10 x.f1 ++ varF 10 x.f2 ++ ((f.f3.drop (i + 1)).flatMap insB ++ (ps.drop (j + 1)).flatMap protoB) = saveL cs ps) := ⟨by rw [← HE2.out]; simp⟩
         have HL2 := amZ (room HE2.out HTOT.out)
         have HL3 := amZ (room HE3.out HTOT.out)
         have HL4 := amZ (room HE4.out HTOT.out)
         have HCX := amZ hcx
         have HH1 := amZ hx1
         have HH2 := amZ hx2
         replace hx0 := zcY HS.out.b hx0
         have hil : decide ((i : Int) < (f.f3.length : Int)) = true := decide_eq_true q
         have hin : decide (i < f.f3.length) = true := decide_eq_true hlt
         have HI := amZ hlt
         replace p := eq_true p
         replace q := eq_true q
         clear hr hd hcx hlt HE hx1 hx2
         go_wp2_with (at_builtin; refine ov_append rfl _ _ rfl (some ⟨_, 0, none⟩) 1 rfl rfl (HS.out.alloc _) (one_C _ _) HL2.out ?_; intro v5 w5 hs5 hk5; have HS5 := amZ hs5; have HX5 := amZ (hk5 _ _ _ (by decide) (heap_alloc_keep HX.out _)); have y3' : w5.cell? ⟨bc, 3, none⟩ = some (.slice (some ae) f.f3.length c3) := (zaY HX5.out 3).trans rfl; have hx1 := zcY hs5.b HH1.out; clear hs5 hk5)
         clear y3 hx0 HX HS
         refine (ov_var HS5.out _ HCX.out.1).mono ?_
         rintro e w6 ⟨A6, c6, rfl, hs6, hy6, hk6⟩
         have HS6 := amZ hs6
         have HY6 := amZ hy6
         have HX6 := amZ (hk6 _ _ _ (by decide) HX5.out)
         clear hs6 hy6 hk6 HS5 HX5 y3' hx1
         go_wp2_with (at_builtin; refine ov_append rfl _ _ rfl A6 c6 rfl rfl HS6.out HY6.out HL3.out ?_; intro v7 w7 hs7 hk7; have HS7 := amZ hs7; have HX7 := amZ (hk7 _ _ _ (by decide) HX6.out); have y3' : w7.cell? ⟨bc, 3, none⟩ = some (.slice (some ae) f.f3.length c3) := (zaY HX7.out 3).trans rfl; have hx2 := zcY hs7.b HH2.out; clear hs7 hk7)
         clear HS6 HY6 HX6
         refine (ov_var HS7.out _ HCX.out.2).mono ?_
         rintro e w8 ⟨A8, c8, rfl, hs8, hy8, hk8⟩
         have HS8 := amZ hs8
         have HY8 := amZ hy8
         have HX8 := amZ (hk8 _ _ _ (by decide) HX7.out)
         clear hs8 hy8 hk8 HS7 HX7 y3' hx2
         go_wp2_with (at_builtin; refine ov_append rfl _ _ rfl A8 c8 rfl rfl HS8.out HY8.out HL4.out ?_; intro v9 w9 hs9 hk9; have HS9 := amZ hs9; have HX9 := amZ (hk9 _ _ _ (by decide) HX8.out); clear hs9 hk9)
         go_roundg (f.f3.length - (i + 1))
         case measure => have := hi.out; have := HI.out; omega
         case rel => exact ⟨i + 1, _, i64_next HI.out (by have := HPR.out.2.2.2.1; have := HI.out; omega), ⟨by have := HI.out; omega⟩, HS9, HE5, HX9⟩
        ·
         have hil : decide ((i : Int) < (f.f3.length : Int)) = false := decide_eq_false (by omega)
         have hin : decide (i < f.f3.length) = false := decide_eq_false hlt
         have HE1 : Aside0 (zs ++ (ps.drop (j + 1)).flatMap protoB = saveL cs ps) := ⟨by rw [← HE.out, show f.f3.drop i = [] from List.drop_eq_nil_of_le (by omega)]; simp⟩
         clear hlt HE hi
         go_wp2_with fail
         go_roundg (ps.length - (j + 1))
         case measure => have := hj.out; have := HL.out; omega
         case rel => exact ⟨j + 1, zs, i64_next HL.out (by have := HOK.out.pl; have := HL.out; omega), ⟨by have := HL.out; omega⟩, HS, HE1⟩
    ·
     have hdl : decide ((j : Int) < (ps.length : Int)) = false := decide_eq_false (by omega)
     have hdn : decide (j < ps.length) = false := decide_eq_false hlt
     have HE1 : Aside0 (xs = saveL cs ps) := ⟨by rw [← HE.out, show ps.drop j = [] from List.drop_eq_nil_of_le (by omega)]; simp⟩
     clear hlt HE hj
     go_wp2_with fail
     go_ret
     exact ⟨_, rfl, by have h := HS.out.r; rw [HE1.out] at h; exact h, HS.out.b⟩
end Go.Proofs.Ytmmpiojekgfdjaa.C
