/- Thread. -/
import Derived.Test.YtmmpiojekgfdjaaZtU1
import Derived.Test.YtmmpiojekgfdjaaZtH9
import Derived.Test.YtmmpiojekgfdjaaZtK
namespace Go.Proofs.Ytmmpiojekgfdjaa.C
open Go.RowKit YtmmpiojekgfdjaaW.PrintWords YtmmpiojekgfdjaaW.PrintLast
set_option linter.unusedVariables false
set_option linter.unusedSimpArgs false
def thrI (code : List S57) (x : S57) : S57 := ⟨x.f0, if rowA x.f0.toNat = 116 then lastL code x.f1 else x.f1, if rowB x.f0.toNat = 116 then lastL code x.f2 else x.f2⟩
def thrP (f : S52) : S52 := ⟨f.f0, f.f1, f.f2, f.f3.map (thrI f.f3)⟩
theorem put_ins {n : Nat} {W : World} {g m cap : Nat} {xs : List S52} {i k : Nat} {f : S52} {x : S57} (hs : Kd.S k52 52 W n (fun _ => True) (.slice (some ⟨g, 0, none⟩) m cap) xs) (hi : xs[i]? = some f) (hk : f.f3[k]? = some x) :
  ∃ h c3, W.cell? ⟨g, i * 4 + 3, none⟩ = some (.slice (some ⟨h, 0, none⟩) f.f3.length c3) ∧ n ≤ h ∧ (∃ cc, W.heap[h]? = some (.cells cc 57 (0, 0))) ∧ W.cell? ⟨h, k * 3, none⟩ = some (.int .i64 x.f0) ∧ W.cell? ⟨h, k * 3 + 1, none⟩ = some (.int .i64 x.f1) ∧ W.cell? ⟨h, k * 3 + 2, none⟩ = some (.int .i64 x.f2) ∧
   ∀ W1, Below W.heap.size W W1 → (∀ a, Kd.S k52 52 (W1.setCell ⟨h, k * 3 + 1, none⟩ (.int .i64 a)) n (fun _ => True) (.slice (some ⟨g, 0, none⟩) m cap) (xs.set i ⟨f.f0, f.f1, f.f2, f.f3.set k ⟨x.f0, a, x.f2⟩⟩)) ∧
    ∀ b, Kd.S k52 52 (W1.setCell ⟨h, k * 3 + 2, none⟩ (.int .i64 b)) n (fun _ => True) (.slice (some ⟨g, 0, none⟩) m cap) (xs.set i ⟨f.f0, f.f1, f.f2, f.f3.set k ⟨x.f0, x.f1, b⟩⟩) := by
 obtain ⟨hi1, hi2⟩ := List.getElem?_eq_some_iff.1 hi
 obtain ⟨hk1, hk2⟩ := List.getElem?_eq_some_iff.1 hk
 have hm := (Kd.S_reads' hs).1
 have p : 0 ≤ (i : Int) := by omega
 have q : (i : Int) < (m : Int) := by omega
 obtain ⟨oki, c, hcl, hM, hcc, hfr, hoki, hH⟩ := Kd.S_elem hs z52 (i : Int) p q
 rw [getD_nat _ _ _ hi1, hi2] at hM
 obtain ⟨v2, v3, hcs, hv2, hv3⟩ := k52_openM hM
 subst hcs
 obtain ⟨h, c3, ev, hnh, hlt, hty⟩ := Kd.R_form hv3 (by omega)
 subst ev
 have p' : 0 ≤ (k : Int) := by omega
 have q' : (k : Int) < (f.f3.length : Int) := by omega
 obtain ⟨d, hdl, hdM, hdc, _⟩ := Kd.R_elem hv3 z57 (k : Int) p' q'
 rw [getD_nat _ _ _ hk1, hk2] at hdM
 have hd3 : d = [.int .i64 x.f0, .int .i64 x.f1, .int .i64 x.f2] := by
  have := k57.K_of_M hdM
  exact k57_open this
 subst hd3
 refine ⟨h, c3, hcc 3 _ rfl, hnh, hty, hdc 0 _ rfl, hdc 1 _ rfl, hdc 2 _ rfl, fun W1 hb => ?_⟩
 have hv2' := Kd.R_below hv2 hb
 have hv3' := Kd.R_below hv3 hb
 have hH' := Kd.H_below hH hb
 have hdc' : ∀ (j : Nat) (u : Value), ([.int .i64 x.f0, .int .i64 x.f1, .int .i64 x.f2] : List Value)[j]? = some u → W1.cell? ⟨h, (k : Int).toNat * k57.sz + j, none⟩ = some u := fun j u hu => zgY hb (hdc j u hu)
 obtain ⟨cc, hcc57⟩ := hty
 have hne : ∀ b, (Value.slice (some ⟨h, 0, none⟩) f.f3.length c3).ownBlock = some b → oki b := hv3.1
 have key : ∀ (j : Nat) (u : Value) (y : S57), j + 1 ≤ 3 → u.oneCell' = true → k57.M W1 n (fun _ => False) y (([.int .i64 x.f0, .int .i64 x.f1, .int .i64 x.f2] : List Value).take j ++ [u] ++ ([.int .i64 x.f0, .int .i64 x.f1, .int .i64 x.f2] : List Value).drop (j + 1)) →
   Kd.S k52 52 (W1.setCell ⟨h, k * 3 + j, none⟩ u) n (fun _ => True) (.slice (some ⟨g, 0, none⟩) m cap) (xs.set i ⟨f.f0, f.f1, f.f2, f.f3.set k y⟩) := by
  intro j u y hj hu hy
  obtain ⟨h1, h2⟩ := Kd.R_seg hv3' (k : Int) p' q' (c := [.int .i64 x.f0, .int .i64 x.f1, .int .i64 x.f2]) (seg := [u]) (j := j) (x' := y) rfl hdc' (by show j + 1 ≤ 3; omega) (okp := fun _ => False) hy (fun _ hf => hf.elim)
  rw [Int.toNat_natCast] at h1 h2
  have hv2'' := Kd.R_mono (Kd.R_grown (Kd.R_types hv2' ((hb.block _ (zkY hcc57)).trans hcc57) (by decide)) h2 (fun b hb' e => hb'.2 (by injection e))) (fun _ hk => hk.1)
  ·
   have := Kd.H_back (Kd.H_grown hH' h2 (fun b hb' => hne b (by injection hb' with hb'; rw [← hb']; rfl))) (okp := oki) (x' := (⟨f.f0, f.f1, f.f2, f.f3.set k y⟩ : S52)) (k52_mkM _ _ _ (⟨f.f0, f.f1, f.f2, f.f3.set k y⟩ : S52) hv2'' (by show Kd.R k57 57 _ _ _ _ (f.f3.set k y); exact h1)) (fun _ hk => hk)
   rw [Int.toNat_natCast] at this
   exact this
 exact ⟨fun a => key 1 (.int .i64 a) ⟨x.f0, a, x.f2⟩ (by omega) rfl (k57_mkM _ _ _ ⟨x.f0, a, x.f2⟩), fun b => key 2 (.int .i64 b) ⟨x.f0, x.f1, b⟩ (by omega) rfl (k57_mkM _ _ _ ⟨x.f0, x.f1, b⟩)⟩
theorem rowA_116 : ∀ op, op < 28 → rowA op = 116 → 18 ≤ op ∧ op ≤ 21 ∧ rowB op ≠ 116 := by decide
theorem rowB_116 : ∀ op, op < 28 → rowB op = 116 → 26 ≤ op ∧ op ≤ 27 := by decide
structure ThW (w : World) (bo bt : Nat) (v0 v1 : Value) (C : List S48) (P : List S52) (W : World) : Prop where
 b : Below w.heap.size w W
 p : W.heap[w.heap.size + 1]? = some (.cells #[.slice none 0 0, .slice none 0 0] 31 (0, 0))
 o : W.heap[bo]? = some (.cells #[v0, v1] 31 (0, 0))
 ob : w.heap.size + 1 < bo
 t : W.heap[bt]? = some (.cells rowsV 65 (0, 0))
 s0 : Kd.S k48 48 W w.heap.size (fun _ => True) v0 C
 s1 : Kd.S k52 52 W w.heap.size (fun _ => True) v1 P
section
variable {w W W1 : World} {bo bt h j : Nat} {v0 v1 u : Value} {C : List S48} {P P1 : List S52} {cc : Array Value}
theorem ThW.below (x : ThW w bo bt v0 v1 C P W) (hb : Below W.heap.size W W1) : ThW w bo bt v0 v1 C P W1 :=
 ⟨zfY x.b hb, (hb.block _ (zkY x.p)).trans x.p, (hb.block _ (zkY x.o)).trans x.o, x.ob, (hb.block _ (zkY x.t)).trans x.t, Kd.S_below x.s0 hb, Kd.S_below x.s1 hb⟩
theorem made_step (w4 : World) (v0 v1 : Value) : Below w4.heap.size w4 (((w4.alloc (.cells #[v0, v1] 31)).alloc (.cells Try.zeroCells65 65)).setRow (w4.heap.size + 1) rowsV) ∧ (((w4.alloc (.cells #[v0, v1] 31)).alloc (.cells Try.zeroCells65 65)).setRow (w4.heap.size + 1) rowsV).heap[w4.heap.size]? = some (.cells #[v0, v1] 31 (0, 0)) ∧ (((w4.alloc (.cells #[v0, v1] 31)).alloc (.cells Try.zeroCells65 65)).setRow (w4.heap.size + 1) rowsV).heap[w4.heap.size + 1]? = some (.cells rowsV 65 (0, 0)) := by
 have hn : (w4.alloc (.cells #[v0, v1] 31)).heap.size = w4.heap.size + 1 := by simp
 have hx := setRow_below (w4.alloc (.cells #[v0, v1] 31)) (.cells Try.zeroCells65 65) rowsV
 have ht : (((w4.alloc (.cells #[v0, v1] 31)).alloc (.cells Try.zeroCells65 65)).setRow (w4.alloc (.cells #[v0, v1] 31)).heap.size rowsV).heap[(w4.alloc (.cells #[v0, v1] 31)).heap.size]? = some (.cells rowsV 65 (0, 0)) := setRow_heap _ _ _ _ _ _ (heap_alloc_new _ _)
 rw [hn] at ht
 have hx' : Below (w4.alloc (.cells #[v0, v1] 31)).heap.size (w4.alloc (.cells #[v0, v1] 31)) (((w4.alloc (.cells #[v0, v1] 31)).alloc (.cells Try.zeroCells65 65)).setRow (w4.heap.size + 1) rowsV) := hn ▸ hx
 refine ⟨zfY (znY (Below.refl _ _) _) hx', ?_, ht⟩
 rw [hx'.block _ (by simp), heap_alloc_new]
theorem ThW.put (x : ThW w bo bt v0 v1 C P W) (hh : w.heap.size ≤ h) (hc : W.heap[h]? = some (.cells cc 57 (0, 0))) (hs : Kd.S k52 52 (W.setCell ⟨h, j, none⟩ u) w.heap.size (fun _ => True) v1 P1) : ThW w bo bt v0 v1 C P1 (W.setCell ⟨h, j, none⟩ u) :=
 ⟨below_set x.b hh, zjY x.p (blk_ne x.p hc (by decide)) u, zjY x.o (blk_ne x.o hc (by decide)) u, x.ob, zjY x.t (blk_ne x.t hc (by decide)) u, Kd.S_set x.s0 hc (by decide) j u, hs⟩
end
set_option maxHeartbeats 8000000 in
set_option maxRecDepth 100000 in
theorem impl_Thread_calls (A0 A1 : Option Addr) (c0 c1 : Nat) (cs : List S48) (ps : List S52) (r : Bool) (w : World) (hr0 : Kd.C k48 w A0 cs.length cs) (hc0 : cs.length ≤ c0) (hr1 : Kd.C k52 w A1 ps.length ps) (hc1 : ps.length ≤ c1) (hf : FineP cs ps)
  (h : impl_Check.f cs ps = some r) (hok : r = true → ∀ f ∈ ps, f.f3.length ≤ 20000 ∧ ∀ x ∈ f.f3, FineIns f.f3.length x) :
  Calls Try.prog 19 #[.agg #[.slice A0 cs.length c0, .slice A1 ps.length c1]] w fun e w' => ∃ v0 v1, e = .returned (.agg #[v0, v1]) ∧ Kd.S k48 48 w' w.heap.size (fun _ => True) v0 (if r = true then cs else []) ∧ Kd.S k52 52 w' w.heap.size (fun _ => True) v1 (if r = true then ps.map thrP else []) ∧ Below w.heap.size w w' := by
 have hb0 := znY (znY (Below.refl w.heap.size w) (.cells #[.slice A0 cs.length c0, .slice A1 ps.length c1] 31)) (.cells #[.slice none 0 0, .slice none 0 0] 31)
 have hp : ((w.alloc (.cells #[.slice A0 cs.length c0, .slice A1 ps.length c1] 31)).alloc (.cells #[.slice none 0 0, .slice none 0 0] 31)).heap[w.heap.size]? = some (.cells #[.slice A0 cs.length c0, .slice A1 ps.length c1] 31 (0, 0)) := by rw [heap_alloc_old _ _ (by simp), heap_alloc_new]
 have hq : ((w.alloc (.cells #[.slice A0 cs.length c0, .slice A1 ps.length c1] 31)).alloc (.cells #[.slice none 0 0, .slice none 0 0] 31)).heap[w.heap.size + 1]? = some (.cells #[.slice none 0 0, .slice none 0 0] 31 (0, 0)) := by rw [show w.heap.size + 1 = (w.alloc (.cells #[.slice A0 cs.length c0, .slice A1 ps.length c1] 31)).heap.size by simp, heap_alloc_new]
 have HB := amZ hb0
 have HP := amZ hp
 have HQ := amZ hq
 have HR0 := amZ hr0
 have HC0 := amZ hc0
 have HR1 := amZ hr1
 have HC1 := amZ hc1
 have HF := amZ hf
 have HH := amZ h
 have HOK := amZ hok
 clear hr0 hc0 hr1 hc1 hf h hok hb0 hp hq
 go_enter Try.func19, Try.ntmps19
 go_upto_region 1 with (fail)
 obtain ⟨W, hW⟩ : ∃ W, W = (w.alloc (.cells #[.slice A0 cs.length c0, .slice A1 ps.length c1] 31)).alloc (.cells #[.slice none 0 0, .slice none 0 0] 31) := ⟨_, rfl⟩
 rw [← hW] at HB HP HQ
 rw [← hW]
 clear hW
 have p0 : W.cell? ⟨w.heap.size, 0, none⟩ = some (.slice A0 cs.length c0) := (zaY HP.out 0).trans rfl
 have p1 : W.cell? ⟨w.heap.size, 1, none⟩ = some (.slice A1 ps.length c1) := (zaY HP.out 1).trans rfl
 go_wp2_with fail
 refine (impl_Check.calls A0 c0 cs A1 c1 ps r W (Kd.C_below HR0.out HB.out) HC0.out (Kd.C_below HR1.out HB.out) HC1.out HH.out).mono ?_
 rintro e w2 ⟨rfl, hb⟩
 have HB2 := amZ (zfY HB.out hb)
 have HP2 := amZ ((hb.block _ (zkY HP.out)).trans HP.out)
 have HQ2 := amZ ((hb.block _ (zkY HQ.out)).trans HQ.out)
 clear hb p0 p1 HB HP HQ
 have z0 : w2.cell? ⟨w.heap.size + 1, 0, none⟩ = some (.slice none 0 0) := (zaY HQ2.out 0).trans rfl
 have z1 : w2.cell? ⟨w.heap.size + 1, 1, none⟩ = some (.slice none 0 0) := (zaY HQ2.out 1).trans rfl
 have z2 := zbY HQ2.out 0
 have z3 := zbY HQ2.out 1
 cases r with
 | false =>
  go_wp2_with fail
  have o1 := heap_setCell_same w2 (w.heap.size + 1) 0 _ 31 (.slice none 0 0) HQ2.out
  have o2 := heap_setCell_same _ (w.heap.size + 1) 1 _ 31 (.slice none 0 0) o1
  refine bodyPost_ret (results_cell_row rfl _ _ (w.heap.size + 1) 31 #[.slice none 0 0, .slice none 0 0] (0, 0) _ rfl o2 Try.underlying31 rfl (by kernel_rfl)) rfl ?_
  exact ⟨_, _, rfl, by simpa using Kd.S_nil _ _ _ _ _, by simpa using Kd.S_nil _ _ _ _ _, below_set (below_set HB2.out (by omega)) (by omega)⟩
 | true =>
  clear z0 z1 z2 z3
  have p0 : w2.cell? ⟨w.heap.size, 0, none⟩ = some (.slice A0 cs.length c0) := (zaY HP2.out 0).trans rfl
  have p1 : w2.cell? ⟨w.heap.size, 1, none⟩ = some (.slice A1 ps.length c1) := (zaY HP2.out 1).trans rfl
  have hb5 := build65
  go_wp2_with fail
  refine (cloned_calls A0 A1 c0 c1 cs ps w2 (Kd.C_below HR0.out HB2.out) (Kd.C_below HR1.out HB2.out) HF.out).mono ?_
  rintro e w3 ⟨v0, v1, rfl, hs0, hs1, hb⟩
  have HB3 := amZ (zfY HB2.out hb)
  have HP3 := amZ ((hb.block _ (zkY HP2.out)).trans HP2.out)
  have HQ3 := amZ ((hb.block _ (zkY HQ2.out)).trans HQ2.out)
  have HS0 := amZ (Kd.S_lower hs0 HB2.out.size)
  have HS1 := amZ (Kd.S_lower hs1 HB2.out.size)
  obtain ⟨B0, d0, e0⟩ := Kd.S_slice hs0
  obtain ⟨B1, d1, e1⟩ := Kd.S_slice hs1
  subst e0 e1
  clear hb hs0 hs1 p0 p1 HP2 HQ2
  go_wp2_with fail
  refine (rows_calls _).mono ?_
  rintro e w4 ⟨rfl, hb⟩
  have HB4 := amZ (zfY HB3.out hb)
  have HP4 := amZ ((hb.block _ (zkY HP3.out)).trans HP3.out)
  have HQ4 := amZ ((hb.block _ (zkY HQ3.out)).trans HQ3.out)
  have HT0 := amZ (Kd.S_below HS0.out hb)
  have HT1 := amZ (Kd.S_below HS1.out hb)
  clear hb HP3 HQ3 HS0 HS1 HB3
  obtain ⟨m1, m2, m3⟩ := made_step w4 (.slice B0 cs.length d0) (.slice B1 ps.length d1)
  have M1 := amZ m1
  have M2 := amZ m2
  have M3 := amZ m3
  have MG : Aside0 (((w4.alloc (.cells #[.slice B0 cs.length d0, .slice B1 ps.length d1] 31)).alloc (.cells Try.zeroCells65 65)).heap[w4.heap.size + 1]? = some (.cells Try.zeroCells65 65 (0, 0))) := ⟨by rw [show w4.heap.size + 1 = (w4.alloc (.cells #[.slice B0 cs.length d0, .slice B1 ps.length d1] 31)).heap.size by simp, heap_alloc_new]⟩
  clear m1 m2 m3
  go_wp2_with (with_reducible refine wpList_store_row rfl 65 (.tmp 4) (.tmp 16) rfl (w4.heap.size + 1) rowsV rfl rfl 65 Try.zeroCells65 MG.out (by kernel_rfl) (by kernel_rfl) (by kernel_rfl) ?_; go_loud (obtain ⟨w5, hw5⟩ : ∃ x, x = ((w4.alloc (.cells #[.slice B0 cs.length d0, .slice B1 ps.length d1] 31)).alloc (.cells Try.zeroCells65 65)).setRow (w4.heap.size + 1) rowsV := ⟨_, rfl⟩; rw [← hw5] at M1 M2 M3; rw [← hw5]; have HS := amZ (show ThW w w4.heap.size (w4.heap.size + 1) (.slice B0 cs.length d0) (.slice B1 ps.length d1) cs ps w5 from ⟨zfY HB4.out M1.out, (M1.out.block _ (zkY HQ4.out)).trans HQ4.out, M2.out, zkY HQ4.out, M3.out, Kd.S_below HT0.out M1.out, Kd.S_below HT1.out M1.out⟩); have HP5 := amZ ((M1.out.block _ (zkY HP4.out)).trans HP4.out); have y1 : w5.cell? ⟨w.heap.size, 1, none⟩ = some (.slice A1 ps.length c1) := (zaY HP5.out 1).trans rfl; clear hw5 M1 M2 M3 MG HP5 HT0 HT1 HB4 HP4 HQ4))
  clear hb5
  have HG : Aside0 (∀ f ∈ ps, f.f3.length ≤ 20000 ∧ ∀ x ∈ f.f3, FineIns f.f3.length x) := ⟨by first | exact HOK.out rfl | exact HOK.out trivial⟩
  clear HOK HH
  go_loopg [20] ps.length (fun gq v20 wr => ∃ i : Nat, v20 = .int .i64 (i : Int) ∧ Aside0 (i + gq = ps.length) ∧ Aside0 (ThW w w4.heap.size (w4.heap.size + 1) (.slice B0 cs.length d0) (.slice B1 ps.length d1) cs ((ps.take i).map thrP ++ ps.drop i) wr))
  case atStart => exact ⟨0, rfl, ⟨by omega⟩, by simpa using HS⟩
  case round =>
   clear HS y1
   obtain ⟨i, rfl, hi, HS⟩ := hrel
   by_cases hlt : i < ps.length
   ·
    have p : 0 ≤ (i : Int) := by omega
    have q : (i : Int) < (ps.length : Int) := by omega
    obtain ⟨ad, A2, c2, A3, c3, e, hx0, hx1, hx2, hx3, lx2, gx2, lx3, gx3⟩ := at_T52 HR1.out (i : Int) p q
    cases e
    have hr : rd_T52 ps (i : Int) = ps[i] := getD_nat _ _ _ hlt
    rw [hr, Int.toNat_natCast] at hx0 hx1 hx2 hx3
    rw [hr] at gx2 gx3
    have hd : ps.drop i = ps[i] :: ps.drop (i + 1) := List.drop_eq_getElem_cons hlt
    have HD := amZ hd
    have HTK : Aside0 ((ps.take (i + 1)).map thrP = (ps.take i).map thrP ++ [thrP ps[i]]) := ⟨by rw [List.take_succ_eq_append_getElem hlt, List.map_append]; rfl⟩
    have HGI := amZ (HG.out _ (List.getElem_mem hlt))
    generalize ps[i] = f at *
    have HG3 := amZ gx3
    have HLT := amZ hlt
    replace hx0 := zgY HS.out.b hx0
    replace hx1 := zgY HS.out.b hx1
    replace hx2 := zgY HS.out.b hx2
    replace hx3 := zgY HS.out.b hx3
    have hil : decide ((i : Int) < (ps.length : Int)) = true := decide_eq_true q
    have hin : decide (i < ps.length) = true := decide_eq_true hlt
    replace p := eq_true p
    replace q := eq_true q
    clear hr hd gx2 lx2 gx3 lx3 hlt
    go_upto_region 7 with (fail)
    obtain ⟨Wc, hWc⟩ : ∃ W, W = wr.alloc (.cells #[.int .i64 f.f0, .int .i64 f.f1, .slice A2 f.f2.length c2, .slice A3 f.f3.length c3] 52) := ⟨_, rfl⟩
    obtain ⟨bf, hbf⟩ : ∃ b, b = wr.heap.size := ⟨_, rfl⟩
    have HX : Aside0 (Wc.heap[bf]? = some (.cells #[.int .i64 f.f0, .int .i64 f.f1, .slice A2 f.f2.length c2, .slice A3 f.f3.length c3] 52 (0, 0))) := ⟨by rw [hWc, hbf, heap_alloc_new]⟩
    have HSc : Aside0 (ThW w w4.heap.size (w4.heap.size + 1) (.slice B0 cs.length d0) (.slice B1 ps.length d1) cs ((ps.take i).map thrP ++ f :: ps.drop (i + 1)) Wc) := ⟨by have := HS.out.below (znY (Below.refl _ _) (.cells #[.int .i64 f.f0, .int .i64 f.f1, .slice A2 f.f2.length c2, .slice A3 f.f3.length c3] 52)); rw [← hWc, HD.out] at this; exact this⟩
    rw [← hWc, ← hbf]
    clear hWc hbf hx0 hx1 hx2 hx3 HS
    have y3 : Wc.cell? ⟨bf, 3, none⟩ = some (.slice A3 f.f3.length c3) := (zaY HX.out 3).trans rfl
    go_wp2_with fail
    go_loopg [28] f.f3.length (fun gk v28 wi => ∃ k : Nat, v28 = .int .i64 (k : Int) ∧ Aside0 (k + gk = f.f3.length) ∧ Aside0 (ThW w w4.heap.size (w4.heap.size + 1) (.slice B0 cs.length d0) (.slice B1 ps.length d1) cs ((ps.take i).map thrP ++ ⟨f.f0, f.f1, f.f2, (f.f3.take k).map (thrI f.f3) ++ f.f3.drop k⟩ :: ps.drop (i + 1)) wi) ∧ Aside0 (wi.heap[bf]? = some (.cells #[.int .i64 f.f0, .int .i64 f.f1, .slice A2 f.f2.length c2, .slice A3 f.f3.length c3] 52 (0, 0))))
    case atStart => exact ⟨0, rfl, ⟨by omega⟩, by simpa using HSc, HX⟩
    case round =>
     clear HSc HX y3
     obtain ⟨k, rfl, hk, HS, HX⟩ := hrel
     by_cases hlt : k < f.f3.length
     ·
      have p' : 0 ≤ (k : Int) := by omega
      have q' : (k : Int) < (f.f3.length : Int) := by omega
      obtain ⟨ae, e, hx0, hx1, hx2⟩ := at_T57 HG3.out (k : Int) p' q'
      cases e
      have hr : rd_T57 f.f3 (k : Int) = f.f3[k] := getD_nat _ _ _ hlt
      rw [hr, Int.toNat_natCast] at hx0 hx1 hx2
      have hd : f.f3.drop k = f.f3[k] :: f.f3.drop (k + 1) := List.drop_eq_getElem_cons hlt
      have hfi := HGI.out.2 _ (List.getElem_mem hlt)
      have HTK2 : Aside0 ((f.f3.take (k + 1)).map (thrI f.f3) = (f.f3.take k).map (thrI f.f3) ++ [thrI f.f3 f.f3[k]]) := ⟨by rw [List.take_succ_eq_append_getElem hlt, List.map_append]; rfl⟩
      have hlk : ((f.f3.take k).map (thrI f.f3)).length = k := by simp; omega
      have hli : ((ps.take i).map thrP).length = i := by have := HLT.out; simp; omega
      rw [hd] at HS
      have hln : ((f.f3.take k).map (thrI f.f3) ++ f.f3[k] :: f.f3.drop (k + 1)).length = f.f3.length := by simp; omega
      have hLn : ((ps.take i).map thrP ++ (⟨f.f0, f.f1, f.f2, (f.f3.take k).map (thrI f.f3) ++ f.f3[k] :: f.f3.drop (k + 1)⟩ : S52) :: ps.drop (i + 1)).length = ps.length := by have := HLT.out; simp; omega
      generalize f.f3[k] = x at *
      obtain ⟨g, cap, e, hga, hgl, hgc⟩ := Kd.S_form HS.out.s1 (by have := HLT.out; omega)
      injection e with e1 e3 e2
      clear e3 hga hgl hgc
      subst e1 e2
      obtain ⟨h, c3', k3, hnh, ⟨cc, hcc⟩, i0, i1, i2, hput⟩ := put_ins (k := k) (x := x) (i := i) HS.out.s1 (by rw [List.getElem?_append_right (by omega), hli, Nat.sub_self]; rfl) (by show (((f.f3.take k).map (thrI f.f3) ++ x :: f.f3.drop (k + 1)))[k]? = some x; rw [List.getElem?_append_right (by omega), hlk, Nat.sub_self]; rfl)
      simp only [hln] at k3
      have HPUT : Aside0 (∀ W1, Below wr.heap.size wr W1 → (∀ a, Kd.S k52 52 (W1.setCell ⟨h, k * 3 + 1, none⟩ (.int .i64 a)) w.heap.size (fun _ => True) (.slice (some ⟨g, 0, none⟩) ps.length d1) ((ps.take i).map thrP ++ ⟨f.f0, f.f1, f.f2, (f.f3.take k).map (thrI f.f3) ++ ⟨x.f0, a, x.f2⟩ :: f.f3.drop (k + 1)⟩ :: ps.drop (i + 1))) ∧
        ∀ b, Kd.S k52 52 (W1.setCell ⟨h, k * 3 + 2, none⟩ (.int .i64 b)) w.heap.size (fun _ => True) (.slice (some ⟨g, 0, none⟩) ps.length d1) ((ps.take i).map thrP ++ ⟨f.f0, f.f1, f.f2, (f.f3.take k).map (thrI f.f3) ++ ⟨x.f0, x.f1, b⟩ :: f.f3.drop (k + 1)⟩ :: ps.drop (i + 1))) := ⟨fun W1 hb => by
       obtain ⟨u1, u2⟩ := hput W1 hb
       refine ⟨fun a => ?_, fun b => ?_⟩
       ·
        have := u1 a
        rw [show ∀ (y z : S52) (l : List S52), ((ps.take i).map thrP ++ y :: l).set i z = ((ps.take i).map thrP ++ [z]) ++ l from fun y z l => mid_set _ _ _ _ _ hli, show ∀ (y : S57), ((f.f3.take k).map (thrI f.f3) ++ x :: f.f3.drop (k + 1)).set k y = ((f.f3.take k).map (thrI f.f3) ++ [y]) ++ f.f3.drop (k + 1) from fun y => mid_set _ _ _ _ _ hlk, List.append_assoc, List.append_assoc] at this
        exact this
       ·
        have := u2 b
        rw [show ∀ (y z : S52) (l : List S52), ((ps.take i).map thrP ++ y :: l).set i z = ((ps.take i).map thrP ++ [z]) ++ l from fun y z l => mid_set _ _ _ _ _ hli, show ∀ (y : S57), ((f.f3.take k).map (thrI f.f3) ++ x :: f.f3.drop (k + 1)).set k y = ((f.f3.take k).map (thrI f.f3) ++ [y]) ++ f.f3.drop (k + 1) from fun y => mid_set _ _ _ _ _ hlk, List.append_assoc, List.append_assoc] at this
        exact this⟩
      obtain ⟨a0, a1, a2, a3, a4, a5, tA, tB⟩ := hfi
      have HTG : Aside0 (∀ y ∈ f.f3, y.f0 = 18 → 0 ≤ y.f1 ∧ y.f1 < f.f3.length) := ⟨fun y hy e => by have := HGI.out.2 y hy; exact ⟨this.2.2.1, this.2.2.2.2.2.2.1 (by omega)⟩⟩
      have HTA := amZ tA
      have HTB := amZ tB
      have HR := amZ (And.intro a2 a4)
      have hop : x.f0.toNat < 28 := by omega
      have HOP := amZ hop
      have HA0 := amZ (And.intro a0 a1)
      have hdk : decide ((k : Int) < (f.f3.length : Int)) = true := decide_eq_true q'
      have hdn : decide (k < f.f3.length) = true := decide_eq_true hlt
      have hdo0 : decide (0 ≤ x.f0) = true := decide_eq_true a0
      have hdo1 : decide (x.f0 < 28) = true := decide_eq_true a1
      have HLK := amZ hlt
      have HNH := amZ hnh
      have HCC := amZ hcc
      have HKS := amZ (And.intro k3 (And.intro i0 (And.intro i1 i2)))
      replace hx0 := zgY HS.out.b hx0
      replace hx1 := zgY HS.out.b hx1
      replace hx2 := zgY HS.out.b hx2
      replace p' := eq_true p'
      replace q' := eq_true q'
      replace a0 := eq_true a0
      replace a1 := eq_true a1
      clear hput hr hd hlt hlk hli hln hLn hnh hcc k3 i0 i1 i2 tA tB a2 a3 a4 a5 hop
      go_upto_region 10 with (fail)
      obtain ⟨Wx, hWx⟩ : ∃ W, W = wr.alloc (.cells #[.int .i64 x.f0, .int .i64 x.f1, .int .i64 x.f2] 57) := ⟨_, rfl⟩
      obtain ⟨bx, hbx⟩ : ∃ b, b = wr.heap.size := ⟨_, rfl⟩
      have hbw : Below wr.heap.size wr Wx := by rw [hWx]; exact znY (Below.refl _ _) _
      have HBW := amZ hbw
      have HSx := amZ (HS.out.below hbw)
      have HXx := amZ ((hbw.block _ (zkY HX.out)).trans HX.out)
      have HI : Aside0 (Wx.heap[bx]? = some (.cells #[.int .i64 x.f0, .int .i64 x.f1, .int .i64 x.f2] 57 (0, 0))) := ⟨by rw [hWx, hbx, heap_alloc_new]⟩
      have HNE : Aside0 (h ≠ bx) := ⟨by have := zkY HCC.out; omega⟩
      have HCx := amZ ((hbw.block _ (zkY HCC.out)).trans HCC.out)
      rw [← hWx, ← hbx]
      have k3 := zgY hbw HKS.out.1
      clear hWx hbx hx0 hx1 hx2 hbw
      have o1 : Wx.cell? ⟨w4.heap.size, 1, none⟩ = some (.slice (some ⟨g, 0, none⟩) ps.length d1) := (zaY HSx.out.o 1).trans rfl
      have x0 : Wx.cell? ⟨bx, 0, none⟩ = some (.int .i64 x.f0) := (zaY HI.out 0).trans rfl
      have x1 : Wx.cell? ⟨bx, 1, none⟩ = some (.int .i64 x.f1) := (zaY HI.out 1).trans rfl
      have x2 : Wx.cell? ⟨bx, 2, none⟩ = some (.int .i64 x.f2) := (zaY HI.out 2).trans rfl
      have f3 : Wx.cell? ⟨bf, 3, none⟩ = some (.slice (some ae) f.f3.length c3) := (zaY HXx.out 3).trans rfl
      have ta : Wx.cell? ⟨w4.heap.size + 1, x.f0.toNat * 5 + 1, none⟩ = some (.int .u8 (rowA x.f0.toNat)) := (zaY HSx.out.t _).trans (rowsV_get ⟨x.f0.toNat, HOP.out⟩).2.1
      have tb : Wx.cell? ⟨w4.heap.size + 1, x.f0.toNat * 5 + 2, none⟩ = some (.int .u8 (rowB x.f0.toNat)) := (zaY HSx.out.t _).trans (rowsV_get ⟨x.f0.toNat, HOP.out⟩).2.2.1
      by_cases ha : rowA x.f0.toNat = 116
      ·
       obtain ⟨b18, b21, hbn⟩ := rowA_116 _ HOP.out ha
       have hae : (rowA x.f0.toNat == 116) = true := by simpa using ha
       have hbe : (rowB x.f0.toNat == 116) = false := by simpa using hbn
       have HTGT : Aside0 (0 ≤ x.f1 ∧ x.f1 < f.f3.length) := ⟨HR.out.1, HTA.out (by have := HA0.out; omega)⟩
       have hI : thrI f.f3 x = ⟨x.f0, lastL f.f3 x.f1, x.f2⟩ := by unfold thrI; rw [if_pos ha, if_neg hbn]
       have HIE := amZ hI
       clear ha hbn b18 b21 hI
       go_wp2_with fail
       refine (lastTarget_calls (some ae) c3 f.f3 x.f1 Wx (Kd.C_below HG3.out HSx.out.b) (by have := HGI.out.1; omega) HTG.out HTGT.out.1 HTGT.out.2).mono ?_
       rintro e W1 ⟨rfl, hb1⟩
       have HS1 := amZ (HSx.out.below hb1)
       have HX1 := amZ ((hb1.block _ (zkY HXx.out)).trans HXx.out)
       have HI1 := amZ ((hb1.block _ (zkY HI.out)).trans HI.out)
       have HC1 := amZ ((hb1.block _ (zkY HCx.out)).trans HCx.out)
       have HB1 := amZ (zfY HBW.out hb1)
       have s1 := zgY HB1.out HKS.out.2.2.1
       have s2 := zbY HC1.out (k * 3 + 1)
       clear hb1 o1 x0 x1 x2 f3 ta tb k3
       go_upto_region 13 with (fail)
       obtain ⟨W2, hW2⟩ : ∃ W, W = W1.setCell ⟨h, k * 3 + 1, none⟩ (.int .i64 (lastL f.f3 x.f1)) := ⟨_, rfl⟩
       have HS2 : Aside0 (ThW w w4.heap.size (w4.heap.size + 1) (.slice B0 cs.length d0) (.slice (some ⟨g, 0, none⟩) ps.length d1) cs ((ps.take i).map thrP ++ ⟨f.f0, f.f1, f.f2, (f.f3.take (k + 1)).map (thrI f.f3) ++ f.f3.drop (k + 1)⟩ :: ps.drop (i + 1)) W2) := ⟨by have := HS1.out.put HNH.out HC1.out ((HPUT.out W1 HB1.out).1 (lastL f.f3 x.f1)); rw [← hW2] at this; rw [HTK2.out, HIE.out, List.append_assoc]; exact this⟩
       have HX2 : Aside0 (W2.heap[bf]? = some (.cells #[.int .i64 f.f0, .int .i64 f.f1, .slice A2 f.f2.length c2, .slice (some ae) f.f3.length c3] 52 (0, 0))) := ⟨by rw [hW2]; exact zjY HX1.out (blk_ne HX1.out HC1.out (by decide)) _⟩
       have HI2 : Aside0 (W2.heap[bx]? = some (.cells #[.int .i64 x.f0, .int .i64 x.f1, .int .i64 x.f2] 57 (0, 0))) := ⟨by rw [hW2]; exact zjY HI1.out (fun e => HNE.out e.symm) _⟩
       rw [← hW2]
       clear hW2 s1 s2
       have x0 : W2.cell? ⟨bx, 0, none⟩ = some (.int .i64 x.f0) := (zaY HI2.out 0).trans rfl
       have tb : W2.cell? ⟨w4.heap.size + 1, x.f0.toNat * 5 + 2, none⟩ = some (.int .u8 (rowB x.f0.toNat)) := (zaY HS2.out.t _).trans (rowsV_get ⟨x.f0.toNat, HOP.out⟩).2.2.1
       go_wp2_with fail
       go_roundg (f.f3.length - (k + 1))
       case measure => have := hk.out; have := HLK.out; omega
       case rel => exact ⟨k + 1, i64_next HLK.out (by have := HGI.out.1; omega), ⟨by have := HLK.out; omega⟩, HS2, HX2⟩
      ·
       by_cases hb : rowB x.f0.toNat = 116
       ·
        obtain ⟨b26, b27⟩ := rowB_116 _ HOP.out hb
        have hae : (rowA x.f0.toNat == 116) = false := by simpa using ha
        have hbe : (rowB x.f0.toNat == 116) = true := by simpa using hb
        have HTGT : Aside0 (0 ≤ x.f2 ∧ x.f2 < f.f3.length) := ⟨HR.out.2, HTB.out (by have := HA0.out; omega)⟩
        have hI : thrI f.f3 x = ⟨x.f0, x.f1, lastL f.f3 x.f2⟩ := by unfold thrI; rw [if_neg ha, if_pos hb]
        have HIE := amZ hI
        clear ha hb b26 b27 hI
        go_wp2_with fail
        refine (lastTarget_calls (some ae) c3 f.f3 x.f2 Wx (Kd.C_below HG3.out HSx.out.b) (by have := HGI.out.1; omega) HTG.out HTGT.out.1 HTGT.out.2).mono ?_
        rintro e W1 ⟨rfl, hb1⟩
        have HS1 := amZ (HSx.out.below hb1)
        have HX1 := amZ ((hb1.block _ (zkY HXx.out)).trans HXx.out)
        have HI1 := amZ ((hb1.block _ (zkY HI.out)).trans HI.out)
        have HC1 := amZ ((hb1.block _ (zkY HCx.out)).trans HCx.out)
        have HB1 := amZ (zfY HBW.out hb1)
        have s1 := zgY HB1.out HKS.out.2.2.2
        have s2 := zbY HC1.out (k * 3 + 2)
        clear hb1 o1 x0 x1 x2 f3 ta tb k3
        go_wp2_with fail
        obtain ⟨W2, hW2⟩ : ∃ W, W = W1.setCell ⟨h, k * 3 + 2, none⟩ (.int .i64 (lastL f.f3 x.f2)) := ⟨_, rfl⟩
        have HS2 : Aside0 (ThW w w4.heap.size (w4.heap.size + 1) (.slice B0 cs.length d0) (.slice (some ⟨g, 0, none⟩) ps.length d1) cs ((ps.take i).map thrP ++ ⟨f.f0, f.f1, f.f2, (f.f3.take (k + 1)).map (thrI f.f3) ++ f.f3.drop (k + 1)⟩ :: ps.drop (i + 1)) W2) := ⟨by have := HS1.out.put HNH.out HC1.out ((HPUT.out W1 HB1.out).2 (lastL f.f3 x.f2)); rw [← hW2] at this; rw [HTK2.out, HIE.out, List.append_assoc]; exact this⟩
        have HX2 : Aside0 (W2.heap[bf]? = some (.cells #[.int .i64 f.f0, .int .i64 f.f1, .slice A2 f.f2.length c2, .slice (some ae) f.f3.length c3] 52 (0, 0))) := ⟨by rw [hW2]; exact zjY HX1.out (blk_ne HX1.out HC1.out (by decide)) _⟩
        have HI2 : Aside0 (W2.heap[bx]? = some (.cells #[.int .i64 x.f0, .int .i64 x.f1, .int .i64 x.f2] 57 (0, 0))) := ⟨by rw [hW2]; exact zjY HI1.out (fun e => HNE.out e.symm) _⟩
        rw [← hW2]
        clear hW2 s1 s2
        go_roundg (f.f3.length - (k + 1))
        case measure => have := hk.out; have := HLK.out; omega
        case rel => exact ⟨k + 1, i64_next HLK.out (by have := HGI.out.1; omega), ⟨by have := HLK.out; omega⟩, HS2, HX2⟩
       ·
        have hae : (rowA x.f0.toNat == 116) = false := by simpa using ha
        have hbe : (rowB x.f0.toNat == 116) = false := by simpa using hb
        have hI : thrI f.f3 x = x := by unfold thrI; rw [if_neg ha, if_neg hb]
        have HSy : Aside0 (ThW w w4.heap.size (w4.heap.size + 1) (.slice B0 cs.length d0) (.slice (some ⟨g, 0, none⟩) ps.length d1) cs ((ps.take i).map thrP ++ ⟨f.f0, f.f1, f.f2, (f.f3.take (k + 1)).map (thrI f.f3) ++ f.f3.drop (k + 1)⟩ :: ps.drop (i + 1)) Wx) := ⟨by have := HSx.out; rw [HTK2.out, hI, List.append_assoc]; exact this⟩
        clear ha hb hI
        go_wp2_with fail
        go_roundg (f.f3.length - (k + 1))
        case measure => have := hk.out; have := HLK.out; omega
        case rel => exact ⟨k + 1, i64_next HLK.out (by have := HGI.out.1; omega), ⟨by have := HLK.out; omega⟩, HSy, HXx⟩
     ·
      have hkl : decide ((k : Int) < (f.f3.length : Int)) = false := decide_eq_false (by omega)
      have hkn : decide (k < f.f3.length) = false := decide_eq_false hlt
      have HS2 : Aside0 (ThW w w4.heap.size (w4.heap.size + 1) (.slice B0 cs.length d0) (.slice B1 ps.length d1) cs ((ps.take (i + 1)).map thrP ++ ps.drop (i + 1)) wr) := ⟨by have := HS.out; rw [show f.f3.take k = f.f3 from List.take_of_length_le (by omega), show f.f3.drop k = [] from List.drop_eq_nil_of_le (by omega), List.append_nil] at this; rw [HTK.out, List.append_assoc]; exact this⟩
      clear hlt HS hk HX
      go_wp2_with fail
      go_roundg (ps.length - (i + 1))
      case measure => have := hi.out; have := HLT.out; omega
      case rel => exact ⟨i + 1, i64_next HLT.out (by have := HF.out.2.1; omega), ⟨by have := HLT.out; omega⟩, HS2⟩
   ·
    have hil : decide ((i : Int) < (ps.length : Int)) = false := decide_eq_false (by omega)
    have hin : decide (i < ps.length) = false := decide_eq_false hlt
    have HS2 : Aside0 (ThW w w4.heap.size (w4.heap.size + 1) (.slice B0 cs.length d0) (.slice B1 ps.length d1) cs (ps.map thrP) wr) := ⟨by have := HS.out; rwa [List.take_of_length_le (by omega), List.drop_eq_nil_of_le (by omega), List.append_nil] at this⟩
    have y0 : wr.cell? ⟨w4.heap.size, 0, none⟩ = some (.slice B0 cs.length d0) := (zaY HS2.out.o 0).trans rfl
    have y1 : wr.cell? ⟨w4.heap.size, 1, none⟩ = some (.slice B1 ps.length d1) := (zaY HS2.out.o 1).trans rfl
    have z0 := (zaY HS2.out.p 0).trans rfl
    have z1 := (zaY HS2.out.p 1).trans rfl
    have z2 := zbY HS2.out.p 0
    have z3 := zbY HS2.out.p 1
    clear HS hi hlt
    go_wp2_with fail
    have o1 := heap_setCell_same wr (w.heap.size + 1) 0 _ 31 (.slice B0 cs.length d0) HS2.out.p
    have o2 := heap_setCell_same _ (w.heap.size + 1) 1 _ 31 (.slice B1 ps.length d1) o1
    refine bodyPost_ret (results_cell_row rfl _ _ (w.heap.size + 1) 31 #[.slice B0 cs.length d0, .slice B1 ps.length d1] (0, 0) _ rfl o2 Try.underlying31 rfl (by kernel_rfl)) rfl ?_
    exact ⟨_, _, rfl, by exact Kd.S_set (Kd.S_set HS2.out.s0 HS2.out.p (by decide) 0 _) o1 (by decide) 1 _, by exact Kd.S_set (Kd.S_set HS2.out.s1 HS2.out.p (by decide) 0 _) o1 (by decide) 1 _, below_set (below_set HS2.out.b (by omega)) (by omega)⟩
end Go.Proofs.Ytmmpiojekgfdjaa.C
