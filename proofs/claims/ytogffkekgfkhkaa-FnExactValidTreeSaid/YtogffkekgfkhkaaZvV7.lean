/- impl.treeOf. -/
import Derived.Test.YtogffkekgfkhkaaZvV1
import Derived.Deep.RegionLaw
import Derived.Test.YtogffkekgfkhkaaZvK
namespace Go.Proofs.Ytogffkekgfkhkaa.C
open Go.RowKit Go.Proofs.YtogffkekgfkhkaaW.PrintWords Go.Proofs.YtogffkekgfkhkaaW.PrintLast Go.Proofs.YtogffkekgfkhkaaW.PrintMore
set_option linter.unusedVariables false
set_option linter.unusedSimpArgs false
theorem kidsBy_add (f : List NV → Option ((NV × Fo) × List NV)) : ∀ (i m : Nat) (l : List NV), kidsBy f (i + m) l = (kidsBy f i l).bind fun x => (kidsBy f m x.2).map fun y => (Fo.of (x.1.trees ++ y.1.trees), y.2)
  | 0, m, l => by
    rw [Nat.zero_add]
    simp only [kidsBy, Option.bind_some, Fo.trees, List.nil_append]
    cases kidsBy f m l with
    | none => rfl
    | some y => simp [Fo.of_trees]
  | i + 1, m, l => by
    rw [show i + 1 + m = (i + m) + 1 by omega]
    simp only [kidsBy]
    cases f l with
    | none => rfl
    | some t =>
      obtain ⟨t, l1⟩ := t
      simp only [kidsBy_add f i m l1]
      cases kidsBy f i l1 with
      | none => rfl
      | some x =>
        simp only [Option.bind_some]
        cases kidsBy f m x.2 with
        | none => rfl
        | some y => simp [Fo.trees, Fo.of]
theorem kidsBy_snoc {f : List NV → Option ((NV × Fo) × List NV)} {i : Nat} {l lst l2 : List NV} {acc : List (NV × Fo)} {t : NV × Fo} (h : kidsBy f i l = some (Fo.of acc, lst)) (ht : f lst = some (t, l2)) :
    kidsBy f (i + 1) l = some (Fo.of (acc ++ [t]), l2) := by
  rw [kidsBy_add, h]
  simp [kidsBy, ht, Fo.trees_of, Fo.trees]
theorem kidsBy_stop {f : List NV → Option ((NV × Fo) × List NV)} {i n : Nat} {l lst : List NV} {acc : List (NV × Fo)} (h : kidsBy f i l = some (Fo.of acc, lst)) (ht : f lst = none) (hn : i < n) : kidsBy f n l = none := by
  obtain ⟨m, rfl⟩ := Nat.exists_eq_add_of_lt hn
  rw [show i + m + 1 = i + (m + 1) by omega, kidsBy_add, h]
  simp [kidsBy, ht]
theorem kn_mk {d : Kd NV} {w : World} {base : Nat} {ok : Nat → Prop} {b : Nat} {h : NV} {ts : List (NV × Fo)} {v2 v3 vb : Value} (hb : base ≤ b) (hok : ok b)
    (hh : w.heap[b]? = some (.cells #[.int .i64 h.f0, .int .i64 h.f1, v2, v3, .int .i64 h.f4, vb] 70 (0, 0))) (hM : d.M w base (fun k => ok k ∧ k ≠ b) h [.int .i64 h.f0, .int .i64 h.f1, v2, v3, .int .i64 h.f4])
    (hR : (kn d).R 39 w base (fun k => ok k ∧ k ≠ b) vb ts) : (kn d).M w base ok (h, Fo.of ts) [nv b] := by
  obtain ⟨n, hn⟩ := Kd.fix_R_back (knF_mono d) hR
  exact ⟨n + 1, b, _, rfl, hb, hok, hh, [.int .i64 h.f0, .int .i64 h.f1, v2, v3, .int .i64 h.f4], [vb], rfl, hM, vb, rfl, by show (Kd.upto (knF d) 1 (70 :: 39 :: d.E) n).R 39 w base _ vb (Fo.of ts).trees; rw [Fo.trees_of]; exact hn⟩
theorem info34b : (Try.prog.info? 34).map (fun i => i.size) = some 5 := by kernel_rfl
theorem run_rest (A : Option Addr) (n c : Nat) (h1 : 1 ≤ n) : ∀ W : World, (Instr.slice 25 (.slice A n c) (some (.int .i64 1)) none none).run Try.prog W = .ok (.slice (if c = 1 then A else A.map (·.add (1 * 5))) (n - 1) (c - 1)) W := by
  obtain ⟨i, hi, hz⟩ := Option.map_eq_some_iff.1 info34b
  intro W
  have hel : Try.prog.elem 25 = 34 := by simp [Program.elem, Try.underlying25]
  have hu : Try.prog.underlying 25 = some (.slice (Try.prog.elem 25)) := by rw [hel]; exact Try.underlying25
  rw [run_slice_l W 25 A n c hu .i64 1 (by omega) (by omega), hel]
  simp [sizeOf, typeInfo, hi, hz, sliced, Result.andThen]
theorem head_T34 {w : World} {A : Option Addr} {n : Nat} {h : NV} {l : List NV} (hc : Kd.C k34 w A n (h :: l)) : ∃ ad A2 c2 A3 c3, A = some ad ∧ w.cell? ad = some (.int .i64 h.f0) ∧ w.cell? ⟨ad.block, ad.off + 1, none⟩ = some (.int .i64 h.f1) ∧ w.cell? ⟨ad.block, ad.off + 2, none⟩ = some (.slice A2 h.f2.length c2) ∧ w.cell? ⟨ad.block, ad.off + 3, none⟩ = some (.slice A3 h.f3.length c3) ∧ w.cell? ⟨ad.block, ad.off + 4, none⟩ = some (.int .i64 h.f4) ∧ k34.K w h [.int .i64 h.f0, .int .i64 h.f1, .slice A2 h.f2.length c2, .slice A3 h.f3.length c3, .int .i64 h.f4] := by
  have hn : l.length + 1 = n := hc.1
  obtain ⟨ad, A2, c2, A3, c3, e, h0, h1, h2, h3, h4, l2, g2, l3, g3⟩ := at_T34 hc 0 (Int.le_refl 0) (by omega)
  have er : rd_T34 (h :: l) 0 = h := rfl
  rw [er] at h0 h1 h2 h3 h4 l2 g2 l3 g3
  have e0 : ad.add ((0 : Int).toNat * 5) = ad := Addr.add_zero' ad
  rw [e0] at h0 h1 h2 h3 h4
  exact ⟨ad, A2, c2, A3, c3, e, h0, h1, h2, h3, h4, k34_mk w h l2 g2 l3 g3⟩
def TreeR (w0 w : World) (dI : Nat) (l : List NV) (e : Ending) (w' : World) : Prop :=
  match treeF dI l with
  | none => e = .returned (.tuple #[.nilIface, .slice none 0 0, .bool false])
  | some (t, rest) => ∃ v A' c', e = .returned (.tuple #[v, .slice A' rest.length c', .bool true]) ∧ (kn (Kd.fixed k34 w0)).M w' w.heap.size (fun _ => True) t [v] ∧ Kd.C k34 w0 A' rest.length rest ∧ rest.length ≤ c'
theorem TreeR.no {w0 w w' : World} {dI : Nat} {l : List NV} {e : Ending} (h : treeF dI l = none) (he : e = .returned (.tuple #[.nilIface, .slice none 0 0, .bool false])) : TreeR w0 w dI l e w' := by
  unfold TreeR; rw [h]; exact he
theorem TreeR.yes {w0 w w' : World} {dI : Nat} {l rest : List NV} {t : NV × Fo} {e : Ending} (h : treeF dI l = some (t, rest)) {v : Value} {A' : Option Addr} {c' : Nat} (he : e = .returned (.tuple #[v, .slice A' rest.length c', .bool true]))
    (hM : (kn (Kd.fixed k34 w0)).M w' w.heap.size (fun _ => True) t [v]) (hC : Kd.C k34 w0 A' rest.length rest) (hc : rest.length ≤ c') : TreeR w0 w dI l e w' := by
  unfold TreeR; rw [h]; exact ⟨v, A', c', he, hM, hC, hc⟩
theorem TreeR.cases {w0 w w' : World} {dI : Nat} {l : List NV} {e : Ending} (h : TreeR w0 w dI l e w') :
    (treeF dI l = none ∧ e = .returned (.tuple #[.nilIface, .slice none 0 0, .bool false])) ∨ (∃ t rest, treeF dI l = some (t, rest) ∧ ∃ v A' c', e = .returned (.tuple #[v, .slice A' rest.length c', .bool true]) ∧ (kn (Kd.fixed k34 w0)).M w' w.heap.size (fun _ => True) t [v] ∧ Kd.C k34 w0 A' rest.length rest ∧ rest.length ≤ c') := by
  unfold TreeR at h
  cases e1 : treeF dI l with
  | none => rw [e1] at h; exact .inl ⟨rfl, h⟩
  | some x => obtain ⟨t, rest⟩ := x; rw [e1] at h; exact .inr ⟨t, rest, rfl, h⟩
def TreeC (w0 : World) (dd : Nat) : Prop := ∀ (A : Option Addr) (c : Nat) (l : List NV) (w : World), Kd.C k34 w0 A l.length l → l.length ≤ c → l.length ≤ 6000 → Below w0.heap.size w0 w →
  Calls Try.prog 23 #[.slice A l.length c, .int .i64 (dd : Int)] w fun e w' => TreeR w0 w dd l e w' ∧ Below w.heap.size w w'
set_option maxHeartbeats 4000000 in
set_option maxRecDepth 100000 in
theorem tree_nil (w0 : World) (dd : Nat) (A : Option Addr) (c : Nat) (w : World) : Calls Try.prog 23 #[.slice A 0 c, .int .i64 (dd : Int)] w fun e w' => TreeR w0 w dd [] e w' ∧ Below w.heap.size w w' := by
  have e : treeF dd ([] : List NV) = none := by cases dd <;> rfl
  have HE := Aside0.mk e
  clear e
  obtain ⟨z, hz⟩ : ∃ z : Int, z = dd := ⟨_, rfl⟩
  rw [← hz]
  clear hz
  go_enter Try.func23, Try.ntmps23
  go_wp2
  go_ret3
  exact ⟨TreeR.no HE.out rfl, Below.refl _ _⟩
set_option maxHeartbeats 4000000 in
set_option maxRecDepth 100000 in
theorem tree_zero (w0 : World) (A : Option Addr) (c : Nat) (l : List NV) (w : World) : Calls Try.prog 23 #[.slice A l.length c, .int .i64 0] w fun e w' => TreeR w0 w 0 l e w' ∧ Below w.heap.size w w' := by
  by_cases hl : l.length = 0
  · have : l = [] := List.eq_nil_of_length_eq_zero hl
    subst this
    exact tree_nil w0 0 A c w
  have hz : (((l.length : Nat) : Int) == 0) = false := beq_eq_false_iff_ne.mpr (by omega)
  have HE := Aside0.mk (show treeF 0 l = none from rfl)
  obtain ⟨n, hn⟩ : ∃ n, n = l.length := ⟨_, rfl⟩
  rw [← hn] at hz ⊢
  clear hl hn
  go_enter Try.func23, Try.ntmps23
  go_wp2
  go_ret3
  exact ⟨TreeR.no HE.out rfl, Below.refl _ _⟩
theorem step_M {d : Kd NV} {w1 : World} {n m : Nat} {t : NV × Fo} {cs : List Value} (h : (kn d).M w1 m (fun _ => True) t cs) (hn : n ≤ m) : (kn d).M w1 n (fun k => m ≤ k) t cs :=
  (kn d).M_lower hn ((kn d).M_mono (fun k hk => hk.2.1) ((kn d).M_bound h))
theorem step_ok {α : Type} {d : Kd α} {e : Nat} {wr : World} {n : Nat} {v : Value} {xs : List α} (h : d.R e wr n (fun k => k ≠ n) v xs) (hn : n < wr.heap.size) : ∀ k, wr.heap.size ≤ k → k ≠ n ∧ some k ≠ v.ownBlock := by
  intro k hk
  obtain ⟨inner, ho⟩ := Kd.R_own h
  exact ⟨by omega, fun e1 => by have := own_lt ho k e1.symm; omega⟩
theorem Kd.R_ok {α : Type} {d : Kd α} {e : Nat} {w : World} {n : Nat} {ok : Nat → Prop} {v : Value} {xs : List α} (h : d.R e w n ok v xs) : ∀ k, v.ownBlock = some k → ok k := h.1
set_option maxHeartbeats 8000000 in
set_option maxRecDepth 100000 in
theorem tree_step (w0 : World) (dd : Nat) (hd : dd ≤ 200) (ih : TreeC w0 dd) (A : Option Addr) (c : Nat) (h : NV) (l : List NV) (w : World) (hC : Kd.C k34 w0 A (l.length + 1) (h :: l)) (hc : l.length + 1 ≤ c) (h6 : l.length + 1 ≤ 6000) (hB : Below w0.heap.size w0 w) :
    Calls Try.prog 23 #[.slice A (l.length + 1) c, .int .i64 ((dd + 1 : Nat) : Int)] w fun e w' => TreeR w0 w (dd + 1) (h :: l) e w' ∧ Below w.heap.size w w' := by
  obtain ⟨ad, A2, c2, A3, c3, rfl, x0, x1, x2, x3, x4, hK⟩ := head_T34 hC
  have y0 := (hB.cell (World.block_lt_of_cell? w0 _ x0)).trans x0
  have y1 := (hB.cell (World.block_lt_of_cell? w0 _ x1)).trans x1
  have y2 := (hB.cell (World.block_lt_of_cell? w0 _ x2)).trans x2
  have y3 := (hB.cell (World.block_lt_of_cell? w0 _ x3)).trans x3
  have y4 := (hB.cell (World.block_lt_of_cell? w0 _ x4)).trans x4
  have y5 : ∀ o, (w.alloc o).cell? ⟨ad.block, ad.off + 4, none⟩ = some (.int .i64 h.f4) := fun o => ((below_alloc (Below.refl w.heap.size w) o).cell (World.block_lt_of_cell? w _ y4)).trans y4
  have hrest := Kd.C_drop (k := k34) (m := 1) (xs := h :: l) hC (by simp) (c := c) (by simpa using hc)
  have hrun := run_rest (some ad) (l.length + 1) c (by omega)
  rw [List.drop_one, List.tail_cons, show k34.sz = 5 from rfl] at hrest
  rw [Nat.add_sub_cancel] at hrun
  obtain ⟨A1, hA1⟩ : ∃ a, a = (if c = 1 then some ad else (some ad).map (·.add (1 * 5))) := ⟨_, rfl⟩
  rw [← hA1] at hrest hrun
  obtain ⟨c1, hc1⟩ : ∃ a, a = c - 1 := ⟨_, rfl⟩
  rw [← hc1] at hrun
  have HC1 := Aside0.mk (show l.length ≤ c1 by omega)
  have HR1 := Aside0.mk hrest
  obtain ⟨n1, hn1⟩ : ∃ n, n = l.length + 1 := ⟨_, rfl⟩
  obtain ⟨z, hz⟩ : ∃ z : Int, z = ((dd + 1 : Nat) : Int) := ⟨_, rfl⟩
  have zz : (z == 0) = false := beq_eq_false_iff_ne.mpr (by omega)
  have zw : wrap64 (z - 1) = ((dd : Nat) : Int) := by rw [hz]; unfold wrap64; omega
  have nz : (((n1 : Nat) : Int) == 0) = false := beq_eq_false_iff_ne.mpr (by omega)
  have np : ((0 : Int) < ((n1 : Nat) : Int)) = True := eq_true (by omega)
  have np2 : (0 < n1) = True := eq_true (by omega)
  have HK := Aside0.mk hK
  have HB := Aside0.mk hB
  have IH := Aside0.mk ih
  have H6 := Aside0.mk h6
  have HN1 := Aside0.mk hn1
  rw [← hn1] at hrun ⊢
  rw [← hz]
  clear hrest hA1 hc1 hK hB ih hC hc h6 hz hd x0 x1 x2 x3 x4 hn1
  by_cases hg : 0 ≤ h.f4 ∧ h.f4 ≤ (l.length : Int) + 1
  · have d1 : decide (h.f4 < 0) = false := decide_eq_false (by omega)
    have d2 : decide (((n1 : Nat) : Int) < h.f4) = false := decide_eq_false (by have := HN1.out; omega)
    have HE : Aside0 (treeF (dd + 1) (h :: l) = match kidsBy (treeF dd) h.f4.toNat l with | none => none | some (k, l') => some ((h, k), l')) := ⟨by rw [treeF, if_pos hg]; cases kidsBy (treeF dd) h.f4.toNat l <;> rfl⟩
    have HG := Aside0.mk hg
    clear hg
    go_enter Try.func23, Try.ntmps23
    go_wp2_with fail
    clear y0 y1 y2 y3 y4 y5 hrun d1 d2 nz np np2 zz
    obtain ⟨cnt, hcnt⟩ : ∃ n : Nat, (n : Int) = h.f4 := ⟨h.f4.toNat, by have := HG.out.1; omega⟩
    have HCN : Aside0 (h.f4.toNat = cnt ∧ cnt ≤ l.length + 1) := ⟨by have := HG.out; omega⟩
    have HCT := Aside0.mk hcnt
    clear hcnt
    go_loopg [46, 8] cnt (fun g v46 v8 wr => ∃ (i : Nat) (acc : List (NV × Fo)) (lst : List NV) (A' : Option Addr) (c' : Nat) (vb : Value), v46 = .int .i64 (i : Int) ∧ v8 = .slice A' lst.length c' ∧ Aside0 (i + g = cnt) ∧ Aside0 (kidsBy (treeF dd) i l = some (Fo.of acc, lst)) ∧ Aside0 (acc.length = i) ∧
      Aside0 (Kd.C k34 w0 A' lst.length lst ∧ lst.length ≤ c' ∧ lst.length ≤ l.length) ∧ Aside0 (wr.heap[w.heap.size]? = some (.cells #[.int .i64 h.f0, .int .i64 h.f1, .slice A2 h.f2.length c2, .slice A3 h.f3.length c3, .int .i64 h.f4, vb] 70 (0, 0))) ∧
      Aside0 ((kn (Kd.fixed k34 w0)).R 39 wr w.heap.size (fun k => k ≠ w.heap.size) vb acc) ∧ Aside0 (Below w.heap.size w wr))
    case atStart =>
      exact ⟨0, [], l, A1, c1, .slice none 0 0, rfl, rfl, ⟨by omega⟩, ⟨rfl⟩, ⟨rfl⟩, ⟨HR1.out, HC1.out, Nat.le_refl _⟩, ⟨heap_alloc_new _ _⟩, ⟨Kd.R_nil _ _ _ _ _⟩, ⟨below_alloc (Below.refl _ _) _⟩⟩
    case round =>
      obtain ⟨i, acc, lst, A', c', vb, rfl, rfl, HJ, HKB, HAL, HL, HBK, HRW, HBW⟩ := hrel
      by_cases hlt : i < cnt
      · have hd0 : decide ((i : Int) < h.f4) = true := decide_eq_true (by have := HCT.out; omega)
        have HLT := Aside0.mk hlt
        clear hlt
        have hcall := IH.out A' c' lst wr HL.out.1 HL.out.2.1 (by have := H6.out; have := HL.out.2.2; omega) (HB.out.trans (HBW.out.mono HB.out.size))
        cases ht : treeF dd lst with
        | none =>
          have hc2 := hcall.mono (R' := fun e w' => e = .returned (.tuple #[.nilIface, .slice none 0 0, .bool false]) ∧ Below wr.heap.size wr w') (fun e w' ⟨hr, hb⟩ => by
            rcases hr.cases with ⟨_, he⟩ | ⟨t, rest, h1, _⟩
            · exact ⟨he, hb⟩
            · rw [ht] at h1; cases h1)
          have HC2 := Aside0.mk hc2
          have HNO : Aside0 (treeF (dd + 1) (h :: l) = none) := ⟨by rw [HE.out, kidsBy_stop HKB.out ht (by have := HCN.out.1; have := HLT.out; omega)]⟩
          clear hcall hc2 ht
          go_wp2_with (go_at_call 23; refine HC2.out.mono ?_; rintro e w1 ⟨rfl, hb1⟩; have HB1 := Aside0.mk (below_step HBW.out hb1); clear hb1)
          go_ret3
          exact ⟨TreeR.no HNO.out rfl, HB1.out⟩
        | some x =>
          obtain ⟨t, rest⟩ := x
          have hc2 := hcall.mono (R' := fun e w' => ∃ b1 A2 c2, e = .returned (.tuple #[nv b1, .slice A2 rest.length c2, .bool true]) ∧ (kn (Kd.fixed k34 w0)).M w' wr.heap.size (fun _ => True) t [nv b1] ∧ Kd.C k34 w0 A2 rest.length rest ∧ rest.length ≤ c2 ∧ Below wr.heap.size wr w') (fun e w' ⟨hr, hb⟩ => by
            rcases hr.cases with ⟨h1, _⟩ | ⟨t', rest', h1, v, A2, c2, he, hM, hC2, hl2⟩
            · rw [ht] at h1; cases h1
            · rw [ht] at h1
              simp only [Option.some.injEq, Prod.mk.injEq] at h1
              obtain ⟨rfl, rfl⟩ := h1
              have hM2 := hM
              obtain ⟨n, hn⟩ := hM
              cases n with
              | zero => exact hn.elim
              | succ n =>
                obtain ⟨b1, cells, e1, _⟩ := hn
                injection e1 with e1 _
                subst e1
                exact ⟨b1, A2, c2, he, hM2, hC2, hl2, hb⟩)
          have HC2 := Aside0.mk hc2
          have HSN := Aside0.mk (kidsBy_snoc HKB.out ht)
          have HRL : Aside0 (rest.length ≤ l.length) := ⟨by
            have := (treeF_splits dd _ _ _ ht).1
            have h2 := congrArg List.length this
            simp only [List.length_cons, List.length_append] at h2
            have := HL.out.2.2
            omega⟩
          clear hcall hc2 ht HE
          obtain ⟨Ab, cb, rfl⟩ := Kd.R_slice HRW.out
          go_wp2_with (first | (go_at_call 23; refine HC2.out.mono ?_; clear HC2; rintro e w1 ⟨b1, A5, c5, rfl, hM, hC5, hl5, hb1⟩; have HM5 := Aside0.mk hM; have HC5 := Aside0.mk hC5; have HL5 := Aside0.mk hl5; have HB1 := Aside0.mk hb1; have HBK1 := Aside0.mk ((hb1.block _ (blk_lt HBK.out)).trans HBK.out); have p5 : w1.cell? ⟨w.heap.size, 5, none⟩ = some (.slice Ab acc.length cb) := (blk_cell HBK1.out 5).trans rfl; clear hM hC5 hl5 hb1) | (at_builtin; go_loud (refine Kd.R_append (kn (Kd.fixed k34 w0)) (w0 := w) (W := w1) w.heap.size rfl (.tmp 62) (.tmp 64) 68 39 .nilIface 16 rfl Try.underlying68 info39 rfl Nat.zero_lt_one (by omega) (.slice Ab acc.length cb) acc t [nv b1] (fun k => k ≠ w.heap.size) (fun k => wr.heap.size ≤ k) rfl rfl (step_M HM5.out HBW.out.size) (step_ok HRW.out (blk_lt HBK.out)) (fun k hk => Nat.ne_of_gt (Nat.lt_of_lt_of_le (blk_lt HBK1.out) hk)) (Kd.R_below HRW.out HB1.out) (below_step HBW.out HB1.out) (Nat.le_of_lt (blk_lt HBK1.out)) (by have := HAL.out; have := HLT.out; have := HCN.out; have := H6.out; omega) ?_); intro v4 w4 ho hb hg hat; obtain ⟨A4, c4, e4⟩ := Kd.R_slice ho; subst e4; rw [List.length_append, List.length_singleton] at *; have HR4 := Aside0.mk ho; have HB4 := Aside0.mk hb; have HBK4 := Aside0.mk ((hg.block _ (blk_lt HBK1.out) (fun e => (Kd.R_ok HRW.out) _ e.symm rfl)).trans HBK1.out); have p6 : w4.cell? ⟨w.heap.size, 5, none⟩ = some (.slice Ab acc.length cb) := (blk_cell HBK4.out 5).trans rfl; have p7 : w4.frozen? ⟨w.heap.size, 5, none⟩ = false := blk_frozen HBK4.out 5; clear ho hb hg hat))
          go_roundg (cnt - (i + 1))
          case measure => have := HJ.out; have := HLT.out; omega
          case rel =>
            refine ⟨i + 1, acc ++ [t], rest, A5, c5, .slice A4 (acc.length + 1) c4, i64_next HLT.out (by have := HCN.out; have := H6.out; omega), rfl, ⟨by have := HLT.out; omega⟩, HSN, ⟨by rw [List.length_append, HAL.out]; rfl⟩, ⟨HC5.out, HL5.out, HRL.out⟩, ⟨?_⟩, ⟨?_⟩, ⟨?_⟩⟩
            · exact heap_setCell_same w4 w.heap.size 5 _ 70 _ HBK4.out
            · exact Kd.R_far (p := ⟨w.heap.size, 5, none⟩) HR4.out (fun k hk => hk) _
            · exact HB4.out.setCell (p := ⟨w.heap.size, 5, none⟩) (Nat.le_refl _) _
      · have hie : i = cnt := by have := HJ.out; omega
        have hd0 : decide ((i : Int) < h.f4) = false := decide_eq_false (by have := HCT.out; omega)
        have HYES : Aside0 (treeF (dd + 1) (h :: l) = some ((h, Fo.of acc), lst)) := ⟨by rw [HE.out, HCN.out.1, ← hie, HKB.out]⟩
        have HT : Aside0 ((kn (Kd.fixed k34 w0)).M wr w.heap.size (fun _ => True) (h, Fo.of acc) [nv w.heap.size]) := ⟨kn_mk (Nat.le_refl _) trivial HBK.out HK.out (Kd.R_mono HRW.out (fun k hk => ⟨trivial, hk⟩))⟩
        clear hie hlt
        go_wp2_with fail
        go_ret3
        exact ⟨TreeR.yes HYES.out rfl HT.out HL.out.1 HL.out.2.1, HBW.out⟩
  · have HE : Aside0 (treeF (dd + 1) (h :: l) = none) := ⟨by rw [treeF, if_neg hg]⟩
    by_cases h0 : h.f4 < 0
    · have d1 : decide (h.f4 < 0) = true := decide_eq_true h0
      clear hg h0
      go_enter Try.func23, Try.ntmps23
      go_wp2_with fail
      go_ret3
      exact ⟨TreeR.no HE.out rfl, Below.refl _ _⟩
    · have d1 : decide (h.f4 < 0) = false := decide_eq_false h0
      have d2 : decide (((n1 : Nat) : Int) < h.f4) = true := decide_eq_true (by have := HN1.out; omega)
      clear hg h0
      go_enter Try.func23, Try.ntmps23
      go_wp2_with fail
      go_ret3
      exact ⟨TreeR.no HE.out rfl, Below.refl _ _⟩
theorem treeOf_calls (w0 : World) : ∀ dd : Nat, dd ≤ 200 → TreeC w0 dd
  | 0, _ => fun A c l w _ _ _ _ => tree_zero w0 A c l w
  | dd + 1, h => by
    intro A c l w hC hc h6 hB
    cases l with
    | nil => exact tree_nil w0 (dd + 1) A c w
    | cons x l => exact tree_step w0 dd (by omega) (treeOf_calls w0 dd (by omega)) A c x l w hC hc h6 hB
end Go.Proofs.Ytogffkekgfkhkaa.C
