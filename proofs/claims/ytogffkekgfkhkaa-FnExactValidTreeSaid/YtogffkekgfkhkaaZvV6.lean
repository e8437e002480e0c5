/- impl.all. -/
import Derived.Test.YtogffkekgfkhkaaZvV1
import Derived.RangeFuncNested
import Derived.RangeFuncBound
import Derived.RangeFuncCalls
import Derived.RangeFuncLeaves
import Derived.Shelf.Abstract
import Derived.Shelf.RegionOpen
import Derived.OwnWalkIn
import Derived.TacticsInMore
import Derived.LoopNIn
import Derived.LoopIn
import Derived.Laws.EntriesVeiled
import Derived.Test.YtogffkekgfkhkaaZvK
namespace Go.Proofs.Ytogffkekgfkhkaa.C
open Go.RowKit Go.Proofs.YtogffkekgfkhkaaW.PrintWords Go.Proofs.YtogffkekgfkhkaaW.PrintLast Go.Proofs.YtogffkekgfkhkaaW.PrintMore
set_option linter.unusedVariables false
set_option linter.unusedSimpArgs false
open Go.Shelf
attribute [local go_sem] Oper.semAt_some
def Fo.nodes : Fo → List (NV × Fo)
  | .nil => []
  | .cons h k r => (h, k) :: (k.nodes ++ r.nodes)
def nodesT (t : NV × Fo) : List (NV × Fo) := t :: t.2.nodes
theorem Fo.nodes_flat : ∀ F : Fo, F.nodes = F.trees.flatMap nodesT
  | .nil => rfl
  | .cons h k r => by simp only [Fo.nodes, Fo.trees, List.flatMap_cons, nodesT, Fo.nodes_flat r, List.cons_append]
/-- a node's place with what lies there -/
structure NodeX (d : Kd NV) (w0 : World) where
  b : Nat
  t : NV × Fo
  at_ : NodeAt d w0 b t.1 t.2
/-- What lay below w0's end, and all cells, lie. -/
structure KP (w0 W W' : World) : Prop where
  B : Below w0.heap.size W W'
  size : W.heap.size ≤ W'.heap.size
  cells : ∀ (k : Nat) (cs : Array Value) (t : TypeId) (r : Nat × Nat), W.heap[k]? = some (Obj.cells cs t r) → W'.heap[k]? = some (Obj.cells cs t r)
theorem KP.refl (w0 W : World) : KP w0 W W := ⟨Below.refl _ _, Nat.le_refl _, fun _ _ _ _ h => h⟩
theorem KP.trans {w0 A B C : World} (h : KP w0 A B) (k : KP w0 B C) : KP w0 A C := ⟨h.B.trans k.B, Nat.le_trans h.size k.size, fun i cs t r hi => k.cells i cs t r (h.cells i cs t r hi)⟩
theorem KP.cell {w0 W W' : World} (h : KP w0 W W') {B : Nat} {v : Value} (hc : W.cell? ⟨B, 0, none⟩ = some v) : W'.cell? ⟨B, 0, none⟩ = some v := by
  unfold World.cell? at hc ⊢
  cases e : W.heap[B]? with
  | none => simp [e] at hc
  | some o =>
    cases o with
    | cells cs t r => rw [show W'.heap[(⟨B, 0, none⟩ : Addr).block]? = W'.heap[B]? from rfl, h.cells B cs t r e]; rw [show W.heap[(⟨B, 0, none⟩ : Addr).block]? = W.heap[B]? from rfl, e] at hc; exact hc
    | _ => simp [e] at hc
theorem KP.grown {w0 W W' : World} (h : w0.heap.size ≤ W.heap.size) (hb : Below W.heap.size W W') : KP w0 W W' := ⟨hb.mono h, hb.size, fun k cs t r hk => (hb.block k (blk_lt hk)).trans hk⟩
section
variable {d : Kd NV} {w0 : World}
def xsT (xs : List (NodeX d w0)) : List (NV × Fo) := xs.map (·.t)
abbrev ywV (l : Nat) : Value := .func (.yield l) #[] #[]
abbrev YieldC (J Jx : List (NodeX d w0) → World → Prop) (l N : Nat) : Prop :=
  ∀ m pre x W, J pre W → pre.length < N → YieldAt Fence.wide m Try.prog l #[nv x.b] W fun e W' =>
    (e = .returned (.bool true) ∧ J (pre ++ [x]) W' ∧ KP w0 W W') ∨ (e = .returned (.bool false) ∧ Jx (pre ++ [x]) W')
def WalkC (J Jx : List (NodeX d w0) → World → Prop) (l N By Bw : Nat) (t : NV × Fo) : Prop :=
  ∀ (n b : Nat) (pre : List (NodeX d w0)) (W : World), NodeAt d w0 b t.1 t.2 → Below w0.heap.size w0 W → W.cell? ⟨By, 0, none⟩ = some (ywV l) → W.cell? ⟨Bw, 0, none⟩ = some (fnv 36 #[pv By, pv Bw]) → J pre W → pre.length + (nodesT t).length ≤ N →
    CallsIn Fence.wide n Try.prog 36 #[nv b, pv By, pv Bw] W fun e W' =>
      (e = .returned (.bool true) ∧ ∃ xs, xsT xs = nodesT t ∧ J (pre ++ xs) W' ∧ KP w0 W W') ∨ (e = .returned (.bool false) ∧ ∃ q, xsT q <+: nodesT t ∧ Jx (pre ++ q) W')
theorem flat_take {α β : Type} (f : α → List β) (ts : List α) (j : Nat) (h : j < ts.length) : ((ts.take j).flatMap f) ++ (f ts[j] ++ (ts.drop (j + 1)).flatMap f) = ts.flatMap f := by
  rw [← List.flatMap_cons, ← List.flatMap_append]
  congr 1
  rw [← List.drop_eq_getElem_cons h, List.take_append_drop]
set_option maxHeartbeats 4000000 in
set_option maxRecDepth 100000 in
theorem walk_one (hd : NKd d) {J Jx : List (NodeX d w0) → World → Prop} {l N By Bw : Nat} (hY : YieldC J Jx l N) (h : NV) (k : Fo) (ih : ∀ t ∈ k.trees, WalkC J Jx l N By Bw t) : WalkC J Jx l N By Bw (h, k) := by
  intro n b pre W hN hB hby hbw hJ hlen
  obtain ⟨A, c, h5, hl, hC⟩ := hN.kids
  obtain ⟨x, hx⟩ : ∃ x : NodeX d w0, x = ⟨b, (h, k), hN⟩ := ⟨_, rfl⟩
  have hxb : x.b = b := by rw [hx]
  have hxt : x.t = (h, k) := by rw [hx]
  clear hx
  have hy0 := hY (n - 1) pre x W hJ (by simp only [nodesT, List.length_cons] at hlen; omega)
  rw [hxb] at hy0
  have hy1 := hy0.mono (R' := fun e W1 => (e = .returned (.bool true) ∧ W1.cell? ⟨b, 5, none⟩ = some (.slice A k.trees.length c) ∧ Aside0 (J (pre ++ [x]) W1) ∧ Aside0 (KP w0 W W1)) ∨ (e = .returned (.bool false) ∧ Aside0 (Jx (pre ++ [x]) W1)))
    (fun e W1 hh => hh.elim (fun ⟨he, hj, hk⟩ => .inl ⟨he, ((hB.trans hk.B).cell (World.block_lt_of_cell? w0 _ h5)).trans h5, ⟨hj⟩, ⟨hk⟩⟩) (fun ⟨he, hj⟩ => .inr ⟨he, ⟨hj⟩⟩))
  obtain ⟨fn, tmps, assign, body, hy, hR⟩ := hy1
  have HC := Aside0.mk hC
  have HM := Aside0.mk hC.2.1
  have HB := Aside0.mk hB
  have HBW := Aside0.mk hbw
  have HBY := Aside0.mk hby
  have HLen := Aside0.mk hlen
  have IH := Aside0.mk ih
  have HD := Aside0.mk hd
  have HX := Aside0.mk hxt
  clear hy0 hY hC hl hB hbw hlen ih hJ hN hxt hxb hd h5
  obtain ⟨ts, hts⟩ : ∃ x, x = k.trees := ⟨_, rfl⟩
  rw [← hts] at HC HM IH hR
  have HTS := Aside0.mk hts
  clear hts
  have hmk := method_kids
  have f82 : Fence.wide.fn 82 := trivial
  have f36 : Fence.wide.fn 36 := trivial
  have hdd : ∀ q : Nat, (Fence.wide.depth.isSome = true → 1 ≤ q) := fun _ h => by cases h
  refine callsIn_of_wp Try.func36 rfl trivial ?_ rfl
  simp only [Try.ntmps36, List.size_toArray, List.length_cons, List.length_nil, Nat.reduceAdd, Nat.reduceSub, Array.replicate_succ, Array.replicate_zero, List.push_toArray, List.append_toArray, List.nil_append, List.cons_append]
  gi_wp2_with (first
    | ((try refine ⟨hdd _, ?_⟩); refine hR.mono ?_; clear hR; rintro e W1 (⟨rfl, h5, HJ1, HK1⟩ | ⟨rfl, HX1⟩))
    | ((try refine ⟨hdd _, ?_⟩); gi_at_call 82; refine (callsIn_wide.2 (kids_calls b _ _ h5)).mono ?_; rintro e W2 ⟨rfl, rfl⟩))
  · clear hy tmps assign body fn
    gi_loopw [14, 6] (fun v14 v6 wr => ∃ (j : Nat) (acc : List (NodeX d w0)), v14 = .int .i64 (j : Int) ∧ Aside0 (j ≤ ts.length) ∧ Aside0 (xsT acc = (ts.take j).flatMap nodesT) ∧ Aside0 (J (pre ++ [x] ++ acc) wr) ∧ Aside0 (KP w0 W wr))
      (fun v14 _ _ => ts.length - (intOf v14).toNat)
    case atStart => exact ⟨0, [], rfl, ⟨Nat.zero_le _⟩, ⟨rfl⟩, ⟨by rw [List.append_nil]; exact HJ1.out⟩, HK1⟩
    case round =>
      obtain ⟨j, acc, rfl, HJL, HA, HJ, HK⟩ := hrel
      by_cases hlt : j < ts.length
      · obtain ⟨ad, b1, e, hx0, hN1⟩ := kn_at HD.out HC.out j hlt
        cases e
        have hBr := HB.out.trans HK.out.B
        have hc0 := (hBr.cell (World.block_lt_of_cell? w0 _ hx0)).trans hx0
        have hbw := HK.out.cell HBW.out
        have hby := HK.out.cell HBY.out
        have hft := flat_take nodesT ts j hlt
        have htk := List.take_succ_eq_append_getElem hlt
        have hmem := List.getElem_mem hlt
        obtain ⟨tj, htj⟩ : ∃ t, t = ts[j] := ⟨_, rfl⟩
        rw [← htj] at hN1 hft htk hmem
        have HTK := Aside0.mk htk
        have hnn : nodesT (h, k) = (h, k) :: ts.flatMap nodesT := by rw [HTS.out]; simp only [nodesT, Fo.nodes_flat]
        have hnl := congrArg List.length hnn
        rw [← hft] at hnl
        have hal := congrArg List.length HA.out
        simp only [xsT, List.length_map, List.length_cons, List.length_append] at hnl hal
        have hih := IH.out tj hmem (n - 1) b1 (pre ++ [x] ++ acc) wr hN1 hBr hby hbw HJ.out (by
          have := HLen.out
          simp only [List.length_append, List.length_singleton]
          omega)
        have HIH := Aside0.mk hih
        have HFT := Aside0.mk hft
        have HNN := Aside0.mk hnn
        have p0 : (0 ≤ (j : Int)) = True := eq_true (by omega)
        have q0 : ((j : Int) < (ts.length : Int)) = True := eq_true (by omega)
        have hdl : decide ((j : Int) < (ts.length : Int)) = true := decide_eq_true (by omega)
        have hdn : decide (j < ts.length) = true := decide_eq_true hlt
        have HL := Aside0.mk hlt
        clear hih hft hnn hnl hal hBr hx0 hN1 h5 htk hmem htj hlt
        gi_wp2_with ((try refine ⟨hdd _, ?_⟩); gi_at_call 36; refine HIH.out.mono ?_; clear HIH; rintro e W2 (⟨rfl, xs, hxs, hJ2, hk2⟩ | ⟨rfl, q, hq, hx2⟩))
        · go_roundw
          case rel =>
            refine ⟨j + 1, acc ++ xs, i64_next HL.out HM.out, ⟨HL.out⟩, ⟨?_⟩, ⟨by rw [← List.append_assoc]; exact hJ2⟩, ⟨HK.out.trans hk2⟩⟩
            have h1 := HA.out
            unfold xsT at h1 hxs ⊢
            rw [List.map_append, h1, hxs, HTK.out, List.flatMap_append]
            simp
          case measure => have := HL.out; rw [i64_next HL.out HM.out]; simp only [intOf, Int.toNat_natCast]; omega
        · go_ret
          refine .inr ⟨rfl, x :: (acc ++ q), ?_, by simpa using hx2⟩
          obtain ⟨q', hq'⟩ := hq
          refine ⟨q' ++ (ts.drop (j + 1)).flatMap nodesT, ?_⟩
          have h1 := HA.out
          unfold xsT at h1 hq' ⊢
          rw [HNN.out, ← HFT.out, ← hq', ← h1, ← HX.out]
          simp
      · have e0 : ts.take j = ts := List.take_of_length_le (by omega)
        have HE : Aside0 (xsT acc = ts.flatMap nodesT) := ⟨by rw [HA.out, e0]⟩
        have hdl : decide ((j : Int) < (ts.length : Int)) = false := decide_eq_false (by omega)
        have hdn : decide (j < ts.length) = false := decide_eq_false hlt
        clear e0 hlt
        gi_wp2
        go_ret
        refine .inl ⟨rfl, x :: acc, ?_, by simpa using HJ.out, HK.out⟩
        have h1 := HE.out
        unfold xsT at h1 ⊢
        rw [List.map_cons, h1, HX.out, HTS.out]
        simp only [nodesT, Fo.nodes_flat]
  · go_ret
    refine .inr ⟨rfl, [x], ?_, HX1.out⟩
    refine ⟨ts.flatMap nodesT, ?_⟩
    rw [HTS.out]
    simp only [xsT, List.map_cons, List.map_nil, HX.out, nodesT, Fo.nodes_flat, List.singleton_append]
theorem walk_all (hd : NKd d) {J Jx : List (NodeX d w0) → World → Prop} {l N By Bw : Nat} (hY : YieldC J Jx l N) : ∀ (F : Fo), ∀ t ∈ F.trees, WalkC J Jx l N By Bw t
  | .nil, _, h => by simp [Fo.trees] at h
  | .cons h k r, t, ht => by
    simp only [Fo.trees, List.mem_cons] at ht
    rcases ht with rfl | ht
    · exact walk_one hd hY h k (walk_all hd hY k)
    · exact walk_all hd hY r t ht
end
theorem room_of_none {F : Fence} (hd : F.depth = none) (k : Nat) : F.room k := fun d h => by rw [hd] at h; cases h
theorem RoundIn.anyDepth {F : Fence} (hd : F.depth = none) {m m' : Nat} {P : Program} {l : Nat} {f : FuncId} {tmps : Array Value} {assign body : Code} {w : World} {R : Ending → World → Prop}
    (h : RoundIn F m P l f tmps assign body w R) : RoundIn F m' P l f tmps assign body w R := ⟨h.1, fun c cs _ => h.2 c cs (room_of_none hd _)⟩
theorem YieldAt.anyDepth {F : Fence} (hd : F.depth = none) {m : Nat} (m' : Nat) {P : Program} {l : Nat} {args : Array Value} {W : World} {R : Ending → World → Prop} (h : YieldAt F m P l args W R) : YieldAt F m' P l args W R := by
  obtain ⟨fn, tmps, assign, body, hy, hR⟩ := h
  exact ⟨fn, tmps, assign, body, hy, RoundIn.anyDepth hd hR⟩
theorem cell_old {W : World} {a : Addr} {v : Value} (o : Obj) (h : W.cell? a = some v) : (W.alloc o).cell? a = some v :=
  ((below_alloc (Below.refl W.heap.size W) o).cell (World.block_lt_of_cell? W _ h)).trans h
section
variable {d : Kd NV} {w0 : World}
set_option maxHeartbeats 4000000 in
set_option maxRecDepth 100000 in
theorem all1_in (hd : NKd d) {J Jx : List (NodeX d w0) → World → Prop} (l b Bn : Nat) (h : NV) (k : Fo) (n : Nat) (W : World) (hN : NodeAt d w0 b h k) (hB : Below w0.heap.size w0 W) (hn : W.cell? ⟨Bn, 0, none⟩ = some (nv b))
    (hJ : AbidesFrom W.heap.size J) (hY : YieldC J Jx l (nodesT (h, k)).length) (h0 : J [] W) :
    CallsIn Fence.wide n Try.prog 35 #[ywV l, pv Bn] W fun e W' => (∃ v, e = .returned v) ∧ ((∃ xs, xsT xs = nodesT (h, k) ∧ J xs W') ∨ (∃ pre, xsT pre <+: nodesT (h, k) ∧ Jx pre W')) := by
  obtain ⟨W2, hW2⟩ : ∃ W2, W2 = (W.alloc (.cells #[ywV l] 59)).alloc (.cells #[fnv 36 #[pv W.heap.size, pv (W.heap.size + 1)]] 59) := ⟨_, rfl⟩
  have hb2 : Below W.heap.size W W2 := by rw [hW2]; exact below_alloc (below_alloc (Below.refl _ _) _) _
  have hj1 : J [] (W.alloc (.cells #[ywV l] 59)) := hJ _ _ _ none h0 (World.grownBy_alloc W _ none) (fun r e => by cases e)
  have hj2 : J [] W2 := by rw [hW2]; exact hJ _ _ _ none hj1 (World.grownBy_alloc _ _ none) (fun r e => by cases e)
  have hy : W2.cell? ⟨W.heap.size, 0, none⟩ = some (ywV l) := by rw [hW2]; exact cell_old _ ((blk_cell (heap_alloc_new W _) 0).trans rfl)
  have hw : W2.cell? ⟨W.heap.size + 1, 0, none⟩ = some (fnv 36 #[pv W.heap.size, pv (W.heap.size + 1)]) := by
    have := (blk_cell (heap_alloc_new (W.alloc (.cells #[ywV l] 59)) (.cells #[fnv 36 #[pv W.heap.size, pv (W.heap.size + 1)]] 59)) 0).trans rfl
    rw [hW2]
    rw [World.size_alloc] at this
    exact this
  have hn2 : W2.cell? ⟨Bn, 0, none⟩ = some (nv b) := by rw [hW2]; exact cell_old _ (cell_old _ hn)
  have hwk := walk_all hd hY (.cons h k .nil) (h, k) (by simp [Fo.trees]) (n - 1) b [] W2 hN (hB.trans (hb2.mono hB.size)) hy hw hj2 (by simp)
  have HWK := Aside0.mk hwk
  rw [hW2] at hn2
  have H2 := Aside0.mk hW2
  clear hwk hW2 hb2 hj1 hj2 hy hw hN hB hJ hY h0
  have f36 : Fence.wide.fn 36 := trivial
  have hdd : ∀ q : Nat, (Fence.wide.depth.isSome = true → 1 ≤ q) := fun _ h => by cases h
  refine callsIn_of_wp Try.func35 rfl trivial ?_ rfl
  simp only [Try.ntmps35, List.size_toArray, List.length_cons, List.length_nil, Nat.reduceAdd, Nat.reduceSub, Array.replicate_succ, Array.replicate_zero, List.push_toArray, List.append_toArray, List.nil_append, List.cons_append]
  gi_wp2_with ((try refine ⟨hdd _, ?_⟩); gi_at_call 36; rw [← H2.out]; refine HWK.out.mono ?_; clear HWK; rintro e W3 (⟨rfl, xs, hxs, hJ3, hk3⟩ | ⟨rfl, q, hq, hx3⟩))
  · go_end0
    exact ⟨⟨_, rfl⟩, .inl ⟨xs, hxs, by simpa using hJ3⟩⟩
  · go_end0
    exact ⟨⟨_, rfl⟩, .inr ⟨q, hq, by simpa using hx3⟩⟩
theorem all_stops (hd : NKd d) (b Bn : Nat) (h : NV) (k : Fo) (n : Nat) (hN : NodeAt d w0 b h k) (hn : w0.cell? ⟨Bn, 0, none⟩ = some (nv b)) :
    SeqStopsK Fence.wide n Try.prog 35 #[pv Bn] (fun x : NodeX d w0 => #[nv x.b]) (KP w0) (fun xs => xsT xs = nodesT (h, k)) (fun pre => xsT pre <+: nodesT (h, k)) (nodesT (h, k)).length w0 := fun l J Jx W hW hJ _ hY h0 =>
  all1_in hd l b Bn h k n W hN hW ((hW.cell (World.block_lt_of_cell? w0 _ hn)).trans hn) hJ (fun m pre x W1 hj hl => YieldAt.anyDepth rfl m (hY pre x W1 hj hl)) h0
theorem KP_t {A B C : World} (h : KP w0 A B) (k : KP w0 B C) : KP w0 A C := h.trans k
theorem KP_b (W : World) (l : Nat) (o o' : Obj) (hl : w0.heap.size ≤ l) (h : W.heap[l]? = some o) (hc : o.isCells = false) (hw : o.isWalk = false) : KP w0 W (W.putObj l o') :=
  ⟨belowK_b (Nat.le_refl _) W l o o' hl h hc hw, (grownBy_putObj' W l o').size, fun k cs t r hk => ((grownBy_putObj' W l o').block k (blk_lt hk) (fun e => by
    cases e
    rw [h] at hk
    cases hk
    simp [Obj.isCells] at hc)).trans hk⟩
end
set_option maxHeartbeats 4000000 in
theorem all_in (b : Nat) (n : Nat) (w : World) :
    CallsIn Fence.wide n Try.prog 24 #[nv b] w fun e w' => e = .returned (fnv 35 #[pv w.heap.size]) ∧ w' = w.alloc (.cells #[nv b] 39) := by
  refine callsIn_of_wp Try.func24 rfl trivial ?_ rfl
  simp only [Try.ntmps24, List.size_toArray, List.length_cons, List.length_nil, Nat.reduceAdd, Nat.reduceSub, Array.replicate_succ, Array.replicate_zero, List.push_toArray, List.append_toArray, List.nil_append, List.cons_append]
  gi_wp2
  go_ret
  exact ⟨rfl, rfl⟩
end Go.Proofs.Ytogffkekgfkhkaa.C
