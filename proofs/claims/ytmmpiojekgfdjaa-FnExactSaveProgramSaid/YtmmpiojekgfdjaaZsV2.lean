/- The writer of bytes and numbers. -/
import Derived.Test.YtmmpiojekgfdjaaZsV1
import Derived.Test.YtmmpiojekgfdjaaZsK
namespace Go.Proofs.Ytmmpiojekgfdjaa.C
open Go.RowKit Go.Proofs.YtmmpiojekgfdjaaW.PrintWords Go.Proofs.YtmmpiojekgfdjaaW.PrintLast
set_option linter.unusedVariables false
set_option linter.unusedSimpArgs false
theorem run_append_types {P : Program} {t u ty e e' : TypeId} (b : Option Addr) (n c : Nat) (x : Value) (w : World) (ht : P.underlying t = some (.slice e)) (hu : P.underlying u = some (.slice e')) : (Builtin.append_ #[t, u] ty #[.slice b n c, x]).run P w = (Builtin.append_ #[t, t] ty #[.slice b n c, x]).run P w := by
  unfold Builtin.append_
  simp only [List.getElem?_toArray, List.getElem?_cons_zero, List.getElem?_cons_succ, Sem.run_bind, run_underlying ht, run_underlying hu, Result.andThen_ok, Sem.run_pure]
theorem wpList_append_run2 {P : Program} {ops : Array Oper} {rest : List Oper} {o : Oper} {a : Act} {Q : Exit → Act → World → Prop} {W : World} (hgd : o.guard = none) (s x : Operand) (t u : TypeId)
    (ho : o.op = .call { callee := .builtin .append, args := #[s, x], argTypes := #[t, u] }) (v xv : Value) (hs : a.eval s = v) (hx : a.eval x = xv) (v1 : Value) (w1 : World)
    (hr : (Builtin.append_ #[t, u] o.type #[v, xv]).run P W = .ok v1 w1) (h : wpList P ops Q rest (a.put o.dst v1) w1) : wpList P ops Q (o :: rest) a W := by
  refine wpList_plain hgd fun K hK => ?_
  unfold Oper.wp execOp
  simp only [ho, resolve, invoke, builtin, Sem.run_bind, Sem.run_pure, Result.andThen_ok, List.map_toArray, List.map_cons, List.map_nil, hs, hx, hr]
  exact hK _ _ h
/-- What is read of a row of bytes. -/
theorem bytesC_cells {W : World} {A : Option Addr} {ys : List Int} (h : Kd.C (Kd.int .u8) W A ys.length ys) : A = none ∧ ys = [] ∨ ∃ ad, A = some ad ∧ ∀ j u, (nums .u8 ys)[j]? = some u → W.cell? (ad.add j) = some u := by
  cases A with
  | none =>
    left
    refine ⟨rfl, ?_⟩
    cases ys with
    | nil => rfl
    | cons y ys => obtain ⟨ad, e, _⟩ := h.2.2 (by simp); cases e
  | some ad =>
    right
    refine ⟨ad, rfl, fun j u hu => ?_⟩
    have hj : j < ys.length := by
      have := (List.getElem?_eq_some_iff.1 hu).1
      simpa [nums] using this
    obtain ⟨ad', e, hc⟩ := h.2.2 (by omega)
    injection e with e
    subst e
    obtain ⟨c, hcl, hK, hcell⟩ := hc j _ (List.getElem?_eq_getElem hj)
    have hK' : c = [.int .u8 ys[j]] := hK
    subst hK'
    have h0 := hcell 0 _ rfl
    rw [show (Kd.int .u8).sz = 1 from rfl, Nat.mul_one, Nat.add_zero] at h0
    rw [h0]
    simpa [nums, List.getElem?_map, List.getElem?_eq_getElem hj] using hu
theorem bytesC_blk {W : World} {b : Nat} {ys : List Int} {t : TypeId} (h : W.heap[b]? = some (.cells (nums .u8 ys).toArray t (0, 0))) (hl : ys.length ≤ 9223372036854775807) : Kd.C (Kd.int .u8) W (some ⟨b, 0, none⟩) ys.length ys := by
  refine ⟨rfl, hl, fun _ => ⟨_, rfl, fun j p hj => ⟨[.int .u8 p], rfl, rfl, fun i u hu => ?_⟩⟩⟩
  have hi : i = 0 := by
    rcases Nat.lt_or_ge i 1 with h1 | h1
    · omega
    · rw [List.getElem?_eq_none (by simpa using h1)] at hu; cases hu
  subst hi
  simp at hu
  subst hu
  rw [show (Kd.int .u8).sz = 1 from rfl, Nat.mul_one, Nat.add_zero, add_plain, cell_of_row W b j _ t (0, 0) h]
  simp [nums, hj]
/-- The writer's row: one's own, or the constant that it began with. -/
def WRow (B : Nat) (W : World) (v : Value) (xs : List Int) : Prop := W.ownsRow B 5 1 v xs.length (nums .u8 xs) ∨ xs.length = 4 ∧ ∃ g mk, v = .slice (some ⟨g, 0, none⟩) 4 4 ∧ B ≤ g ∧ W.heap[g]? = some (.cells (nums .u8 xs).toArray 5 mk)
theorem WRow.typed {B : Nat} {W : World} {v : Value} {xs : List Int} (h : WRow B W v xs) (k : Nat) (hk : v.ownBlock = some k) : ∃ cells mk, W.heap[k]? = some (.cells cells 5 mk) := by
  rcases h with h | ⟨_, g, mk, rfl, _, hg⟩
  · obtain ⟨c, hc⟩ := own_typed h k hk; exact ⟨c, _, hc⟩
  · have : g = k := by simpa [Value.ownBlock] using hk
    subst this; exact ⟨_, _, hg⟩
theorem WRow.base {B : Nat} {W : World} {v : Value} {xs : List Int} (h : WRow B W v xs) (k : Nat) (hk : v.ownBlock = some k) : B ≤ k := by
  rcases h with h | ⟨_, g, mk, rfl, hb, _⟩
  · exact own_base h k hk
  · have : g = k := by simpa [Value.ownBlock] using hk
    subst this; exact hb
theorem WRow.lt {B : Nat} {W : World} {v : Value} {xs : List Int} (h : WRow B W v xs) (k : Nat) (hk : v.ownBlock = some k) : k < W.heap.size := by
  obtain ⟨_, _, hc⟩ := h.typed k hk
  exact (Array.getElem?_eq_some_iff.1 hc).1
theorem WRow.move {B : Nat} {W W1 : World} {v : Value} {xs : List Int} (h : WRow B W v xs) (hm : ∀ k, v.ownBlock = some k → W1.heap[k]? = W.heap[k]?) : WRow B W1 v xs := by
  rcases h with h | ⟨h4, g, mk, rfl, hb, hg⟩
  · exact .inl (own_move h hm)
  · exact .inr ⟨h4, g, mk, rfl, hb, (hm g (by simp [Value.ownBlock])).trans hg⟩
theorem WRow.slice {B : Nat} {W : World} {v : Value} {xs : List Int} (h : WRow B W v xs) : ∃ A c, v = .slice A xs.length c := by
  rcases h with h | ⟨h4, g, mk, rfl, hb, hg⟩
  · exact Kd.R_slice (d := Kd.int .u8) (ok := fun _ => True) (Kd.R_of_own h (fun _ _ => trivial))
  · exact ⟨_, _, by rw [h4]⟩
structure WIs (B : Nat) (W : World) (bq : Nat) (v : Value) (xs : List Int) : Prop where
  var : W.heap[bq]? = some (.cells #[v] 73 (0, 0))
  row : WRow B W v xs
  base : B ≤ bq
theorem WIs.ne {B bq : Nat} {W : World} {v : Value} {xs : List Int} (h : WIs B W bq v xs) : some bq ≠ v.ownBlock := fun e => by
  obtain ⟨cells, mk, hc⟩ := h.row.typed bq e.symm
  rw [h.var] at hc
  injection hc with hc
  injection hc with _ hc
  exact absurd hc (by decide)
theorem WIs.step {B bq : Nat} {W W1 : World} {v : Value} {xs : List Int} (h : WIs B W bq v xs) (h1 : W1.heap[bq]? = W.heap[bq]?) (h2 : ∀ k, v.ownBlock = some k → W1.heap[k]? = W.heap[k]?) : WIs B W1 bq v xs :=
  ⟨h1.trans h.var, h.row.move h2, h.base⟩
theorem WIs.below {B bq : Nat} {W W1 : World} {v : Value} {xs : List Int} (h : WIs B W bq v xs) (hb : Below W.heap.size W W1) : WIs B W1 bq v xs :=
  h.step (hb.block _ (blk_lt h.var)) (fun k hk => hb.block _ (h.row.lt k hk))
theorem WIs.lt {B bq : Nat} {W : World} {v : Value} {xs : List Int} (h : WIs B W bq v xs) : B ≤ W.heap.size := Nat.le_of_lt (Nat.lt_of_le_of_lt h.base (blk_lt h.var))
/-- What the writer's methods leave. -/
structure WTo (B : Nat) (W : World) (bq : Nat) (v : Value) (W1 : World) (v1 : Value) (xs : List Int) : Prop where
  q : WIs B W1 bq v1 xs
  at_ : v1.ownBlock = v.ownBlock ∨ ∃ b, v1.ownBlock = some b ∧ W.heap.size ≤ b
  rest : ∀ k, k < W.heap.size → k ≠ bq → some k ≠ v.ownBlock → W1.heap[k]? = W.heap[k]?
  b : Below B W W1
theorem WTo.trans {B bq : Nat} {W W1 W2 : World} {v v1 v2 : Value} {xs ys : List Int} (h : WTo B W bq v W1 v1 xs) (k : WTo B W1 bq v1 W2 v2 ys) : WTo B W bq v W2 v2 ys := by
  refine ⟨k.q, ?_, ?_, h.b.trans k.b⟩
  · rcases k.at_ with e | ⟨b, e, hb⟩
    · rw [e]; exact h.at_
    · exact .inr ⟨b, e, Nat.le_trans h.b.size hb⟩
  · intro i hi h1 h2
    rw [k.rest i (Nat.lt_of_lt_of_le hi h.b.size) h1 ?_]
    · exact h.rest i hi h1 h2
    · rcases h.at_ with e | ⟨b, e, hb⟩
      · rw [e]; exact h2
      · rw [e]; intro e2; injection e2 with e2; omega
/-- Made memory alone. -/
theorem WTo.of_below {B bq : Nat} {W W1 : World} {v : Value} {xs : List Int} (h : WIs B W bq v xs) (hb : Below W.heap.size W W1) : WTo B W bq v W1 v xs :=
  ⟨h.below hb, .inl rfl, fun k hk _ _ => hb.block k hk, hb.mono h.lt⟩
def WPost (B : Nat) (W : World) (bq : Nat) (v : Value) (xs : List Int) (e : Ending) (W1 : World) : Prop := e = .returned (.tuple #[]) ∧ ∃ v1, WTo B W bq v W1 v1 xs
theorem run_append_none {P : Program} {w : World} {base : Nat} {e : TypeId} {size : Nat} (t ty : TypeId) (i : TypeInfo) (ht : P.underlying t = some (.slice e)) (hi : P.info? e = some i)
    (v : Value) (n c : Nat) (xs : List Value) (hown : w.ownsRow base e size v n xs) : (Builtin.append_ #[t, t] ty #[v, .slice none 0 c]).run P w = .ok v w := by
  rcases hown.2 with ⟨rfl, rfl⟩ | ⟨g, cap, cur, rfl, _, _, hnc, _⟩
  · simp [Builtin.append_, run_underlying ht, sizeOf, typeInfo, hi, Builtin.lenOf, Builtin.firstCells]
  · simp [Builtin.append_, run_underlying ht, sizeOf, typeInfo, hi, Builtin.lenOf, Builtin.firstCells, hnc, storeCells]
theorem nums_one (xs : List Int) : ∀ u ∈ nums .u8 xs, u.oneCell' = true := by
  intro u hu
  obtain ⟨_, _, rfl⟩ := List.mem_map.1 hu
  rfl
/-- append of bytes to a row of one's own. -/
theorem append_bytes (t u ty : TypeId) (ht : Try.prog.underlying t = some (.slice 5)) (hu : Try.prog.underlying u = some (.slice 5)) (B : Nat) (W : World) (v : Value) (xs ys : List Int) (A : Option Addr) (c : Nat) (ok : Nat → Prop)
    (hr : Kd.R (Kd.int .u8) 5 W B ok v xs) (hok : ∀ k, W.heap.size ≤ k → ok k) (hB : B ≤ W.heap.size) (hy : Kd.C (Kd.int .u8) W A ys.length ys) (hl : xs.length + ys.length ≤ 1099511627776) :
    ∃ v1 w1, (Builtin.append_ #[t, u] ty #[v, .slice A ys.length c]).run Try.prog W = .ok v1 w1 ∧ Kd.R (Kd.int .u8) 5 w1 B ok v1 (xs ++ ys) ∧ W.grownBy w1 v.ownBlock ∧ (v1.ownBlock = v.ownBlock ∨ ∃ b, v1.ownBlock = some b ∧ W.heap.size ≤ b) := by
  obtain ⟨i0, hi, hz0, hz1, hz2⟩ := info_parts info5
  have ho := Kd.own_of_R hr
  have hv := Kd.R_slice hr
  obtain ⟨A0, c0, rfl⟩ := hv
  rw [run_append_types _ _ _ _ _ ht hu]
  rcases bytesC_cells hy with ⟨rfl, rfl⟩ | ⟨ad, rfl, hc⟩
  · exact ⟨_, W, run_append_none t ty i0 ht hi _ _ c _ ho, by rw [List.append_nil]; exact hr, ⟨rfl, rfl, rfl, Nat.le_refl _, fun _ _ _ => rfl⟩, .inl rfl⟩
  · obtain ⟨v1, w1, hrun, h2, hg, _, hat⟩ := run_append_own_at (P := Try.prog) W B t ty 5 i0 _ 1 1 ht hi hz0 hz1 hz2 rfl (by decide) _ xs.length _ ho ad ys.length c (nums .u8 ys) (by simp [nums]) hc (nums_one ys) (by simp only [maxLen]; omega) (by omega) hB
    have hat' : v1.ownBlock = (Value.slice A0 xs.length c0).ownBlock ∨ ∃ b, v1.ownBlock = some b ∧ W.heap.size ≤ b := by
      rcases hat with h | h
      · exact .inl h
      · exact .inr ⟨_, h, Nat.le_refl _⟩
    refine ⟨v1, w1, hrun, Kd.R_of_own (by rw [List.length_append]; simpa [encs, nums] using h2) (fun k hk => ?_), hg, hat'⟩
    rcases hat' with h | ⟨b, h, hb⟩
    · exact hr.1 k (by rw [← h]; exact hk)
    · rw [h] at hk; injection hk with hk; subst hk; exact hok _ hb
theorem run_append_zero {P : Program} {w : World} {e : TypeId} (t ty : TypeId) (i : TypeInfo) (ht : P.underlying t = some (.slice e)) (hi : P.info? e = some i) (g n : Nat) (ad : Addr) (c : Nat) :
    (Builtin.append_ #[t, t] ty #[.slice (some ⟨g, 0, none⟩) n n, .slice (some ad) 0 c]).run P w = .ok (.slice (some ⟨g, 0, none⟩) n n) w := by
  simp [Builtin.append_, run_underlying ht, sizeOf, typeInfo, hi, Builtin.lenOf, Builtin.firstCells, storeCells, loadCells, loadCellsFrom]
theorem run_append_zero' {P : Program} {w : World} {e : TypeId} (t ty : TypeId) (i : TypeInfo) (ht : P.underlying t = some (.slice e)) (hi : P.info? e = some i) (g n : Nat) (c : Nat) :
    (Builtin.append_ #[t, t] ty #[.slice (some ⟨g, 0, none⟩) n n, .slice none 0 c]).run P w = .ok (.slice (some ⟨g, 0, none⟩) n n) w := by
  simp [Builtin.append_, run_underlying ht, sizeOf, typeInfo, hi, Builtin.lenOf, Builtin.firstCells, storeCells]
theorem append_wrow (t u ty : TypeId) (ht : Try.prog.underlying t = some (.slice 5)) (hu : Try.prog.underlying u = some (.slice 5)) (B : Nat) (W : World) (v : Value) (xs ys : List Int) (A : Option Addr) (c : Nat)
    (hr : WRow B W v xs) (hB : B ≤ W.heap.size) (hy : Kd.C (Kd.int .u8) W A ys.length ys) (hl : xs.length + ys.length ≤ 1099511627776) :
    ∃ v1 w1, (Builtin.append_ #[t, u] ty #[v, .slice A ys.length c]).run Try.prog W = .ok v1 w1 ∧ WRow B w1 v1 (xs ++ ys) ∧ W.grownBy w1 v.ownBlock ∧ (v1.ownBlock = v.ownBlock ∨ ∃ b, v1.ownBlock = some b ∧ W.heap.size ≤ b) := by
  rcases hr with h | ⟨h4, g, mk, rfl, hb, hg⟩
  · obtain ⟨v1, w1, h1, h2, h3, h4⟩ := append_bytes t u ty ht hu B W v xs ys A c (fun _ => True) (Kd.R_of_own h (fun _ _ => trivial)) (fun _ _ => trivial) hB hy hl
    exact ⟨v1, w1, h1, .inl (Kd.own_of_R h2), h3, h4⟩
  · obtain ⟨i0, hi, hz0, hz1, hz2⟩ := info_parts info5
    rw [run_append_types _ _ _ _ _ ht hu]
    by_cases hy0 : ys.length = 0
    · obtain rfl : ys = [] := List.length_eq_zero_iff.1 hy0
      refine ⟨.slice (some ⟨g, 0, none⟩) 4 4, W, ?_, .inr ⟨by simpa using h4, g, mk, rfl, hb, by rw [List.append_nil]; exact hg⟩, ⟨rfl, rfl, rfl, Nat.le_refl _, fun _ _ _ => rfl⟩, .inl rfl⟩
      cases A with
      | none => exact run_append_zero' t ty i0 ht hi g 4 c
      | some ad => exact run_append_zero t ty i0 ht hi g 4 ad c
    · rcases bytesC_cells hy with ⟨rfl, rfl⟩ | ⟨ad, rfl, hc⟩
      · simp at hy0
      · obtain ⟨v1, w1, h1, h2, h3⟩ := run_append_arg_grows (P := Try.prog) (w := W) t ty 5 i0 _ 1 1 ht hi hz0 hz1 hz2 rfl (by decide) ⟨g, 0, none⟩ 4 4 (nums .u8 xs) (by simp [nums, h4]) (fun j u hj => by rw [add_plain, cell_of_row W g j _ 5 mk hg]; simpa using hj) ad ys.length c (nums .u8 ys) (by simp [nums]) hc (by omega) (by simp only [maxLen]; omega) (by omega)
        refine ⟨v1, w1, h1, .inl (own_weaken (by rw [List.length_append, h4]; simpa [nums] using h2) hB), ⟨h3.os, h3.tape, h3.output, h3.size, fun k hk _ => h3.block k hk (by simp)⟩, ?_⟩
        obtain ⟨g', cap', he, hb', _⟩ := h2.form (by omega)
        exact .inr ⟨g', by rw [he]; simp [Value.ownBlock], hb'⟩
set_option maxHeartbeats 4000000 in
set_option maxRecDepth 100000 in
theorem wbytes_calls (B : Nat) (W : World) (bq : Nat) (v : Value) (xs ys : List Int) (A : Option Addr) (c : Nat) (hq : WIs B W bq v xs) (hy : Kd.C (Kd.int .u8) W A ys.length ys) (hl : xs.length + ys.length ≤ 1099511627776) :
    Calls Try.prog 39 #[.pointer (some ⟨bq, 0, none⟩), .slice A ys.length c] W (WPost B W bq v (xs ++ ys)) := by
  have hB := hq.lt
  obtain ⟨v1, w1, hrun, hrow', hg, hat⟩ := append_wrow 73 35 73 Try.underlying73 Try.underlying35 B W v xs ys A c hq.row hB hy hl
  obtain ⟨A1, k1, rfl⟩ := hrow'.slice
  have c0 : W.cell? ⟨bq, 0, none⟩ = some v := (blk_cell hq.var 0).trans rfl
  have c1 : w1.heap[bq]? = some (.cells #[v] 73 (0, 0)) := (hg.block bq (blk_lt hq.var) hq.ne).trans hq.var
  have c2 : w1.cell? ⟨bq, 0, none⟩ = some v := (blk_cell c1 0).trans rfl
  have f1 := blk_frozen c1 0
  have HQ := Aside0.mk hq
  have HROW := Aside0.mk hrow'
  have HG := Aside0.mk hg
  have HAT := Aside0.mk hat
  have HC1 := Aside0.mk c1
  have hB' := Aside0.mk hB
  have HR := Aside0.mk hrun
  clear hq hrow' hg hat c1 hy hl hB hrun
  go_enter Try.func39, Try.ntmps39
  go_wp2_with (at_builtin; with_reducible refine wpList_append_run2 rfl (.tmp 7) (.tmp 8) 73 35 rfl v (.slice A ys.length c) rfl rfl _ w1 HR.out ?_)
  go_end0
  refine ⟨rfl, _, ⟨?_, ?_, HQ.out.base⟩, HAT.out, ?_, ?_⟩
  · have h := heap_setCell_same w1 bq 0 #[v] 73 (.slice A1 (xs.length + ys.length) k1) HC1.out
    rw [List.length_append]
    exact h
  · refine HROW.out.move (fun k hk => Below.heap_setCell w1 ⟨bq, 0, none⟩ _ k (fun e => ?_))
    obtain ⟨cells, mk, hc⟩ := HROW.out.typed k hk
    rw [e] at hc
    exact absurd (HC1.out.symm.trans hc) (by simp)
  · intro k hk hkq hkv
    rw [Below.heap_setCell w1 ⟨bq, 0, none⟩ _ k hkq]
    exact HG.out.block k hk hkv
  · refine Below.setCell ?_ HQ.out.base _
    exact (Below.refl B W).grown HG.out hB'.out (fun k hk => HQ.out.row.base k hk)
theorem wraps_i64 (n : Int) (h0 : 0 ≤ n) (h1 : n < 2 ^ 63) : IntKind.i64.wrap n = n := by rw [IntKind.wrap_i64]; omega
theorem i64_and127 {x : Int} (h0 : 0 ≤ x) (h1 : x ≤ 4611686018427387904) : bits .and .i64 x 127 = x % 128 := bits_mask .i64 63 (by decide) wraps_i64 7 (by decide) x h0 (by omega)
theorem i64_or128 {x : Int} (h0 : 0 ≤ x) (h1 : x < 128) : bits .or .i64 x 128 = 128 + x := by
  obtain ⟨a, rfl⟩ := Int.eq_ofNat_of_zero_le h0
  have ha : a < 2 ^ 63 := by omega
  have e1 := (bits_nat .i64 63 (by decide) wraps_i64 a 128 ha (by decide)).2
  have e2 := (bits_nat .i64 63 (by decide) wraps_i64 128 a (by decide) ha).2
  have e3 := bits_join .i64 63 (by decide) wraps_i64 7 128 (a : Int) (by decide) (by decide) (by decide) h0 (by omega) (by omega)
  have e4 : bits .or .i64 (a : Int) 128 = bits .or .i64 128 (a : Int) := by
    rw [show (128 : Int) = ((128 : Nat) : Int) from rfl, e1, e2, Nat.or_comm]
  rw [e4]
  exact e3
theorem var_byte {y : Int} (h0 : 0 ≤ y) (h1 : y ≤ 4611686018427387904) : bits .or .i64 (bits .and .i64 y 127) 128 % 256 = y % 128 + 128 := by
  rw [i64_and127 h0 h1, i64_or128 (by omega) (by omega)]; omega
def varF : Nat → Int → List Int
  | 0, _ => []
  | n + 1, v => if 127 < v then (v % 128 + 128) :: varF n (v / 128) else [v % 256]
theorem varF_len : ∀ n v, (varF n v).length ≤ n
  | 0, _ => by simp [varF]
  | n + 1, v => by
    unfold varF
    split
    · have := varF_len n (v / 128); simp; omega
    · simp
def varsL (vs : List Int) : List Int := vs.flatMap (varF 10)
theorem varsL_snoc (vs : List Int) (x : Int) : varsL (vs ++ [x]) = varsL vs ++ varF 10 x := by simp [varsL]
theorem varsL_len (vs : List Int) : (varsL vs).length ≤ 10 * vs.length := by
  induction vs with
  | nil => simp [varsL]
  | cons x vs ih => have := varF_len 10 x; simp only [varsL, List.flatMap_cons, List.length_append, List.length_cons] at *; omega
theorem WTo.blk {B bq b : Nat} {W W1 : World} {v v1 : Value} {xs ys : List Int} (h : WTo B W bq v W1 v1 ys) (hq : WIs B W bq v xs) {cells : Array Value} {t : TypeId} (hb : W.heap[b]? = some (.cells cells t (0, 0))) (h1 : t ≠ 73) (h2 : t ≠ 5) : W1.heap[b]? = some (.cells cells t (0, 0)) := by
  refine (h.rest b (blk_lt hb) (fun e => ?_) (fun e => ?_)).trans hb
  · subst e; rw [hq.var] at hb; injection hb with hb; injection hb with _ hb; exact h1 hb.symm
  · obtain ⟨c, mk, hc⟩ := hq.row.typed b e.symm
    rw [hc] at hb; injection hb with hb; injection hb with _ hb; exact h2 hb.symm
def ic (xs : List Int) : List Value := xs.map (Value.int .i64)
set_option maxHeartbeats 8000000 in
set_option maxRecDepth 100000 in
theorem wnums_calls (B : Nat) (W : World) (bq bx : Nat) (v : Value) (xs vs : List Int) (hq : WIs B W bq v xs) (hx : W.heap[bx]? = some (.cells (ic vs).toArray 3 (0, 0))) (hv : ∀ x ∈ vs, 0 ≤ x ∧ x ≤ 4611686018427387904) (hn : vs.length ≤ 1000000) (hl : xs.length + 10 * vs.length ≤ 1000000000000) :
    Calls Try.prog 38 #[.pointer (some ⟨bq, 0, none⟩), .slice (some ⟨bx, 0, none⟩) vs.length vs.length] W (WPost B W bq v (xs ++ varsL vs)) := by
  have HQ := Aside0.mk hq
  have HX := Aside0.mk hx
  have HV := Aside0.mk hv
  have HL := Aside0.mk hl
  have HN := Aside0.mk hn
  clear hq hx hv hl hn
  go_enter Try.func38, Try.ntmps38
  go_wp2
  go_loopg [5, 8] vs.length (fun g v5 v8 wr => ∃ (j : Nat) (v1 : Value), v8 = .int .i64 (j : Int) ∧ Aside0 (j + g = vs.length) ∧ Aside0 (WTo B W bq v wr v1 (xs ++ varsL (vs.take j))))
  case atStart => exact ⟨0, v, rfl, ⟨by omega⟩, ⟨by simpa [varsL] using WTo.of_below HQ.out (Below.refl _ _)⟩⟩
  case round =>
    obtain ⟨j, v1, rfl, hj, hT⟩ := hrel
    by_cases hlt : j < vs.length
    · have hbx := hT.out.blk HQ.out HX.out (by decide) (by decide)
      have hx0 : wr.cell? ⟨bx, j, none⟩ = some (.int .i64 vs[j]) := (blk_cell hbx j).trans (by simp [ic, hlt])
      have hvj := HV.out vs[j] (List.getElem_mem hlt)
      have htk : vs.take (j + 1) = vs.take j ++ [vs[j]] := List.take_succ_eq_append_getElem hlt
      have hlen := varsL_len (vs.take j)
      have HTK : Aside0 (xs ++ varsL (vs.take j) ++ varF 10 vs[j] = xs ++ varsL (vs.take (j + 1))) := ⟨by rw [htk, varsL_snoc, List.append_assoc]⟩
      have HLL : Aside0 ((xs ++ varsL (vs.take j)).length + 10 ≤ 1099511627776) := ⟨by have := HL.out; simp only [List.length_append, List.length_take] at *; omega⟩
      have hdl : decide ((j : Int) < (vs.length : Int)) = true := decide_eq_true (by omega)
      have hdn : decide (j < vs.length) = true := decide_eq_true hlt
      have p : (0 ≤ (j : Int)) = True := eq_true (by omega)
      have q : ((j : Int) < (vs.length : Int)) = True := eq_true (by omega)
      generalize vs[j] = x at *
      have HXJ := Aside0.mk hvj
      have HLT := Aside0.mk hlt
      clear hbx hvj htk hlen hlt
      go_wp2
      go_loopg [5] 10 (fun m v5 wi => ∃ (y : Int) (ys : List Int) (v2 : Value), v5 = .int .i64 y ∧ Aside0 (0 ≤ y ∧ y < 128 ^ m ∧ 1 ≤ m ∧ y ≤ 4611686018427387904) ∧ Aside0 (ys ++ varF m y = xs ++ varsL (vs.take (j + 1))) ∧ Aside0 (ys.length + m ≤ 1099511627776) ∧ Aside0 (WTo B W bq v wi v2 ys))
      case atStart => exact ⟨x, _, v1, rfl, ⟨HXJ.out.1, by have := HXJ.out.2; omega, by omega, HXJ.out.2⟩, HTK, HLL, hT⟩
      case round =>
        obtain ⟨y, ys, v2, rfl, hy, hys, hyl, hT2⟩ := hrel
        obtain ⟨m, hm⟩ : ∃ m, gk = m + 1 := by
          cases gk with
          | zero => exact absurd hy.out.2.2.1 (by omega)
          | succ m => exact ⟨m, rfl⟩
        subst hm
        by_cases hy7 : 127 < y
        · have d1 : decide (127 < y) = true := decide_eq_true hy7
          have HVB := Aside0.mk (var_byte hy.out.1 hy.out.2.2.2)
          have HT3 := Aside0.mk (hT2.out.trans (WTo.of_below hT2.out.q ((Below.refl wr.heap.size wr).alloc (Nat.le_refl _) (.cells (nums .u8 [bits BinOp.or IntKind.i64 (bits BinOp.and IntKind.i64 y 127) 128 % 256]).toArray 5))))
          have HC3 := Aside0.mk (bytesC_blk (W := wr.alloc (.cells (nums .u8 [bits BinOp.or IntKind.i64 (bits BinOp.and IntKind.i64 y 127) 128 % 256]).toArray 5)) (b := wr.heap.size) (heap_alloc_new _ _) (by simp))
          have HY7 := Aside0.mk hy7
          clear hy7
          go_wp2_with (go_at_call 39; ((refine (wbytes_calls B _ bq v2 ys [bits BinOp.or IntKind.i64 (bits BinOp.and IntKind.i64 y 127) 128 % 256] _ 1 HT3.out.q HC3.out (by have := hyl.out; simp; omega)).mono ?_); rintro e w4 ⟨rfl, v4, hT4⟩; have HT4 := Aside0.mk (HT3.out.trans hT4); clear hT4))
          go_roundg m
          case measure => omega
          case rel =>
            refine ⟨y / 128, ys ++ [bits BinOp.or IntKind.i64 (bits BinOp.and IntKind.i64 y 127) 128 % 256], v4, rfl, ⟨?_⟩, ⟨?_⟩, ⟨by have := hyl.out; simp; omega⟩, HT4⟩
            · obtain ⟨h0, h1, h2, h3⟩ := hy.out
              have h7 := HY7.out
              have hp : (128 : Int) ^ (m + 1) = 128 ^ m * 128 := Int.pow_succ ..
              have hm1 : 1 ≤ m := by
                rcases Nat.eq_zero_or_pos m with e | e
                · subst e; simp at h1; omega
                · exact e
              exact ⟨by omega, by omega, hm1, by omega⟩
            · rw [← hys.out, HVB.out]
              conv => rhs; unfold varF
              rw [if_pos HY7.out, List.append_assoc]
              rfl
        · have d1 : decide (127 < y) = false := decide_eq_false hy7
          have HE : Aside0 (ys ++ [y % 256] = xs ++ varsL (vs.take (j + 1))) := ⟨by rw [← hys.out]; unfold varF; rw [if_neg hy7]⟩
          have HT3 := Aside0.mk (hT2.out.trans (WTo.of_below hT2.out.q ((Below.refl wr.heap.size wr).alloc (Nat.le_refl _) (.cells (nums .u8 [y % 256]).toArray 5))))
          have HC3 := Aside0.mk (bytesC_blk (W := wr.alloc (.cells (nums .u8 [y % 256]).toArray 5)) (b := wr.heap.size) (heap_alloc_new _ _) (by simp))
          clear hy7
          go_wp2_with (go_at_call 39; ((refine (wbytes_calls B _ bq v2 ys [y % 256] _ 1 HT3.out.q HC3.out (by have := hyl.out; simp; omega)).mono ?_); rintro e w4 ⟨rfl, v4, hT4⟩; have HT4 := Aside0.mk (HT3.out.trans hT4); clear hT4))
          go_roundg (vs.length - (j + 1))
          case measure => have := hj.out; have := HLT.out; omega
          case rel => exact ⟨j + 1, v4, i64_next HLT.out (by have := HN.out; omega), ⟨by have := HLT.out; omega⟩, ⟨by rw [← HE.out]; exact HT4.out⟩⟩
    · have hdl : decide ((j : Int) < (vs.length : Int)) = false := decide_eq_false (by omega)
      have hdn : decide (j < vs.length) = false := decide_eq_false hlt
      have hjl : j = vs.length := by have := hj.out; omega
      have HJ := Aside0.mk hjl
      clear hlt hjl
      go_wp2
      go_end0
      exact ⟨rfl, v1, by have := hT.out; rw [HJ.out, List.take_length] at this; exact this⟩
end Go.Proofs.Ytmmpiojekgfdjaa.C
