/- The writer of bytes and numbers. -/
import Derived.Test.YtmmpiojekgfdjaaZlV1
import Derived.Test.YtmmpiojekgfdjaaZlK
namespace Go.Proofs.Ytmmpiojekgfdjaa.C
open Go.RowKit YtmmpiojekgfdjaaW.PrintWords YtmmpiojekgfdjaaW.PrintLast
set_option linter.unusedVariables false
set_option linter.unusedSimpArgs false
theorem run_append_types {P : Program} {t u ty e e' : TypeId} (b : Option Addr) (n c : Nat) (x : Value) (w : World) (ht : P.underlying t = some (.slice e)) (hu : P.underlying u = some (.slice e')) : (Builtin.append_ #[t, u] ty #[.slice b n c, x]).run P w = (Builtin.append_ #[t, t] ty #[.slice b n c, x]).run P w := by
 unfold Builtin.append_
 simp only [List.getElem?_toArray, List.getElem?_cons_zero, List.getElem?_cons_succ, Sem.run_bind, run_underlying ht, run_underlying hu, Result.andThen_ok, Sem.run_pure]
theorem wpList_append_run2 {P : Program} {ops : Array Oper} {rest : List Oper} {o : Oper} {a : Act} {Q : Exit → Act → World → Prop} {W : World} (hgd : o.guard = none) (s x : Operand) (t u : TypeId)
  (ho : o.op = .call { callee := .builtin .append, args := #[s, x], argTypes := #[t, u] }) (v xv : Value) (hs : a.eval s = v) (hx : a.eval x = xv) (v1 : Value) (w1 : World)
  (hr : (Builtin.append_ #[t, u] o.type #[v, xv]).run P W = .ok v1 w1) (h : wpList P ops Q rest (a.put o.dst v1) w1) : wpList P ops Q (o :: rest) a W := by
 refine wpList_plain hgd fun K hK => ?_
 unfold Oper.wp execOp
 simp only [ho, resolve, invoke, builtin, Sem.run_bind, Sem.run_pure, Result.andThen_ok, List.map_toArray, List.map_cons, List.map_nil, hs, hx, hr]
 exact hK _ _ h
theorem bytesC_cells {W : World} {A : Option Addr} {ys : List Int} (h : Kd.C (Kd.int .u8) W A ys.length ys) : A = none ∧ ys = [] ∨ ∃ ad, A = some ad ∧ ∀ j u, (nums .u8 ys)[j]? = some u → W.cell? (ad.add j) = some u := by
 cases A with
 | none =>
  left
  refine ⟨rfl, ?_⟩
  cases ys with
  | nil => rfl
  | cons y ys => obtain ⟨ad, e, _⟩ := h.2.2 (by simp); cases e
 | some ad =>
  right
  refine ⟨ad, rfl, fun j u hu => ?_⟩
  have hj : j < ys.length := by
   have := (List.getElem?_eq_some_iff.1 hu).1
   simpa [nums] using this
  obtain ⟨ad', e, hc⟩ := h.2.2 (by omega)
  injection e with e
  subst e
  obtain ⟨c, hcl, hK, hcell⟩ := hc j _ (List.getElem?_eq_getElem hj)
  have hK' : c = [.int .u8 ys[j]] := hK
  subst hK'
  have h0 := hcell 0 _ rfl
  rw [show (Kd.int .u8).sz = 1 from rfl, Nat.mul_one, Nat.add_zero] at h0
  rw [h0]
  simpa [nums, List.getElem?_map, List.getElem?_eq_getElem hj] using hu
theorem bytesC_blk {W : World} {b : Nat} {ys : List Int} {t : TypeId} (h : W.heap[b]? = some (.cells (nums .u8 ys).toArray t (0, 0))) (hl : ys.length ≤ 9223372036854775807) : Kd.C (Kd.int .u8) W (some ⟨b, 0, none⟩) ys.length ys := by
 refine ⟨rfl, hl, fun _ => ⟨_, rfl, fun j p hj => ⟨[.int .u8 p], rfl, rfl, fun i u hu => ?_⟩⟩⟩
 have hi : i = 0 := by
  rcases Nat.lt_or_ge i 1 with h1 | h1
  ·
   omega
  ·
   rw [List.getElem?_eq_none (by simpa using h1)] at hu; cases hu
 subst hi
 simp at hu
 subst hu
 rw [show (Kd.int .u8).sz = 1 from rfl, Nat.mul_one, Nat.add_zero, add_plain, cell_of_row W b j _ t (0, 0) h]
 simp [nums, hj]
def WRow (B : Nat) (W : World) (v : Value) (xs : List Int) : Prop := W.ownsRow B 5 1 v xs.length (nums .u8 xs) ∨ xs.length = 4 ∧ ∃ g mk, v = .slice (some ⟨g, 0, none⟩) 4 4 ∧ B ≤ g ∧ W.heap[g]? = some (.cells (nums .u8 xs).toArray 5 mk)
theorem WRow.typed {B : Nat} {W : World} {v : Value} {xs : List Int} (h : WRow B W v xs) (k : Nat) (hk : v.ownBlock = some k) : ∃ cells mk, W.heap[k]? = some (.cells cells 5 mk) := by
 rcases h with h | ⟨_, g, mk, rfl, _, hg⟩
 ·
  obtain ⟨c, hc⟩ := own_typed h k hk; exact ⟨c, _, hc⟩
 ·
  have : g = k := by simpa [Value.ownBlock] using hk
  subst this; exact ⟨_, _, hg⟩
theorem WRow.base {B : Nat} {W : World} {v : Value} {xs : List Int} (h : WRow B W v xs) (k : Nat) (hk : v.ownBlock = some k) : B ≤ k := by
 rcases h with h | ⟨_, g, mk, rfl, hb, _⟩
 ·
  exact own_base h k hk
 ·
  have : g = k := by simpa [Value.ownBlock] using hk
  subst this; exact hb
theorem WRow.lt {B : Nat} {W : World} {v : Value} {xs : List Int} (h : WRow B W v xs) (k : Nat) (hk : v.ownBlock = some k) : k < W.heap.size := by
 obtain ⟨_, _, hc⟩ := h.typed k hk
 exact (Array.getElem?_eq_some_iff.1 hc).1
theorem WRow.move {B : Nat} {W W1 : World} {v : Value} {xs : List Int} (h : WRow B W v xs) (hm : ∀ k, v.ownBlock = some k → W1.heap[k]? = W.heap[k]?) : WRow B W1 v xs := by
 rcases h with h | ⟨h4, g, mk, rfl, hb, hg⟩
 ·
  exact .inl (own_move h hm)
 ·
  exact .inr ⟨h4, g, mk, rfl, hb, (hm g (by simp [Value.ownBlock])).trans hg⟩
theorem WRow.slice {B : Nat} {W : World} {v : Value} {xs : List Int} (h : WRow B W v xs) : ∃ A c, v = .slice A xs.length c := by
 rcases h with h | ⟨h4, g, mk, rfl, hb, hg⟩
 ·
  exact Kd.R_slice (d := Kd.int .u8) (ok := fun _ => True) (Kd.R_of_own h (fun _ _ => trivial))
 ·
  exact ⟨_, _, by rw [h4]⟩
structure WIs (B : Nat) (W : World) (bq : Nat) (v : Value) (xs : List Int) : Prop where
 var : W.heap[bq]? = some (.cells #[v] 73 (0, 0))
 row : WRow B W v xs
 base : B ≤ bq
theorem WIs.ne {B bq : Nat} {W : World} {v : Value} {xs : List Int} (h : WIs B W bq v xs) : some bq ≠ v.ownBlock := fun e => by
 obtain ⟨cells, mk, hc⟩ := h.row.typed bq e.symm
 rw [h.var] at hc
 injection hc with hc
 injection hc with _ hc
 exact absurd hc (by decide)
theorem WIs.step {B bq : Nat} {W W1 : World} {v : Value} {xs : List Int} (h : WIs B W bq v xs) (h1 : W1.heap[bq]? = W.heap[bq]?) (h2 : ∀ k, v.ownBlock = some k → W1.heap[k]? = W.heap[k]?) : WIs B W1 bq v xs :=
 ⟨h1.trans h.var, h.row.move h2, h.base⟩
theorem WIs.below {B bq : Nat} {W W1 : World} {v : Value} {xs : List Int} (h : WIs B W bq v xs) (hb : Below W.heap.size W W1) : WIs B W1 bq v xs :=
 h.step (hb.block _ (ziY h.var)) (fun k hk => hb.block _ (h.row.lt k hk))
theorem WIs.lt {B bq : Nat} {W : World} {v : Value} {xs : List Int} (h : WIs B W bq v xs) : B ≤ W.heap.size := Nat.le_of_lt (Nat.lt_of_le_of_lt h.base (ziY h.var))
structure WTo (B : Nat) (W : World) (bq : Nat) (v : Value) (W1 : World) (v1 : Value) (xs : List Int) : Prop where
 q : WIs B W1 bq v1 xs
 at_ : v1.ownBlock = v.ownBlock ∨ ∃ b, v1.ownBlock = some b ∧ W.heap.size ≤ b
 rest : ∀ k, k < W.heap.size → k ≠ bq → some k ≠ v.ownBlock → W1.heap[k]? = W.heap[k]?
 b : Below B W W1
theorem WTo.trans {B bq : Nat} {W W1 W2 : World} {v v1 v2 : Value} {xs ys : List Int} (h : WTo B W bq v W1 v1 xs) (k : WTo B W1 bq v1 W2 v2 ys) : WTo B W bq v W2 v2 ys := by
 refine ⟨k.q, ?_, ?_, h.b.trans k.b⟩
 ·
  rcases k.at_ with e | ⟨b, e, hb⟩
  ·
   rw [e]; exact h.at_
  ·
   exact .inr ⟨b, e, Nat.le_trans h.b.size hb⟩
 ·
  intro i hi h1 h2
  rw [k.rest i (Nat.lt_of_lt_of_le hi h.b.size) h1 ?_]
  ·
   exact h.rest i hi h1 h2
  ·
   rcases h.at_ with e | ⟨b, e, hb⟩
   ·
    rw [e]; exact h2
   ·
    rw [e]; intro e2; injection e2 with e2; omega
theorem WTo.of_below {B bq : Nat} {W W1 : World} {v : Value} {xs : List Int} (h : WIs B W bq v xs) (hb : Below W.heap.size W W1) : WTo B W bq v W1 v xs :=
 ⟨h.below hb, .inl rfl, fun k hk _ _ => hb.block k hk, hb.mono h.lt⟩
theorem run_append_none {P : Program} {w : World} {base : Nat} {e : TypeId} {size : Nat} (t ty : TypeId) (i : TypeInfo) (ht : P.underlying t = some (.slice e)) (hi : P.info? e = some i)
  (v : Value) (n c : Nat) (xs : List Value) (hown : w.ownsRow base e size v n xs) : (Builtin.append_ #[t, t] ty #[v, .slice none 0 c]).run P w = .ok v w := by
 rcases hown.2 with ⟨rfl, rfl⟩ | ⟨g, cap, cur, rfl, _, _, hnc, _⟩
 ·
  simp [Builtin.append_, run_underlying ht, sizeOf, typeInfo, hi, Builtin.lenOf, Builtin.firstCells]
 ·
  simp [Builtin.append_, run_underlying ht, sizeOf, typeInfo, hi, Builtin.lenOf, Builtin.firstCells, hnc, storeCells]
theorem nums_one (xs : List Int) : ∀ u ∈ nums .u8 xs, u.oneCell' = true := by
 intro u hu
 obtain ⟨_, _, rfl⟩ := List.mem_map.1 hu
 rfl
theorem append_bytes (t u ty : TypeId) (ht : Try.prog.underlying t = some (.slice 5)) (hu : Try.prog.underlying u = some (.slice 5)) (B : Nat) (W : World) (v : Value) (xs ys : List Int) (A : Option Addr) (c : Nat) (ok : Nat → Prop)
  (hr : Kd.R (Kd.int .u8) 5 W B ok v xs) (hok : ∀ k, W.heap.size ≤ k → ok k) (hB : B ≤ W.heap.size) (hy : Kd.C (Kd.int .u8) W A ys.length ys) (hl : xs.length + ys.length ≤ 1099511627776) :
  ∃ v1 w1, (Builtin.append_ #[t, u] ty #[v, .slice A ys.length c]).run Try.prog W = .ok v1 w1 ∧ Kd.R (Kd.int .u8) 5 w1 B ok v1 (xs ++ ys) ∧ W.grownBy w1 v.ownBlock ∧ (v1.ownBlock = v.ownBlock ∨ ∃ b, v1.ownBlock = some b ∧ W.heap.size ≤ b) := by
 obtain ⟨i0, hi, hz0, hz1, hz2⟩ := info_parts info5
 have ho := Kd.own_of_R hr
 have hv := Kd.R_slice hr
 obtain ⟨A0, c0, rfl⟩ := hv
 rw [run_append_types _ _ _ _ _ ht hu]
 rcases bytesC_cells hy with ⟨rfl, rfl⟩ | ⟨ad, rfl, hc⟩
 ·
  exact ⟨_, W, run_append_none t ty i0 ht hi _ _ c _ ho, by rw [List.append_nil]; exact hr, ⟨rfl, rfl, rfl, Nat.le_refl _, fun _ _ _ => rfl⟩, .inl rfl⟩
 ·
  obtain ⟨v1, w1, hrun, h2, hg, _, hat⟩ := run_append_own_at (P := Try.prog) W B t ty 5 i0 _ 1 1 ht hi hz0 hz1 hz2 rfl (by decide) _ xs.length _ ho ad ys.length c (nums .u8 ys) (by simp [nums]) hc (nums_one ys) (by simp only [maxLen]; omega) (by omega) hB
  have hat' : v1.ownBlock = (Value.slice A0 xs.length c0).ownBlock ∨ ∃ b, v1.ownBlock = some b ∧ W.heap.size ≤ b := by
   rcases hat with h | h
   ·
    exact .inl h
   ·
    exact .inr ⟨_, h, Nat.le_refl _⟩
  refine ⟨v1, w1, hrun, Kd.R_of_own (by rw [List.length_append]; simpa [encs, nums] using h2) (fun k hk => ?_), hg, hat'⟩
  rcases hat' with h | ⟨b, h, hb⟩
  ·
   exact hr.1 k (by rw [← h]; exact hk)
  ·
   rw [h] at hk; injection hk with hk; subst hk; exact hok _ hb
theorem wraps_i64 (n : Int) (h0 : 0 ≤ n) (h1 : n < 2 ^ 63) : IntKind.i64.wrap n = n := by rw [IntKind.wrap_i64]; omega
def varF : Nat → Int → List Int
 | 0, _ => []
 | n + 1, v => if 127 < v then (v % 128 + 128) :: varF n (v / 128) else [v % 256]
theorem varF_len : ∀ n v, (varF n v).length ≤ n
 | 0, _ => by simp [varF]
 | n + 1, v => by
  unfold varF
  split
  ·
   have := varF_len n (v / 128); simp; omega
  ·
   simp
theorem WTo.blk {B bq b : Nat} {W W1 : World} {v v1 : Value} {xs ys : List Int} (h : WTo B W bq v W1 v1 ys) (hq : WIs B W bq v xs) {cells : Array Value} {t : TypeId} (hb : W.heap[b]? = some (.cells cells t (0, 0))) (h1 : t ≠ 73) (h2 : t ≠ 5) : W1.heap[b]? = some (.cells cells t (0, 0)) := by
 refine (h.rest b (ziY hb) (fun e => ?_) (fun e => ?_)).trans hb
 ·
  subst e; rw [hq.var] at hb; injection hb with hb; injection hb with _ hb; exact h1 hb.symm
 ·
  obtain ⟨c, mk, hc⟩ := hq.row.typed b e.symm
  rw [hc] at hb; injection hb with hb; injection hb with _ hb; exact h2 hb.symm
end Go.Proofs.Ytmmpiojekgfdjaa.C
