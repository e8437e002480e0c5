/- Copies of rows, last targets. -/
import Derived.Test.YtmmpiojekgfdjaaZtV1
import Derived.Test.YtmmpiojekgfdjaaZtH6
import Derived.Lib.LazyBuf
import Derived.Test.YtmmpiojekgfdjaaZtK
namespace Go.Proofs.Ytmmpiojekgfdjaa.C
open Go.RowKit YtmmpiojekgfdjaaW.PrintWords YtmmpiojekgfdjaaW.PrintLast
set_option linter.unusedVariables false
set_option linter.unusedSimpArgs false
def alt {α : Type} (d : Kd α) : Kd (α ⊕ List Value) where
 sz := d.sz
 E := d.E
 K := fun w x cs => match x with | .inl x => d.K w x cs | .inr y => cs = y ∧ cs.length = d.sz ∧ ∀ u ∈ cs, u.oneCell' = true
 M := fun w base ok x cs => match x with | .inl x => d.M w base ok x cs | .inr y => cs = y ∧ cs.length = d.sz ∧ ∀ u ∈ cs, u.oneCell' = true
 K_len := by rintro w (x | y) cs h; exact d.K_len h; exact h.2.1
 K_one := by rintro w (x | y) cs h; exact d.K_one h; exact h.2.2
 K_below := by rintro w w1 (x | y) cs hb h; exact d.K_below hb h; exact h
 K_of_M := by rintro w base ok (x | y) cs h; exact d.K_of_M h; exact h
 M_mono := by rintro w base ok ok' (x | y) cs hk h; exact d.M_mono hk h; exact h
 M_bound := by rintro w base ok (x | y) cs h; exact d.M_bound h; exact h
 M_move := by rintro w w1 base ok (x | y) cs hm h; exact d.M_move hm h; exact h
 M_lower := by rintro w base base' ok (x | y) cs hb h; exact d.M_lower hb h; exact h
def altC {α : Type} (sz : Nat) (x : α ⊕ List Value) (cs : List Value) : Prop := x = .inr cs ∧ cs.length = sz ∧ ∀ u ∈ cs, u.oneCell' = true
theorem alt_rows {α : Type} {d : Kd α} {w : World} {A : Option Addr} {n : Nat} {xs : List α} (h : d.C w A n xs) :
  ∃ ys : List (List Value), ys.length = n ∧ ReadsRow (altC (α := α) d.sz) d.sz w A n (ys.map .inr) ∧ ∀ (j : Nat) (x : α), xs[j]? = some x → ∃ cs, ys[j]? = some cs ∧ d.K w x cs := by
 classical
 obtain ⟨hl, hm, hn⟩ := h
 have key : ∀ j, ∃ c : List Value, ∀ p, xs[j]? = some p → ∃ ad, A = some ad ∧ c.length = d.sz ∧ d.K w p c ∧ ∀ i u, c[i]? = some u → w.cell? (ad.add (j * d.sz + i)) = some u := by
  intro j
  cases hx : xs[j]? with
  | none => exact ⟨[], fun p hp => by cases hp⟩
  | some p =>
   obtain ⟨ad, e, hc⟩ := hn (by have := (List.getElem?_eq_some_iff.1 hx).1; omega)
   obtain ⟨c, h1, h2, h3⟩ := hc j p hx
   exact ⟨c, fun q hq => by injection hq with hq; subst hq; exact ⟨ad, e, h1, h2, h3⟩⟩
 let f : Nat → List Value := fun j => Classical.choose (key j)
 have hf : ∀ j p, xs[j]? = some p → ∃ ad, A = some ad ∧ (f j).length = d.sz ∧ d.K w p (f j) ∧ ∀ i u, (f j)[i]? = some u → w.cell? (ad.add (j * d.sz + i)) = some u := fun j p hp => Classical.choose_spec (key j) p hp
 refine ⟨(List.range n).map f, by simp, ⟨by simp, hm, fun hp => ?_⟩, fun j x hx => ?_⟩
 ·
  obtain ⟨ad, e, _⟩ := hn hp
  refine ⟨ad, e, fun j p hj => ?_⟩
  simp only [List.map_map, List.getElem?_map] at hj
  have hjn : j < n := by
   rcases Nat.lt_or_ge j n with h | h
   ·
    exact h
   ·
    rw [List.getElem?_eq_none (by simpa using h)] at hj; cases hj
  rw [List.getElem?_range hjn] at hj
  injection hj with hj
  subst hj
  obtain ⟨ad', e', h1, h2, h3⟩ := hf j xs[j] (List.getElem?_eq_getElem (by omega))
  rw [e] at e'
  injection e' with e'
  subst e'
  exact ⟨f j, h1, ⟨rfl, h1, d.K_one h2⟩, h3⟩
 ·
  have hjn : j < n := by have := (List.getElem?_eq_some_iff.1 hx).1; omega
  obtain ⟨ad, _, _, h2, _⟩ := hf j x hx
  exact ⟨f j, by rw [List.getElem?_map, List.getElem?_range hjn]; rfl, h2⟩
theorem C_none {α : Type} {d : Kd α} {w : World} {xs : List α} (h : d.C w none xs.length xs) : xs = [] := by
 cases xs with
 | nil => rfl
 | cons x xs => obtain ⟨_, e, _⟩ := h.2.2 (by simp); cases e
theorem R_fresh {α : Type} (d : Kd α) (e : Nat) (w : World) (base : Nat) (hb : base ≤ w.heap.size) : d.R e (w.alloc (.cells #[] e)) base (fun _ => True) (.slice (some ⟨w.heap.size, 0, none⟩) 0 0) [] := by
 refine ⟨fun _ _ => trivial, [], ⟨by simp, .inr ⟨w.heap.size, 0, #[], rfl, hb, heap_alloc_new _ _, by simp, by decide, by simp, by simp⟩⟩, ?_⟩
 exact ⟨by simp, fun j p hj => by simp at hj⟩
set_option maxHeartbeats 1000000 in
set_option maxRecDepth 100000 in
theorem cloneU8_calls (A : Option Addr) (c : Nat) (l : List Int) (w : World) (hr : Kd.C (Kd.int .u8) w A l.length l) (hl : l.length ≤ 1048576) :
  Calls Try.prog 74 #[.slice A l.length c] w fun e w' => ∃ v, e = .returned v ∧ Kd.R (Kd.int .u8) 5 w' w.heap.size (fun _ => True) v l ∧ Below w.heap.size w w' := by
 have HB := amZ (Below.refl w.heap.size w)
 cases A with
 | none =>
  obtain rfl := C_none hr
  clear hr hl
  have kc := fun A_ l_ c_ => run_eql_slice_nil (P := Try.prog) w 35 5 A_ l_ c_ Try.underlying35
  go_enter Try.func74, Try.ntmps74
  go_wp2
  go_ret
  exact ⟨_, rfl, Kd.R_nil _ _ _ _ _, HB.out⟩
 | some ad =>
  have HW := amZ ((Below.refl w.heap.size w).alloc (Nat.le_refl _) (.cells #[] 5))
  have HR := amZ (Kd.C_below hr HW.out)
  have HN := amZ (R_fresh (Kd.int .u8) 5 w w.heap.size (Nat.le_refl _))
  have HL := amZ hl
  clear hr hl
  have kc := fun A_ l_ c_ => run_eql_slice_nil (P := Try.prog) w 35 5 A_ l_ c_ Try.underlying35
  go_enter Try.func74, Try.ntmps74
  go_wp2_with (at_builtin; refine Kd.R_append_rows (Kd.int .u8) (w0 := w) w.heap.size rfl (.tmp 5) (.tmp 6) 35 5 (.int .u8 0) 1 rfl Try.underlying35 info5 rfl (by decide) (by omega) (.slice (some ⟨w.heap.size, 0, none⟩) 0 0) [] l _ _ _ (fun _ => True) (fun _ => False) rfl rfl HN.out HR.out (fun _ _ h => h) (fun _ h => h.elim) (fun _ _ => trivial) HW.out (by simp) (by have := HL.out; simp; omega) ?_; intro v1 w1 ho hb hg hat; have HO := amZ ho; have HB1 := amZ hb; clear ho hb hg hat)
  go_ret
  exact ⟨_, rfl, by simpa using HO.out, HB1.out⟩
set_option maxHeartbeats 1000000 in
set_option maxRecDepth 100000 in
theorem cloneCap_calls (A : Option Addr) (c : Nat) (l : List S54) (w : World) (hr : Kd.C k54 w A l.length l) (hl : l.length ≤ 1048576) :
  Calls Try.prog 75 #[.slice A l.length c] w fun e w' => ∃ v, e = .returned v ∧ Kd.R k54 54 w' w.heap.size (fun _ => True) v l ∧ Below w.heap.size w w' := by
 have HB := amZ (Below.refl w.heap.size w)
 cases A with
 | none =>
  obtain rfl := C_none hr
  clear hr hl
  have kc := fun A_ l_ c_ => run_eql_slice_nil (P := Try.prog) w 49 54 A_ l_ c_ Try.underlying49
  go_enter Try.func75, Try.ntmps75
  go_wp2
  go_ret
  exact ⟨_, rfl, Kd.R_nil _ _ _ _ _, HB.out⟩
 | some ad =>
  have HW := amZ ((Below.refl w.heap.size w).alloc (Nat.le_refl _) (.cells #[] 54))
  have HR := amZ (Kd.C_below hr HW.out)
  have HN := amZ (R_fresh k54 54 w w.heap.size (Nat.le_refl _))
  have HL := amZ hl
  clear hr hl
  have kc := fun A_ l_ c_ => run_eql_slice_nil (P := Try.prog) w 49 54 A_ l_ c_ Try.underlying49
  go_enter Try.func75, Try.ntmps75
  go_wp2_with (at_builtin; refine Kd.R_append_rows k54 (w0 := w) w.heap.size rfl (.tmp 5) (.tmp 6) 49 54 (.agg #[.bool false, .int .i64 0]) 16 rfl Try.underlying49 info54 rfl (by decide) (by omega) (.slice (some ⟨w.heap.size, 0, none⟩) 0 0) [] l _ _ _ (fun _ => True) (fun _ => False) rfl rfl HN.out HR.out (fun _ _ h => h) (fun _ h => h.elim) (fun _ _ => trivial) HW.out (by simp) (by have := HL.out; simp; omega) ?_; intro v1 w1 ho hb hg hat; have HO := amZ ho; have HB1 := amZ hb; clear ho hb hg hat)
  go_ret
  exact ⟨_, rfl, by simpa using HO.out, HB1.out⟩
set_option maxHeartbeats 1000000 in
set_option maxRecDepth 100000 in
theorem cloneIns_calls (A : Option Addr) (c : Nat) (l : List S57) (w : World) (hr : Kd.C k57 w A l.length l) (hl : l.length ≤ 1048576) :
  Calls Try.prog 76 #[.slice A l.length c] w fun e w' => ∃ v, e = .returned v ∧ Kd.R k57 57 w' w.heap.size (fun _ => True) v l ∧ Below w.heap.size w w' := by
 have HB := amZ (Below.refl w.heap.size w)
 cases A with
 | none =>
  obtain rfl := C_none hr
  clear hr hl
  have kc := fun A_ l_ c_ => run_eql_slice_nil (P := Try.prog) w 50 57 A_ l_ c_ Try.underlying50
  go_enter Try.func76, Try.ntmps76
  go_wp2
  go_ret
  exact ⟨_, rfl, Kd.R_nil _ _ _ _ _, HB.out⟩
 | some ad =>
  have HW := amZ ((Below.refl w.heap.size w).alloc (Nat.le_refl _) (.cells #[] 57))
  have HR := amZ (Kd.C_below hr HW.out)
  have HN := amZ (R_fresh k57 57 w w.heap.size (Nat.le_refl _))
  have HL := amZ hl
  clear hr hl
  have kc := fun A_ l_ c_ => run_eql_slice_nil (P := Try.prog) w 50 57 A_ l_ c_ Try.underlying50
  go_enter Try.func76, Try.ntmps76
  go_wp2_with (at_builtin; refine Kd.R_append_rows k57 (w0 := w) w.heap.size rfl (.tmp 5) (.tmp 6) 50 57 (.agg #[.int .i64 0, .int .i64 0, .int .i64 0]) 24 rfl Try.underlying50 info57 rfl (by decide) (by omega) (.slice (some ⟨w.heap.size, 0, none⟩) 0 0) [] l _ _ _ (fun _ => True) (fun _ => False) rfl rfl HN.out HR.out (fun _ _ h => h) (fun _ h => h.elim) (fun _ _ => trivial) HW.out (by simp) (by have := HL.out; simp; omega) ?_; intro v1 w1 ho hb hg hat; have HO := amZ ho; have HB1 := amZ hb; clear ho hb hg hat)
  go_ret
  exact ⟨_, rfl, by simpa using HO.out, HB1.out⟩
set_option maxHeartbeats 1000000 in
set_option maxRecDepth 100000 in
theorem cloneConst_calls (A : Option Addr) (c : Nat) (l : List S48) (w0 w : World) (hr : Kd.C k48 w0 A l.length l) (hb0 : Below w0.heap.size w0 w) (hl : l.length ≤ 1048576) :
  Calls Try.prog 72 #[.slice A l.length c] w fun e w' => ∃ v, e = .returned v ∧ (∃ ys : List (List Value), ys.length = l.length ∧ Kd.R (alt k48) 48 w' w.heap.size (fun _ => True) v (ys.map .inr) ∧ ∀ (j : Nat) (x : S48), l[j]? = some x → ∃ cs, ys[j]? = some cs ∧ k48.K w0 x cs) ∧ Below w.heap.size w w' := by
 have HB := amZ (Below.refl w.heap.size w)
 cases A with
 | none =>
  obtain rfl := C_none hr
  clear hr hl hb0
  have kc := fun A_ l_ c_ => run_eql_slice_nil (P := Try.prog) w 28 48 A_ l_ c_ Try.underlying28
  go_enter Try.func72, Try.ntmps72
  go_wp2
  go_ret
  exact ⟨_, rfl, ⟨[], rfl, Kd.R_nil _ _ _ _ _, fun j x h => by simp at h⟩, HB.out⟩
 | some ad =>
  have HW := amZ ((Below.refl w.heap.size w).alloc (Nat.le_refl _) (.cells #[] 48))
  obtain ⟨ys, hy, hrow, hK⟩ := alt_rows hr
  have HR : Aside0 (ReadsRow (altC (α := S48) (alt k48).sz) (alt k48).sz (w.alloc (.cells #[] 48)) (some ad) l.length (ys.map .inr)) := ⟨ReadsRow.imp_ hrow (zfY hb0 HW.out) (fun _ _ h => h)⟩
  have HN := amZ (R_fresh (alt k48) 48 w w.heap.size (Nat.le_refl _))
  have HL := amZ hl
  have HY := amZ hy
  have HK := amZ hK
  clear hr hl hb0 hy hrow hK
  have kc := fun A_ l_ c_ => run_eql_slice_nil (P := Try.prog) w 28 48 A_ l_ c_ Try.underlying28
  go_enter Try.func72, Try.ntmps72
  go_wp2_with (at_builtin; refine Kd.R_append_rows (alt k48) (w0 := w) w.heap.size rfl (.tmp 5) (.tmp 6) 28 48 (.agg #[.bool false, .int .i64 0, .slice none 0 0]) 40 rfl Try.underlying28 info48 rfl (by decide) (by omega) (.slice (some ⟨w.heap.size, 0, none⟩) 0 0) [] (ys.map .inr) _ _ _ (fun _ => True) (fun _ => False) rfl rfl HN.out HR.out (fun _ _ h => by obtain ⟨rfl, h2, h3⟩ := h; exact ⟨rfl, h2, h3⟩) (fun _ h => h.elim) (fun _ _ => trivial) HW.out (by simp) (by have := HL.out; simp; omega) ?_; intro v1 w1 ho hb hg hat; have HO := amZ ho; have HB1 := amZ hb; clear ho hb hg hat)
  go_ret
  exact ⟨_, rfl, ⟨ys, HY.out, by simpa using HO.out, HK.out⟩, HB1.out⟩
set_option maxHeartbeats 1000000 in
set_option maxRecDepth 100000 in
theorem cloneProto_calls (A : Option Addr) (c : Nat) (l : List S52) (w0 w : World) (hr : Kd.C k52 w0 A l.length l) (hb0 : Below w0.heap.size w0 w) (hl : l.length ≤ 1048576) :
  Calls Try.prog 73 #[.slice A l.length c] w fun e w' => ∃ v, e = .returned v ∧ (∃ ys : List (List Value), ys.length = l.length ∧ Kd.R (alt k52) 52 w' w.heap.size (fun _ => True) v (ys.map .inr) ∧ ∀ (j : Nat) (x : S52), l[j]? = some x → ∃ cs, ys[j]? = some cs ∧ k52.K w0 x cs) ∧ Below w.heap.size w w' := by
 have HB := amZ (Below.refl w.heap.size w)
 cases A with
 | none =>
  obtain rfl := C_none hr
  clear hr hl hb0
  have kc := fun A_ l_ c_ => run_eql_slice_nil (P := Try.prog) w 29 52 A_ l_ c_ Try.underlying29
  go_enter Try.func73, Try.ntmps73
  go_wp2
  go_ret
  exact ⟨_, rfl, ⟨[], rfl, Kd.R_nil _ _ _ _ _, fun j x h => by simp at h⟩, HB.out⟩
 | some ad =>
  have HW := amZ ((Below.refl w.heap.size w).alloc (Nat.le_refl _) (.cells #[] 52))
  obtain ⟨ys, hy, hrow, hK⟩ := alt_rows hr
  have HR : Aside0 (ReadsRow (altC (α := S52) (alt k52).sz) (alt k52).sz (w.alloc (.cells #[] 52)) (some ad) l.length (ys.map .inr)) := ⟨ReadsRow.imp_ hrow (zfY hb0 HW.out) (fun _ _ h => h)⟩
  have HN := amZ (R_fresh (alt k52) 52 w w.heap.size (Nat.le_refl _))
  have HL := amZ hl
  have HY := amZ hy
  have HK := amZ hK
  clear hr hl hb0 hy hrow hK
  have kc := fun A_ l_ c_ => run_eql_slice_nil (P := Try.prog) w 29 52 A_ l_ c_ Try.underlying29
  go_enter Try.func73, Try.ntmps73
  go_wp2_with (at_builtin; refine Kd.R_append_rows (alt k52) (w0 := w) w.heap.size rfl (.tmp 5) (.tmp 6) 29 52 (.agg #[.int .i64 0, .int .i64 0, .slice none 0 0, .slice none 0 0]) 64 rfl Try.underlying29 info52 rfl (by decide) (by omega) (.slice (some ⟨w.heap.size, 0, none⟩) 0 0) [] (ys.map .inr) _ _ _ (fun _ => True) (fun _ => False) rfl rfl HN.out HR.out (fun _ _ h => by obtain ⟨rfl, h2, h3⟩ := h; exact ⟨rfl, h2, h3⟩) (fun _ h => h.elim) (fun _ _ => trivial) HW.out (by simp) (by have := HL.out; simp; omega) ?_; intro v1 w1 ho hb hg hat; have HO := amZ ho; have HB1 := amZ hb; clear ho hb hg hat)
  go_ret
  exact ⟨_, rfl, ⟨ys, HY.out, by simpa using HO.out, HK.out⟩, HB1.out⟩
def goTo (code : List S57) : Nat → Int → Option Int
 | 0, _ => none
 | k + 1, x => if (rd_T57 code x).f0 = 18 then goTo code k (rd_T57 code x).f1 else some x
def lastL (code : List S57) (t : Int) : Int := (goTo code (code.length + 1) t).getD t
def unv (n : Nat) (seen : List Int) : Nat := (List.range n).countP fun (i : Nat) => !seen.contains (i : Int)
theorem unv_cons {n : Nat} {seen : List Int} {x : Int} (h0 : 0 ≤ x) (h1 : x < n) (h : x ∉ seen) : unv n (x :: seen) + 1 ≤ unv n seen := by
 refine countP_lt (j := x.toNat) (fun i _ hi => ?_) (by simp; omega) ?_ ?_
 ·
  simp at hi ⊢; exact hi.2
 ·
  simp; rw [Int.max_eq_left h0]; exact h
 ·
  simp; rw [Int.max_eq_left h0]; intro e; exact absurd rfl e
structure Pth (code : List S57) (t : Int) (seen : List Int) (x : Int) : Prop where
 r0 : 0 ≤ x
 r1 : x < code.length
 sr : ∀ y ∈ seen, (rd_T57 code y).f0 = 18 ∧ ((rd_T57 code y).f1 ∈ seen ∨ (rd_T57 code y).f1 = x)
 eq : goTo code (code.length + 1) t = goTo code (code.length + 1 - seen.length) x
 tm : t ∈ seen ∨ t = x
 ln : unv code.length seen + seen.length ≤ code.length
theorem Pth.start {code : List S57} {t : Int} (h0 : 0 ≤ t) (h1 : t < code.length) : Pth code t [] t :=
 ⟨h0, h1, fun _ h => by simp at h, rfl, .inr rfl, by have := List.countP_le_length (p := fun (i : Nat) => !([] : List Int).contains (i : Int)) (l := List.range code.length); simp [unv] at this ⊢⟩
theorem Pth.step {code : List S57} {t x : Int} {seen : List Int} (h : Pth code t seen x) (hn : x ∉ seen) (hj : (rd_T57 code x).f0 = 18) (hg : 0 ≤ (rd_T57 code x).f1 ∧ (rd_T57 code x).f1 < code.length) : Pth code t (x :: seen) (rd_T57 code x).f1 := by
 have hu := unv_cons h.r0 h.r1 hn
 have hl := h.ln
 refine ⟨hg.1, hg.2, fun y hy => ?_, ?_, ?_, by simp; omega⟩
 ·
  rcases List.mem_cons.1 hy with rfl | hy
  ·
   exact ⟨hj, .inr rfl⟩
  ·
   obtain ⟨a, b⟩ := h.sr y hy
   exact ⟨a, .inl (by rcases b with b | b; exact List.mem_cons_of_mem _ b; rw [b]; simp)⟩
 ·
  rw [h.eq, show code.length + 1 - seen.length = (code.length + 1 - (x :: seen).length) + 1 by simp; omega, goTo, if_pos hj]
 ·
  rcases h.tm with a | a
  ·
   exact .inl (List.mem_cons_of_mem _ a)
  ·
   exact .inl (by rw [a]; simp)
theorem Pth.out {code : List S57} {t x : Int} {seen : List Int} (h : Pth code t seen x) (hj : (rd_T57 code x).f0 ≠ 18) : lastL code t = x := by
 have hl := h.ln
 unfold lastL
 rw [h.eq, show code.length + 1 - seen.length = (code.length - seen.length) + 1 by omega, goTo, if_neg hj]
 rfl
theorem Pth.ring {code : List S57} {t x : Int} {seen : List Int} (h : Pth code t seen x) (hx : x ∈ seen) : lastL code t = t := by
 have key : ∀ k, ∀ y ∈ seen, goTo code k y = none := by
  intro k
  induction k with
  | zero => intro y _; rfl
  | succ k ih =>
   intro y hy
   obtain ⟨a, b⟩ := h.sr y hy
   rw [goTo, if_pos a]
   rcases b with b | b
   ·
    exact ih _ b
   ·
    rw [b]; exact ih _ hx
 unfold lastL
 rw [key _ t (by rcases h.tm with a | a; exact a; rw [a]; exact hx)]
 rfl
open Go.Maps (Keyed IsMap) in
structure BeenD (seen : List Int) (D : DataW Unit) : Prop where
 map : IsMap D
 atk : ∀ k, (Lit.int .i64 k).wf = true → D.atKey (.int .i64 k) (.lit (.bool false)) = .lit (.bool (seen.contains k))
def BeenIs (W : World) (bm : Nat) (seen : List Int) : Prop := ∃ D : DataW Unit, BeenD seen D ∧ W.ownsMap Try.prog 3 (plainElem Try.prog 4) bm seen.length D
theorem BeenD.nil : BeenD [] (.map []) := ⟨⟨_, rfl⟩, fun _ _ => rfl⟩
theorem BeenD.cons {seen : List Int} {D : DataW Unit} (h : BeenD seen D) (k : Int) (hk : (Lit.int .i64 k).wf = true) : BeenD (k :: seen) (D.put (.int .i64 k) (.lit (.bool true))) := by
 refine ⟨?_, ?_⟩
 ·
  obtain ⟨es, he⟩ := h.map
  exact ⟨_, by rw [he]; rfl⟩
 ·
  intro j hj
  by_cases e : j = k
  ·
   subst e
   rw [Go.Maps.atKey_put_same h.map (by trivial)]
   simp
  ·
   rw [Go.Maps.atKey_put_other (by simpa using e), h.atk j hj]
   simp [e]
theorem BeenIs.lt {W : World} {bm : Nat} {seen : List Int} (h : BeenIs W bm seen) : bm < W.heap.size := by
 obtain ⟨_, _, h⟩ := h
 exact h.lt
theorem BeenIs.below {W W1 : World} {bm : Nat} {seen : List Int} (h : BeenIs W bm seen) (hb : Below W.heap.size W W1) : BeenIs W1 bm seen := by
 have hl := h.lt
 obtain ⟨D, hD, es, clock, hc, r⟩ := h
 exact ⟨D, hD, es, clock, (hb.block _ hl).trans hc, r⟩
theorem BeenIs.made (W : World) : BeenIs (W.alloc (.map #[] 0)) W.heap.size [] := ⟨.map [], BeenD.nil, World.ownsMap_made _ _ _ _⟩
theorem zero4 (w : World) : (zeroValue 4).run Try.prog w = .ok (.bool false) w := by kernel_rfl
theorem plainElem_bool_inv {P : Program} {e : TypeId} (he : P.underlying e = some .bool) {v : Value} {z : DataW Unit × List MemPlace} (h : plainElem P e v = some z) : ∃ b, v = .bool b ∧ z = (.lit (.bool b), []) := by
 unfold plainElem at h
 rw [he] at h
 cases v <;> simp at h
 exact ⟨_, rfl, h.symm⟩
theorem wpList_been {W : World} {ops : Array Oper} {rest : List Oper} {o : Oper} {a : Act} {Q : Exit → Act → World → Prop} (hg : o.guard = none) (m x : Operand) (hop : o.op = Op.lookup 134 m x false) (bm : Nat) (hm : a.eval m = .map (some bm))
  (k : Int) (hx : a.eval x = .int .i64 k) (hk : (Lit.int .i64 k).wf = true) (seen : List Int) (hs : BeenIs W bm seen) (r : Bool) (hr : seen.contains k = r)
  (hK : wpList Try.prog ops Q rest (a.put o.dst (.bool r)) W) : wpList Try.prog ops Q (o :: rest) a W := by
 obtain ⟨D, hD, hown⟩ := hs
 refine wpList_plain hg fun K' hK' => ?_
 obtain ⟨v, ps, hrun, hv⟩ := hown.lookup keyed3 Try.underlying134 (zero4 W) (plainElem_bool Try.underlying4 false) (Go.Maps.keyOf_int_mk Try.underlying3 hk)
 rw [hD.atk k hk, hr] at hv
 obtain ⟨b, rfl, hb⟩ := plainElem_bool_inv Try.underlying4 hv
 injection hb with hb _
 injection hb with hb
 injection hb with hb
 subst hb
 unfold Oper.wp
 simp [execOp, hop, hm, hx, hrun, Result.andThen]
 exact hK' _ _ hK
theorem wpList_been_put {W : World} {ops : Array Oper} {rest : List Oper} {o : Oper} {a : Act} {Q : Exit → Act → World → Prop} (hg : o.guard = none) (hd : o.dst = none) (m x v : Operand) (hop : o.op = Op.mapUpdate 134 m x v) (bm : Nat) (hm : a.eval m = .map (some bm))
  (k : Int) (hx : a.eval x = .int .i64 k) (hv : a.eval v = .bool true) (hk : (Lit.int .i64 k).wf = true) (seen : List Int) (hs : BeenIs W bm seen) (hl : seen.length < maxLen)
  (hK : ∀ W1, BeenIs W1 bm (k :: seen) → W.grownBy W1 (some bm) → wpList Try.prog ops Q rest a W1) : wpList Try.prog ops Q (o :: rest) a W := by
 obtain ⟨D, hD, hown⟩ := hs
 refine Go.wpList_mapUpdate_own W hg m x v 134 hop 3 4 keyed3 Try.underlying134 (plainElem Try.prog 4) bm _ D hm hown hl _ _ _ hx hv (Go.Maps.keyOf_int_mk Try.underlying3 hk) (.lit (.bool true)) [] (plainElem_bool Try.underlying4 true) ?_
 intro W1 h1 h2
 rw [hd]
 exact hK W1 ⟨_, hD.cons k hk, h1⟩ h2
set_option maxHeartbeats 4000000 in
set_option maxRecDepth 100000 in
theorem lastTarget_calls (A : Option Addr) (c : Nat) (code : List S57) (t : Int) (w : World) (hr : Kd.C k57 w A code.length code) (hl : code.length ≤ 1000000)
  (hg : ∀ x ∈ code, x.f0 = 18 → 0 ≤ x.f1 ∧ x.f1 < code.length) (h0 : 0 ≤ t) (h1 : t < code.length) :
  Calls Try.prog 47 #[.slice A code.length c, .int .i64 t] w fun e w' => e = .returned (.int .i64 (lastL code t)) ∧ Below w.heap.size w w' := by
 have HB := amZ ((Below.refl w.heap.size w).alloc (Nat.le_refl _) (.map #[] 0))
 have HM := amZ (BeenIs.made w)
 have HR := amZ hr
 have HL := amZ hl
 have HG := amZ hg
 have HP := amZ (Pth.start h0 h1)
 have hmm := @run_makeMap Try.prog
 obtain ⟨bm, hbm⟩ : ∃ b, b = w.heap.size := ⟨_, rfl⟩
 have HBM := amZ hbm
 rw [← hbm] at HM
 clear hr hl hg h0 h1
 go_enter Try.func47, Try.ntmps47
 go_wp2_with fail
 rw [← hbm]
 clear hmm hbm
 go_loopg [6] (code.length + 1) (fun g v6 wr => ∃ (seen : List Int) (x : Int), v6 = .int .i64 x ∧ Aside0 (g + seen.length = code.length + 1) ∧ Aside0 (Pth code t seen x) ∧ Aside0 (BeenIs wr bm seen) ∧ Aside0 (Below w.heap.size w wr))
 case atStart => exact ⟨[], t, rfl, ⟨rfl⟩, HP, HM, HB⟩
 case round =>
  obtain ⟨seen, x, rfl, hgl, hP, hM, hB⟩ := hrel
  clear HP HM HB
  have hp0 := hP.out.r0
  have hp1 := hP.out.r1
  obtain ⟨ad, e, hx0, hx1, hx2⟩ := at_T57 (Kd.C_below HR.out hB.out) x hp0 hp1
  have hin := List.getElem_mem (l := code) (n := x.toNat) (by omega)
  have hrd : rd_T57 code x = code[x.toNat] := by have := getD_nat code z57 x.toNat (by omega); rw [Int.toNat_natCast] at this; exact this
  have hgx := HG.out _ hin
  rw [← hrd] at hgx
  subst e
  have HGX := amZ hgx
  have WF : Aside0 ((Lit.int .i64 x).wf = true) := ⟨wf64 hp0 (by have := HL.out; omega)⟩
  have d0 : decide (0 ≤ x) = true := decide_eq_true hp0
  have d1 : decide (x < (code.length : Int)) = true := decide_eq_true hp1
  clear hin hrd hgx
  by_cases hj : (rd_T57 code x).f0 = 18
  ·
   rw [hj] at hx0
   by_cases hs : x ∈ seen
   ·
    have HS : Aside0 (seen.contains x = true) := ⟨by simpa using hs⟩
    have HO := amZ (hP.out.ring hs)
    clear hs hj
    go_wp2_with (at_lookup; refine wpList_been rfl _ _ rfl bm rfl x rfl WF.out seen hM.out true HS.out ?_)
    go_ret
    exact ⟨ret_i64 HO.out.symm, hB.out⟩
   ·
    have HS : Aside0 (seen.contains x = false) := ⟨by simpa using hs⟩
    have HO := amZ (hP.out.step hs hj (HGX.out hj))
    have HLS : Aside0 (seen.length < maxLen) := ⟨by have := hP.out.ln; have := HL.out; simp only [maxLen]; omega⟩
    clear hs hj
    go_wp2_with (first | (at_lookup; refine wpList_been rfl _ _ rfl bm rfl x rfl WF.out seen hM.out false HS.out ?_) | (at_mapUpdate; go_loud (refine wpList_been_put rfl rfl _ _ _ rfl bm rfl x rfl rfl WF.out seen hM.out HLS.out ?_; intro W1 hs1 hg1; have HM1 := amZ hs1; have HB1 := amZ (hB.out.grown hg1 hB.out.size (fun k hk => by injection hk with hk; rw [← hk, HBM.out]; exact Nat.le_refl _)); clear hs1 hg1 hx0 hx1 hx2; have hy := at_T57 (Kd.C_below HR.out HB1.out) x hp0 hp1; obtain ⟨ad', e', hx0, hx1, hx2⟩ := hy; injection e' with e'; subst e')))
    go_roundg (code.length - seen.length)
    case measure => have := hgl.out; have := hP.out.ln; omega
    case rel => exact ⟨x :: seen, _, rfl, ⟨by have := hP.out.ln; have := HO.out.ln; simp at *; omega⟩, HO, HM1, HB1⟩
  ·
   have dj : ((rd_T57 code x).f0 == 18) = false := by simpa using hj
   have HO := amZ (hP.out.out hj)
   replace hj := eq_false hj
   go_wp2_with fail
   go_ret
   exact ⟨ret_i64 HO.out.symm, hB.out⟩
theorem S_of_raws {α : Type} {d : Kd α} {e : Nat} {w : World} {base : Nat} {ok : Nat → Prop} {v : Value} {ys : List (List Value)} (h : (alt d).R e w base ok v (ys.map .inr)) : Kd.S (alt d) e w base ok v (ys.map .inr) := by
 obtain ⟨h0, inner, ho, hr⟩ := h
 refine ⟨fun _ => 0, h0, inner, by rw [List.length_zipIdx]; exact ho, by rw [List.length_zipIdx]; exact hr.1, fun j p hj => ?_⟩
 rw [List.getElem?_zipIdx] at hj
 obtain ⟨x, hx, rfl⟩ := Option.map_eq_some_iff.1 hj
 have hm := hr.2 j x hx
 rw [List.getElem?_map] at hx
 obtain ⟨y, _, rfl⟩ := Option.map_eq_some_iff.1 hx
 exact hm
theorem S_of_alts {α : Type} {d : Kd α} {e : Nat} {w : World} {base : Nat} {ok : Nat → Prop} {v : Value} {xs : List α} (h : Kd.S (alt d) e w base ok v (xs.map .inl)) : Kd.S d e w base ok v xs := by
 obtain ⟨f, h0, inner, ho, hr⟩ := h
 refine ⟨f, h0, inner, by rw [List.length_zipIdx, List.length_map] at ho; rw [List.length_zipIdx]; exact ho, by have := hr.1; rw [List.length_zipIdx, List.length_map] at this; rw [List.length_zipIdx]; exact this, fun j p hj => ?_⟩
 rw [List.getElem?_zipIdx] at hj
 obtain ⟨x, hx, rfl⟩ := Option.map_eq_some_iff.1 hj
 exact hr.2 j (.inl x, 0 + j) (by rw [List.getElem?_zipIdx, List.getElem?_map, hx]; rfl)
theorem mid_getD {γ : Type} (u v : List γ) (i : Nat) (x d : γ) (hu : u.length = i) : (u ++ x :: v).getD i d = x := by
 subst hu; simp [List.getD_eq_getElem?_getD]
theorem mid_set {γ : Type} (u v : List γ) (i : Nat) (x y : γ) (hu : u.length = i) : (u ++ x :: v).set i y = (u ++ [y]) ++ v := by
 subst hu; simp
structure ClW (w : World) (b3 : Nat) (v0 v1 : Value) (l0 : List (S48 ⊕ List Value)) (l1 : List (S52 ⊕ List Value)) (W : World) : Prop where
 b : Below w.heap.size w W
 p : W.heap[w.heap.size + 1]? = some (.cells #[.slice none 0 0, .slice none 0 0] 31 (0, 0))
 o : W.heap[b3]? = some (.cells #[v0, v1] 31 (0, 0))
 ob : w.heap.size + 1 < b3
 s0 : Kd.S (alt k48) 48 W w.heap.size (fun _ => True) v0 l0
 s1 : Kd.S (alt k52) 52 W w.heap.size (fun _ => True) v1 l1
section
variable {w : World} {b3 : Nat} {v0 v1 : Value} {l0 l0' : List (S48 ⊕ List Value)} {l1 l1' : List (S52 ⊕ List Value)} {W W1 : World}
theorem ClW.below (h : ClW w b3 v0 v1 l0 l1 W) (hb : Below W.heap.size W W1) : ClW w b3 v0 v1 l0 l1 W1 :=
 ⟨zfY h.b hb, (hb.block _ (zkY h.p)).trans h.p, (hb.block _ (zkY h.o)).trans h.o, h.ob, Kd.S_below h.s0 hb, Kd.S_below h.s1 hb⟩
theorem blk_ne {W : World} {a b : Nat} {c d : Array Value} {s t : TypeId} (ha : W.heap[a]? = some (.cells c s (0, 0))) (hb : W.heap[b]? = some (.cells d t (0, 0))) (h : s ≠ t) : a ≠ b := by
 rintro rfl
 rw [ha] at hb
 injection hb with hb
 injection hb with _ hb
 exact h hb
theorem ClW.made1 (b : Below w.heap.size w W) (p : W.heap[w.heap.size + 1]? = some (.cells #[.slice none 0 0, .slice none 0 0] 31 (0, 0))) (s0 : Kd.S (alt k48) 48 W w.heap.size (fun _ => True) v0 l0) (s1 : Kd.S (alt k52) 52 W w.heap.size (fun _ => True) v1 l1) :
  ClW w W.heap.size v0 v1 l0 l1 (W.alloc (.cells #[v0, v1] 31)) :=
 ⟨znY b _, by rw [heap_alloc_old _ _ (zkY p)]; exact p, heap_alloc_new _ _, zkY p, Kd.S_alloc s0 _, Kd.S_alloc s1 _⟩
theorem ClW.made2 (b : Below w.heap.size w W) (p : W.heap[w.heap.size + 1]? = some (.cells #[.slice none 0 0, .slice none 0 0] 31 (0, 0))) (s0 : Kd.S (alt k48) 48 W w.heap.size (fun _ => True) v0 l0) (s1 : Kd.S (alt k52) 52 W w.heap.size (fun _ => True) v1 l1)
  (o : W.heap[b3]? = some (.cells #[.slice none 0 0, .slice none 0 0] 31 (0, 0))) (ob : w.heap.size + 1 < b3) : ClW w b3 v0 v1 l0 l1 ((W.setCell ⟨b3, 0, none⟩ v0).setCell ⟨b3, 1, none⟩ v1) := by
 have o1 := heap_setCell_same W b3 0 _ 31 v0 o
 have o2 := heap_setCell_same _ b3 1 _ 31 v1 o1
 exact ⟨below_set (below_set b (by omega)) (by omega), zjY (zjY p (by show w.heap.size + 1 ≠ b3; omega) v0) (by show w.heap.size + 1 ≠ b3; omega) v1, o2, ob, Kd.S_set (Kd.S_set s0 o (by decide) 0 v0) o1 (by decide) 1 v1, Kd.S_set (Kd.S_set s1 o (by decide) 0 v0) o1 (by decide) 1 v1⟩
theorem ClW.set0 {g n cap : Nat} (h : ClW w b3 (.slice (some ⟨g, 0, none⟩) n cap) v1 l0 l1 W) (j : Nat) (u : Value) (hs : Kd.S (alt k48) 48 (W.setCell ⟨g, j, none⟩ u) w.heap.size (fun _ => True) (.slice (some ⟨g, 0, none⟩) n cap) l0') : ClW w b3 (.slice (some ⟨g, 0, none⟩) n cap) v1 l0' l1 (W.setCell ⟨g, j, none⟩ u) := by
 obtain ⟨c, hc⟩ := Kd.S_typed h.s0 g rfl
 exact ⟨below_set h.b (Kd.S_base h.s0 g rfl), zjY h.p (blk_ne h.p hc (by decide)) u, zjY h.o (blk_ne h.o hc (by decide)) u, h.ob, hs, Kd.S_set h.s1 hc (by decide) j u⟩
theorem ClW.set1b {g n cap : Nat} (h : ClW w b3 v0 (.slice (some ⟨g, 0, none⟩) n cap) l0 l1 W) (j k : Nat) (u u' : Value) (hs : Kd.S (alt k52) 52 ((W.setCell ⟨g, j, none⟩ u).setCell ⟨g, k, none⟩ u') w.heap.size (fun _ => True) (.slice (some ⟨g, 0, none⟩) n cap) l1') : ClW w b3 v0 (.slice (some ⟨g, 0, none⟩) n cap) l0 l1' ((W.setCell ⟨g, j, none⟩ u).setCell ⟨g, k, none⟩ u') := by
 obtain ⟨c, hc⟩ := Kd.S_typed h.s1 g rfl
 have hb := Kd.S_base h.s1 g rfl
 have h1 := blk_ne h.p hc (by decide)
 have h2 := blk_ne h.o hc (by decide)
 exact ⟨below_set (below_set h.b hb) hb, zjY (zjY h.p h1 u) h1 u', zjY (zjY h.o h2 u) h2 u', h.ob, Kd.S_set (Kd.S_set h.s0 hc (by decide) j u) (heap_setCell_same W g j _ 52 u hc) (by decide) k u', hs⟩
theorem ClW.fin {cs : List S48} {ps : List S52} (h : ClW w b3 v0 v1 (cs.map .inl) (ps.map .inl) W) (u u' : Value) :
  Kd.S k48 48 ((W.setCell ⟨w.heap.size + 1, 0, none⟩ u).setCell ⟨w.heap.size + 1, 1, none⟩ u') w.heap.size (fun _ => True) v0 cs ∧ Kd.S k52 52 ((W.setCell ⟨w.heap.size + 1, 0, none⟩ u).setCell ⟨w.heap.size + 1, 1, none⟩ u') w.heap.size (fun _ => True) v1 ps ∧ Below w.heap.size w ((W.setCell ⟨w.heap.size + 1, 0, none⟩ u).setCell ⟨w.heap.size + 1, 1, none⟩ u') ∧ ((W.setCell ⟨w.heap.size + 1, 0, none⟩ u).setCell ⟨w.heap.size + 1, 1, none⟩ u').heap[w.heap.size + 1]? = some (.cells #[u, u'] 31 (0, 0)) := by
 have o1 := heap_setCell_same W (w.heap.size + 1) 0 _ 31 u h.p
 exact ⟨S_of_alts (Kd.S_set (Kd.S_set h.s0 h.p (by decide) 0 u) o1 (by decide) 1 u'), S_of_alts (Kd.S_set (Kd.S_set h.s1 h.p (by decide) 0 u) o1 (by decide) 1 u'), below_set (below_set h.b (by omega)) (by omega), heap_setCell_same _ _ 1 _ 31 u' o1⟩
end
theorem put_text {w W W1 : World} {g n cap : Nat} {xs : List (S48 ⊕ List Value)} {i : Int} {oki : Nat → Prop} {x : S48} {A2 : Option Addr} {c2 : Nat} {v : Value}
  (hH : Kd.H (alt k48) 48 W w.heap.size (fun _ => True) (.slice (some ⟨g, 0, none⟩) n cap) xs i oki [.bool x.f0, .int .i64 x.f1, .slice A2 x.f2.length c2]) (h0 : 0 ≤ i) (h1 : i < n)
  (hb : Below W.heap.size W W1) (hv : Kd.R (Kd.int .u8) 5 W1 W.heap.size (fun _ => True) v x.f2) (hw : w.heap.size ≤ W.heap.size) (hg : g < W.heap.size) :
  Kd.S (alt k48) 48 (W1.setCell ⟨g, i.toNat * 3 + 2, none⟩ v) w.heap.size (fun _ => True) (.slice (some ⟨g, 0, none⟩) n cap) (xs.set i.toNat (.inl x)) := by
 have hH1 := Kd.H_below (Kd.H_widen hH) hb
 obtain ⟨hH2, hg2⟩ := Kd.H_seg hH1 h0 h1 (seg := [v]) (j := 2) (by show (3 : Nat) ≤ 3; decide) (by intro u hu; simp at hu; subst hu; obtain ⟨_, _, rfl⟩ := Kd.R_slice hv; rfl)
 have hv2 := Kd.R_bound hv
 have hv3 := Kd.R_grown hv2 hg2 (fun b hb' e => by injection e with e; have := hb'.2.1; omega)
 exact Kd.H_back hH2 (okp := fun k => W.heap.size ≤ k) (x' := .inl x) (k48_mkM _ _ _ x (Kd.R_lower (Kd.R_mono hv3 (fun k hk => hk.2.1)) hw)) (fun k hk => .inr ⟨trivial, hk⟩)
theorem put_rows {w W W1 : World} {g n cap : Nat} {xs : List (S52 ⊕ List Value)} {i : Int} {oki : Nat → Prop} {x : S52} {A2 A3 : Option Addr} {c2 c3 : Nat} {v2 v3 : Value}
  (hH : Kd.H (alt k52) 52 W w.heap.size (fun _ => True) (.slice (some ⟨g, 0, none⟩) n cap) xs i oki [.int .i64 x.f0, .int .i64 x.f1, .slice A2 x.f2.length c2, .slice A3 x.f3.length c3]) (h0 : 0 ≤ i) (h1 : i < n)
  (hb : Below W.heap.size W W1) (hv2 : Kd.R k54 54 W1 W.heap.size (fun _ => True) v2 x.f2) (hv3 : Kd.R k57 57 W1 W.heap.size (fun _ => True) v3 x.f3) (hw : w.heap.size ≤ W.heap.size) (hg : g < W.heap.size) :
  Kd.S (alt k52) 52 ((W1.setCell ⟨g, i.toNat * 4 + 2, none⟩ v2).setCell ⟨g, i.toNat * 4 + 3, none⟩ v3) w.heap.size (fun _ => True) (.slice (some ⟨g, 0, none⟩) n cap) (xs.set i.toNat (.inl x)) := by
 have hH1 := Kd.H_below (Kd.H_widen hH) hb
 obtain ⟨hH2, hg2⟩ := Kd.H_seg hH1 h0 h1 (seg := [v2, v3]) (j := 2) (by show (4 : Nat) ≤ 4; decide) (by intro u hu; simp at hu; rcases hu with rfl | rfl; obtain ⟨_, _, rfl⟩ := Kd.R_slice hv2; rfl; obtain ⟨_, _, rfl⟩ := Kd.R_slice hv3; rfl)
 have hv4 := Kd.R_grown (Kd.R_bound hv2) hg2 (fun b hb' e => by injection e with e; have := hb'.2.1; omega)
 have hv5 := Kd.R_grown (Kd.R_bound hv3) hg2 (fun b hb' e => by injection e with e; have := hb'.2.1; omega)
 exact Kd.H_back hH2 (okp := fun k => W.heap.size ≤ k) (x' := .inl x) (k52_mkM _ _ _ x (Kd.R_lower (Kd.R_mono hv4 (fun k hk => hk.2.1)) hw) (Kd.R_lower (Kd.R_mono hv5 (fun k hk => hk.2.1)) hw)) (fun k hk => .inr ⟨trivial, hk⟩)
end Go.Proofs.Ytmmpiojekgfdjaa.C
