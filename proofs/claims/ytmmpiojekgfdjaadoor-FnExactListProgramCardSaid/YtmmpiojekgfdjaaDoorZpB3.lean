/- The specification lists. -/
import Derived.Test.YtmmpiojekgfdjaaDoorZpB2
import Derived.Test.YtmmpiojekgfdjaaDoorZpCx4
import Derived.Test.YtmmpiojekgfdjaaDoorZpCx5
import Derived.Deep.RegionLaw
import Derived.Test.YtmmpiojekgfdjaaDoorZpK
namespace Go.Proofs.YtmmpiojekgfdjaaDoor.C
open Go.RowKit YtmmpiojekgfdjaaDoorW.PrintWords YtmmpiojekgfdjaaDoorW.PrintLast
set_option linter.unusedVariables false
set_option linter.unusedSimpArgs false
def lineS (start : ByteArray) (parts : List ByteArray) : ByteArray := parts.foldl (fun a p => a ++ ((⟨#[32]⟩ : ByteArray) ++ p)) start
theorem lineS_bytes (parts : List ByteArray) : ∀ start, bytesOf (lineS start parts) = bytesOf start ++ parts.flatMap (fun s => 32 :: bytesOf s) := by
 induction parts with
 | nil => intro start; simp [lineS]
 | cons p parts ih =>
  intro start
  show bytesOf (lineS (start ++ ((⟨#[32]⟩ : ByteArray) ++ p)) parts) = _
  rw [ih, bytesOf_app, bytesOf_app, List.flatMap_cons, List.append_assoc]
  rfl
theorem lineS_snoc (start : ByteArray) (parts : List ByteArray) (p : ByteArray) : lineS start (parts ++ [p]) = lineS start parts ++ ((⟨#[32]⟩ : ByteArray) ++ p) := by simp [lineS, List.foldl_append]
theorem lineS_le (start : ByteArray) (a b : List ByteArray) : (lineS start a).size ≤ (lineS start (a ++ b)).size := by
 rw [← bytesOf_length, ← bytesOf_length, lineS_bytes, lineS_bytes, List.flatMap_append]
 simp only [List.length_append]
 omega
theorem lineL_of (start : ByteArray) (parts : List ByteArray) : lineL start parts = bytesOf (lineS start parts) ++ [10] := by rw [lineS_bytes, lineL, List.append_assoc]
theorem ba_ext {a b : ByteArray} (h : a.data.toList = b.data.toList) : a = b := by
 cases a; cases b
 congr 1
 exact Array.ext' h
theorem head_eq (d d0 d1 : ByteArray) : ((((⟨#[102, 117, 110, 99, 116, 105, 111, 110, 32]⟩ : ByteArray) ++ d) ++ (⟨#[32]⟩ : ByteArray)) ++ d0) ++ (⟨#[32]⟩ : ByteArray) ++ d1 = lineS wordFn [d, d0, d1] := ba_ext (by simp [lineS, wordFn, ByteArray.data_append])
theorem cap_eq (t : ByteArray) (k1 : Int) (b : Bool) : t ++ ((if b = true then (⟨#[32, 117, 112]⟩ : ByteArray) else ⟨#[32, 115, 108, 111, 116]⟩) ++ decS k1) = t ++ ((⟨#[32]⟩ : ByteArray) ++ capW ⟨b, k1⟩) := ba_ext (by cases b <;> simp [capW, ByteArray.data_append])
structure SpecP (qt : List Int → List Int) (cs : List S69) (ps : List S45) : Prop where
 dec : ∀ v, IntOK v → ∃ k, spec_l5dec.f k v = some (decS v)
 cst : ∀ c ∈ cs, IntOK c.f1 ∧ c.f2.length ≤ 5000 ∧ ∀ x ∈ c.f2, 0 ≤ x ∧ x ≤ 255
structure SW (w : World) (A : Option Addr) (c : Nat) (xs : List Int) (K : List (Nat × Array Value × TypeId)) (W : World) : Prop where
 b0 : Below w.heap.size w W
 r : Kd.R (Kd.int .u8) 5 W w.heap.size (fun _ => True) (.slice A xs.length c) xs
 k : ∀ q ∈ K, W.heap[q.1]? = some (.cells q.2.1 q.2.2 (0, 0)) ∧ q.2.2 ≠ 5
section
variable {w W W1 : World} {A : Option Addr} {c : Nat} {xs : List Int} {K : List (Nat × Array Value × TypeId)}
theorem SW.below (h : SW w A c xs K W) (hb : Below W.heap.size W W1) : SW w A c xs K W1 :=
 ⟨zcY h.b0 hb, Kd.R_below h.r hb, fun q hq => ⟨(hb.block _ (zlY (h.k q hq).1)).trans (h.k q hq).1, (h.k q hq).2⟩⟩
theorem SW.alloc (h : SW w A c xs K W) (o : Obj) : SW w A c xs K (W.alloc o) := h.below ((Below.refl _ _).alloc (Nat.le_refl _) _)
theorem SW.drew (h : SW w A c xs K W) : SW w A c xs K W.drew := h.below (below_drew (Below.refl _ _))
theorem SW.add (h : SW w A c xs K W) (g : Nat) (cells : Array Value) (t : TypeId) (hg : W.heap[g]? = some (.cells cells t (0, 0))) (h5 : t ≠ 5) : SW w A c xs ((g, cells, t) :: K) W :=
 ⟨h.b0, h.r, fun q hq => by rcases List.mem_cons.1 hq with rfl | hq; exact ⟨hg, h5⟩; exact h.k q hq⟩
theorem SW.less {K' : List (Nat × Array Value × TypeId)} (h : SW w A c xs K W) (hk : ∀ q ∈ K', q ∈ K) : SW w A c xs K' W := ⟨h.b0, h.r, fun q hq => h.k q (hk q hq)⟩
theorem SW.cell (h : SW w A c xs K W) (q : Nat × Array Value × TypeId) (hq : q ∈ K) (j : Nat) : W.cell? ⟨q.1, j, none⟩ = q.2.1[j]? := zaY (h.k q hq).1 j
theorem SW.grown {A1 : Option Addr} {c1 : Nat} {ys : List Int} (h : SW w A c xs K W) (hr : Kd.R (Kd.int .u8) 5 W1 w.heap.size (fun _ => True) (.slice A1 ys.length c1) ys) (hg : W.grownBy W1 (.slice A xs.length c : Value).ownBlock) (hb : Below w.heap.size w W1) : SW w A1 c1 ys K W1 :=
 ⟨hb, hr, fun q hq => ⟨blk_grown (h.k q hq).1 hg (Kd.R_ne h.r (h.k q hq).1 (fun e => (h.k q hq).2 e.symm)), (h.k q hq).2⟩⟩
variable {ops : Array Oper} {rest : List Oper} {o : Oper} {a : Act} {Q : Exit → Act → World → Prop} {Kc : Act → World → Prop}
theorem SW.str_run (h : SW w A c xs K W) (y : ByteArray) (ty : TypeId) (hl : xs.length + y.size ≤ 140737488355328) :
  ∃ A1 c1 w1, (Builtin.append_ #[27, 9] ty #[.slice A xs.length c, .string y]).run Tryd.prog W = .ok (.slice A1 (xs ++ bytesOf y).length c1) w1 ∧ SW w A1 c1 (xs ++ bytesOf y) K w1 := by
 obtain ⟨i0, hi, hzz⟩ := Option.map_eq_some_iff.1 info5
 simp only [Prod.mk.injEq] at hzz
 obtain ⟨hz0, hz1, hz2⟩ := hzz
 obtain ⟨v', w', hr, h2, h3, _⟩ := Lib.run_append_own_string (P := Tryd.prog) W w.heap.size 27 9 ty 5 i0 Tryd.underlying27 Tryd.underlying9 hi hz0 hz1 hz2 _ xs.length (nums .u8 xs) (R_own5 h.r) y (by simp only [maxLen]; omega) hl h.b0.size
 have hl2 : (xs ++ bytesOf y).length = xs.length + y.size := by rw [List.length_append, bytesOf_length]
 have hn : nums .u8 xs ++ Lib.strCells y = nums .u8 (xs ++ bytesOf y) := by simp [nums, Lib.strCells, bytesOf]
 rw [← hl2, hn] at h2
 have hR : Kd.R (Kd.int .u8) 5 w' w.heap.size (fun _ => True) v' (xs ++ bytesOf y) := Kd.R_of_own h2 (fun _ _ => trivial)
 obtain ⟨A1, c1, rfl⟩ := Kd.R_slice hR
 exact ⟨A1, c1, w', hr, h.grown hR h3 (h.b0.grown h3 h.b0.size (fun k hk => Kd.R_base h.r k hk))⟩
theorem SW.str_step (h : SW w A c xs K W) (y : ByteArray) (hl : xs.length + y.size ≤ 140737488355328) (hgd : o.guard = none) (s x : Operand)
  (ho : o.op = .call { callee := .builtin .append, args := #[s, x], argTypes := #[27, 9] }) (hs : a.eval s = .slice A xs.length c) (hx : a.eval x = .string y)
  (k : ∀ A1 c1 w1, SW w A1 c1 (xs ++ bytesOf y) K w1 → Kc (a.put o.dst (.slice A1 (xs ++ bytesOf y).length c1)) w1) :
  if Region.wanted o (yielded ops a.tmps) = true then Oper.wp Tryd.prog o a W Kc Q else Kc (a.put o.dst undef) W := by
 obtain ⟨A1, c1, w1, hr, h1⟩ := h.str_run y o.type hl
 rw [if_pos (by simp [Region.wanted, hgd])]
 unfold Oper.wp execOp
 simp only [ho, resolve, invoke, builtin, Sem.run_bind, Sem.run_pure, Result.andThen_ok, List.map_toArray, List.map_cons, List.map_nil, hs, hx, hr]
 exact k A1 c1 w1 h1
theorem SW.str_list (h : SW w A c xs K W) (y : ByteArray) (hl : xs.length + y.size ≤ 140737488355328) (hgd : o.guard = none) (s x : Operand)
  (ho : o.op = .call { callee := .builtin .append, args := #[s, x], argTypes := #[27, 9] }) (hs : a.eval s = .slice A xs.length c) (hx : a.eval x = .string y)
  (k : ∀ A1 c1 w1, SW w A1 c1 (xs ++ bytesOf y) K w1 → wpList Tryd.prog ops Q rest (a.put o.dst (.slice A1 (xs ++ bytesOf y).length c1)) w1) :
  wpList Tryd.prog ops Q (o :: rest) a W := by
 obtain ⟨A1, c1, w1, hr, h1⟩ := h.str_run y o.type hl
 refine wpList_plain hgd fun K hK => ?_
 unfold Oper.wp execOp
 simp only [ho, resolve, invoke, builtin, Sem.run_bind, Sem.run_pure, Result.andThen_ok, List.map_toArray, List.map_cons, List.map_nil, hs, hx, hr]
 exact hK _ _ (k A1 c1 w1 h1)
theorem SW.byte_list (h : SW w A c xs K W) (y : Int) (hl : xs.length ≤ 1000000000000) (hgd : o.guard = none) (s x : Operand)
  (ho : o.op = .call { callee := .builtin .append, args := #[s, x], argTypes := #[27, 27] }) (hs : a.eval s = .slice A xs.length c) (hx : a.eval x = .slice (some ⟨W.heap.size, 0, none⟩) 1 1)
  (k : ∀ A1 c1 w1, SW w A1 c1 (xs ++ [y]) K w1 → wpList Tryd.prog ops Q rest (a.put o.dst (.slice A1 (xs ++ [y]).length c1)) w1) :
  wpList Tryd.prog ops Q (o :: rest) a (W.alloc (.cells #[.int .u8 y] 5)) := by
 refine Kd.R_append (Kd.int .u8) (w0 := w) w.heap.size hgd s x 27 5 (.int .u8 0) 1 ho Tryd.underlying27 info5 rfl (by decide) (by omega) _ xs y [.int .u8 y] (fun _ => True) (fun _ => False) hs hx rfl (fun _ h => h.elim) (fun _ _ => trivial) h.r h.b0 h.b0.size (by omega) ?_
 intro v1 w1 hr hb hg _
 obtain ⟨A1, c1, rfl⟩ := Kd.R_slice hr
 exact k A1 c1 w1 (h.grown hr hg hb)
end
end Go.Proofs.YtmmpiojekgfdjaaDoor.C
