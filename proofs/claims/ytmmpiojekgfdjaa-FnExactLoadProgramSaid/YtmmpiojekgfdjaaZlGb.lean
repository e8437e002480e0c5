/- Appends to the rows of a program that is read. -/
import Derived.Test.YtmmpiojekgfdjaaZlG1
import Derived.Deep.RegionLaw
import Derived.Test.YtmmpiojekgfdjaaZlK
namespace Go.Proofs.Ytmmpiojekgfdjaa.C
open Go.RowKit YtmmpiojekgfdjaaW.PrintWords YtmmpiojekgfdjaaW.PrintLast
set_option linter.unusedVariables false
set_option linter.unusedSimpArgs false
structure Bx (base br bo : Nat) (ok : Nat → Prop) (u0 u1 : Value) (cs : List S48) (ps : List S52) (W : World) : Prop where
 r : W.heap[br]? = some (.cells #[.slice none 0 0, .slice none 0 0] 31 (0, 0))
 o : W.heap[bo]? = some (.cells #[u0, u1] 31 (0, 0))
 s0 : Kd.S k48 48 W base ok u0 cs
 s1 : Kd.S k52 52 W base ok u1 ps
 hb : base ≤ br ∧ br < bo
def OtherT (t bo : Nat) (W W' : World) : Prop := W.heap.size ≤ W'.heap.size ∧ ∀ (b : Nat) (cells : Array Value) (t' : TypeId), t' ≠ t → b ≠ bo → W.heap[b]? = some (.cells cells t' (0, 0)) → W'.heap[b]? = some (.cells cells t' (0, 0))
section
variable {base br bo : Nat} {ok ok' : Nat → Prop} {u0 u1 : Value} {cs : List S48} {ps : List S52} {w0 W W1 W3 w1 : World}
theorem Bx.mono (h : Bx base br bo ok u0 u1 cs ps W) (hk : ∀ k, ok k → ok' k) : Bx base br bo ok' u0 u1 cs ps W := ⟨h.r, h.o, Kd.S_mono h.s0 hk, Kd.S_mono h.s1 hk, h.hb⟩
theorem Bx.bound (h : Bx base br bo ok u0 u1 cs ps W) : Bx base br bo (fun k => k < W.heap.size) u0 u1 cs ps W := ⟨h.r, h.o, Kd.S_mono (Kd.S_bound h.s0) (fun _ hk => hk.2.2.1), Kd.S_mono (Kd.S_bound h.s1) (fun _ hk => hk.2.2.1), h.hb⟩
theorem Bx.below (h : Bx base br bo ok u0 u1 cs ps W) (hb : Below W.heap.size W W1) : Bx base br bo ok u0 u1 cs ps W1 :=
 ⟨(hb.block _ (ziY h.r)).trans h.r, (hb.block _ (ziY h.o)).trans h.o, Kd.S_below h.s0 hb, Kd.S_below h.s1 hb, h.hb⟩
theorem Bx.belowN {n : Nat} (h : Bx base br bo (fun k => k < n) u0 u1 cs ps W) (hb : Below n W W1) (hn : bo < n) : Bx base br bo (fun k => k < n) u0 u1 cs ps W1 :=
 ⟨(hb.block _ (by have := h.hb; omega)).trans h.r, (hb.block _ hn).trans h.o, Kd.S_step h.s0 (fun k hk _ => hb.block k hk), Kd.S_step h.s1 (fun k hk _ => hb.block k hk), h.hb⟩
theorem Bx.after0 {N : Nat} (h3 : Bx base br bo (fun k => k < N) u0 u1 cs ps W3) {y : S48} {v1 : Value}
  (hs : Kd.S k48 48 w1 base (fun _ => True) v1 (cs ++ [y])) (hw : Below base w0 w1) (hg : W3.grownBy w1 u0.ownBlock) :
  w1.heap[bo]? = some (.cells #[u0, u1] 31 (0, 0)) ∧ Bx base br bo (fun _ => True) v1 u1 (cs ++ [y]) ps (w1.setCell ⟨bo, 0, none⟩ v1) ∧ Below base w0 (w1.setCell ⟨bo, 0, none⟩ v1) ∧ OtherT 48 bo W3 (w1.setCell ⟨bo, 0, none⟩ v1) := by
 have ho : w1.heap[bo]? = some (.cells #[u0, u1] 31 (0, 0)) := blk_grown h3.o hg (Kd.S_ne h3.s0 h3.o (by decide))
 have hr : w1.heap[br]? = some (.cells #[.slice none 0 0, .slice none 0 0] 31 (0, 0)) := blk_grown h3.r hg (Kd.S_ne h3.s0 h3.r (by decide))
 have hs1 : Kd.S k52 52 w1 base (fun k => k < N) u1 ps := Kd.S_over' h3.s1 (Kd.S_typed h3.s0) (by decide) hg
 have hlt := h3.hb
 refine ⟨ho, ⟨blk_far hr (by show br ≠ bo; omega) v1, heap_setCell_same w1 bo 0 #[u0, u1] 31 v1 ho, Kd.S_set hs ho (by decide) 0 v1, Kd.S_mono (Kd.S_set hs1 ho (by decide) 0 v1) (fun _ _ => trivial), h3.hb⟩, hw.setCell (by show base ≤ bo; omega) v1, ?_, ?_⟩
 ·
  exact Nat.le_trans hg.size (Below.setCell (B := 0) (Below.refl 0 w1) (p := ⟨bo, 0, none⟩) (Nat.zero_le _) v1).size
 ·
  intro b cells t' ht hbo h1
  have h2 : w1.heap[b]? = some (.cells cells t' (0, 0)) := blk_grown h1 hg (Kd.S_ne h3.s0 h1 (fun e => ht e.symm))
  exact blk_far h2 hbo v1
theorem Bx.after1 {N : Nat} (h3 : Bx base br bo (fun k => k < N) u0 u1 cs ps W3) {y : S52} {v1 : Value}
  (hs : Kd.S k52 52 w1 base (fun _ => True) v1 (ps ++ [y])) (hw : Below base w0 w1) (hg : W3.grownBy w1 u1.ownBlock) :
  w1.heap[bo]? = some (.cells #[u0, u1] 31 (0, 0)) ∧ Bx base br bo (fun _ => True) u0 v1 cs (ps ++ [y]) (w1.setCell ⟨bo, 1, none⟩ v1) ∧ Below base w0 (w1.setCell ⟨bo, 1, none⟩ v1) ∧ OtherT 52 bo W3 (w1.setCell ⟨bo, 1, none⟩ v1) := by
 have ho : w1.heap[bo]? = some (.cells #[u0, u1] 31 (0, 0)) := blk_grown h3.o hg (Kd.S_ne h3.s1 h3.o (by decide))
 have hr : w1.heap[br]? = some (.cells #[.slice none 0 0, .slice none 0 0] 31 (0, 0)) := blk_grown h3.r hg (Kd.S_ne h3.s1 h3.r (by decide))
 have hs0 : Kd.S k48 48 w1 base (fun k => k < N) u0 cs := Kd.S_over' h3.s0 (Kd.S_typed h3.s1) (by decide) hg
 have hlt := h3.hb
 refine ⟨ho, ⟨blk_far hr (by show br ≠ bo; omega) v1, heap_setCell_same w1 bo 1 #[u0, u1] 31 v1 ho, Kd.S_mono (Kd.S_set hs0 ho (by decide) 1 v1) (fun _ _ => trivial), Kd.S_set hs ho (by decide) 1 v1, h3.hb⟩, hw.setCell (by show base ≤ bo; omega) v1, ?_, ?_⟩
 ·
  exact Nat.le_trans hg.size (Below.setCell (B := 0) (Below.refl 0 w1) (p := ⟨bo, 1, none⟩) (Nat.zero_le _) v1).size
 ·
  intro b cells t' ht hbo h1
  have h2 : w1.heap[b]? = some (.cells cells t' (0, 0)) := blk_grown h1 hg (Kd.S_ne h3.s1 h1 (fun e => ht e.symm))
  exact blk_far h2 hbo v1
end
def Put0 (base br bo : Nat) (u0 u1 : Value) (cs : List S48) (ps : List S52) (w0 W3 : World) (y : S48) (A : Option Addr) (c : Nat) (w1 : World) : Prop :=
 w1.heap[bo]? = some (.cells #[u0, u1] 31 (0, 0)) ∧ Bx base br bo (fun _ => True) (.slice A (cs.length + 1) c) u1 (cs ++ [y]) ps (w1.setCell ⟨bo, 0, none⟩ (.slice A (cs.length + 1) c)) ∧ Below base w0 (w1.setCell ⟨bo, 0, none⟩ (.slice A (cs.length + 1) c)) ∧ OtherT 48 bo W3 (w1.setCell ⟨bo, 0, none⟩ (.slice A (cs.length + 1) c))
def Put1 (base br bo : Nat) (u0 u1 : Value) (cs : List S48) (ps : List S52) (w0 W3 : World) (y : S52) (A : Option Addr) (c : Nat) (w1 : World) : Prop :=
 w1.heap[bo]? = some (.cells #[u0, u1] 31 (0, 0)) ∧ Bx base br bo (fun _ => True) u0 (.slice A (ps.length + 1) c) cs (ps ++ [y]) (w1.setCell ⟨bo, 1, none⟩ (.slice A (ps.length + 1) c)) ∧ Below base w0 (w1.setCell ⟨bo, 1, none⟩ (.slice A (ps.length + 1) c)) ∧ OtherT 52 bo W3 (w1.setCell ⟨bo, 1, none⟩ (.slice A (ps.length + 1) c))
section
variable {ops : Array Oper} {rest : List Oper} {o : Oper} {a : Act} {Q : Exit → Act → World → Prop} {Kc : Act → World → Prop}
variable {base br bo N : Nat} {u0 u1 : Value} {cs : List S48} {ps : List S52} {w0 W3 : World}
theorem Bx.const_step (h : Bx base br bo (fun k => k < N) u0 u1 cs ps W3) (hB : Below base w0 W3) (hbase : base ≤ N) (hN : N ≤ W3.heap.size) (y : S48) (v : Value) (hv : Kd.R (Kd.int .u8) 5 W3 N (fun _ => True) v y.f2) (hl : cs.length ≤ 2097152)
  (hgd : o.guard = none) (s x : Operand) (ho : o.op = .call { callee := .builtin .append, args := #[s, x], argTypes := #[28, 28] }) (hs : a.eval s = u0) (hx : a.eval x = .slice (some ⟨W3.heap.size, 0, none⟩) 1 1)
  (k : ∀ (A : Option Addr) (c : Nat) (w1 : World), Put0 base br bo u0 u1 cs ps w0 W3 y A c w1 → Kc (a.put o.dst (.slice A (cs.length + 1) c)) w1) :
  if Region.wanted o (yielded ops a.tmps) = true then Oper.wp Try.prog o a (W3.alloc (.cells #[.bool y.f0, .int .i64 y.f1, v] 48)) Kc Q else Kc (a.put o.dst undef) (W3.alloc (.cells #[.bool y.f0, .int .i64 y.f1, v] 48)) := by
 refine Kd.S_append_step k48 (w0 := w0) base (by simp [Region.wanted, hgd]) s x 28 48 (.agg #[.bool false, .int .i64 0, .slice none 0 0]) 40 ho Try.underlying28 info48 rfl (by decide) (by omega) u0 cs y [.bool y.f0, .int .i64 y.f1, v] (fun _ => True) (fun k => N ≤ k) hs hx
  (k48_mkM _ _ _ y (Kd.R_lower (Kd.R_mono (Kd.R_bound hv) (fun k hk => hk.2.1)) hbase)) (fun k hk => ⟨trivial, fun e => ?_⟩) (fun _ _ => trivial) (Kd.S_mono h.s0 (fun k hk => ⟨trivial, by omega⟩)) hB (Nat.le_trans hbase hN) (by omega) ?_
 ·
  have := (Kd.S_R h.s0).1 k e.symm
  omega
 ·
  intro v1 w1 hr hw hg _
  obtain ⟨A, c, e1⟩ := Kd.S_slice hr
  rw [List.length_append, List.length_singleton] at e1
  subst e1
  exact k A c w1 (h.after0 hr hw hg)
theorem Bx.const_list (h : Bx base br bo (fun k => k < N) u0 u1 cs ps W3) (hB : Below base w0 W3) (hbase : base ≤ N) (hN : N ≤ W3.heap.size) (y : S48) (v : Value) (hv : Kd.R (Kd.int .u8) 5 W3 N (fun _ => True) v y.f2) (hl : cs.length ≤ 2097152)
  (hgd : o.guard = none) (s x : Operand) (ho : o.op = .call { callee := .builtin .append, args := #[s, x], argTypes := #[28, 28] }) (hs : a.eval s = u0) (hx : a.eval x = .slice (some ⟨W3.heap.size, 0, none⟩) 1 1)
  (k : ∀ (A : Option Addr) (c : Nat) (w1 : World), Put0 base br bo u0 u1 cs ps w0 W3 y A c w1 → wpList Try.prog ops Q rest (a.put o.dst (.slice A (cs.length + 1) c)) w1) :
  wpList Try.prog ops Q (o :: rest) a (W3.alloc (.cells #[.bool y.f0, .int .i64 y.f1, v] 48)) := by
 refine Kd.S_append k48 (w0 := w0) base hgd s x 28 48 (.agg #[.bool false, .int .i64 0, .slice none 0 0]) 40 ho Try.underlying28 info48 rfl (by decide) (by omega) u0 cs y [.bool y.f0, .int .i64 y.f1, v] (fun _ => True) (fun k => N ≤ k) hs hx
  (k48_mkM _ _ _ y (Kd.R_lower (Kd.R_mono (Kd.R_bound hv) (fun k hk => hk.2.1)) hbase)) (fun k hk => ⟨trivial, fun e => ?_⟩) (fun _ _ => trivial) (Kd.S_mono h.s0 (fun k hk => ⟨trivial, by omega⟩)) hB (Nat.le_trans hbase hN) (by omega) ?_
 ·
  have := (Kd.S_R h.s0).1 k e.symm
  omega
 ·
  intro v1 w1 hr hw hg _
  obtain ⟨A, c, e1⟩ := Kd.S_slice hr
  rw [List.length_append, List.length_singleton] at e1
  subst e1
  exact k A c w1 (h.after0 hr hw hg)
theorem Bx.proto_list (h : Bx base br bo (fun k => k < N) u0 u1 cs ps W3) (hB : Below base w0 W3) (hbase : base ≤ N) (hN : N ≤ W3.heap.size) (y : S52) (v2 v3 : Value) (hv2 : Kd.R k54 54 W3 N (fun _ => True) v2 y.f2) (hv3 : Kd.R k57 57 W3 N (fun _ => True) v3 y.f3) (hl : ps.length ≤ 2097152)
  (hgd : o.guard = none) (s x : Operand) (ho : o.op = .call { callee := .builtin .append, args := #[s, x], argTypes := #[29, 29] }) (hs : a.eval s = u1) (hx : a.eval x = .slice (some ⟨W3.heap.size, 0, none⟩) 1 1)
  (k : ∀ (A : Option Addr) (c : Nat) (w1 : World), Put1 base br bo u0 u1 cs ps w0 W3 y A c w1 → wpList Try.prog ops Q rest (a.put o.dst (.slice A (ps.length + 1) c)) w1) :
  wpList Try.prog ops Q (o :: rest) a (W3.alloc (.cells #[.int .i64 y.f0, .int .i64 y.f1, v2, v3] 52)) := by
 refine Kd.S_append k52 (w0 := w0) base hgd s x 29 52 (.agg #[.int .i64 0, .int .i64 0, .slice none 0 0, .slice none 0 0]) 64 ho Try.underlying29 info52 rfl (by decide) (by omega) u1 ps y [.int .i64 y.f0, .int .i64 y.f1, v2, v3] (fun _ => True) (fun k => N ≤ k) hs hx
  (k52_mkM _ _ _ y (Kd.R_lower (Kd.R_mono (Kd.R_bound hv2) (fun k hk => hk.2.1)) hbase) (Kd.R_lower (Kd.R_mono (Kd.R_bound hv3) (fun k hk => hk.2.1)) hbase)) (fun k hk => ⟨trivial, fun e => ?_⟩) (fun _ _ => trivial) (Kd.S_mono h.s1 (fun k hk => ⟨trivial, by omega⟩)) hB (Nat.le_trans hbase hN) (by omega) ?_
 ·
  have := (Kd.S_R h.s1).1 k e.symm
  omega
 ·
  intro v1 w1 hr hw hg _
  obtain ⟨A, c, e1⟩ := Kd.S_slice hr
  rw [List.length_append, List.length_singleton] at e1
  subst e1
  exact k A c w1 (h.after1 hr hw hg)
end
structure Fb (bf : Nat) (n0 n1 : Int) (v2 v3 : Value) (ys : List S54) (zs : List S57) (W : World) : Prop where
 f : W.heap[bf]? = some (.cells #[.int .i64 n0, .int .i64 n1, v2, v3] 52 (0, 0))
 r2 : Kd.R k54 54 W (bf + 1) (fun _ => True) v2 ys
 r3 : Kd.R k57 57 W (bf + 1) (fun _ => True) v3 zs
section
variable {bf : Nat} {n0 n1 : Int} {v2 v3 : Value} {ys : List S54} {zs : List S57} {w0 W W1 w1 : World}
theorem Fb.below (h : Fb bf n0 n1 v2 v3 ys zs W) (hb : Below W.heap.size W W1) : Fb bf n0 n1 v2 v3 ys zs W1 :=
 ⟨(hb.block _ (ziY h.f)).trans h.f, Kd.R_below h.r2 hb, Kd.R_below h.r3 hb⟩
theorem Fb.after2 (h : Fb bf n0 n1 v2 v3 ys zs W) {y : S54} {v : Value} (hs : Kd.R k54 54 w1 (bf + 1) (fun _ => True) v (ys ++ [y])) (hg : W.grownBy w1 v2.ownBlock) :
  w1.heap[bf]? = some (.cells #[.int .i64 n0, .int .i64 n1, v2, v3] 52 (0, 0)) ∧ Fb bf n0 n1 v v3 (ys ++ [y]) zs (w1.setCell ⟨bf, 2, none⟩ v) ∧ Below bf W (w1.setCell ⟨bf, 2, none⟩ v) := by
 have hf : w1.heap[bf]? = some (.cells #[.int .i64 n0, .int .i64 n1, v2, v3] 52 (0, 0)) := blk_grown h.f hg (Kd.R_ne h.r2 h.f (by decide))
 have h3 : Kd.R k57 57 w1 (bf + 1) (fun _ => True) v3 zs := Kd.R_over' h.r3 (Kd.R_typed h.r2) (by decide) hg
 refine ⟨hf, ⟨heap_setCell_same w1 bf 2 _ 52 v hf, Kd.R_set hs hf (by decide) 2 v, Kd.R_set h3 hf (by decide) 2 v⟩, ?_⟩
 exact ((Below.refl bf W).grown hg (Nat.le_of_lt (ziY h.f)) (fun k hk => Nat.le_of_succ_le (Kd.R_base h.r2 k hk))).setCell (Nat.le_refl _) v
theorem Fb.after3 (h : Fb bf n0 n1 v2 v3 ys zs W) {y : S57} {v : Value} (hs : Kd.R k57 57 w1 (bf + 1) (fun _ => True) v (zs ++ [y])) (hg : W.grownBy w1 v3.ownBlock) :
  w1.heap[bf]? = some (.cells #[.int .i64 n0, .int .i64 n1, v2, v3] 52 (0, 0)) ∧ Fb bf n0 n1 v2 v ys (zs ++ [y]) (w1.setCell ⟨bf, 3, none⟩ v) ∧ Below bf W (w1.setCell ⟨bf, 3, none⟩ v) := by
 have hf : w1.heap[bf]? = some (.cells #[.int .i64 n0, .int .i64 n1, v2, v3] 52 (0, 0)) := blk_grown h.f hg (Kd.R_ne h.r3 h.f (by decide))
 have h2 : Kd.R k54 54 w1 (bf + 1) (fun _ => True) v2 ys := Kd.R_over' h.r2 (Kd.R_typed h.r3) (by decide) hg
 refine ⟨hf, ⟨heap_setCell_same w1 bf 3 _ 52 v hf, Kd.R_set h2 hf (by decide) 3 v, Kd.R_set hs hf (by decide) 3 v⟩, ?_⟩
 exact ((Below.refl bf W).grown hg (Nat.le_of_lt (ziY h.f)) (fun k hk => Nat.le_of_succ_le (Kd.R_base h.r3 k hk))).setCell (Nat.le_refl _) v
end
def Put2 (bf : Nat) (n0 n1 : Int) (v2 v3 : Value) (ys : List S54) (zs : List S57) (W : World) (y : S54) (A : Option Addr) (c : Nat) (w1 : World) : Prop :=
 w1.heap[bf]? = some (.cells #[.int .i64 n0, .int .i64 n1, v2, v3] 52 (0, 0)) ∧ Fb bf n0 n1 (.slice A (ys.length + 1) c) v3 (ys ++ [y]) zs (w1.setCell ⟨bf, 2, none⟩ (.slice A (ys.length + 1) c)) ∧ Below bf W (w1.setCell ⟨bf, 2, none⟩ (.slice A (ys.length + 1) c))
def Put3 (bf : Nat) (n0 n1 : Int) (v2 v3 : Value) (ys : List S54) (zs : List S57) (W : World) (y : S57) (A : Option Addr) (c : Nat) (w1 : World) : Prop :=
 w1.heap[bf]? = some (.cells #[.int .i64 n0, .int .i64 n1, v2, v3] 52 (0, 0)) ∧ Fb bf n0 n1 v2 (.slice A (zs.length + 1) c) ys (zs ++ [y]) (w1.setCell ⟨bf, 3, none⟩ (.slice A (zs.length + 1) c)) ∧ Below bf W (w1.setCell ⟨bf, 3, none⟩ (.slice A (zs.length + 1) c))
section
variable {ops : Array Oper} {rest : List Oper} {o : Oper} {a : Act} {Q : Exit → Act → World → Prop} {Kc : Act → World → Prop}
variable {bf : Nat} {n0 n1 : Int} {v2 v3 : Value} {ys : List S54} {zs : List S57} {W : World}
theorem Fb.cap_step (h : Fb bf n0 n1 v2 v3 ys zs W) (y : S54) (hl : ys.length ≤ 2097152)
  (hgd : o.guard = none) (s x : Operand) (ho : o.op = .call { callee := .builtin .append, args := #[s, x], argTypes := #[49, 49] }) (hs : a.eval s = v2) (hx : a.eval x = .slice (some ⟨W.heap.size, 0, none⟩) 1 1)
  (k : ∀ (A : Option Addr) (c : Nat) (w1 : World), Put2 bf n0 n1 v2 v3 ys zs W y A c w1 → Kc (a.put o.dst (.slice A (ys.length + 1) c)) w1) :
  if Region.wanted o (yielded ops a.tmps) = true then Oper.wp Try.prog o a (W.alloc (.cells #[.bool y.f0, .int .i64 y.f1] 54)) Kc Q else Kc (a.put o.dst undef) (W.alloc (.cells #[.bool y.f0, .int .i64 y.f1] 54)) := by
 refine Kd.R_append_step k54 (w0 := W) (bf + 1) (by simp [Region.wanted, hgd]) s x 49 54 (.agg #[.bool false, .int .i64 0]) 16 ho Try.underlying49 info54 rfl (by decide) (by omega) v2 ys y [.bool y.f0, .int .i64 y.f1] (fun _ => True) (fun _ => False) hs hx
  (k54_mkM _ _ _ y) (fun k hk => hk.elim) (fun _ _ => trivial) h.r2 (Below.refl _ _) (ziY h.f) (by omega) ?_
 intro v1 w1 hr _ hg _
 obtain ⟨A, c, e1⟩ := Kd.R_slice hr
 rw [List.length_append, List.length_singleton] at e1
 subst e1
 exact k A c w1 (h.after2 hr hg)
theorem Fb.cap_list (h : Fb bf n0 n1 v2 v3 ys zs W) (y : S54) (hl : ys.length ≤ 2097152)
  (hgd : o.guard = none) (s x : Operand) (ho : o.op = .call { callee := .builtin .append, args := #[s, x], argTypes := #[49, 49] }) (hs : a.eval s = v2) (hx : a.eval x = .slice (some ⟨W.heap.size, 0, none⟩) 1 1)
  (k : ∀ (A : Option Addr) (c : Nat) (w1 : World), Put2 bf n0 n1 v2 v3 ys zs W y A c w1 → wpList Try.prog ops Q rest (a.put o.dst (.slice A (ys.length + 1) c)) w1) :
  wpList Try.prog ops Q (o :: rest) a (W.alloc (.cells #[.bool y.f0, .int .i64 y.f1] 54)) := by
 refine Kd.R_append k54 (w0 := W) (bf + 1) hgd s x 49 54 (.agg #[.bool false, .int .i64 0]) 16 ho Try.underlying49 info54 rfl (by decide) (by omega) v2 ys y [.bool y.f0, .int .i64 y.f1] (fun _ => True) (fun _ => False) hs hx
  (k54_mkM _ _ _ y) (fun k hk => hk.elim) (fun _ _ => trivial) h.r2 (Below.refl _ _) (ziY h.f) (by omega) ?_
 intro v1 w1 hr _ hg _
 obtain ⟨A, c, e1⟩ := Kd.R_slice hr
 rw [List.length_append, List.length_singleton] at e1
 subst e1
 exact k A c w1 (h.after2 hr hg)
theorem Fb.ins_step (h : Fb bf n0 n1 v2 v3 ys zs W) (y : S57) (hl : zs.length ≤ 2097152)
  (hgd : o.guard = none) (s x : Operand) (ho : o.op = .call { callee := .builtin .append, args := #[s, x], argTypes := #[50, 50] }) (hs : a.eval s = v3) (hx : a.eval x = .slice (some ⟨W.heap.size, 0, none⟩) 1 1)
  (k : ∀ (A : Option Addr) (c : Nat) (w1 : World), Put3 bf n0 n1 v2 v3 ys zs W y A c w1 → Kc (a.put o.dst (.slice A (zs.length + 1) c)) w1) :
  if Region.wanted o (yielded ops a.tmps) = true then Oper.wp Try.prog o a (W.alloc (.cells #[.int .i64 y.f0, .int .i64 y.f1, .int .i64 y.f2] 57)) Kc Q else Kc (a.put o.dst undef) (W.alloc (.cells #[.int .i64 y.f0, .int .i64 y.f1, .int .i64 y.f2] 57)) := by
 refine Kd.R_append_step k57 (w0 := W) (bf + 1) (by simp [Region.wanted, hgd]) s x 50 57 (.agg #[.int .i64 0, .int .i64 0, .int .i64 0]) 24 ho Try.underlying50 info57 rfl (by decide) (by omega) v3 zs y [.int .i64 y.f0, .int .i64 y.f1, .int .i64 y.f2] (fun _ => True) (fun _ => False) hs hx
  (k57_mkM _ _ _ y) (fun k hk => hk.elim) (fun _ _ => trivial) h.r3 (Below.refl _ _) (ziY h.f) (by omega) ?_
 intro v1 w1 hr _ hg _
 obtain ⟨A, c, e1⟩ := Kd.R_slice hr
 rw [List.length_append, List.length_singleton] at e1
 subst e1
 exact k A c w1 (h.after3 hr hg)
theorem Fb.ins_list (h : Fb bf n0 n1 v2 v3 ys zs W) (y : S57) (hl : zs.length ≤ 2097152)
  (hgd : o.guard = none) (s x : Operand) (ho : o.op = .call { callee := .builtin .append, args := #[s, x], argTypes := #[50, 50] }) (hs : a.eval s = v3) (hx : a.eval x = .slice (some ⟨W.heap.size, 0, none⟩) 1 1)
  (k : ∀ (A : Option Addr) (c : Nat) (w1 : World), Put3 bf n0 n1 v2 v3 ys zs W y A c w1 → wpList Try.prog ops Q rest (a.put o.dst (.slice A (zs.length + 1) c)) w1) :
  wpList Try.prog ops Q (o :: rest) a (W.alloc (.cells #[.int .i64 y.f0, .int .i64 y.f1, .int .i64 y.f2] 57)) := by
 refine Kd.R_append k57 (w0 := W) (bf + 1) hgd s x 50 57 (.agg #[.int .i64 0, .int .i64 0, .int .i64 0]) 24 ho Try.underlying50 info57 rfl (by decide) (by omega) v3 zs y [.int .i64 y.f0, .int .i64 y.f1, .int .i64 y.f2] (fun _ => True) (fun _ => False) hs hx
  (k57_mkM _ _ _ y) (fun k hk => hk.elim) (fun _ _ => trivial) h.r3 (Below.refl _ _) (ziY h.f) (by omega) ?_
 intro v1 w1 hr _ hg _
 obtain ⟨A, c, e1⟩ := Kd.R_slice hr
 rw [List.length_append, List.length_singleton] at e1
 subst e1
 exact k A c w1 (h.after3 hr hg)
end
end Go.Proofs.Ytmmpiojekgfdjaa.C
