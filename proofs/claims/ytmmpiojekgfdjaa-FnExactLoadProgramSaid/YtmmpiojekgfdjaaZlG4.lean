/- The specification reads bytes and numbers. -/
import Derived.Test.YtmmpiojekgfdjaaZlGb
import Derived.BigQuiet
import Derived.Test.YtmmpiojekgfdjaaZlK
namespace Go.Proofs.Ytmmpiojekgfdjaa.C
open Go.RowKit YtmmpiojekgfdjaaW.PrintWords YtmmpiojekgfdjaaW.PrintLast
set_option linter.unusedVariables false
set_option linter.unusedSimpArgs false
structure One (t b : Nat) (W W1 : World) : Prop where
 g : Grew (fun k => k = b) W W1
 c : ∃ c, W.heap[b]? = some (.cells c t (0, 0))
section
variable {t b : Nat} {W W1 : World}
theorem One.S {α : Type} {d : Kd α} {e base : Nat} {ok : Nat → Prop} {v : Value} {xs : List α} (h : One t b W W1) (ht : ∀ q, q ∈ e :: d.E → q ≠ t) (hs : Kd.S d e W base ok v xs) : Kd.S d e W1 base ok v xs := by
 obtain ⟨c, hc⟩ := h.c
 exact Kd.S_mono (h.g.S (Kd.S_types hs hc ht) (fun k hk e => hk.2 e)) (fun k hk => hk.1)
theorem One.R {α : Type} {d : Kd α} {e base : Nat} {ok : Nat → Prop} {v : Value} {xs : List α} (h : One t b W W1) (ht : ∀ q, q ∈ e :: d.E → q ≠ t) (hs : Kd.R d e W base ok v xs) : Kd.R d e W1 base ok v xs := by
 obtain ⟨c, hc⟩ := h.c
 exact Kd.R_mono (h.g.R (Kd.R_types hs hc ht) (fun k hk e => hk.2 e)) (fun k hk => hk.1)
theorem One.blk {k : Nat} {cs : Array Value} {t' : TypeId} (h : One t b W W1) (hb : W.heap[k]? = some (.cells cs t' (0, 0))) (ht : t' ≠ t) : W1.heap[k]? = some (.cells cs t' (0, 0)) := by
 obtain ⟨c, hc⟩ := h.c
 exact (h.g.block k (ziY hb) (blk_ne hb hc ht)).trans hb
theorem One.bx {base br bo : Nat} {ok : Nat → Prop} {u0 u1 : Value} {cs : List S48} {ps : List S52} (k : One 86 b W W1) (h : Bx base br bo ok u0 u1 cs ps W) : Bx base br bo ok u0 u1 cs ps W1 :=
 ⟨k.blk h.r (by decide), k.blk h.o (by decide), k.S (by decide) h.s0, k.S (by decide) h.s1, h.hb⟩
theorem One.fb {bf : Nat} {n0 n1 : Int} {v2 v3 : Value} {ys : List S54} {zs : List S57} (k : One 86 b W W1) (h : Fb bf n0 n1 v2 v3 ys zs W) : Fb bf n0 n1 v2 v3 ys zs W1 :=
 ⟨k.blk h.f (by decide), k.R (by decide) h.r2, k.R (by decide) h.r3⟩
end
theorem heap_setCell_three {w : World} {g : Nat} {x y z u : Value} {t : TypeId} (h : w.heap[g]? = some (.cells #[x, y, z] t (0, 0))) :
  (w.setCell ⟨g, 1, none⟩ u).heap[g]? = some (.cells #[x, u, z] t (0, 0)) ∧ (w.setCell ⟨g, 2, none⟩ u).heap[g]? = some (.cells #[x, y, u] t (0, 0)) :=
 ⟨heap_setCell_same w g 1 _ t u h, heap_setCell_same w g 2 _ t u h⟩
structure SpIs (w0 : World) (A : Option Addr) (c : Nat) (l : List Int) (W : World) (bq : Nat) (s : Rs) : Prop where
 b : Below w0.heap.size w0 W
 q : w0.heap.size ≤ bq
 ex : ∃ n : Nat, W.heap[bq]? = some (.cells #[.slice A l.length c, .int .i64 (n : Int), .bool s.2] 86 (0, 0)) ∧ s.1 = l.drop n ∧ n ≤ 1048580
structure SpC (w0 : World) (A : Option Addr) (c : Nat) (l : List Int) : Prop where
 rd : Kd.C (Kd.int .u8) w0 A l.length l
 cap : l.length ≤ c
 byt : Byt l
 len : l.length ≤ 1048576
section
variable {w0 : World} {A : Option Addr} {c : Nat} {l : List Int} {W W1 : World} {bq : Nat} {s s1 : Rs}
theorem SpIs.below (h : SpIs w0 A c l W bq s) (hb : Below W.heap.size W W1) : SpIs w0 A c l W1 bq s := by
 obtain ⟨h0, hq, n, h1, h2, h3⟩ := h
 exact ⟨zdY h0 hb, hq, n, (hb.block _ (ziY h1)).trans h1, h2, h3⟩
theorem SpIs.byt (h : SpIs w0 A c l W bq s) (hc : SpC w0 A c l) : Byt s.1 := by
 obtain ⟨_, _, n, _, h2, _⟩ := h
 rw [h2]
 exact fun x hx => hc.byt x (List.mem_of_mem_drop hx)
theorem SpIs.blk (h : SpIs w0 A c l W bq s) : ∃ c, W.heap[bq]? = some (.cells c 86 (0, 0)) := by
 obtain ⟨_, _, n, h1, _⟩ := h
 exact ⟨_, h1⟩
theorem SpIs.move (h : SpIs w0 A c l W bq s) (hb : Below w0.heap.size w0 W1) (hm : ∀ cells, W.heap[bq]? = some (.cells cells 86 (0, 0)) → W1.heap[bq]? = some (.cells cells 86 (0, 0))) : SpIs w0 A c l W1 bq s := by
 obtain ⟨_, hq, n, h1, h2, h3⟩ := h
 exact ⟨hb, hq, n, hm _ h1, h2, h3⟩
end
structure SpTo (w0 : World) (A : Option Addr) (c : Nat) (l : List Int) (W : World) (bq : Nat) (W1 : World) (s1 : Rs) : Prop where
 q : SpIs w0 A c l W1 bq s1
 g : Grew (fun k => k = bq) W W1
theorem SpTo.trans {w0 : World} {A : Option Addr} {c : Nat} {l : List Int} {W W1 W2 : World} {bq : Nat} {s1 s2 : Rs} (h : SpTo w0 A c l W bq W1 s1) (k : SpTo w0 A c l W1 bq W2 s2) : SpTo w0 A c l W bq W2 s2 := ⟨k.q, h.g.trans k.g⟩
theorem SpTo.below {w0 : World} {A : Option Addr} {c : Nat} {l : List Int} {W W1 W2 : World} {bq : Nat} {s1 : Rs} (h : SpTo w0 A c l W bq W1 s1) (hb : Below W1.heap.size W1 W2) : SpTo w0 A c l W bq W2 s1 :=
 ⟨h.q.below hb, h.g.trans ⟨hb.os, hb.tape, hb.output, hb.size, fun b hl _ => hb.block b hl⟩⟩
theorem SpTo.one {w0 : World} {A : Option Addr} {c : Nat} {l : List Int} {W W1 : World} {bq : Nat} {s s1 : Rs} (h0 : SpIs w0 A c l W bq s) (h : SpTo w0 A c l W bq W1 s1) : One 86 bq W W1 := ⟨h.g, h0.blk⟩
theorem bytes_at {w0 W : World} {A : Option Addr} {l : List Int} (h : Kd.C (Kd.int .u8) w0 A l.length l) (hb : Below w0.heap.size w0 W) {n : Nat} (hn : n < l.length) : ∃ a : Addr, A = some a ∧ W.cell? (a.add n) = some (.int .u8 l[n]) := by
 obtain ⟨a, rfl, hh⟩ := h.2.2 (by omega)
 refine ⟨a, rfl, ?_⟩
 obtain ⟨cs, h1, h2, h3⟩ := hh n _ (List.getElem?_eq_getElem hn)
 have e : cs = [.int .u8 l[n]] := h2
 subst e
 have h0 := h3 0 _ rfl
 rw [show (Kd.int .u8).sz = 1 from rfl, Nat.mul_one, Nat.add_zero] at h0
 exact (hb.cell (p := a.add n) (cell_blk_lt h0)).trans h0
set_option maxHeartbeats 4000000 in
theorem l5byte_calls (w0 : World) (A : Option Addr) (c : Nat) (l : List Int) (hC : SpC w0 A c l) (W : World) (bq : Nat) (s : Rs) (h : SpIs w0 A c l W bq s) :
  Calls Try.prog 51 #[.pointer (some ⟨bq, 0, none⟩)] W fun e W1 => e = .returned (.int .i64 (ldByte s).1) ∧ SpTo w0 A c l W bq W1 (ldByte s).2 := by
 obtain ⟨n, h1, h2, h3⟩ := h.ex
 have HI := amZ h
 have HC := amZ hC
 have H1 := amZ h1
 have q0 : W.cell? ⟨bq, 0, none⟩ = some (.slice A l.length c) := (zaY h1 0).trans rfl
 have q1 : W.cell? ⟨bq, 1, none⟩ = some (.int .i64 (n : Int)) := (zaY h1 1).trans rfl
 have f1 := zbY h1 1
 have f2 := zbY h1 2
 have H3 := amZ h3
 have HL := amZ hC.len
 clear hC h h1
 obtain ⟨t, bad⟩ := s
 have e2 : t = l.drop n := h2
 subst e2
 clear h2
 by_cases k : n < l.length
 ·
  have d1 : decide ((l.length : Int) ≤ (n : Int)) = false := decide_eq_false (by omega)
  have HK := amZ k
  obtain ⟨a, rfl, hx⟩ := bytes_at HC.out.rd HI.out.b k
  have hw1 : wrap64 ((n : Int) + 1) = ((n + 1 : Nat) : Int) := by unfold wrap64; omega
  go_enter Try.func51, Try.ntmps51
  go_wp2_with fail
  go_quiet (fail)
  go_wp2_with fail
  obtain ⟨W5, hW5⟩ : ∃ X, X = (W.drewN nq).setCell ⟨bq, 1, none⟩ (.int .i64 ((n : Int) + 1)) := ⟨_, rfl⟩
  rw [← hW5]
  have hbd : Below W.heap.size W (W.drewN nq) := pw_below_drewN (Below.refl _ _) nq
  have h5 : W5.heap[bq]? = some (.cells #[.slice (some a) l.length c, .int .i64 ((n : Int) + 1), .bool bad] 86 (0, 0)) := by
   rw [hW5]
   exact (heap_setCell_three ((hbd.block _ (ziY H1.out)).trans H1.out)).1
  have hb5 : Below w0.heap.size w0 W5 := by
   rw [hW5]
   exact (zdY HI.out.b hbd).setCell HI.out.q _
  have hg5 : Grew (fun k => k = bq) W W5 := by
   rw [hW5]
   exact (⟨hbd.os, hbd.tape, hbd.output, hbd.size, fun b hb _ => hbd.block b hb⟩ : Grew (fun k => k = bq) W (W.drewN nq)).trans (Grew.one _ _ _ _)
  obtain ⟨a', ea, hx5⟩ := bytes_at HC.out.rd hb5 k
  injection ea with ea
  subst ea
  have r0 : W5.cell? ⟨bq, 0, none⟩ = some (.slice (some a) l.length c) := (zaY h5 0).trans rfl
  have r1 : W5.cell? ⟨bq, 1, none⟩ = some (.int .i64 ((n : Int) + 1)) := (zaY h5 1).trans rfl
  have HT : Aside0 (SpTo w0 (some a) c l W bq W5 (l.drop (n + 1), bad)) := ⟨⟨⟨hb5, HI.out.q, n + 1, h5, rfl, by have := HL.out; omega⟩, hg5⟩⟩
  have HV : Aside0 (ldByte (l.drop n, bad) = (l[n], (l.drop (n + 1), bad))) := ⟨by unfold ldByte; rw [List.drop_eq_getElem_cons k]⟩
  obtain ⟨x, hxx⟩ : ∃ x, x = l[n] := ⟨_, rfl⟩
  rw [← hxx] at hx5 hx
  have HX := amZ hxx
  have HXR : Aside0 (0 ≤ x ∧ x < 256) := ⟨by rw [hxx]; exact HC.out.byt _ (List.getElem_mem k)⟩
  obtain ⟨hx0, hx1⟩ := HXR.out
  have hwx : wrap64 x = x := by unfold wrap64; omega
  clear hW5 hbd h5 hb5 hg5 q0 q1 f1 f2 hx hxx hx0 hx1 hw1
  go_quiet (fail)
  go_wp2_with fail
  go_ret
  refine ⟨?_, ?_⟩
  ·
   rw [HV.out]
   show Ending.returned (.int .i64 (wrap64 x)) = _
   rw [hwx, HX.out]
  ·
   rw [HV.out]
   exact HT.out.below (pw_below_drewN (Below.refl _ _) nq)
 ·
  have d1 : decide ((l.length : Int) ≤ (n : Int)) = true := decide_eq_true (by omega)
  have HN : Aside0 (l.drop n = []) := ⟨List.drop_eq_nil_of_le (by omega)⟩
  have k2 : l.length ≤ n := by omega
  have q2 : W.cell? ⟨bq, 2, none⟩ = some (.bool bad) := (zaY H1.out 2).trans rfl
  go_enter Try.func51, Try.ntmps51
  go_wp2_with fail
  go_quiet (fail)
  go_wp2_with fail
  have hbd : Below W.heap.size W (W.drewN nq) := pw_below_drewN (Below.refl _ _) nq
  have HT : Aside0 (SpTo w0 A c l W bq ((W.drewN nq).setCell ⟨bq, 2, none⟩ (.bool true)) (l.drop n, true)) := ⟨⟨⟨(zdY HI.out.b hbd).setCell HI.out.q _, HI.out.q, n, (heap_setCell_three ((hbd.block _ (ziY H1.out)).trans H1.out)).2, rfl, H3.out⟩, (⟨hbd.os, hbd.tape, hbd.output, hbd.size, fun b hb _ => hbd.block b hb⟩ : Grew (fun k => k = bq) W (W.drewN nq)).trans (Grew.one _ _ _ _)⟩⟩
  clear hbd
  go_ret
  have HE : ldByte (l.drop n, bad) = (0, (l.drop n, true)) := by rw [HN.out]; rfl
  rw [HE]
  exact ⟨rfl, HT.out⟩
theorem sNumG_keeps : ∀ n (sc v : Int), Keeps (sNumG n sc v)
 | 0, sc, v, s => ⟨0, rfl⟩
 | n + 1, sc, v, s => by
  unfold sNumG
  obtain ⟨k, e⟩ := ldByte_keeps s
  split
  ·
   exact ⟨k, e⟩
  ·
   exact keeps_two (k := k) (by rw [← e]; exact sNumG_keeps n _ _ _)
theorem sNum_keeps : Keeps sNum := sNumG_keeps 3 1 0
theorem sNum_range (s : Rs) (hb : Byt s.1) : 0 ≤ (sNum s).1 ∧ (sNum s).1 < 2097152 := by
 have : ∀ n (sc v : Int) (s : Rs), Byt s.1 → 0 ≤ v → 1 ≤ sc → v < sc → 0 ≤ (sNumG n sc v s).1 ∧ (sNumG n sc v s).1 < sc * 128 ^ n := by
  intro n
  induction n with
  | zero => intro sc v s _ h0 h1 h2; exact ⟨Int.le_refl 0, by simp [sNumG]; omega⟩
  | succ n ih =>
   intro sc v s hb h0 h1 h2
   obtain ⟨a, b, c⟩ := ldByte_range s hb
   have hp : (128 : Int) ^ (n + 1) = 128 * 128 ^ n := by rw [Int.pow_succ, Int.mul_comm]
   have hpos : (1 : Int) ≤ 128 ^ n := Int.pow_pos (by decide)
   have k1 : (ldByte s).1 % 128 * sc ≤ 127 * sc := Int.mul_le_mul_of_nonneg_right (by omega) (by omega)
   have k0 : 0 ≤ (ldByte s).1 % 128 * sc := Int.mul_nonneg (by omega) (by omega)
   rw [hp, ← Int.mul_assoc]
   unfold sNumG
   split
   ·
    have k2 : sc * 128 * 1 ≤ sc * 128 * 128 ^ n := Int.mul_le_mul_of_nonneg_left hpos (by omega)
    exact ⟨by show 0 ≤ v + (ldByte s).1 % 128 * sc; omega, by show v + (ldByte s).1 % 128 * sc < _; omega⟩
   ·
    exact ih (sc * 128) _ (ldByte s).2 c (by omega) (by omega) (by omega)
 have h := this 3 1 0 s hb (by omega) (by omega) (by omega)
 exact ⟨h.1, Int.lt_of_lt_of_le h.2 (by decide)⟩
theorem sNum_nat (s : Rs) (hb : Byt s.1) : ∃ N : Nat, (sNum s).1 = (N : Int) ∧ N < 2097152 := by
 have := sNum_range s hb
 exact ⟨(sNum s).1.toNat, by omega, by omega⟩
theorem sNum_wrap {n : Nat} {v sc x nv : Int} (hn : n ≤ 2) (hsc : sc = 128 ^ n) (hv : 0 ≤ v ∧ v < 128 ^ n) (hx : 0 ≤ x ∧ x < 256) (hnv : nv = v + x % 128 * sc) : wrap64 (v + wrap64 (x % 128 * sc)) = nv ∧ wrap64 (sc * 128) = sc * 128 := by
 have hp : ∀ n : Fin 3, (1 : Int) ≤ 128 ^ n.val ∧ (128 : Int) ^ n.val ≤ 16384 := by decide
 have h1 := hp ⟨n, by omega⟩
 simp only [← hsc] at h1 hv
 have k1 : x % 128 * sc ≤ 127 * sc := Int.mul_le_mul_of_nonneg_right (by omega) (by omega)
 have k0 : 0 ≤ x % 128 * sc := Int.mul_nonneg (by omega) (by omega)
 subst hnv
 generalize x % 128 * sc = p at *
 have e1 : wrap64 p = p := by unfold wrap64; omega
 rw [e1]
 unfold wrap64
 omega
set_option maxHeartbeats 4000000 in
theorem l5num_calls (w0 : World) (A : Option Addr) (c : Nat) (l : List Int) (hC : SpC w0 A c l) (W : World) (bq : Nat) (s : Rs) (h : SpIs w0 A c l W bq s) :
  Calls Try.prog 50 #[.pointer (some ⟨bq, 0, none⟩)] W fun e W1 => e = .returned (.int .i64 (sNum s).1) ∧ SpTo w0 A c l W bq W1 (sNum s).2 := by
 have HI := amZ h
 have HC := amZ hC
 clear hC h
 go_enter Try.func50, Try.ntmps50
 go_wp2_with fail
 go_loopg [3, 4, 5] 3 (fun g v3 v4 v5 wr => ∃ (n : Nat) (v sc : Int) (s1 : Rs), v3 = .int .i64 v ∧ v4 = .int .i64 sc ∧ v5 = .int .i64 (n : Int) ∧ Aside0 (n + g = 3) ∧ Aside0 (sc = 128 ^ n) ∧ Aside0 (0 ≤ v ∧ v < 128 ^ n) ∧ Aside0 (SpTo w0 A c l W bq wr s1) ∧ Aside0 (sNum s = sNumG g sc v s1))
 case atStart => exact ⟨0, 0, 1, s, rfl, rfl, rfl, ⟨rfl⟩, ⟨rfl⟩, ⟨by simp⟩, ⟨⟨HI.out, Grew.refl _ _⟩⟩, ⟨rfl⟩⟩
 case round =>
  obtain ⟨n, v, sc, s1, rfl, rfl, rfl, hn, hsc, hv, hT, hE⟩ := hrel
  by_cases h3 : n < 3
  ·
   have d3 : decide ((n : Int) < 3) = true := decide_eq_true (by omega)
   go_wp2_with fail
   refine (l5byte_calls w0 A c l HC.out wr bq s1 hT.out.q).mono ?_
   rintro e w1 ⟨rfl, h⟩
   have HT := amZ (hT.out.trans h)
   obtain ⟨hc0, hc1, _⟩ := ldByte_range s1 (hT.out.q.byt HC.out)
   obtain ⟨x, hx⟩ : ∃ x, x = (ldByte s1).1 := ⟨_, rfl⟩
   rw [← hx] at hc0 hc1 ⊢
   obtain ⟨g2, hg2⟩ : ∃ g2, gk = g2 + 1 := ⟨gk - 1, by have := hn.out; omega⟩
   have HG2 := amZ hg2
   obtain ⟨nv, hnv⟩ : ∃ y, y = v + x % 128 * sc := ⟨_, rfl⟩
   have HST : Aside0 (sNum s = if x < 128 then (nv, (ldByte s1).2) else sNumG g2 (sc * 128) nv (ldByte s1).2) := ⟨by
    rw [hE.out, hg2]
    show (if (ldByte s1).1 < 128 then _ else _) = _
    rw [← hx, ← hnv]⟩
   have HNV : Aside0 (0 ≤ nv ∧ nv < 128 ^ (n + 1)) := ⟨num_step hv.out ⟨hc0, hc1⟩ (by rw [hnv, hsc.out])⟩
   have HX := amZ (And.intro hc0 hc1)
   have HW := amZ (sNum_wrap (by omega) hsc.out hv.out ⟨hc0, hc1⟩ hnv)
   clear h hx hg2 hnv
   by_cases k : x < 128
   ·
    have HE : Aside0 (sNum s = (nv, (ldByte s1).2)) := ⟨by rw [HST.out, if_pos k]⟩
    go_wp2_with fail
    go_ret
    exact ⟨by rw [HE.out]; exact ret_i64 HW.out.1, by rw [HE.out]; exact HT.out⟩
   ·
    have HE : Aside0 (sNum s = sNumG g2 (sc * 128) nv (ldByte s1).2) := ⟨by rw [HST.out, if_neg k]⟩
    go_wp2_with fail
    go_roundg g2
    case measure => have := HG2.out; omega
    case rel => exact ⟨n + 1, nv, sc * 128, (ldByte s1).2, i64_num HW.out.1, i64_num HW.out.2, rfl, ⟨by have := hn.out; have := HG2.out; omega⟩, ⟨by rw [hsc.out, Int.pow_succ]⟩, HNV, HT, HE⟩
  ·
   have d3 : decide ((n : Int) < 3) = false := decide_eq_false (by omega)
   have hg0 : gk = 0 := by have := hn.out; omega
   subst hg0
   obtain ⟨m, h1, h2, h4⟩ := hT.out.q.ex
   have q2 : wr.cell? ⟨bq, 2, none⟩ = some (.bool s1.2) := (zaY h1 2).trans rfl
   have f2 := zbY h1 2
   have HE : Aside0 (sNum s = (0, (s1.1, true))) := hE
   have HT : Aside0 (SpTo w0 A c l W bq (wr.setCell ⟨bq, 2, none⟩ (.bool true)) (s1.1, true)) := ⟨⟨⟨hT.out.q.b.setCell hT.out.q.q _, hT.out.q.q, m, (heap_setCell_three h1).2, h2, h4⟩, hT.out.g.trans (Grew.one _ _ _ _)⟩⟩
   clear h1 h2 h4
   go_wp2_with fail
   go_ret
   exact ⟨by rw [HE.out]; rfl, by rw [HE.out]; exact HT.out⟩
end Go.Proofs.Ytmmpiojekgfdjaa.C
