/- The loader reads a program. -/
import Derived.Test.YtmmpiojekgfdjaaZlGb
import Derived.Test.YtmmpiojekgfdjaaZlGc
import Derived.Test.YtmmpiojekgfdjaaZlK
namespace Go.Proofs.Ytmmpiojekgfdjaa.C
open Go.RowKit YtmmpiojekgfdjaaW.PrintWords YtmmpiojekgfdjaaW.PrintLast
set_option linter.unusedVariables false
set_option linter.unusedSimpArgs false
def RsOK (s : Rs) : Prop := Byt s.1 ∧ s.1.length ≤ 1048576
theorem RsOK.to {s s1 : Rs} (h : RsOK s) (hk : ∃ k, s1.1 = s.1.drop k) : RsOK s1 := by
 obtain ⟨k, e⟩ := hk
 unfold RsOK
 rw [e]
 exact ⟨fun c hc => h.1 c (List.mem_of_mem_drop hc), by rw [List.length_drop]; have := h.2; omega⟩
theorem LdIs.blk {w0 W : World} {bq : Nat} {s : Rs} (h : LdIs w0 W bq s) : ∃ c, W.heap[bq]? = some (.cells c 93 (0, 0)) := by
 obtain ⟨_, _, A, c, v, h1, _⟩ := h
 exact ⟨_, h1⟩
theorem LdTo.S {α : Type} {d : Kd α} {e base : Nat} {ok : Nat → Prop} {w0 W W1 : World} {bq : Nat} {s s1 : Rs} {v : Value} {xs : List α} (h0 : LdIs w0 W bq s) (h : LdTo w0 W bq W1 s1) (ht : ∀ q, q ∈ e :: d.E → q ≠ 93) (hs : Kd.S d e W base ok v xs) : Kd.S d e W1 base ok v xs := by
 obtain ⟨c, hc⟩ := h0.blk
 exact Kd.S_mono (h.g.S (Kd.S_types hs hc ht) (fun k hk e => hk.2 e)) (fun k hk => hk.1)
theorem LdTo.R {α : Type} {d : Kd α} {e base : Nat} {ok : Nat → Prop} {w0 W W1 : World} {bq : Nat} {s s1 : Rs} {v : Value} {xs : List α} (h0 : LdIs w0 W bq s) (h : LdTo w0 W bq W1 s1) (ht : ∀ q, q ∈ e :: d.E → q ≠ 93) (hs : Kd.R d e W base ok v xs) : Kd.R d e W1 base ok v xs := by
 obtain ⟨c, hc⟩ := h0.blk
 exact Kd.R_mono (h.g.R (Kd.R_types hs hc ht) (fun k hk e => hk.2 e)) (fun k hk => hk.1)
theorem LdTo.blk {w0 W W1 : World} {bq b : Nat} {s s1 : Rs} {cs : Array Value} {t : TypeId} (h0 : LdIs w0 W bq s) (h : LdTo w0 W bq W1 s1) (hb : W.heap[b]? = some (.cells cs t (0, 0))) (ht : t ≠ 93) : W1.heap[b]? = some (.cells cs t (0, 0)) := by
 obtain ⟨c, hc⟩ := h0.blk
 exact (h.g.block b (ziY hb) (blk_ne hb hc ht)).trans hb
structure Pg (w0 : World) (bq br bo : Nat) (ok : Nat → Prop) (s : Rs) (cs : List S48) (ps : List S52) (W : World) : Prop where
 l : LdIs w0 W bq s
 y : RsOK s
 o : ∃ u0 u1, Bx w0.heap.size br bo ok u0 u1 cs ps W
section
variable {w0 W W1 : World} {bq br bo : Nat} {ok ok' : Nat → Prop} {s s1 : Rs} {cs cs' : List S48} {ps ps' : List S52}
theorem LdTo.bx {base : Nat} {u0 u1 : Value} (h : Bx base br bo ok u0 u1 cs ps W) (h0 : LdIs w0 W bq s) (k : LdTo w0 W bq W1 s1) : Bx base br bo ok u0 u1 cs ps W1 :=
 ⟨k.blk h0 h.r (by decide), k.blk h0 h.o (by decide), k.S h0 (by decide) h.s0, k.S h0 (by decide) h.s1, h.hb⟩
theorem Pg.to (h : Pg w0 bq br bo ok s cs ps W) (k : LdTo w0 W bq W1 s1) (hk : ∃ k, s1.1 = s.1.drop k) : Pg w0 bq br bo ok s1 cs ps W1 := by
 obtain ⟨u0, u1, o⟩ := h.o
 exact ⟨k.q, h.y.to hk, ⟨u0, u1, LdTo.bx o h.l k⟩⟩
theorem Pg.below (h : Pg w0 bq br bo ok s cs ps W) (hb : Below W.heap.size W W1) : Pg w0 bq br bo ok s cs ps W1 := by
 obtain ⟨u0, u1, o⟩ := h.o
 exact ⟨h.l.below hb, h.y, ⟨u0, u1, o.below hb⟩⟩
theorem Pg.mono (h : Pg w0 bq br bo ok s cs ps W) (hk : ∀ k, ok k → ok' k) : Pg w0 bq br bo ok' s cs ps W := by
 obtain ⟨u0, u1, o⟩ := h.o
 exact ⟨h.l, h.y, ⟨u0, u1, o.mono hk⟩⟩
theorem Pg.bound (h : Pg w0 bq br bo ok s cs ps W) : Pg w0 bq br bo (fun k => k < W.heap.size) s cs ps W := by
 obtain ⟨u0, u1, o⟩ := h.o
 exact ⟨h.l, h.y, ⟨u0, u1, o.bound⟩⟩
theorem LdIs.move (h : LdIs w0 W bq s) (hb : Below w0.heap.size w0 W1) (hm : ∀ cells, W.heap[bq]? = some (.cells cells 93 (0, 0)) → W1.heap[bq]? = some (.cells cells 93 (0, 0))) : LdIs w0 W1 bq s := by
 obtain ⟨_, hq, A, c, v, h1, h2, h3, h4⟩ := h
 exact ⟨hb, hq, A, c, v, hm _ h1, h2, h3, h4⟩
theorem Pg.put0 {u0 u1 : Value} {y : S48} {A : Option Addr} {c : Nat} {w1 : World} (hl : LdIs w0 W bq s) (hy : RsOK s) (hbo : W.heap[bo]? = some (.cells #[u0, u1] 31 (0, 0))) (h : Put0 w0.heap.size br bo u0 u1 cs ps w0 W y A c w1) : Pg w0 bq br bo (fun _ => True) s (cs ++ [y]) ps (w1.setCell ⟨bo, 0, none⟩ (.slice A (cs.length + 1) c)) := by
 obtain ⟨_, h1, h2, h3⟩ := h
 obtain ⟨cc, hc⟩ := hl.blk
 exact ⟨hl.move h2 (fun cells hcells => h3.2 bq cells 93 (by decide) (blk_ne hc hbo (by decide)) hcells), hy, _, _, h1⟩
theorem Pg.put1 {u0 u1 : Value} {y : S52} {A : Option Addr} {c : Nat} {w1 : World} (hl : LdIs w0 W bq s) (hy : RsOK s) (hbo : W.heap[bo]? = some (.cells #[u0, u1] 31 (0, 0))) (h : Put1 w0.heap.size br bo u0 u1 cs ps w0 W y A c w1) : Pg w0 bq br bo (fun _ => True) s cs (ps ++ [y]) (w1.setCell ⟨bo, 1, none⟩ (.slice A (ps.length + 1) c)) := by
 obtain ⟨_, h1, h2, h3⟩ := h
 obtain ⟨cc, hc⟩ := hl.blk
 exact ⟨hl.move h2 (fun cells hcells => h3.2 bq cells 93 (by decide) (blk_ne hc hbo (by decide)) hcells), hy, _, _, h1⟩
end
section
variable {w0 W W1 : World} {bq br bo bf : Nat} {s s1 : Rs} {cs : List S48} {ps : List S52} {n0 n1 : Int} {v2 v3 : Value} {ys : List S54} {zs : List S57}
theorem Fb.to (h : Fb bf n0 n1 v2 v3 ys zs W) (h0 : LdIs w0 W bq s) (k : LdTo w0 W bq W1 s1) : Fb bf n0 n1 v2 v3 ys zs W1 :=
 ⟨k.blk h0 h.f (by decide), k.R h0 (by decide) h.r2, k.R h0 (by decide) h.r3⟩
theorem Pg.belowN (h : Pg w0 bq br bo (fun k => k < bf) s cs ps W) (hb : Below bf W W1) (hq : bq < bf) (ho : bo < bf) (hf : w0.heap.size ≤ bf) : Pg w0 bq br bo (fun k => k < bf) s cs ps W1 := by
 obtain ⟨u0, u1, o⟩ := h.o
 exact ⟨h.l.move (h.l.b.trans (hb.mono hf)) (fun cells hc => (hb.block bq hq).trans hc), h.y, u0, u1, o.belowN hb ho⟩
theorem Pg.lts (h : Pg w0 bq br bo (fun _ => True) s cs ps W) : bq < W.heap.size ∧ bo < W.heap.size ∧ w0.heap.size ≤ W.heap.size := by
 obtain ⟨u0, u1, o⟩ := h.o
 obtain ⟨c, hc⟩ := h.l.blk
 exact ⟨ziY hc, ziY o.o, h.l.b.size⟩
end
theorem Bx.fin {base br bo : Nat} {u0 u1 : Value} {cs : List S48} {ps : List S52} {W : World} (h : Bx base br bo (fun _ => True) u0 u1 cs ps W) :
  Kd.S k48 48 ((W.setCell ⟨br, 0, none⟩ u0).setCell ⟨br, 1, none⟩ u1) base (fun _ => True) u0 cs ∧ Kd.S k52 52 ((W.setCell ⟨br, 0, none⟩ u0).setCell ⟨br, 1, none⟩ u1) base (fun _ => True) u1 ps ∧ ((W.setCell ⟨br, 0, none⟩ u0).setCell ⟨br, 1, none⟩ u1).heap[br]? = some (.cells #[u0, u1] 31 (0, 0)) := by
 have o1 := heap_setCell_same W br 0 _ 31 u0 h.r
 exact ⟨Kd.S_set (Kd.S_set h.s0 h.r (by decide) 0 u0) o1 (by decide) 1 u1, Kd.S_set (Kd.S_set h.s1 h.r (by decide) 0 u0) o1 (by decide) 1 u1, heap_setCell_same _ _ 1 _ 31 u1 o1⟩
theorem LdIs.set2 {w0 W : World} {bq br : Nat} {s : Rs} {cells : Array Value} (h : LdIs w0 W bq s) (hr : W.heap[br]? = some (.cells cells 31 (0, 0))) (hb : w0.heap.size ≤ br) (u0 u1 : Value) : LdIs w0 ((W.setCell ⟨br, 0, none⟩ u0).setCell ⟨br, 1, none⟩ u1) bq s := by
 obtain ⟨c, hc⟩ := h.blk
 have hne := blk_ne hc hr (by decide)
 exact h.move ((h.b.setCell hb u0).setCell hb u1) (fun cells hcl => blk_far (blk_far hcl hne u0) hne u1)
theorem C_take {w0 : World} {A : Option Addr} {l : List Int} (h : Kd.C (Kd.int .u8) w0 A l.length l) (n : Nat) : Kd.C (Kd.int .u8) w0 A (l.take n).length (l.take n) := by
 refine ⟨rfl, by have := h.2.1; rw [List.length_take]; omega, fun hp => ?_⟩
 obtain ⟨ad, e, hh⟩ := h.2.2 (by rw [List.length_take] at hp; omega)
 refine ⟨ad, e, fun j p hj => hh j p ?_⟩
 rw [List.getElem?_take] at hj
 split at hj
 ·
  exact hj
 ·
  cases hj
theorem C_drop {w0 : World} {A : Option Addr} {l : List Int} (h : Kd.C (Kd.int .u8) w0 A l.length l) (n : Nat) : Kd.C (Kd.int .u8) w0 (Option.map (fun x : Addr => x.add n) A) (l.drop n).length (l.drop n) := by
 refine ⟨rfl, by have := h.2.1; rw [List.length_drop]; omega, fun hp => ?_⟩
 obtain ⟨ad, e, hh⟩ := h.2.2 (by rw [List.length_drop] at hp; omega)
 subst e
 refine ⟨ad.add n, rfl, fun j p hj => ?_⟩
 rw [List.getElem?_drop] at hj
 obtain ⟨cs, h1, h2, h3⟩ := hh (n + j) p hj
 refine ⟨cs, h1, h2, fun i u hu => ?_⟩
 rw [← h3 i u hu, addr_add_add]
 congr 2
 rw [show (Kd.int .u8).sz = 1 from rfl]
 omega
theorem Pg.cut {w0 W : World} {bq br bo : Nat} {ok : Nat → Prop} {s : Rs} {cs : List S48} {ps : List S52} (h : Pg w0 bq br bo ok s cs ps W) {x v : Value} (h1 : W.heap[bq]? = some (.cells #[x, v] 93 (0, 0))) (h2 : ErrV s.2 v)
  {B : Option Addr} {c m n : Nat} (h3 : Kd.C (Kd.int .u8) w0 B (s.1.drop n).length (s.1.drop n)) (hm : (s.1.drop n).length = m) (h4 : m ≤ c) : Pg w0 bq br bo ok (s.1.drop n, s.2) cs ps (W.setCell ⟨bq, 0, none⟩ (.slice B m c)) := by
 subst hm
 refine h.to (s1 := (s.1.drop n, s.2)) ⟨⟨h.l.b.setCell h.l.q _, h.l.q, B, c, v, (heap_setCell_two h1).1, h2, h3, h4⟩, Grew.one _ _ _ _⟩ ⟨n, rfl⟩
theorem text_eq {t s2 : Rs} {y : List Int} (h1 : (ldCount t).1 = (y.length : Int)) (h2 : s2 = (ldCount t).2) (h3 : y = s2.1.take y.length) : ldText t = (y, (s2.1.drop y.length, s2.2)) := by
 unfold ldText
 rw [h1, Int.toNat_natCast, ← h2, ← h3]
theorem wraps_u64 (n : Int) (h0 : 0 ≤ n) (h1 : n < 2 ^ 64) : IntKind.u64.wrap n = n := by
 simp [IntKind.wrap, IntKind.bits, IntKind.signed]; omega
theorem pow8' (n : Nat) : (2 : Int) ^ (8 * n) = 256 ^ n := by rw [Int.pow_mul]; rfl
theorem pow_le8 {n : Nat} (hn : n ≤ 7) : (256 : Int) ^ n ≤ 72057594037927936 := by
 have : ∀ n : Fin 8, (256 : Int) ^ n.val ≤ 72057594037927936 := by decide
 exact this ⟨n, by omega⟩
theorem u64_eight (v x : Int) (n : Nat) (hn : n ≤ 7) (hv0 : 0 ≤ v) (hv : v < 256 ^ n) (hc0 : 0 ≤ x) (hc : x < 256) :
  bits .or .u64 v (IntKind.u64.wrap (x * 2 ^ (8 * n))) = v + x * 256 ^ n := by
 have hp := pow_le8 hn
 have h1 : x * 256 ^ n ≤ 255 * 256 ^ n := Int.mul_le_mul_of_nonneg_right (by omega) (by omega)
 have h0 : 0 ≤ x * 256 ^ n := Int.mul_nonneg hc0 (by omega)
 rw [pow8', wraps_u64 _ h0 (by omega)]
 exact or_low .u64 64 (by decide) wraps_u64 (8 * n) v _ h0 (by omega) (by rw [pow8']; exact Int.mul_emod_left _ _) hv0 (by rw [pow8']; exact hv) (by omega)
theorem eight_step {n : Nat} {v c nv : Int} (hv : 0 ≤ v ∧ v < 256 ^ n) (hc : 0 ≤ c ∧ c < 256) (h : nv = v + c * 256 ^ n) : 0 ≤ nv ∧ nv < 256 ^ (n + 1) := by
 have hp : (256 : Int) ^ (n + 1) = 256 ^ n * 256 := Int.pow_succ ..
 have h1 : c * 256 ^ n ≤ 255 * 256 ^ n := Int.mul_le_mul_of_nonneg_right (by omega) (by omega)
 have h0 : 0 ≤ c * 256 ^ n := Int.mul_nonneg (by omega) (by omega)
 omega
def magicL : List Int := [77, 78, 76, 84]
theorem magic_at {W : World} {bm i : Nat} (h : W.heap[bm]? = some (.cells (nums .u8 [77, 78, 76, 84]).toArray 5 (4, 5))) (hi : i < 4) :
  ∃ c, W.cell? ⟨bm, i, none⟩ = some (.int .u8 c) ∧ ∀ s, ldIs (magicL.drop i) s = ldIs (magicL.drop (i + 1)) ((ldByte s).2.1, (ldByte s).2.2 || decide ((ldByte s).1 ≠ c)) := by
 have hc := fun j => cell_of_row W bm j _ _ _ h
 match i, hi with
 | 0, _ => exact ⟨77, hc 0, fun _ => rfl⟩
 | 1, _ => exact ⟨78, hc 1, fun _ => rfl⟩
 | 2, _ => exact ⟨76, hc 2, fun _ => rfl⟩
 | 3, _ => exact ⟨84, hc 3, fun _ => rfl⟩
theorem ldCount_nat (s : Rs) (hy : RsOK s) : ∃ N : Nat, (ldCount s).1 = (N : Int) ∧ N ≤ 1048576 ∧ N ≤ (ldCount s).2.1.length := by
 have h0 := (ldNum_range s hy.1).1
 obtain ⟨k, hk⟩ := ldCount_keeps s
 have hl : (ldCount s).2.1.length ≤ 1048576 := by rw [hk, List.length_drop]; have := hy.2; omega
 unfold ldCount at hl ⊢
 split
 ·
  exact ⟨0, rfl, by omega, by omega⟩
 ·
  rename_i c
  rw [if_neg c] at hl
  exact ⟨(ldNum s).1.toNat, by omega, by omega, by omega⟩
theorem ldByte_k (s : Rs) : ∃ k, (ldByte s).2.1 = s.1.drop k := ldByte_keeps s
set_option maxHeartbeats 8000000 in
set_option maxRecDepth 100000 in
theorem program_calls (w0 w : World) (bq : Nat) (s0 : Rs) (h : LdIs w0 w bq s0) (hy : RsOK s0) :
  Calls Try.prog 52 #[.pointer (some ⟨bq, 0, none⟩)] w fun e W1 => ∃ u0 u1, e = .returned (.agg #[u0, u1]) ∧ Kd.S k48 48 W1 w0.heap.size (fun _ => True) u0 (ldProg s0).1.1 ∧ Kd.S k52 52 W1 w0.heap.size (fun _ => True) u1 (ldProg s0).1.2 ∧ LdIs w0 W1 bq (ldProg s0).2 := by
 have HI := amZ h
 have HY := amZ hy
 clear h hy
 go_enter Try.func52, Try.ntmps52
 go_upto_region 2 with (fail)
 obtain ⟨W2, hW2⟩ : ∃ W, W = ((w.alloc (.cells #[.slice none 0 0, .slice none 0 0] 31)).alloc (.cells #[.slice none 0 0, .slice none 0 0] 31)) := ⟨_, rfl⟩
 obtain ⟨br, hbr⟩ : ∃ b, b = w.heap.size := ⟨_, rfl⟩
 obtain ⟨bo, hbo⟩ : ∃ b, b = br + 1 := ⟨_, rfl⟩
 have hb2 : Below w.heap.size w W2 := by rw [hW2]; exact ((Below.refl _ _).alloc (Nat.le_refl _) _).alloc (by simp) _
 have hpg : Pg w0 bq br bo (fun _ => True) s0 [] [] W2 := by
  have l2 := HI.out.below hb2
  refine ⟨l2, HY.out, _, _, ?_, ?_, Kd.S_nil _ _ _ _ _, Kd.S_nil _ _ _ _ _, ?_⟩
  ·
   rw [hW2, hbr, heap_alloc_old _ _ (by simp), heap_alloc_new]
  ·
   rw [hW2, hbo, hbr, show w.heap.size + 1 = (w.alloc (.cells #[.slice none 0 0, .slice none 0 0] 31)).heap.size by simp, heap_alloc_new]
  ·
   have := HI.out.b.size; omega
 rw [← hW2, ← hbr, ← hbo]
 have kc := Lib.run_convert_bytes_const (P := Try.prog) W2 35 5 #[.int .u8 77, .int .u8 78, .int .u8 76, .int .u8 84] 4 4 Try.underlying35 Try.underlying5
 have HPG := amZ hpg
 clear hW2 hbr hbo hb2 HI HY
 obtain ⟨bm, hbm⟩ : ∃ b, b = W2.heap.size := ⟨_, rfl⟩
 obtain ⟨W3, hW3⟩ : ∃ W, W = W2.alloc (.cells (nums .u8 [77, 78, 76, 84]).toArray 5 (4, 5)) := ⟨_, rfl⟩
 have HPG3 : Aside0 (Pg w0 bq br bo (fun _ => True) s0 [] [] W3) := ⟨by rw [hW3]; exact hpg.below ((Below.refl _ _).alloc (Nat.le_refl _) _)⟩
 have HM3 : Aside0 (W3.heap[bm]? = some (.cells (nums .u8 [77, 78, 76, 84]).toArray 5 (4, 5))) := ⟨by rw [hW3, hbm, heap_alloc_new]⟩
 have HQM : Aside0 (bq ≠ bm) := ⟨by obtain ⟨c, hc⟩ := hpg.l.blk; have := ziY hc; omega⟩
 go_wp2_with fail
 rw [show W2.alloc (.cells #[.int .u8 77, .int .u8 78, .int .u8 76, .int .u8 84] 5 (4, 5)) = W3 from hW3.symm, ← hbm]
 clear hW3 hbm kc hpg HPG
 go_loopg [16] 4 (fun g v16 wr => ∃ (i : Nat) (s : Rs), v16 = .int .i64 (i : Int) ∧ Aside0 (i + g = 4) ∧ Aside0 (Pg w0 bq br bo (fun _ => True) s [] [] wr) ∧ Aside0 (wr.heap[bm]? = some (.cells (nums .u8 [77, 78, 76, 84]).toArray 5 (4, 5))) ∧ Aside0 (ldIs (magicL.drop i) s = ldIs magicL s0))
 case atStart => exact ⟨0, s0, rfl, ⟨rfl⟩, HPG3, HM3, ⟨rfl⟩⟩
 case round =>
  clear HPG3 HM3
  obtain ⟨i, s, rfl, hi, hP, hM, hE⟩ := hrel
  by_cases h4 : i < 4
  ·
   have d4 : decide ((i : Int) < 4) = true := decide_eq_true (by omega)
   obtain ⟨c, hc⟩ := magic_at hM.out h4
   have hx := hc.1
   have HC := amZ hc.2
   have HI := amZ h4
   clear hc
   go_wp2_with fail
   refine (byte_calls w0 wr bq s hP.out.l).mono ?_
   rintro e w1 ⟨rfl, h⟩
   have HP := amZ (hP.out.to h (ldByte_k s))
   have HM := amZ ((h.g.block bm (ziY hM.out) (fun e => HQM.out e.symm)).trans hM.out)
   obtain ⟨b, hb⟩ : ∃ b, b = (ldByte s).1 := ⟨_, rfl⟩
   rw [← hb]
   have HBB := amZ hb
   clear h hb hx
   by_cases k : b = c
   ·
    have HE : Aside0 (ldIs (magicL.drop (i + 1)) (ldByte s).2 = ldIs magicL s0) := ⟨by rw [← hE.out, HC.out s, ← HBB.out, decide_eq_false (by simpa using k), Bool.or_false]⟩
    subst k
    go_wp2_with fail
    go_roundg (4 - (i + 1))
    case measure => have := hi.out; have := HI.out; omega
    case rel => exact ⟨i + 1, (ldByte s).2, rfl, ⟨by have := HI.out; omega⟩, HP, HM, HE⟩
   ·
    have HE : Aside0 (ldIs (magicL.drop (i + 1)) ((ldByte s).2.1, true) = ldIs magicL s0) := ⟨by rw [← hE.out, HC.out s, ← HBB.out, decide_eq_true (by simpa using k), Bool.or_true]⟩
    go_wp2_with fail
    refine (fail_calls w0 w1 bq (ldByte s).2 errForm HP.out.l (.inr (.inl rfl))).mono ?_
    rintro e w2 ⟨rfl, h⟩
    have HP2 := amZ (HP.out.to (s1 := ((ldByte s).2.1, true)) h ⟨0, rfl⟩)
    have HM2 := amZ ((h.g.block bm (ziY HM.out) (fun e => HQM.out e.symm)).trans HM.out)
    clear h
    go_wp2_with fail
    go_roundg (4 - (i + 1))
    case measure => have := hi.out; have := HI.out; omega
    case rel => exact ⟨i + 1, _, rfl, ⟨by have := HI.out; omega⟩, HP2, HM2, HE⟩
  ·
   have d4 : decide ((i : Int) < 4) = false := decide_eq_false (by omega)
   have hi4 : i = 4 := by have := hi.out; omega
   subst hi4
   obtain ⟨s1, hs1⟩ : ∃ s1, s1 = ldIs magicL s0 := ⟨_, rfl⟩
   have hss : s = s1 := hE.out.trans hs1.symm
   subst hss
   have HS1 := amZ hs1
   clear hs1 hM hE hi h4 HQM
   go_wp2_with fail
   refine (count_calls w0 wr bq s hP.out.l hP.out.y.1).mono ?_
   rintro e w1 ⟨rfl, h⟩
   have HP := amZ (hP.out.to h (ldCount_keeps s))
   obtain ⟨N, hN, hN1, hN2⟩ := ldCount_nat s hP.out.y
   have HN := amZ hN1
   have HE : Aside0 (ldRow ldConst s = ldMany ldConst N (ldCount s).2) := ⟨by unfold ldRow; rw [hN]; rfl⟩
   rw [hN]
   clear h hP hN hN1 hN2
   go_wp2_with fail
   go_loopg [30] N (fun g v30 wr => ∃ (i : Nat) (s1 : Rs) (cs : List S48), v30 = .int .i64 (i : Int) ∧ Aside0 (i + g = N) ∧ Aside0 (Pg w0 bq br bo (fun _ => True) s1 cs [] wr) ∧ Aside0 (cs.length = i) ∧ Aside0 (ldRow ldConst s = (cs ++ (ldMany ldConst g s1).1, (ldMany ldConst g s1).2)))
   case atStart => exact ⟨0, _, [], rfl, ⟨by omega⟩, HP, ⟨rfl⟩, HE⟩
   case round =>
    clear HP HE
    obtain ⟨i, s1, cs, rfl, hi, hP, hL, hE⟩ := hrel
    by_cases hlt : i < N
    ·
     have d1 : decide ((i : Int) < (N : Int)) = true := decide_eq_true (by omega)
     obtain ⟨gg, hgg⟩ : ∃ gg, gk = gg + 1 := ⟨gk - 1, by have := hi.out; omega⟩
     subst hgg
     have HE : Aside0 (ldRow ldConst s = (cs ++ ((ldConst s1).1 :: (ldMany ldConst gg (ldConst s1).2).1), (ldMany ldConst gg (ldConst s1).2).2)) := hE
     have HLT := amZ hlt
     clear hE
     go_wp2_with fail
     refine (flag_calls w0 wr bq s1 hP.out.l).mono ?_
     rintro e w1 ⟨rfl, h⟩
     have HP := amZ (hP.out.to h (ldFlag_keeps s1))
     obtain ⟨b, hb⟩ : ∃ b, b = (ldFlag s1).1 := ⟨_, rfl⟩
     rw [← hb]
     cases b with
     | true =>
      have HC : Aside0 (ldConst s1 = (⟨true, 0, (ldText (ldFlag s1).2).1⟩, (ldText (ldFlag s1).2).2)) := ⟨by unfold ldConst; rw [if_pos hb.symm]⟩
      clear h hP hb
      go_wp2_with fail
      refine (count_calls w0 w1 bq (ldFlag s1).2 HP.out.l HP.out.y.1).mono ?_
      rintro e w2 ⟨rfl, h⟩
      have HP2 := amZ (HP.out.to h (ldCount_keeps _))
      obtain ⟨n, hn, hn1, hn2⟩ := ldCount_nat (ldFlag s1).2 HP.out.y
      rw [hn]
      have HNN := amZ (And.intro hn hn1)
      have HN2 := amZ hn2
      clear h HP hn hn1
      obtain ⟨u0, u1, ob⟩ := HP2.out.o
      obtain ⟨_, _, A, c, v, h1, h2, h3, h4⟩ := HP2.out.l
      obtain ⟨s2, hs2⟩ : ∃ s2, s2 = (ldCount (ldFlag s1).2).2 := ⟨_, rfl⟩
      rw [← hs2] at HP2 h1 h2 h3 h4 hn2
      have HS2 := amZ hs2
      clear hs2
      have q0 : w2.cell? ⟨bq, 0, none⟩ = some (.slice A s2.1.length c) := (zaY h1 0).trans rfl
      have p0 : w2.cell? ⟨bo, 0, none⟩ = some u0 := (zaY ob.o 0).trans rfl
      have f0 := zbY ob.o 0
      have nc : (n : Int) ≤ (c : Int) := by omega
      have hHC := C_take h3 n
      have HSL : Aside0 (s2.1.length ≤ 1048576) := ⟨HP2.out.y.2⟩
      have HTL : (s2.1.take n).length = n := by rw [List.length_take]; omega
      obtain ⟨y, hyy⟩ : ∃ y, y = s2.1.take n := ⟨_, rfl⟩
      rw [← hyy] at hHC HTL
      subst HTL
      have HYY := amZ hyy
      have HC3 := amZ hHC
      have HYL : Aside0 (y.length ≤ 1048576) := ⟨by have := HSL.out; omega⟩
      have HOB := amZ ob
      have HCL : Aside0 (cs.length ≤ 2097152) := ⟨by have := hL.out; have := HN.out; omega⟩
      clear h1 h2 h3 h4 hyy hHC hn2 ob
      go_upto_region 12 with (fail)
      go_cut [] (fun wx => Aside0 (Pg w0 bq br bo (fun _ => True) s2 (cs ++ [⟨true, 0, y⟩]) [] wx))
      case first =>
       have HPd := amZ (HP2.out.below (below_drew (Below.refl _ _)))
       have HOd := amZ (HOB.out.bound.below (below_drew (Below.refl _ _)))
       go_region_law (first | (go_simp; go_at_call 74; refine (cloneU8_calls A c y w2.drew ?_ ?_).mono ?_; exact Kd.C_below HC3.out HPd.out.l.b; exact HYL.out; rintro e w3 ⟨v, rfl, hv, hb⟩; obtain ⟨Bv, dv, ev⟩ := Kd.R_slice hv; subst ev; have HV := amZ hv; have HP3 := amZ (HPd.out.below hb); have HO3 := amZ (HOd.out.below hb); have HSZ := amZ hb.size; have p3 : w3.cell? ⟨bo, 0, none⟩ = some u0 := (zaY HO3.out.o 0).trans rfl; have f3 := zbY HO3.out.o 0; have p3a := fun o => zcY (zmY (Below.refl w3.heap.size w3) o) p3; clear hv hb) | (refine Bx.const_step HO3.out HP3.out.l.b HP2.out.l.b.size HSZ.out ⟨true, 0, y⟩ (.slice Bv y.length dv) HV.out HCL.out rfl (.tmp 37) (.tmp 46) rfl rfl rfl ?_; intro A4 c4 w4 hp4; have HP4 := amZ hp4; have HPG4 := amZ (Pg.put0 HP3.out.l HP3.out.y HO3.out.o hp4); have p4 : w4.cell? ⟨bo, 0, none⟩ = some u0 := (zaY hp4.1 0).trans rfl; have f4 := zbY hp4.1 0; clear hp4))
       all_goals (go_wp2_with fail; go_meet; exact ⟨HPG4.out⟩)
      case rest =>
       obtain ⟨_, _, A2, c2, v2, h1, h2, h3, h4⟩ := hcut.out.l
       have r0 : wc.cell? ⟨bq, 0, none⟩ = some (.slice A2 s2.1.length c2) := (zaY h1 0).trans rfl
       have r1 := zbY h1 0
       have nl : y.length ≤ s2.1.length := by have := congrArg List.length HYY.out; rw [List.length_take] at this; omega
       have nc2 : s2.1.length ≤ c2 := h4
       have H1 := amZ h1
       have H2 := amZ h2
       have H3 := amZ h3
       have HN1 := amZ nl
       have HN2c := amZ nc2
       have HET : Aside0 (ldConst s1 = (⟨true, 0, y⟩, (s2.1.drop y.length, s2.2))) := ⟨by rw [HC.out, text_eq HNN.out.1 HS2.out HYY.out]⟩
       have HE2 : Aside0 (ldRow ldConst s = ((cs ++ [⟨true, 0, y⟩]) ++ (ldMany ldConst gg (s2.1.drop y.length, s2.2)).1, (ldMany ldConst gg (s2.1.drop y.length, s2.2)).2)) := ⟨by rw [HE.out, HET.out, List.append_assoc]; rfl⟩
       clear h1 h2 h3 h4 q0 p0 f0 nc
       go_wp2_with fail
       ·
        rename_i hc2
        have HP := amZ (hcut.out.cut H1.out H2.out (B := A2) (c := 0) (m := s2.1.length - y.length) (n := y.length) (by have e : s2.1.drop y.length = [] := List.drop_eq_nil_of_le (by omega); rw [e]; exact C_nil _ _) (by rw [List.length_drop]) (by omega))
        go_roundg (N - (i + 1))
        case measure => have := hi.out; have := HLT.out; omega
        case rel => exact ⟨i + 1, _, _, i64_next HLT.out (by have := HN.out; omega), ⟨by have := hi.out; omega⟩, HP, ⟨by rw [List.length_append, hL.out]; rfl⟩, by rw [show N - (i + 1) = gg by have := hi.out; omega]; exact HE2⟩
       ·
        rename_i hc2
        have HP := amZ (hcut.out.cut H1.out H2.out (c := c2 - y.length) (m := s2.1.length - y.length) (n := y.length) (C_drop H3.out y.length) (by rw [List.length_drop]) (by have := HN2c.out; omega))
        go_roundg (N - (i + 1))
        case measure => have := hi.out; have := HLT.out; omega
        case rel => exact ⟨i + 1, _, _, i64_next HLT.out (by have := HN.out; omega), ⟨by have := hi.out; omega⟩, HP, ⟨by rw [List.length_append, hL.out]; rfl⟩, by rw [show N - (i + 1) = gg by have := hi.out; omega]; exact HE2⟩
     | false =>
      have HC : Aside0 (ldConst s1 = (⟨false, IntKind.i64.wrap (ldEight 8 1 0 (ldFlag s1).2).1, []⟩, (ldEight 8 1 0 (ldFlag s1).2).2)) := ⟨by unfold ldConst; rw [if_neg (by rw [← hb]; decide)]⟩
      clear h hP hb
      go_wp2_with fail
      go_loopg [7, 8] 8 (fun g v7 v8 wr => ∃ (j : Nat) (u : Int) (s2 : Rs), v7 = .int .u64 u ∧ v8 = .int .i64 (8 * (j : Int)) ∧ Aside0 (j + g = 8) ∧ Aside0 (0 ≤ u ∧ u < 256 ^ j) ∧ Aside0 (Pg w0 bq br bo (fun _ => True) s2 cs [] wr) ∧ Aside0 (ldEight 8 1 0 (ldFlag s1).2 = ldEight g (256 ^ j) u s2))
      case atStart => exact ⟨0, 0, _, rfl, rfl, ⟨rfl⟩, ⟨by simp⟩, HP, ⟨rfl⟩⟩
      case round =>
       clear HP
       obtain ⟨j, u, s2, rfl, rfl, hj, hu, hP, hE8⟩ := hrel
       by_cases h8 : j < 8
       ·
        have d8 : decide (8 * (j : Int) < 64) = true := decide_eq_true (by omega)
        have HJ := amZ h8
        go_wp2_with fail
        refine (byte_calls w0 wr bq s2 hP.out.l).mono ?_
        rintro e w2 ⟨rfl, h⟩
        have HP := amZ (hP.out.to h (ldByte_k s2))
        obtain ⟨hc0, hc1, _⟩ := ldByte_range s2 hP.out.y.1
        obtain ⟨c, hc⟩ : ∃ c, c = (ldByte s2).1 := ⟨_, rfl⟩
        rw [← hc] at hc0 hc1 ⊢
        have hs8 := u64_eight u c j (by omega) hu.out.1 hu.out.2 hc0 hc1
        obtain ⟨nv, hnv⟩ : ∃ x, x = u + c * 256 ^ j := ⟨_, rfl⟩
        rw [← hnv] at hs8
        have HV := amZ (eight_step hu.out ⟨hc0, hc1⟩ hnv)
        obtain ⟨g8, hg8⟩ : ∃ g8, gk = g8 + 1 := ⟨gk - 1, by have := hj.out; omega⟩
        have HE8 : Aside0 (ldEight 8 1 0 (ldFlag s1).2 = ldEight g8 (256 ^ (j + 1)) nv (ldByte s2).2) := ⟨by rw [hE8.out, hg8, Int.pow_succ, hnv, hc]; rfl⟩
        have HG8 := amZ hg8
        clear h hc hnv hg8
        go_wp2_with fail
        go_roundg g8
        case measure => have := HG8.out; omega
        case rel => exact ⟨j + 1, nv, (ldByte s2).2, rfl, by rw [show 8 * (j : Int) + 8 = 8 * ((j + 1 : Nat) : Int) by omega], ⟨by have := hj.out; have := HG8.out; omega⟩, HV, HP, HE8⟩
       ·
        have d8 : decide (8 * (j : Int) < 64) = false := decide_eq_false (by omega)
        have hg0 : gk = 0 := by have := hj.out; omega
        subst hg0
        obtain ⟨u0, u1, ob⟩ := hP.out.o
        have p0 : wr.cell? ⟨bo, 0, none⟩ = some u0 := (zaY ob.o 0).trans rfl
        have f0 := zbY ob.o 0
        have HOB := amZ ob.bound
        have HCL : Aside0 (cs.length ≤ 2097152) := ⟨by have := hL.out; have := HN.out; omega⟩
        obtain ⟨m, hm⟩ : ∃ m, m = wrap64 u := ⟨_, rfl⟩
        have hmm : wrap64 u = m := hm.symm
        have HET : Aside0 (ldConst s1 = (⟨false, m, []⟩, s2)) := ⟨by rw [HC.out, hE8.out, hm, w64]; rfl⟩
        have HE2 : Aside0 (ldRow ldConst s = ((cs ++ [⟨false, m, []⟩]) ++ (ldMany ldConst gg s2).1, (ldMany ldConst gg s2).2)) := ⟨by rw [HE.out, HET.out, List.append_assoc]; rfl⟩
        clear hm ob h8
        go_wp2_with (at_builtin; refine Bx.const_list HOB.out hP.out.l.b hP.out.l.b.size (Nat.le_refl _) ⟨false, m, []⟩ (.slice none 0 0) (Kd.R_nil _ _ _ _ _) HCL.out rfl (.tmp 70) (.tmp 74) rfl rfl rfl ?_; intro A4 c4 w4 hp4; have HPG4 := amZ (Pg.put0 hP.out.l hP.out.y HOB.out.o hp4); have p4 : w4.cell? ⟨bo, 0, none⟩ = some u0 := (zaY hp4.1 0).trans rfl; have f4 := zbY hp4.1 0; clear hp4)
        go_roundg (N - (i + 1))
        case measure => have := hi.out; have := HLT.out; omega
        case rel => exact ⟨i + 1, s2, _, i64_next HLT.out (by have := HN.out; omega), ⟨by have := hi.out; omega⟩, HPG4, ⟨by rw [List.length_append, hL.out]; rfl⟩, by rw [show N - (i + 1) = gg by have := hi.out; omega]; exact HE2⟩
    ·
     have d1 : decide ((i : Int) < (N : Int)) = false := decide_eq_false (by omega)
     have hg0 : gk = 0 := by have := hi.out; omega
     subst hg0
     have HR : Aside0 (ldRow ldConst s = (cs, s1)) := ⟨by rw [hE.out]; simp [ldMany]⟩
     clear hE hi
     go_wp2_with fail
     refine (count_calls w0 wr bq s1 hP.out.l hP.out.y.1).mono ?_
     rintro e w1 ⟨rfl, h⟩
     have HP := amZ (hP.out.to h (ldCount_keeps s1))
     obtain ⟨M, hM, hM1, hM2⟩ := ldCount_nat s1 hP.out.y
     have HMM := amZ hM1
     have HE : Aside0 (ldRow ldProto s1 = ldMany ldProto M (ldCount s1).2) := ⟨by unfold ldRow; rw [hM]; rfl⟩
     rw [hM]
     clear h hP hM hM1 hM2 hL
     go_wp2_with fail
     go_loopg [80] M (fun g v80 wr => ∃ (i : Nat) (s2 : Rs) (ps : List S52), v80 = .int .i64 (i : Int) ∧ Aside0 (i + g = M) ∧ Aside0 (Pg w0 bq br bo (fun _ => True) s2 cs ps wr) ∧ Aside0 (ps.length = i) ∧ Aside0 (ldRow ldProto s1 = (ps ++ (ldMany ldProto g s2).1, (ldMany ldProto g s2).2)))
     case atStart => exact ⟨0, _, [], rfl, ⟨by omega⟩, HP, ⟨rfl⟩, HE⟩
     case round =>
      clear HP HE
      obtain ⟨i, s2, ps, rfl, hi, hP, hL, hE⟩ := hrel
      by_cases hlt : i < M
      ·
       have d2 : decide ((i : Int) < (M : Int)) = true := decide_eq_true (by omega)
       obtain ⟨gg, hgg⟩ : ∃ gg, gk = gg + 1 := ⟨gk - 1, by have := hi.out; omega⟩
       subst hgg
       have HE : Aside0 (ldRow ldProto s1 = (ps ++ ((ldProto s2).1 :: (ldMany ldProto gg (ldProto s2).2).1), (ldMany ldProto gg (ldProto s2).2).2)) := hE
       have HLT := amZ hlt
       clear hE
       go_wp2_with fail
       refine (num_calls w0 wr bq s2 hP.out.l hP.out.y.1).mono ?_
       rintro e w1 ⟨rfl, h⟩
       have HP := amZ (hP.out.to h (ldNum_keeps s2))
       clear h hP
       go_wp2_with fail
       refine (num_calls w0 w1 bq (ldNum s2).2 HP.out.l HP.out.y.1).mono ?_
       rintro e w2 ⟨rfl, h⟩
       have HP2 := amZ (HP.out.to h (ldNum_keeps _))
       obtain ⟨n0, hn0⟩ : ∃ n, n = (ldNum s2).1 := ⟨_, rfl⟩
       obtain ⟨n1, hn1⟩ : ∃ n, n = (ldNum (ldNum s2).2).1 := ⟨_, rfl⟩
       obtain ⟨s4, hs4⟩ : ∃ s, s = (ldNum (ldNum s2).2).2 := ⟨_, rfl⟩
       rw [← hn0, ← hn1]
       rw [← hs4] at HP2
       have HPR : Aside0 (ldProto s2 = (⟨n0, n1, (ldRow ldCap s4).1, (ldRow ldIns (ldRow ldCap s4).2).1⟩, (ldRow ldIns (ldRow ldCap s4).2).2)) := ⟨by rw [hn0, hn1, hs4]; rfl⟩
       clear h HP hn0 hn1 hs4
       go_upto_region 24 with (fail)
       obtain ⟨bf, hbf⟩ : ∃ b, b = w2.heap.size := ⟨_, rfl⟩
       obtain ⟨W5, hW5⟩ : ∃ W, W = w2.alloc (.cells #[.int .i64 n0, .int .i64 n1, .slice none 0 0, .slice none 0 0] 52) := ⟨_, rfl⟩
       have hb5 : Below w2.heap.size w2 W5 := by rw [hW5]; exact (Below.refl _ _).alloc (Nat.le_refl _) _
       have HP5 : Aside0 (Pg w0 bq br bo (fun k => k < bf) s4 cs ps W5) := ⟨by rw [hbf]; exact HP2.out.bound.below hb5⟩
       have HF5 : Aside0 (Fb bf n0 n1 (.slice none 0 0) (.slice none 0 0) [] [] W5) := ⟨⟨by rw [hW5, hbf, heap_alloc_new], Kd.R_nil _ _ _ _ _, Kd.R_nil _ _ _ _ _⟩⟩
       have HLB : Aside0 (bq < bf ∧ bo < bf ∧ w0.heap.size ≤ bf) := ⟨by rw [hbf]; exact HP2.out.lts⟩
       rw [← hW5, ← hbf]
       clear hW5 hb5 hbf HP2
       go_wp2_with fail
       refine (count_calls w0 W5 bq s4 HP5.out.l HP5.out.y.1).mono ?_
       rintro e w1 ⟨rfl, h⟩
       have HP := amZ (HP5.out.to h (ldCount_keeps s4))
       have HF := amZ (HF5.out.to HP5.out.l h)
       obtain ⟨K, hK, hK1, hK2⟩ := ldCount_nat s4 HP5.out.y
       have HKK := amZ hK1
       have HE5 : Aside0 (ldRow ldCap s4 = ldMany ldCap K (ldCount s4).2) := ⟨by unfold ldRow; rw [hK]; rfl⟩
       rw [hK]
       clear h HP5 HF5 hK hK1 hK2
       go_wp2_with fail
       go_loopg [89] K (fun g v89 wr => ∃ (i : Nat) (s6 : Rs) (ys : List S54) (v2 : Value), v89 = .int .i64 (i : Int) ∧ Aside0 (i + g = K) ∧ Aside0 (Pg w0 bq br bo (fun k => k < bf) s6 cs ps wr) ∧ Aside0 (Fb bf n0 n1 v2 (.slice none 0 0) ys [] wr) ∧ Aside0 (ys.length = i) ∧ Aside0 (ldRow ldCap s4 = (ys ++ (ldMany ldCap g s6).1, (ldMany ldCap g s6).2)))
       case atStart => exact ⟨0, _, [], _, rfl, ⟨by omega⟩, HP, HF, ⟨rfl⟩, HE5⟩
       case round =>
        clear HP HF HE5
        obtain ⟨i1, s6, ys, v2, rfl, hi1, hP, hF, hYL, hEC⟩ := hrel
        by_cases hlt1 : i1 < K
        ·
         have d3 : decide ((i1 : Int) < (K : Int)) = true := decide_eq_true (by omega)
         obtain ⟨g1, hg1⟩ : ∃ g1, gk = g1 + 1 := ⟨gk - 1, by have := hi1.out; omega⟩
         subst hg1
         have HEC : Aside0 (ldRow ldCap s4 = (ys ++ ((ldCap s6).1 :: (ldMany ldCap g1 (ldCap s6).2).1), (ldMany ldCap g1 (ldCap s6).2).2)) := hEC
         have HLT1 := amZ hlt1
         clear hEC
         go_wp2_with fail
         refine (flag_calls w0 wr bq s6 hP.out.l).mono ?_
         rintro e w1 ⟨rfl, h⟩
         have HP := amZ (hP.out.to h (ldFlag_keeps s6))
         have HF := amZ (hF.out.to hP.out.l h)
         obtain ⟨b, hb⟩ : ∃ b, b = (ldFlag s6).1 := ⟨_, rfl⟩
         obtain ⟨s7, hs7⟩ : ∃ s, s = (ldFlag s6).2 := ⟨_, rfl⟩
         rw [← hs7] at HP
         rw [← hb]
         have HCP : Aside0 (ldCap s6 = (⟨b, (ldNum s7).1⟩, (ldNum s7).2)) := ⟨by rw [hb, hs7]; rfl⟩
         have HYL : Aside0 (ys.length ≤ 2097152) := ⟨by have := hYL.out; have := HKK.out; omega⟩
         clear h hP hF hb hs7
         have p2 : w1.cell? ⟨bf, 2, none⟩ = some v2 := (zaY HF.out.f 2).trans rfl
         go_upto_region 27 with (fail)
         have HE2 : Aside0 (ldRow ldCap s4 = ((ys ++ [⟨b, (ldNum s7).1⟩]) ++ (ldMany ldCap g1 (ldNum s7).2).1, (ldMany ldCap g1 (ldNum s7).2).2)) := ⟨by rw [HEC.out, HCP.out, List.append_assoc]; rfl⟩
         have HPd := amZ (HP.out.below (below_drew (Below.refl _ _)))
         have HFd := amZ (HF.out.below (below_drew (Below.refl _ _)))
         have p2d : w1.drew.cell? ⟨bf, 2, none⟩ = some v2 := (zaY HFd.out.f 2).trans rfl
         clear HP HF
         go_region_law (first | (go_simp; go_at_call 83; refine (num_calls w0 w1.drew bq s7 HPd.out.l HPd.out.y.1).mono ?_; rintro e w3 ⟨rfl, h⟩; have HP3 := amZ (HPd.out.to h (ldNum_keeps s7)); have HF3 := amZ (HFd.out.to HPd.out.l h); have p3 : w3.cell? ⟨bf, 2, none⟩ = some v2 := (zaY HF3.out.f 2).trans rfl; have p3a := fun o => zcY (zmY (Below.refl w3.heap.size w3) o) p3; clear h) | (refine Fb.cap_step HF3.out ⟨b, (ldNum s7).1⟩ HYL.out rfl (.tmp 94) (.tmp 99) rfl rfl rfl ?_; intro A4 c4 w4 hp4; have HF4 := amZ hp4.2.1; have HP4 := amZ (HP3.out.belowN hp4.2.2 HLB.out.1 HLB.out.2.1 HLB.out.2.2); have p4 : w4.cell? ⟨bf, 2, none⟩ = some v2 := (zaY hp4.1 2).trans rfl; have f4 := zbY hp4.1 2; clear hp4))
         all_goals (
          go_wp2_with fail
          go_roundg (K - (i1 + 1))
          case measure => have := hi1.out; have := HLT1.out; omega
          case rel => exact ⟨i1 + 1, _, _, _, i64_next HLT1.out (by have := HKK.out; omega), ⟨by have := hi1.out; omega⟩, HP4, HF4, ⟨by rw [List.length_append, hYL.out]; rfl⟩, by rw [show K - (i1 + 1) = g1 by have := hi1.out; omega]; exact HE2⟩)
        ·
         have d3 : decide ((i1 : Int) < (K : Int)) = false := decide_eq_false (by omega)
         have hg0 : gk = 0 := by have := hi1.out; omega
         subst hg0
         have HRC : Aside0 (ldRow ldCap s4 = (ys, s6)) := ⟨by rw [hEC.out]; simp [ldMany]⟩
         clear hEC hi1 hYL
         go_wp2_with fail
         refine (count_calls w0 wr bq s6 hP.out.l hP.out.y.1).mono ?_
         rintro e w1 ⟨rfl, h⟩
         have HP := amZ (hP.out.to h (ldCount_keeps s6))
         have HF := amZ (hF.out.to hP.out.l h)
         obtain ⟨L, hLl, hL1, hL2⟩ := ldCount_nat s6 hP.out.y
         have HLL := amZ hL1
         have HE6 : Aside0 (ldRow ldIns s6 = ldMany ldIns L (ldCount s6).2) := ⟨by unfold ldRow; rw [hLl]; rfl⟩
         rw [hLl]
         clear h hP hF hLl hL1 hL2
         go_wp2_with fail
         go_loopg [105] L (fun g v105 wr => ∃ (i : Nat) (s7 : Rs) (zs : List S57) (v3 : Value), v105 = .int .i64 (i : Int) ∧ Aside0 (i + g = L) ∧ Aside0 (Pg w0 bq br bo (fun k => k < bf) s7 cs ps wr) ∧ Aside0 (Fb bf n0 n1 v2 v3 ys zs wr) ∧ Aside0 (zs.length = i) ∧ Aside0 (ldRow ldIns s6 = (zs ++ (ldMany ldIns g s7).1, (ldMany ldIns g s7).2)))
         case atStart => exact ⟨0, _, [], _, rfl, ⟨by omega⟩, HP, HF, ⟨rfl⟩, HE6⟩
         case round =>
          clear HP HF HE6
          obtain ⟨i2, s7, zs, v3, rfl, hi2, hP, hF, hZL, hEI⟩ := hrel
          by_cases hlt2 : i2 < L
          ·
           have d4 : decide ((i2 : Int) < (L : Int)) = true := decide_eq_true (by omega)
           obtain ⟨g2, hg2⟩ : ∃ g2, gk = g2 + 1 := ⟨gk - 1, by have := hi2.out; omega⟩
           subst hg2
           have HEI : Aside0 (ldRow ldIns s6 = (zs ++ ((ldIns s7).1 :: (ldMany ldIns g2 (ldIns s7).2).1), (ldMany ldIns g2 (ldIns s7).2).2)) := hEI
           have HLT2 := amZ hlt2
           clear hEI
           go_wp2_with fail
           refine (byte_calls w0 wr bq s7 hP.out.l).mono ?_
           rintro e w1 ⟨rfl, h⟩
           have HP := amZ (hP.out.to h (ldByte_k s7))
           have HF := amZ (hF.out.to hP.out.l h)
           obtain ⟨hc0, hc1, _⟩ := ldByte_range s7 hP.out.y.1
           obtain ⟨b, hb⟩ : ∃ b, b = (ldByte s7).1 := ⟨_, rfl⟩
           obtain ⟨s8, hs8⟩ : ∃ s, s = (ldByte s7).2 := ⟨_, rfl⟩
           rw [← hs8] at HP
           rw [← hb] at hc0 hc1 ⊢
           have hwb : wrap64 b = b := by unfold wrap64; omega
           have HBE := amZ (And.intro hb hs8)
           have HWB := amZ hwb
           clear h hP hF hc0 hc1 hb hs8 hwb
           go_wp2_with fail
           refine (num_calls w0 w1 bq s8 HP.out.l HP.out.y.1).mono ?_
           rintro e w2 ⟨rfl, h⟩
           have HP2 := amZ (HP.out.to h (ldNum_keeps s8))
           have HF2 := amZ (HF.out.to HP.out.l h)
           obtain ⟨a, ha⟩ : ∃ a, a = (ldNum s8).1 := ⟨_, rfl⟩
           obtain ⟨s9, hs9⟩ : ∃ s, s = (ldNum s8).2 := ⟨_, rfl⟩
           rw [← hs9] at HP2
           rw [← ha]
           have HIN : Aside0 (ldIns s7 = (⟨wrap64 b, a, (ldNum s9).1⟩, (ldNum s9).2)) := ⟨by rw [HWB.out, HBE.out.1, ha, hs9, HBE.out.2]; rfl⟩
           have HZL : Aside0 (zs.length ≤ 2097152) := ⟨by have := hZL.out; have := HLL.out; omega⟩
           clear h HP HF ha hs9
           have p2 : w2.cell? ⟨bf, 3, none⟩ = some v3 := (zaY HF2.out.f 3).trans rfl
           go_upto_region 33 with (fail)
           have HE2 : Aside0 (ldRow ldIns s6 = ((zs ++ [⟨wrap64 b, a, (ldNum s9).1⟩]) ++ (ldMany ldIns g2 (ldNum s9).2).1, (ldMany ldIns g2 (ldNum s9).2).2)) := ⟨by rw [HEI.out, HIN.out, List.append_assoc]; rfl⟩
           have HPd := amZ (HP2.out.below (below_drew (Below.refl _ _)))
           have HFd := amZ (HF2.out.below (below_drew (Below.refl _ _)))
           have p2d : w2.drew.cell? ⟨bf, 3, none⟩ = some v3 := (zaY HFd.out.f 3).trans rfl
           clear HP2 HF2
           go_region_law (first | (go_simp; go_at_call 83; refine (num_calls w0 w2.drew bq s9 HPd.out.l HPd.out.y.1).mono ?_; rintro e w3 ⟨rfl, h⟩; have HP3 := amZ (HPd.out.to h (ldNum_keeps s9)); have HF3 := amZ (HFd.out.to HPd.out.l h); have p3 : w3.cell? ⟨bf, 3, none⟩ = some v3 := (zaY HF3.out.f 3).trans rfl; have p3a := fun o => zcY (zmY (Below.refl w3.heap.size w3) o) p3; clear h) | (refine Fb.ins_step HF3.out ⟨wrap64 b, a, (ldNum s9).1⟩ HZL.out rfl (.tmp 113) (.tmp 119) rfl rfl rfl ?_; intro A4 c4 w4 hp4; have HF4 := amZ hp4.2.1; have HP4 := amZ (HP3.out.belowN hp4.2.2 HLB.out.1 HLB.out.2.1 HLB.out.2.2); have p4 : w4.cell? ⟨bf, 3, none⟩ = some v3 := (zaY hp4.1 3).trans rfl; have f4 := zbY hp4.1 3; clear hp4))
           all_goals (
            go_wp2_with fail
            go_roundg (L - (i2 + 1))
            case measure => have := hi2.out; have := HLT2.out; omega
            case rel => exact ⟨i2 + 1, _, _, _, i64_next HLT2.out (by have := HLL.out; omega), ⟨by have := hi2.out; omega⟩, HP4, HF4, ⟨by rw [List.length_append, hZL.out]; rfl⟩, by rw [show L - (i2 + 1) = g2 by have := hi2.out; omega]; exact HE2⟩)
          ·
           have d4 : decide ((i2 : Int) < (L : Int)) = false := decide_eq_false (by omega)
           have hg0 : gk = 0 := by have := hi2.out; omega
           subst hg0
           have HRI : Aside0 (ldRow ldIns s6 = (zs, s7)) := ⟨by rw [hEI.out]; simp [ldMany]⟩
           have HPR2 : Aside0 (ldProto s2 = (⟨n0, n1, ys, zs⟩, s7)) := ⟨by rw [HPR.out, HRC.out, HRI.out]⟩
           have HE2 : Aside0 (ldRow ldProto s1 = ((ps ++ [⟨n0, n1, ys, zs⟩]) ++ (ldMany ldProto gg s7).1, (ldMany ldProto gg s7).2)) := ⟨by rw [HE.out, HPR2.out, List.append_assoc]; rfl⟩
           obtain ⟨u0, u1, ob⟩ := hP.out.o
           have p0 : wr.cell? ⟨bo, 1, none⟩ = some u1 := (zaY ob.o 1).trans rfl
           have f0 := zbY ob.o 1
           have x0 : wr.cell? ⟨bf, 0, none⟩ = some (.int .i64 n0) := (zaY hF.out.f 0).trans rfl
           have x1 : wr.cell? ⟨bf, 1, none⟩ = some (.int .i64 n1) := (zaY hF.out.f 1).trans rfl
           have x2 : wr.cell? ⟨bf, 2, none⟩ = some v2 := (zaY hF.out.f 2).trans rfl
           have x3 : wr.cell? ⟨bf, 3, none⟩ = some v3 := (zaY hF.out.f 3).trans rfl
           have HOB := amZ ob
           have HPL : Aside0 (ps.length ≤ 2097152) := ⟨by have := hL.out; have := HMM.out; omega⟩
           have HBF : Aside0 (bf + 1 ≤ wr.heap.size) := ⟨ziY hF.out.f⟩
           have HV2 := amZ hF.out.r2
           have HV3 := amZ hF.out.r3
           obtain ⟨A2, c2, ev2⟩ := Kd.R_slice hF.out.r2
           obtain ⟨A3, c3, ev3⟩ := Kd.R_slice hF.out.r3
           subst ev2
           subst ev3
           clear ob hEI hi2 hZL hF
           go_wp2_with (at_builtin; refine Bx.proto_list (N := bf + 1) (HOB.out.mono (fun k hk => Nat.lt_succ_of_lt hk)) hP.out.l.b (Nat.le_succ_of_le HLB.out.2.2) HBF.out ⟨n0, n1, ys, zs⟩ _ _ HV2.out HV3.out HPL.out rfl (.tmp 124) (.tmp 126) rfl rfl rfl ?_; intro A4 c4 w4 hp4; have HPG4 := amZ (Pg.put1 hP.out.l hP.out.y HOB.out.o hp4); have p4 : w4.cell? ⟨bo, 1, none⟩ = some u1 := (zaY hp4.1 1).trans rfl; have f4 := zbY hp4.1 1; clear hp4)
           go_roundg (M - (i + 1))
           case measure => have := hi.out; have := HLT.out; omega
           case rel => exact ⟨i + 1, s7, _, i64_next HLT.out (by have := HMM.out; omega), ⟨by have := hi.out; omega⟩, HPG4, ⟨by rw [List.length_append, hL.out]; rfl⟩, by rw [show M - (i + 1) = gg by have := hi.out; omega]; exact HE2⟩
      ·
       have d2 : decide ((i : Int) < (M : Int)) = false := decide_eq_false (by omega)
       have hg0 : gk = 0 := by have := hi.out; omega
       subst hg0
       have HRP : Aside0 (ldRow ldProto s1 = (ps, s2)) := ⟨by rw [hE.out]; simp [ldMany]⟩
       have HALL : Aside0 (ldProg s0 = ((cs, ps), ldEnd s2)) := ⟨by
        show (((ldRow ldConst (ldIs magicL s0)).1, (ldRow ldProto (ldRow ldConst (ldIs magicL s0)).2).1), ldEnd (ldRow ldProto (ldRow ldConst (ldIs magicL s0)).2).2) = _
        rw [← HS1.out, HR.out]
        show ((cs, (ldRow ldProto s1).1), ldEnd (ldRow ldProto s1).2) = _
        rw [HRP.out]⟩
       clear hE hi hL
       obtain ⟨_, _, A, c, v, h1, _, _, _⟩ := hP.out.l
       have q0 : wr.cell? ⟨bq, 0, none⟩ = some (.slice A s2.1.length c) := (zaY h1 0).trans rfl
       clear h1
       by_cases he : 0 < s2.1.length
       ·
        have HEN : Aside0 (ldEnd s2 = (s2.1, true)) := ⟨by
         have : s2.1 ≠ [] := fun e => by rw [e] at he; exact absurd he (by decide)
         unfold ldEnd
         rw [decide_eq_true this, Bool.or_true]⟩
        have he2 : decide (0 < (s2.1.length : Int)) = true := decide_eq_true (by omega)
        go_wp2_with fail
        refine (fail_calls w0 wr bq s2 errTail hP.out.l (.inr (.inr rfl))).mono ?_
        rintro e w1 ⟨rfl, h⟩
        have HP := amZ (hP.out.to (s1 := (s2.1, true)) h ⟨0, rfl⟩)
        clear h hP q0
        obtain ⟨u0, u1, ob⟩ := HP.out.o
        obtain ⟨A0, c0, e0⟩ := Kd.S_slice ob.s0
        obtain ⟨A1, c1, e1⟩ := Kd.S_slice ob.s1
        subst e0
        subst e1
        have y0 : w1.cell? ⟨bo, 0, none⟩ = some (.slice A0 cs.length c0) := (zaY ob.o 0).trans rfl
        have y1 : w1.cell? ⟨bo, 1, none⟩ = some (.slice A1 ps.length c1) := (zaY ob.o 1).trans rfl
        have z0 := (zaY ob.r 0).trans rfl
        have z1 := (zaY ob.r 1).trans rfl
        have z2 := zbY ob.r 0
        have z3 := zbY ob.r 1
        have HFN := amZ ob.fin
        have HLF := amZ (HP.out.l.set2 ob.r ob.hb.1 (.slice A0 cs.length c0) (.slice A1 ps.length c1))
        clear ob
        go_wp2_with fail
        refine bodyPost_ret (results_cell_row rfl _ _ br 31 #[.slice A0 cs.length c0, .slice A1 ps.length c1] (0, 0) _ rfl HFN.out.2.2 Try.underlying31 rfl (by kernel_rfl)) rfl ?_
        exact ⟨_, _, rfl, by rw [HALL.out]; exact HFN.out.1, by rw [HALL.out]; exact HFN.out.2.1, by rw [HALL.out, HEN.out]; exact HLF.out⟩
       ·
        have HEN : Aside0 (ldEnd s2 = s2) := ⟨by
         have : s2.1 = [] := List.length_eq_zero_iff.1 (by omega)
         unfold ldEnd
         simp [this]
         rw [← this]⟩
        have he2 : decide (0 < (s2.1.length : Int)) = false := decide_eq_false (by omega)
        have HP := hP
        obtain ⟨u0, u1, ob⟩ := HP.out.o
        obtain ⟨A0, c0, e0⟩ := Kd.S_slice ob.s0
        obtain ⟨A1, c1, e1⟩ := Kd.S_slice ob.s1
        subst e0
        subst e1
        have y0 : wr.cell? ⟨bo, 0, none⟩ = some (.slice A0 cs.length c0) := (zaY ob.o 0).trans rfl
        have y1 : wr.cell? ⟨bo, 1, none⟩ = some (.slice A1 ps.length c1) := (zaY ob.o 1).trans rfl
        have z0 := (zaY ob.r 0).trans rfl
        have z1 := (zaY ob.r 1).trans rfl
        have z2 := zbY ob.r 0
        have z3 := zbY ob.r 1
        have HFN := amZ ob.fin
        have HLF := amZ (HP.out.l.set2 ob.r ob.hb.1 (.slice A0 cs.length c0) (.slice A1 ps.length c1))
        clear ob hP
        go_wp2_with fail
        refine bodyPost_ret (results_cell_row rfl _ _ br 31 #[.slice A0 cs.length c0, .slice A1 ps.length c1] (0, 0) _ rfl HFN.out.2.2 Try.underlying31 rfl (by kernel_rfl)) rfl ?_
        exact ⟨_, _, rfl, by rw [HALL.out]; exact HFN.out.1, by rw [HALL.out]; exact HFN.out.2.1, by rw [HALL.out, HEN.out]; exact HLF.out⟩
end Go.Proofs.Ytmmpiojekgfdjaa.C
