/- The loader. -/
import Derived.Test.YtmmpiojekgfdjaaZlG0
import Derived.Lib.LazyBuf
import Derived.Test.YtmmpiojekgfdjaaZlK
namespace Go.Proofs.Ytmmpiojekgfdjaa.C
open Go.RowKit YtmmpiojekgfdjaaW.PrintWords YtmmpiojekgfdjaaW.PrintLast
set_option linter.unusedVariables false
set_option linter.unusedSimpArgs false
theorem heap_setCell_two {w : World} {g : Nat} {x y u : Value} {t : TypeId} (h : w.heap[g]? = some (.cells #[x, y] t (0, 0))) :
  (w.setCell ⟨g, 0, none⟩ u).heap[g]? = some (.cells #[u, y] t (0, 0)) ∧ (w.setCell ⟨g, 1, none⟩ u).heap[g]? = some (.cells #[x, u] t (0, 0)) :=
 ⟨heap_setCell_same w g 0 _ t u h, heap_setCell_same w g 1 _ t u h⟩
def errShort : ByteArray := ⟨#[98, 121, 116, 101, 115, 32, 97, 114, 101, 32, 109, 105, 115, 115, 105, 110, 103]⟩
def errForm : ByteArray := ⟨#[97, 32, 110, 117, 109, 98, 101, 114, 32, 111, 114, 32, 109, 97, 114, 107, 32, 105, 110, 32, 97, 32, 119, 114, 111, 110, 103, 32, 102, 111, 114, 109]⟩
def errTail : ByteArray := ⟨#[98, 121, 116, 101, 115, 32, 97, 114, 101, 32, 108, 101, 102, 116, 32, 111, 118, 101, 114]⟩
def IsErr (s : ByteArray) : Prop := s = errShort ∨ s = errForm ∨ s = errTail
def ErrV (e : Bool) (v : Value) : Prop := if e = true then ∃ s, v = .iface 96 (.string s) ∧ IsErr s else v = .nilIface
structure LdIs (w0 W : World) (bq : Nat) (s : Rs) : Prop where
 b : Below w0.heap.size w0 W
 q : w0.heap.size ≤ bq
 ex : ∃ A c v, W.heap[bq]? = some (.cells #[.slice A s.1.length c, v] 93 (0, 0)) ∧ ErrV s.2 v ∧ Kd.C (Kd.int .u8) w0 A s.1.length s.1 ∧ s.1.length ≤ c
structure LdTo (w0 W : World) (bq : Nat) (W1 : World) (s1 : Rs) : Prop where
 q : LdIs w0 W1 bq s1
 g : Grew (fun k => k = bq) W W1
theorem LdTo.trans {w0 W W1 W2 : World} {bq : Nat} {s1 s2 : Rs} (h : LdTo w0 W bq W1 s1) (k : LdTo w0 W1 bq W2 s2) : LdTo w0 W bq W2 s2 := ⟨k.q, h.g.trans k.g⟩
theorem LdTo.refl {w0 W : World} {bq : Nat} {s : Rs} (h : LdIs w0 W bq s) : LdTo w0 W bq W s := ⟨h, Grew.refl _ _⟩
theorem LdIs.below {w0 W W1 : World} {bq : Nat} {s : Rs} (h : LdIs w0 W bq s) (hb : Below W.heap.size W W1) : LdIs w0 W1 bq s := by
 obtain ⟨hb0, hq, A, c, v, h1, h2, h3, h4⟩ := h
 exact ⟨zdY hb0 hb, hq, A, c, v, (hb.block _ (ziY h1)).trans h1, h2, h3, h4⟩
theorem Grew.one (w : World) (b o : Nat) (v : Value) : Grew (fun k => k = b) w (w.setCell ⟨b, o, none⟩ v) := by
 have h := Below.setCell (B := 0) (Below.refl 0 w) (p := ⟨b, o, none⟩) (Nat.zero_le _) v
 exact ⟨h.os, h.tape, h.output, h.size, fun k _ hk => Below.heap_setCell w ⟨b, o, none⟩ v k hk⟩
set_option maxHeartbeats 4000000 in
theorem fail_calls (w0 W : World) (bq : Nat) (s : Rs) (str : ByteArray) (h : LdIs w0 W bq s) (hs : IsErr str) :
  Calls Try.prog 80 #[.pointer (some ⟨bq, 0, none⟩), .iface 96 (.string str)] W fun e W1 => e = .returned (.tuple #[]) ∧ LdTo w0 W bq W1 (s.1, true) := by
 have HI := amZ h
 obtain ⟨hb0, hq, A, c, v, h1, h2, h3, h4⟩ := h
 have q1 : W.cell? ⟨bq, 1, none⟩ = some v := (zaY h1 1).trans rfl
 have f1 := zbY h1 1
 have H1 := amZ h1
 have H3 := amZ h3
 have H4 := amZ h4
 have HS := amZ hs
 have HB0 := amZ hb0
 have HQ := amZ hq
 obtain ⟨l, e⟩ := s
 clear h1 h3 h4 hs hb0 hq
 cases e with
 | true =>
  obtain ⟨s', rfl, hs'⟩ := (show ∃ s, v = .iface 96 (.string s) ∧ IsErr s from h2)
  clear h2
  go_enter Try.func80, Try.ntmps80
  go_wp2
  go_end0
  exact ⟨rfl, LdTo.refl HI.out⟩
 | false =>
  have e : v = .nilIface := h2
  subst e
  clear h2
  go_enter Try.func80, Try.ntmps80
  go_wp2
  go_end0
  exact ⟨rfl, ⟨HB0.out.setCell HQ.out _, HQ.out, A, c, _, (heap_setCell_two H1.out).2, ⟨_, rfl, HS.out⟩, H3.out, H4.out⟩, Grew.one _ _ _ _⟩
theorem addr_add_add (a : Addr) (m n : Nat) : (a.add m).add n = a.add (m + n) := by
 unfold Addr.add
 by_cases h1 : m = 0
 ·
  subst h1; simp
 ·
  by_cases h2 : n = 0
  ·
   subst h2; simp
  ·
   have : ¬ m + n = 0 := by omega
   simp [h1, h2, Nat.add_assoc]
theorem addr_add_zero (a : Addr) : a.add 0 = a := rfl
theorem cell_blk_lt {w : World} {a : Addr} {v : Value} (h : w.cell? a = some v) : a.block < w.heap.size := by
 rcases Nat.lt_or_ge a.block w.heap.size with h1 | h1
 ·
  exact h1
 ·
  simp [World.cell?, Array.getElem?_eq_none h1] at h
theorem C_tail {w0 : World} {a : Addr} {c : Int} {t : List Int} (h : Kd.C (Kd.int .u8) w0 (some a) (c :: t).length (c :: t)) : Kd.C (Kd.int .u8) w0 (some (a.add 1)) t.length t := by
 refine ⟨rfl, by have := h.2.1; simp at this; omega, fun _ => ⟨_, rfl, fun j p hj => ?_⟩⟩
 obtain ⟨ad, e, hh⟩ := h.2.2 (by simp)
 injection e with e
 subst e
 obtain ⟨cs, h1, h2, h3⟩ := hh (j + 1) p (by simpa using hj)
 refine ⟨cs, h1, h2, fun i u hu => ?_⟩
 rw [← h3 i u hu, addr_add_add]
 congr 2
 rw [show (Kd.int .u8).sz = 1 from rfl]
 omega
theorem C_nil (w0 : World) (A : Option Addr) : Kd.C (Kd.int .u8) w0 A 0 [] := ⟨rfl, by decide, fun h => absurd h (by decide)⟩
theorem slice_front {w0 : World} {A : Option Addr} {c : Int} {t : List Int} (h : Kd.C (Kd.int .u8) w0 A (c :: t).length (c :: t)) : ∃ a, A = some a ∧ (∀ W : World, Below w0.heap.size w0 W → W.cell? a = some (.int .u8 c)) ∧ Kd.C (Kd.int .u8) w0 (some (a.add 1)) t.length t := by
 obtain ⟨a, rfl, hh⟩ := h.2.2 (by simp)
 refine ⟨a, rfl, fun W hb => ?_, C_tail h⟩
 obtain ⟨cs, h1, h2, h3⟩ := hh 0 c rfl
 have e : cs = [.int .u8 c] := h2
 subst e
 have h0 := h3 0 _ rfl
 rw [show (Kd.int .u8).sz = 1 from rfl, Nat.mul_one, Nat.add_zero, addr_add_zero] at h0
 exact (hb.cell (p := a) (cell_blk_lt h0)).trans h0
set_option maxHeartbeats 4000000 in
theorem byte_calls (w0 W : World) (bq : Nat) (s : Rs) (h : LdIs w0 W bq s) :
  Calls Try.prog 79 #[.pointer (some ⟨bq, 0, none⟩)] W fun e W1 => e = .returned (.int .u8 (ldByte s).1) ∧ LdTo w0 W bq W1 (ldByte s).2 := by
 have HI := amZ h
 obtain ⟨hb0, hq, A, c, v, h1, h2, h3, h4⟩ := h
 have q0 : W.cell? ⟨bq, 0, none⟩ = some (.slice A s.1.length c) := (zaY h1 0).trans rfl
 have f0 := zbY h1 0
 have H1 := amZ h1
 have H2 := amZ h2
 have H3 := amZ h3
 have H4 := amZ h4
 have HB0 := amZ hb0
 have HQ := amZ hq
 obtain ⟨l, e⟩ := s
 clear h1 h2 h3 h4 hb0 hq
 cases l with
 | nil =>
  go_enter Try.func79, Try.ntmps79
  go_wp2_with fail
  refine (fail_calls w0 W bq ([], e) errShort HI.out (.inl rfl)).mono ?_
  rintro e w1 ⟨rfl, h⟩
  have HT := amZ h
  clear h
  go_wp2_with fail
  go_ret
  exact ⟨rfl, HT.out⟩
 | cons x t =>
  obtain ⟨a, rfl, hc, h3⟩ := slice_front H3.out
  have hx := hc W HB0.out
  have HC := amZ h3
  clear hc h3
  go_enter Try.func79, Try.ntmps79
  go_wp2_with fail
  ·
   rename_i k
   have ht : t = [] := List.length_eq_zero_iff.1 (by have := H4.out; simp at this; omega)
   subst ht
   go_ret
   exact ⟨rfl, ⟨HB0.out.setCell HQ.out _, HQ.out, some a, 0, v, (heap_setCell_two H1.out).1, H2.out, C_nil _ _, by simp [ldByte]⟩, Grew.one _ _ _ _⟩
  ·
   rename_i k
   go_ret
   exact ⟨rfl, ⟨HB0.out.setCell HQ.out _, HQ.out, some (a.add 1), c - 1, v, (heap_setCell_two H1.out).1, H2.out, HC.out, by have := H4.out; simp [ldByte] at this ⊢; omega⟩, Grew.one _ _ _ _⟩
theorem ret_flag {s : Rs} {c : Int} (h : c = (ldByte s).1) : Ending.returned (.bool (c == 1)) = Ending.returned (.bool (ldFlag s).1) := by
 subst h; rfl
set_option maxHeartbeats 4000000 in
theorem flag_calls (w0 W : World) (bq : Nat) (s : Rs) (h : LdIs w0 W bq s) :
  Calls Try.prog 82 #[.pointer (some ⟨bq, 0, none⟩)] W fun e W1 => e = .returned (.bool (ldFlag s).1) ∧ LdTo w0 W bq W1 (ldFlag s).2 := by
 have HI := amZ h
 clear h
 go_enter Try.func82, Try.ntmps82
 go_wp2_with fail
 refine (byte_calls w0 W bq s HI.out).mono ?_
 rintro e w1 ⟨rfl, h⟩
 have HT := amZ h
 obtain ⟨c, hc⟩ : ∃ c, c = (ldByte s).1 := ⟨_, rfl⟩
 have HC := amZ hc
 rw [← hc]
 clear h hc
 by_cases k : 1 < c
 ·
  have HK := amZ k
  go_wp2_with fail
  refine (fail_calls w0 w1 bq (ldByte s).2 errForm HT.out.q (.inr (.inl rfl))).mono ?_
  rintro e w2 ⟨rfl, h⟩
  have HT2 := amZ (HT.out.trans h)
  clear h
  have d : decide (c = 1) = false := decide_eq_false (by omega)
  go_wp2_with fail
  go_ret
  refine ⟨?_, ?_⟩
  ·
   exact ret_flag HC.out
  ·
   have e : (ldFlag s).2 = ((ldByte s).2.1, true) := by unfold ldFlag; rw [← HC.out]; simp [HK.out]
   rw [e]; exact HT2.out
 ·
  have HK := amZ k
  go_wp2_with fail
  go_ret
  refine ⟨?_, ?_⟩
  ·
   exact ret_flag HC.out
  ·
   have e : (ldFlag s).2 = (ldByte s).2 := by
    have hd : decide (1 < c) = false := decide_eq_false (by have := HK.out; omega)
    show ((ldByte s).2.1, (ldByte s).2.2 || decide (1 < (ldByte s).1)) = _
    rw [← HC.out, hd, Bool.or_false]
   rw [e]; exact HT.out
theorem ldByte_range (s : Rs) (hb : Byt s.1) : 0 ≤ (ldByte s).1 ∧ (ldByte s).1 < 256 ∧ Byt (ldByte s).2.1 := by
 obtain ⟨l, e⟩ := s
 cases l with
 | nil => exact ⟨Int.le_refl 0, (by decide : (0 : Int) < 256), fun c hc => by simp [ldByte] at hc⟩
 | cons c t => exact ⟨(hb c (by simp)).1, (hb c (by simp)).2, fun x hx => hb x (by simp [ldByte] at hx; simp [hx])⟩
theorem or_low (k : IntKind) (j : Nat) (hj : j ≤ k.bits) (hk : ∀ n : Int, 0 ≤ n → n < 2 ^ j → k.wrap n = n) (i : Nat) (lo hi : Int) (hi0 : 0 ≤ hi) (hi1 : hi < 2 ^ j) (hm : hi % 2 ^ i = 0) (l0 : 0 ≤ lo) (l1 : lo < 2 ^ i) (l2 : lo < 2 ^ j) :
  bits .or k lo hi = lo + hi := by
 have e3 := bits_join k j hj hk i hi lo hi0 hm hi1 l0 l1 l2
 obtain ⟨a, rfl⟩ := Int.eq_ofNat_of_zero_le l0
 obtain ⟨b, rfl⟩ := Int.eq_ofNat_of_zero_le hi0
 have ha : a < 2 ^ j := by exact_mod_cast l2
 have hb : b < 2 ^ j := by exact_mod_cast hi1
 have e1 := (bits_nat k j hj hk a b ha hb).2
 have e2 := (bits_nat k j hj hk b a hb ha).2
 rw [e1, Nat.or_comm, ← e2, e3, Int.add_comm]
theorem pow7 (n : Nat) : (2 : Int) ^ (7 * n) = 128 ^ n := by rw [Int.pow_mul]; rfl
theorem pow_le7 {n : Nat} (hn : n ≤ 8) : (128 : Int) ^ n ≤ 72057594037927936 := by
 have : ∀ n : Fin 9, (128 : Int) ^ n.val ≤ 72057594037927936 := by decide
 exact this ⟨n, by omega⟩
theorem i64_seven (v x : Int) (n : Nat) (hn : n ≤ 8) (hv0 : 0 ≤ v) (hv : v < 128 ^ n) (hc0 : 0 ≤ x) (hc : x < 128) :
  bits .or .i64 v (IntKind.i64.wrap (x * 2 ^ (7 * n))) = v + x * 128 ^ n := by
 have hp := pow_le7 hn
 have h1 : x * 128 ^ n ≤ 127 * 128 ^ n := Int.mul_le_mul_of_nonneg_right (by omega) (by omega)
 have h0 : 0 ≤ x * 128 ^ n := Int.mul_nonneg hc0 (by omega)
 rw [pow7, wraps_i64 _ h0 (by omega)]
 exact or_low .i64 63 (by decide) wraps_i64 (7 * n) v _ h0 (by omega) (by rw [pow7]; exact Int.mul_emod_left _ _) hv0 (by rw [pow7]; exact hv) (by omega)
theorem w64 (x : Int) : wrap64 x = IntKind.i64.wrap x := by
 unfold wrap64
 rw [IntKind.wrap_i64]
theorem wraps_u8 (n : Int) (h0 : 0 ≤ n) (h1 : n < 2 ^ 8) : IntKind.u8.wrap n = n := by
 simp [IntKind.wrap, IntKind.bits, IntKind.signed]; omega
theorem u8_and127 {x : Int} (h0 : 0 ≤ x) (h1 : x < 256) : bits .and .u8 x 127 = x % 128 := bits_mask .u8 8 (by decide) wraps_u8 7 (by decide) x h0 (by omega)
theorem pow_gt {n : Nat} (h : 0 < n) : (1 : Int) < 128 ^ n := by
 obtain ⟨m, rfl⟩ : ∃ m, n = m + 1 := ⟨n - 1, by omega⟩
 have hp : (128 : Int) ^ (m + 1) = 128 ^ m * 128 := Int.pow_succ ..
 have : (0 : Int) < 128 ^ m := Int.pow_pos (by decide)
 omega
theorem num_step {n : Nat} {v c nv : Int} (hv : 0 ≤ v ∧ v < 128 ^ n) (hc : 0 ≤ c ∧ c < 256) (h : nv = v + c % 128 * 128 ^ n) : 0 ≤ nv ∧ nv < 128 ^ (n + 1) := by
 have hp : (128 : Int) ^ (n + 1) = 128 ^ n * 128 := Int.pow_succ ..
 have h1 : c % 128 * 128 ^ n ≤ 127 * 128 ^ n := Int.mul_le_mul_of_nonneg_right (by omega) (by omega)
 have h0 : 0 ≤ c % 128 * 128 ^ n := Int.mul_nonneg (by omega) (by omega)
 omega
set_option maxHeartbeats 8000000 in
theorem num_calls (w0 W : World) (bq : Nat) (s : Rs) (h : LdIs w0 W bq s) (hb : Byt s.1) :
  Calls Try.prog 83 #[.pointer (some ⟨bq, 0, none⟩)] W fun e W1 => e = .returned (.int .i64 (ldNum s).1) ∧ LdTo w0 W bq W1 (ldNum s).2 := by
 have HI := amZ h
 have HY := amZ hb
 clear h hb
 go_enter Try.func83, Try.ntmps83
 go_wp2_with fail
 go_loopg [3, 4] 9 (fun g v3 v4 wr => ∃ (n : Nat) (v : Int) (s1 : Rs), v3 = .int .i64 v ∧ v4 = .int .i64 (7 * (n : Int)) ∧ Aside0 (n + g = 9) ∧ Aside0 (0 ≤ v ∧ v < 128 ^ n) ∧ Aside0 (LdTo w0 W bq wr s1) ∧ Aside0 (Byt s1.1) ∧ Aside0 (ldNum s = ldNumG g (128 ^ n) v s1))
 case atStart => exact ⟨0, 0, s, rfl, rfl, ⟨rfl⟩, ⟨by simp⟩, ⟨LdTo.refl HI.out⟩, HY, ⟨rfl⟩⟩
 case round =>
  obtain ⟨n, v, s1, rfl, rfl, hn, hv, hT, hY, hE⟩ := hrel
  by_cases h9 : n < 9
  ·
   have d9 : decide (7 * (n : Int) < 63) = true := decide_eq_true (by omega)
   go_wp2_with fail
   refine (byte_calls w0 wr bq s1 hT.out.q).mono ?_
   rintro e w1 ⟨rfl, h⟩
   have HT := amZ (hT.out.trans h)
   obtain ⟨c, hc⟩ : ∃ c, c = (ldByte s1).1 := ⟨_, rfl⟩
   have HC := amZ hc
   rw [← hc]
   obtain ⟨hc0, hc1, hy1⟩ := ldByte_range s1 hY.out
   rw [← hc] at hc0 hc1
   have HR := amZ (And.intro hc0 hc1)
   have HY1 := amZ hy1
   have hn' : n ≤ 8 := by omega
   have hs7 := i64_seven v (c % 128) n hn' hv.out.1 hv.out.2 (by omega) (by omega)
   have hx1 : bits .and .u8 c 127 = c % 128 := u8_and127 hc0 hc1
   obtain ⟨m, hm⟩ : ∃ m, m = c % 128 := ⟨_, rfl⟩
   obtain ⟨nv, hnv⟩ : ∃ x, x = v + c % 128 * 128 ^ n := ⟨_, rfl⟩
   rw [← hm] at hx1
   rw [← hnv, ← hm] at hs7
   have hx2 : wrap64 m = m := by unfold wrap64; omega
   have hx3 : bits .or .i64 v (wrap64 (m * 2 ^ (7 * n))) = nv := by rw [w64]; exact hs7
   have HNV := amZ hnv
   have HN := amZ hn'
   obtain ⟨gg, hgg⟩ : ∃ gg, gk = gg + 1 := ⟨gk - 1, by have := hn.out; omega⟩
   have HGG := amZ hgg
   have HST : Aside0 (ldNumG gk (128 ^ n) v s1 = if c < 128 then (nv, ((ldByte s1).2.1, (ldByte s1).2.2 || (decide (c = 0) && decide (1 < (128 : Int) ^ n)))) else ldNumG gg (128 ^ (n + 1)) nv (ldByte s1).2) := ⟨by
    subst hgg
    show (if (ldByte s1).1 < 128 then _ else _) = _
    rw [← hc, ← hnv, Int.pow_succ]⟩
   clear h hc hy1 hs7 hm hnv hn' hgg hc0 hc1
   by_cases k1 : c < 128
   ·
    have hlt := amZ k1
    have e0 : ldNum s = (nv, ((ldByte s1).2.1, (ldByte s1).2.2 || (decide (c = 0) && decide (1 < (128 : Int) ^ n)))) := by rw [hE.out, HST.out, if_pos k1]
    have HE0 := amZ e0
    clear e0
    by_cases k2 : c = 0 ∧ 0 < n
    ·
     obtain ⟨k2, k3⟩ := k2
     subst k2
     have d1 : decide (0 < 7 * (n : Int)) = true := decide_eq_true (by omega)
     have d2 : (0 < 7 * (n : Int)) = True := eq_true (by omega)
     have HK3 := amZ k3
     clear k3 k1
     go_wp2_with fail
     refine (fail_calls w0 w1 bq (ldByte s1).2 errForm HT.out.q (.inr (.inl rfl))).mono ?_
     rintro e w2 ⟨rfl, h⟩
     have HT2 := amZ (HT.out.trans h)
     clear h
     go_wp2_with fail
     go_ret
     refine ⟨by rw [HE0.out]; rfl, ?_⟩
     have e : (ldNum s).2 = ((ldByte s1).2.1, true) := by
      rw [HE0.out]
      simp [pow_gt HK3.out]
     rw [e]
     exact HT2.out
    ·
     have HK2 := amZ k2
     have e1 : (decide (c = 0) && decide (1 < (128 : Int) ^ n)) = false := by
      by_cases k3 : c = 0
      ·
       have k4 : n = 0 := by omega
       subst k4; simp
      ·
       simp [k3]
     have HE1 : Aside0 ((ldNum s).1 = nv ∧ (ldNum s).2 = (ldByte s1).2) := ⟨by rw [HE0.out]; exact ⟨rfl, by rw [e1, Bool.or_false]⟩⟩
     clear e1
     by_cases k3 : c = 0
     ·
      have d1 : decide (0 < 7 * (n : Int)) = false := decide_eq_false (by omega)
      have d2 : (0 < 7 * (n : Int)) = False := eq_false (by omega)
      subst k3
      clear k2 k1
      go_wp2_with fail
      go_ret
      exact ⟨by rw [HE1.out.1]; rfl, by rw [HE1.out.2]; exact HT.out⟩
     ·
      clear k2
      go_wp2_with fail
      go_ret
      exact ⟨by rw [HE1.out.1]; rfl, by rw [HE1.out.2]; exact HT.out⟩
   ·
    have e0 : ldNum s = ldNumG gg (128 ^ (n + 1)) nv (ldByte s1).2 := by rw [hE.out, HST.out, if_neg k1]
    have HE0 := amZ e0
    clear e0
    have hwn : wrap64 (7 * (n : Int) + 7) = 7 * ((n + 1 : Nat) : Int) := by unfold wrap64; have := HN.out; omega
    have HV : Aside0 (0 ≤ nv ∧ nv < 128 ^ (n + 1)) := ⟨num_step hv.out HR.out HNV.out⟩
    go_wp2_with fail
    go_roundg gg
    case measure => have := HGG.out; omega
    case rel => exact ⟨n + 1, nv, (ldByte s1).2, rfl, rfl, ⟨by have := hn.out; have := HGG.out; omega⟩, HV, HT, HY1, HE0⟩
  ·
   have d9 : decide (7 * (n : Int) < 63) = false := decide_eq_false (by omega)
   have hg0 : gk = 0 := by have := hn.out; omega
   subst hg0
   go_wp2_with fail
   refine (fail_calls w0 wr bq s1 errForm hT.out.q (.inr (.inl rfl))).mono ?_
   rintro e w2 ⟨rfl, h⟩
   have HT2 := amZ (hT.out.trans h)
   clear h
   go_wp2_with fail
   go_ret
   exact ⟨by rw [hE.out]; rfl, by rw [hE.out]; exact HT2.out⟩
theorem ldNum_range (s : Rs) (hb : Byt s.1) : 0 ≤ (ldNum s).1 ∧ (ldNum s).1 < 9223372036854775808 := by
 have : ∀ n (sc v : Int) (s : Rs), Byt s.1 → 0 ≤ v → 1 ≤ sc → v < sc → 0 ≤ (ldNumG n sc v s).1 ∧ (ldNumG n sc v s).1 < sc * 128 ^ n := by
  intro n
  induction n with
  | zero => intro sc v s _ h0 h1 h2; exact ⟨Int.le_refl 0, by simp [ldNumG]; omega⟩
  | succ n ih =>
   intro sc v s hb h0 h1 h2
   obtain ⟨a, b, c⟩ := ldByte_range s hb
   have hp : (128 : Int) ^ (n + 1) = 128 * 128 ^ n := by rw [Int.pow_succ, Int.mul_comm]
   have hpos : (1 : Int) ≤ 128 ^ n := Int.pow_pos (by decide)
   have k1 : (ldByte s).1 % 128 * sc ≤ 127 * sc := Int.mul_le_mul_of_nonneg_right (by omega) (by omega)
   have k0 : 0 ≤ (ldByte s).1 % 128 * sc := Int.mul_nonneg (by omega) (by omega)
   rw [hp, ← Int.mul_assoc]
   unfold ldNumG
   split
   ·
    have k2 : sc * 128 * 1 ≤ sc * 128 * 128 ^ n := Int.mul_le_mul_of_nonneg_left hpos (by omega)
    exact ⟨by show 0 ≤ v + (ldByte s).1 % 128 * sc; omega, by show v + (ldByte s).1 % 128 * sc < _; omega⟩
   ·
    exact ih (sc * 128) _ (ldByte s).2 c (by omega) (by omega) (by omega)
 have h := this 9 1 0 s hb (by omega) (by omega) (by omega)
 exact ⟨h.1, Int.lt_of_lt_of_le h.2 (by decide)⟩
set_option maxHeartbeats 4000000 in
theorem count_calls (w0 W : World) (bq : Nat) (s : Rs) (h : LdIs w0 W bq s) (hb : Byt s.1) :
  Calls Try.prog 81 #[.pointer (some ⟨bq, 0, none⟩)] W fun e W1 => e = .returned (.int .i64 (ldCount s).1) ∧ LdTo w0 W bq W1 (ldCount s).2 := by
 have HI := amZ h
 have HY := amZ hb
 clear h hb
 go_enter Try.func81, Try.ntmps81
 go_wp2_with fail
 refine (num_calls w0 W bq s HI.out HY.out).mono ?_
 rintro e w1 ⟨rfl, h⟩
 have HT := amZ h
 obtain ⟨n, hn⟩ : ∃ n, n = (ldNum s).1 := ⟨_, rfl⟩
 rw [← hn]
 have HN := amZ hn
 obtain ⟨_, _, A, c, v, h1, _⟩ := h.q
 have q0 : w1.cell? ⟨bq, 0, none⟩ = some (.slice A (ldNum s).2.1.length c) := (zaY h1 0).trans rfl
 obtain ⟨m, hm⟩ : ∃ m, m = (ldNum s).2.1.length := ⟨_, rfl⟩
 rw [← hm] at q0
 have HM := amZ hm
 clear h hn h1 hm
 by_cases k : (m : Int) < n
 ·
  have HK := amZ k
  go_wp2_with fail
  refine (fail_calls w0 w1 bq (ldNum s).2 errShort HT.out.q (.inl rfl)).mono ?_
  rintro e w2 ⟨rfl, h⟩
  have HT2 := amZ (HT.out.trans h)
  clear h
  have e : ldCount s = (0, ((ldNum s).2.1, true)) := by unfold ldCount; rw [← HN.out, ← HM.out, if_pos k]
  have HE := amZ e
  clear e
  go_wp2_with fail
  go_ret
  exact ⟨by rw [HE.out]; rfl, by rw [HE.out]; exact HT2.out⟩
 ·
  have e : ldCount s = ldNum s := by unfold ldCount; rw [← HN.out, ← HM.out, if_neg k]
  have HE := amZ e
  clear e
  go_wp2_with fail
  go_ret
  exact ⟨by rw [HE.out, ← HN.out]; rfl, by rw [HE.out]; exact HT.out⟩
end Go.Proofs.Ytmmpiojekgfdjaa.C
