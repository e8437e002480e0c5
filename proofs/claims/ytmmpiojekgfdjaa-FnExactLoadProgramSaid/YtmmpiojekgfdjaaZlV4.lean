/- The specification writes numbers. -/
import Derived.Test.YtmmpiojekgfdjaaZlV3
import Derived.Test.YtmmpiojekgfdjaaZlK
namespace Go.Proofs.Ytmmpiojekgfdjaa.C
open Go.RowKit YtmmpiojekgfdjaaW.PrintWords YtmmpiojekgfdjaaW.PrintLast
set_option linter.unusedVariables false
set_option linter.unusedSimpArgs false
theorem wp_append_bytes {ops : Array Oper} {rest : List Oper} {o : Oper} {a : Act} {Q : Exit → Act → World → Prop} {W : World} (hgd : o.guard = none) (s x : Operand)
  (ho : o.op = .call { callee := .builtin .append, args := #[s, x], argTypes := #[35, 35] }) (B : Nat) (v : Value) (xs ys : List Int) (A : Option Addr) (c : Nat) (hs : a.eval s = v) (hx : a.eval x = .slice A ys.length c)
  (hr : Kd.R (Kd.int .u8) 5 W B (fun _ => True) v xs) (hB : B ≤ W.heap.size) (hy : Kd.C (Kd.int .u8) W A ys.length ys) (hl : xs.length + ys.length ≤ 1099511627776)
  (h : ∀ v1 w1, Kd.R (Kd.int .u8) 5 w1 B (fun _ => True) v1 (xs ++ ys) → W.grownBy w1 v.ownBlock → wpList Try.prog ops Q rest (a.put o.dst v1) w1) : wpList Try.prog ops Q (o :: rest) a W := by
 obtain ⟨v1, w1, h1, h2, h3, h4⟩ := append_bytes 35 35 o.type Try.underlying35 Try.underlying35 B W v xs ys A c (fun _ => True) hr (fun _ _ => trivial) hB hy hl
 exact wpList_append_run2 hgd s x 35 35 ho v _ hs hx v1 w1 h1 (h v1 w1 h2 h3)
theorem bytes_lit (W : World) (B : Nat) (hB : B ≤ W.heap.size) (ys : List Int) (hy : ys.length ≤ 1000) : Kd.R (Kd.int .u8) 5 (W.alloc (.cells (nums .u8 ys).toArray 5)) B (fun _ => True) (.slice (some ⟨W.heap.size, 0, none⟩) ys.length ys.length) ys := by
 have h := World.ownsRow_lit (base := B) (e := 5) (size := 1) W (nums .u8 ys).toArray ys.length hB (by unfold maxLen; omega) (by simp [nums])
 exact Kd.R_of_own (by simpa [encs, nums] using h) (fun _ _ => trivial)
theorem varF_big (n : Nat) (y : Int) (h : 127 < y) : varF (n + 1) y = [y % 128 + 128] ++ varF n (y / 128) := by
 rw [varF, if_pos h]; rfl
set_option maxHeartbeats 4000000 in
set_option maxRecDepth 100000 in
theorem l5var_calls : ∀ (n : Nat) (y : Int) (w : World), 0 ≤ y → y ≤ 4611686018427387904 → y < 128 ^ n → 1 ≤ n → n ≤ 10 →
  Calls Try.prog 67 #[.int .i64 y] w fun e w' => ∃ v, e = .returned v ∧ Kd.R (Kd.int .u8) 5 w' w.heap.size (fun _ => True) v (varF n y) ∧ Below w.heap.size w w' := by
 intro n
 induction n with
 | zero => intro y w _ _ _ h; omega
 | succ n ih =>
  intro y w h0 h62 h1 _ hn
  by_cases h7 : 127 < y
  ·
   have hp : (128 : Int) ^ (n + 1) = 128 ^ n * 128 := Int.pow_succ ..
   have hn1 : 1 ≤ n := by
    rcases Nat.eq_zero_or_pos n with e | e
    ·
     subst e; simp at h1; omega
    ·
     exact e
   have HI := amZ (ih (y / 128) (w.alloc (.cells #[.int .u8 (y % 128 + 128)] 5)) (by omega) (by omega) (by omega) hn1 (by omega))
   have HV : Aside0 (varF (n + 1) y = [y % 128 + 128] ++ varF n (y / 128)) := ⟨varF_big n y h7⟩
   have HL : Aside0 ([y % 128 + 128].length + (varF n (y / 128)).length ≤ 1099511627776) := ⟨by have := varF_len n (y / 128); simp; omega⟩
   have HR := amZ (bytes_lit w w.heap.size (Nat.le_refl _) [y % 128 + 128] (by simp))
   have d1 : decide (y < 128) = false := decide_eq_false (by omega)
   clear ih h1 hp hn1 hn h7
   go_enter Try.func67, Try.ntmps67
   go_wp2_with fail
   refine HI.out.mono ?_
   rintro e w2 ⟨v2, rfl, hr2, hb2⟩
   obtain ⟨A2, c2, rfl⟩ := Kd.R_slice hr2
   have HR2 := amZ (Kd.R_below HR.out hb2)
   have HC2 := amZ (Kd.R_reads' hr2).2.2
   have HB2 := amZ (((Below.refl w.heap.size w).alloc (Nat.le_refl _) (.cells #[.int .u8 (y % 128 + 128)] 5)).trans (hb2.mono (by simp)))
   clear hr2 hb2
   go_wp2_with (at_builtin; refine wp_append_bytes rfl _ _ rfl w.heap.size _ _ (varF n (y / 128)) A2 c2 rfl rfl HR2.out HB2.out.size HC2.out HL.out ?_; intro v3 w3 hr3 hg3; have HR3 := amZ hr3; have HG3 := amZ hg3; clear hr3 hg3)
   go_ret
   exact ⟨v3, rfl, by rw [HV.out]; exact HR3.out, HB2.out.grown HG3.out HB2.out.size (fun k hk => Kd.R_base HR2.out k hk)⟩
  ·
   have HV : Aside0 (varF (n + 1) y = [y % 256]) := ⟨by unfold varF; rw [if_neg h7]⟩
   have HR := amZ (bytes_lit w w.heap.size (Nat.le_refl _) [y % 256] (by simp))
   have d1 : decide (y < 128) = true := decide_eq_true (by omega)
   clear ih h1 hn h7
   go_enter Try.func67, Try.ntmps67
   go_wp2_with fail
   go_ret
   exact ⟨_, rfl, by rw [HV.out]; exact HR.out, (Below.refl _ _).alloc (Nat.le_refl _) _⟩
theorem eightB_take (n : Int) (i : Nat) (h : i < 8) : (eightB n).take (i + 1) = (eightB n).take i ++ [IntKind.u64.wrap n / 2 ^ (8 * i) % 256] := by
 have hl : i < (eightB n).length := by simpa [eightB] using h
 rw [List.take_succ_eq_append_getElem hl]
 simp [eightB]
theorem pow8 (u : Int) (i : Nat) : u / 2 ^ (8 * i) / 256 = u / 2 ^ (8 * (i + 1)) := by
 rw [Int.ediv_ediv_of_nonneg (Int.le_of_lt (Int.pow_pos (by decide))), show 8 * (i + 1) = 8 * i + 8 by omega, Int.pow_add]
 rfl
theorem u64_range (n : Int) : 0 ≤ IntKind.u64.wrap n ∧ IntKind.u64.wrap n ≤ 18446744073709551615 := by
 simp [IntKind.wrap, IntKind.bits, IntKind.signed]; omega
set_option maxHeartbeats 4000000 in
set_option maxRecDepth 100000 in
theorem l5eight_calls (n : Int) (w : World) : Calls Try.prog 68 #[.int .i64 n] w fun e w' => ∃ v, e = .returned v ∧ Kd.R (Kd.int .u8) 5 w' w.heap.size (fun _ => True) v (eightB n) ∧ Below w.heap.size w w' := by
 go_enter Try.func68, Try.ntmps68
 go_wp2_with fail
 go_loopg [3, 4, 5] 8 (fun g v3 v4 v5 wr => ∃ (i : Nat) (u : Int), v5 = .int .i64 (i : Int) ∧ v4 = .int .u64 u ∧ Aside0 (i + g = 8) ∧ Aside0 (u = IntKind.u64.wrap n / 2 ^ (8 * i)) ∧ Aside0 (Kd.R (Kd.int .u8) 5 wr w.heap.size (fun _ => True) v3 ((eightB n).take i)) ∧ Aside0 (Below w.heap.size w wr))
 case atStart => exact ⟨0, _, rfl, rfl, ⟨by omega⟩, ⟨by simp⟩, ⟨Kd.R_nil _ _ _ _ _⟩, ⟨Below.refl _ _⟩⟩
 case round =>
  obtain ⟨i, u, rfl, rfl, hi, hu, hR, HB⟩ := hrel
  by_cases h8 : i < 8
  ·
   have hr := u64_range n
   have hd0 : 0 ≤ u := by rw [hu.out]; exact Int.ediv_nonneg hr.1 (Int.le_of_lt (Int.pow_pos (by decide)))
   have hd1 : u ≤ 18446744073709551615 := by rw [hu.out]; exact Int.le_trans (Int.ediv_le_self _ hr.1) hr.2
   have HD := amZ hd1
   have d8 : decide ((i : Int) < 8) = true := decide_eq_true (by omega)
   have HT := amZ (eightB_take n i h8)
   have HU : Aside0 (u / 256 = IntKind.u64.wrap n / 2 ^ (8 * (i + 1))) := ⟨by rw [hu.out, pow8]⟩
   have HI := amZ h8
   obtain ⟨A3, c3, e3⟩ := Kd.R_slice hR.out
   have hB2 := (Below.refl wr.heap.size wr).alloc (Nat.le_refl _) (.cells #[.int .u8 (u % 256)] 5)
   have HR2 := amZ (Kd.R_below hR.out hB2)
   have HC2 := amZ (bytesC_blk (W := wr.alloc (.cells #[.int .u8 (u % 256)] 5)) (ys := [u % 256]) (t := 5) (heap_alloc_new _ _) (by simp))
   have HB2 := amZ (zdY HB.out hB2)
   have HL : Aside0 (((eightB n).take i).length + [u % 256].length ≤ 1099511627776) := ⟨by simp; omega⟩
   have HE : Aside0 ((eightB n).take i ++ [u % 256] = (eightB n).take (i + 1)) := ⟨by rw [HT.out, hu.out]⟩
   clear hr h8 hB2 e3
   go_wp2_with (at_builtin; refine wp_append_bytes rfl _ _ rfl w.heap.size _ _ [u % 256] _ 1 rfl rfl HR2.out HB2.out.size HC2.out HL.out ?_; intro v3 w3 hr3 hg3; have HR3 := amZ hr3; have HG3 := amZ hg3; clear hr3 hg3)
   go_roundg (8 - (i + 1))
   case measure => have := hi.out; have := HI.out; omega
   case rel => exact ⟨i + 1, _, i64_next HI.out (by decide), rfl, ⟨by have := HI.out; omega⟩, HU, ⟨by rw [← HE.out]; exact HR3.out⟩, ⟨HB2.out.grown HG3.out HB2.out.size (fun k hk => Kd.R_base HR2.out k hk)⟩⟩
  ·
   have d8 : decide ((i : Int) < 8) = false := decide_eq_false (by omega)
   have h8' : i = 8 := by have := hi.out; omega
   subst h8'
   clear h8
   go_wp2_with fail
   go_ret
   exact ⟨_, rfl, by have h := hR.out; rw [List.take_of_length_le (by simp [eightB])] at h; exact h, HB.out⟩
end Go.Proofs.Ytmmpiojekgfdjaa.C
