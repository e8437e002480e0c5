import Derived.Test.YtchfdpmkgjblgaaDoorAr
import Derived.Test.YtchfdpmkgjblgaaDoorPx1
import Derived.Lib.Hide
namespace Go.Proofs.YtchfdpmkgjblgaaDoor
open Go.RowKit Go.Proofs.YtchfdpmkgjblgaaDoor.P Go.Proofs.YtchfdpmkgjblgaaDoorW.PrintWords
def I64 (a : Int) : Prop := -9223372036854775808 ≤ a ∧ a ≤ 9223372036854775807
theorem wrap_id {a : Int} (h : I64 a) : wrap64 a = a := by unfold I64 at h; unfold wrap64; omega
/-- The quotient rounded down, as the reference says it. -/
def flo (a b : Int) : Int := if a.tmod b = 0 then wrap64 (a.tdiv b) else if (decide (a < 0) != decide (b < 0)) = true then wrap64 (wrap64 (a.tdiv b) - 1) else wrap64 (a.tdiv b)
theorem tmod_sign (a b : Int) : (0 ≤ a → 0 ≤ a.tmod b ∧ a.tmod b ≤ a) ∧ (a ≤ 0 → a.tmod b ≤ 0 ∧ a ≤ a.tmod b) := by
  have pos : ∀ a : Int, 0 ≤ a → 0 ≤ a.tmod b ∧ a.tmod b ≤ a := by
    intro a h
    obtain ⟨n, rfl⟩ := Int.eq_ofNat_of_zero_le h
    have e : (n : Int).tmod b = ((n % b.natAbs : Nat) : Int) := by
      rcases Int.natAbs_eq b with h1 | h1
      · rw [h1]; simp [Int.tmod_eq_emod_of_nonneg]
      · rw [h1, Int.tmod_neg]; simp [Int.tmod_eq_emod_of_nonneg]
    rw [e]
    have := Nat.mod_le n b.natAbs
    omega
  refine ⟨pos a, fun h => ?_⟩
  have := pos (-a) (by omega)
  rw [Int.neg_tmod] at this
  omega
theorem quo_flo (a b : Int) (ha : I64 a) (hb : I64 b) (h0 : b ≠ 0) : quo a b = flo a b := by
  unfold I64 at ha hb
  have hs := tmod_sign a b
  have hd := Int.tmod_add_mul_tdiv a b
  have hq := Int.natAbs_tdiv_le_natAbs a b
  by_cases h1 : b = -1
  · subst h1
    have e1 : a.tdiv (-1) = -a := by simp
    have e2 : a.tmod (-1) = 0 := by simp
    have e3 : quoR a (-1) = 0 := by
      unfold quoR
      rw [e1]
      unfold wrap64
      omega
    unfold quo quoDown flo
    rw [e3, e2]
    simp
  obtain ⟨q, eq⟩ : ∃ q, q = a.tdiv b := ⟨_, rfl⟩
  obtain ⟨r, er⟩ : ∃ r, r = a.tmod b := ⟨_, rfl⟩
  obtain ⟨p, ep⟩ : ∃ p, p = b * q := ⟨_, rfl⟩
  rw [← eq, ← er, ← ep] at hd
  rw [← eq] at hq
  rw [← er] at hs
  have hp : (0 ≤ a → 0 ≤ p ∧ p ≤ a) ∧ (a ≤ 0 → p ≤ 0 ∧ a ≤ p) := by omega
  have hqr : I64 q := by
    unfold I64
    have : q ≠ 9223372036854775808 := by
      intro h
      rw [h] at ep
      omega
    omega
  have eR : quoR a b = r := by
    unfold quoR
    have i1 : I64 p := by unfold I64; omega
    have i2 : I64 (a - p) := by unfold I64; omega
    rw [← eq, wrap_id hqr, Int.mul_comm q b, ← ep, wrap_id i1, wrap_id i2]
    omega
  unfold quo quoDown flo
  rw [eR, ← eq, ← er]
  by_cases hr : r = 0
  · simp [hr]
  · have hsg : decide (r < 0) = decide (a < 0) := by
      by_cases h : a < 0
      · simp [h]; omega
      · simp [h]; omega
    rw [hsg]
    simp [hr]
/-- Arith, plainly. -/
def arithOf (op a b : Int) : Int × Int :=
  if op < 0 ∨ op > 11 ∨ op = 5 then (0, 1)
  else if op = 0 then (wrap64 (a + b), 0) else if op = 1 then (wrap64 (a - b), 0) else if op = 2 then (wrap64 (a * b), 0)
  else if op = 3 then (if b = 0 then (0, 5) else (flo a b, 0))
  else if op = 4 then (if b = 0 then (0, 5) else (wrap64 (a - wrap64 (b * flo a b)), 0))
  else if op = 6 then (if a = b then 1 else 0, 0) else if op = 7 then (if a = b then 0 else 1, 0) else if op = 8 then (if a < b then 1 else 0, 0)
  else if op = 9 then (if a ≤ b then 1 else 0, 0) else if op = 10 then (if a > b then 1 else 0, 0) else (if a ≥ b then 1 else 0, 0)
theorem l1floor_eq (a b : Int) (h : b ≠ 0) : spec_l1floor.f a b = some (flo a b) := by
  unfold spec_l1floor.f flo
  rw [if_neg h]
  by_cases h1 : a.tmod b = 0
  · rw [if_pos h1, if_pos h1]
  · rw [if_neg h1, if_neg h1]
    split <;> rfl
theorem l1bool_eq (c : Bool) : spec_l1bool.f c = some (if c = true then 1 else 0) := by
  unfold spec_l1bool.f; split <;> rfl
theorem spec_arith_eq (op a b : Int) : spec_Arith.f 2 op a b = some (arithOf op a b) := by
  unfold spec_Arith.f arithOf
  by_cases h0 : op < 0
  · rw [if_pos h0, if_pos (.inl h0)]; simp [spec_Arith.j0]
  by_cases h1 : op > 11
  · rw [if_neg h0, if_pos h1, if_pos (.inr (.inl h1))]; simp [spec_Arith.j0]
  rw [if_neg h0, if_neg h1]
  have hc : op = 0 ∨ op = 1 ∨ op = 2 ∨ op = 3 ∨ op = 4 ∨ op = 5 ∨ op = 6 ∨ op = 7 ∨ op = 8 ∨ op = 9 ∨ op = 10 ∨ op = 11 := by omega
  rcases hc with rfl | rfl | rfl | rfl | rfl | rfl | rfl | rfl | rfl | rfl | rfl | rfl
  · simp [spec_Arith.j0]
  · simp [spec_Arith.j0]
  · simp [spec_Arith.j0]
  · by_cases hb : b = 0
    · simp [spec_Arith.j0, spec_Arith.j1, hb]
    · simp [spec_Arith.j0, spec_Arith.j1, hb, l1floor_eq a b hb]
  · by_cases hb : b = 0
    · simp [spec_Arith.j0, spec_Arith.j1, hb]
    · simp [spec_Arith.j0, spec_Arith.j1, hb, l1floor_eq a b hb]
  · simp [spec_Arith.j0]
  · by_cases h : a = b <;> simp [spec_Arith.j0, spec_Arith.j1, l1bool_eq, h]
  · by_cases h : a = b <;> simp [spec_Arith.j0, spec_Arith.j1, l1bool_eq, h]
  · by_cases h : a < b <;> simp [spec_Arith.j0, spec_Arith.j1, l1bool_eq, h]
  · by_cases h : a ≤ b <;> simp [spec_Arith.j0, spec_Arith.j1, l1bool_eq, h]
  · by_cases h : b < a <;> simp [spec_Arith.j0, spec_Arith.j1, l1bool_eq, h]
  · by_cases h : b ≤ a <;> simp [spec_Arith.j0, spec_Arith.j1, l1bool_eq, h]
theorem calls_val {f : FuncId} {args : Array Value} {w : World} {x y x' y' : Int} (hx : x = x') (hy : y = y')
    (h : Calls Tryd.prog f args w fun e w' => e = .returned (.tuple #[.int .i64 x, .int .i64 y]) ∧ Below w.heap.size w w') :
    Calls Tryd.prog f args w fun e w' => e = .returned (.tuple #[.int .i64 x', .int .i64 y']) ∧ Below w.heap.size w w' := by subst hx; subst hy; exact h
theorem impl_arith (op a b : Int) (w : World) (ha : I64 a) (hb : I64 b) (hg : Laid w) :
    Calls Tryd.prog 11 #[.int .i64 op, .int .i64 a, .int .i64 b] w fun e w' => e = .returned (.tuple #[.int .i64 (arithOf op a b).1, .int .i64 (arithOf op a b).2]) ∧ Below w.heap.size w w' := by
  by_cases h0 : op < 0
  · exact calls_val (by simp [arithOf, h0]) (by simp [arithOf, h0]) (arith_bad_lo op a b w h0)
  by_cases h1 : op > 11
  · exact calls_val (by simp [arithOf, h1]) (by simp [arithOf, h1]) (arith_bad_hi op a b w (by omega) (by omega))
  have hc : op = 0 ∨ op = 1 ∨ op = 2 ∨ op = 3 ∨ op = 4 ∨ op = 5 ∨ op = 6 ∨ op = 7 ∨ op = 8 ∨ op = 9 ∨ op = 10 ∨ op = 11 := by omega
  clear h0 h1
  rcases hc with rfl | rfl | rfl | rfl | rfl | rfl | rfl | rfl | rfl | rfl | rfl | rfl
  · exact calls_val (by simp [arithOf]) (by simp [arithOf]) (arith_0 a b w)
  · exact calls_val (by simp [arithOf]) (by simp [arithOf]) (arith_1 a b w)
  · exact calls_val (by simp [arithOf]) (by simp [arithOf]) (arith_2 a b w)
  · by_cases hz : b = 0
    · subst hz
      exact calls_val (by simp [arithOf]) (by simp [arithOf]) (arith_3_0 a w hg)
    · exact calls_val (by simp [arithOf, hz, quo_flo a b ha hb hz]) (by simp [arithOf, hz]) (arith_3 a b w hz)
  · by_cases hz : b = 0
    · subst hz
      exact calls_val (by simp [arithOf]) (by simp [arithOf]) (arith_4_0 a w hg)
    · exact calls_val (by simp [arithOf, hz, quo_flo a b ha hb hz, Int.mul_comm b]) (by simp [arithOf, hz]) (arith_4 a b w hz)
  · exact calls_val (by simp [arithOf]) (by simp [arithOf]) (arith_bad_cat a b w)
  · by_cases h : a = b
    · exact calls_val (by simp [arithOf, h]) (by simp [arithOf, h]) (arith_6_1 a b w (by simp [h]))
    · exact calls_val (by simp [arithOf, h]) (by simp [arithOf, h]) (arith_6_0 a b w (by simp [h]))
  · by_cases h : a = b
    · exact calls_val (by simp [arithOf, h]) (by simp [arithOf, h]) (arith_7_0 a b w (by simp [h]))
    · exact calls_val (by simp [arithOf, h]) (by simp [arithOf, h]) (arith_7_1 a b w (by simp [h]))
  · by_cases h : a < b
    · exact calls_val (by simp [arithOf, h]) (by simp [arithOf, h]) (arith_8_1 a b w (by simp [h]))
    · exact calls_val (by simp [arithOf, h]) (by simp [arithOf, h]) (arith_8_0 a b w (by simp; omega))
  · by_cases h : a ≤ b
    · exact calls_val (by simp [arithOf, h]) (by simp [arithOf, h]) (arith_9_1 a b w (by simp [h]))
    · exact calls_val (by simp [arithOf, h]) (by simp [arithOf, h]) (arith_9_0 a b w (by simp; omega))
  · by_cases h : b < a
    · exact calls_val (by simp [arithOf, h]) (by simp [arithOf, h]) (arith_10_1 a b w (by simp [h]))
    · exact calls_val (by simp [arithOf, h]) (by simp [arithOf, h]) (arith_10_0 a b w (by simp; omega))
  · by_cases h : b ≤ a
    · exact calls_val (by simp [arithOf, h]) (by simp [arithOf, h]) (arith_11_1 a b w (by simp [h]))
    · exact calls_val (by simp [arithOf, h]) (by simp [arithOf, h]) (arith_11_0 a b w (by simp; omega))
set_option maxHeartbeats 4000000 in
/-- The law's call. -/
theorem law_arith (op a b : Int) (w : World) (ha : I64 a) (hb : I64 b) (hg : Laid w) :
    Calls Tryd.prog 4 #[.int .i64 op, .int .i64 a, .int .i64 b] w fun e w' => e = .returned (.bool true) ∧ Below w.heap.size w w' := by
  have hS := spec_arith_eq op a b
  have hI := fun (w' : World) (h : Laid w') => impl_arith op a b w' ha hb h
  generalize arithOf op a b = x at hS hI
  have HS := Lib.hid hS
  have HI := Lib.hid hI
  have HG := Lib.hid hg
  clear hS hI ha hb hg
  go_enter Tryd.func4, Tryd.ntmps4
  go_wp2_with (first | (go_at_call 10; refine (spec_Arith.calls 2 _ _ _ x.1 x.2 _ HS.out).mono ?_; rintro e w' ⟨rfl, ⟨n, rfl⟩⟩) | (go_at_call 11; refine (HI.out _ (HG.out.below (Drawn0.below ⟨⟨n, rfl⟩⟩))).mono ?_; rintro e w' ⟨rfl, hb1⟩))
  go_ret
  exact ⟨rfl, Below.trans (Drawn0.below ⟨⟨n, rfl⟩⟩) (hb1.mono (by simp))⟩
end Go.Proofs.YtchfdpmkgjblgaaDoor
