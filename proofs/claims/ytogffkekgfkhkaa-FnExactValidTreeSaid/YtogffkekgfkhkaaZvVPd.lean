/- Shapes. -/
import Derived.Test.YtogffkekgfkhkaaZvVPn
import Derived.Test.YtogffkekgfkhkaaZvVPb
import Derived.Test.YtogffkekgfkhkaaZvVPa
import Derived.Test.YtogffkekgfkhkaaZvCx2
import Derived.Test.YtogffkekgfkhkaaZvK
namespace Go.Proofs.Ytogffkekgfkhkaa.C
open Go.RowKit Go.Proofs.YtogffkekgfkhkaaW.PrintWords Go.Proofs.YtogffkekgfkhkaaW.PrintLast Go.Proofs.YtogffkekgfkhkaaW.PrintMore
set_option linter.unusedVariables false
set_option linter.unusedSimpArgs false
abbrev bA (l : List UInt8) : ByteArray := ⟨l.toArray⟩
theorem bA_append (a b : List UInt8) : bA a ++ bA b = bA (a ++ b) := by
  apply ByteArray.ext
  rw [ByteArray.data_append]
  simp [bA]
theorem bA_size (a : List UInt8) : (bA a).size = a.length := by simp [bA, ByteArray.size]
def rep (c : List UInt8) : Nat → List UInt8
  | 0 => []
  | n + 1 => c ++ rep c n
theorem rep_snoc (c : List UInt8) : ∀ n, rep c n ++ c = rep c (n + 1)
  | 0 => by simp [rep]
  | n + 1 => by rw [rep, List.append_assoc, rep_snoc c n]; rfl
theorem rep_len (c : List UInt8) : ∀ n, (rep c n).length = n * c.length
  | 0 => by simp [rep]
  | n + 1 => by rw [rep, List.length_append, rep_len c n, Nat.add_mul]; omega
theorem many_ev (c : List UInt8) (hc : c.length ≤ 2) (n : Nat) (hn : n ≤ 1048576) : Ev (fun k => spec_l3many.f k (bA c) (n : Int)) (bA (rep c n)) := by
  have key := Ev.up (F := fun k i => spec_l3many.l0 k (bA c) (n : Int) (bA (rep c i)) (i : Int)) (r := bA (rep c n)) n (fun i hi e => ?_) ?_ 0 (Nat.zero_le _)
  · exact key
  · refine Ev.step (fun k => ?_) e
    have hl : i * c.length ≤ 2097152 := Nat.le_trans (Nat.mul_le_mul (show i ≤ 1048576 by omega) hc) (by omega)
    rw [spec_l3many.l0, if_pos (by omega), if_pos (by rw [bA_size, bA_size, rep_len]; omega), bA_append, rep_snoc, wrap1 i (by omega)]
  · refine Ev.step (f := fun _ => some (bA (rep c n))) (fun k => ?_) (Ev.now _)
    rw [spec_l3many.l0, if_neg (by omega)]
/-- the specification's shape, letter by letter -/
def shL (f0 f1 : Int) (n : Nat) : List UInt8 :=
  if f0 = 0 then rep [115] n
  else if f0 = 1 ∨ f0 = 9 then (if 50 < n then [63] else rep [101] n)
  else if f0 = 26 then [102]
  else if f0 = 2 then (if f1 < 1 ∨ 50 < f1 ∨ (n : Int) ≤ f1 ∨ f1 + 50 < (n : Int) then [63] else rep [116] f1.toNat ++ rep [101] (n - f1.toNat))
  else if f0 = 3 then [98]
  else if f0 = 4 then [101, 98]
  else if f0 = 5 then [98, 101]
  else if f0 = 6 then (if n < 2 then [63] else rep [101, 98] (n / 2) ++ rep [98] (n % 2))
  else if f0 = 7 then (if n = 4 then [101, 101, 101, 98] else [101, 101, 98])
  else if f0 = 10 then [99]
  else if f0 = 17 ∨ f0 = 21 ∨ f0 = 22 ∨ f0 = 23 then [101, 101]
  else if f0 = 18 then (if n < 1 ∨ 51 < n then [63] else rep [101] n)
  else if f0 = 19 then [98]
  else if f0 = 20 then (if n % 2 = 0 then rep [101] n else [63])
  else if f0 = 24 ∨ f0 = 25 then [101]
  else []
theorem bindSome {α : Type} (o : Option α) : (o.bind fun t => some t) = o := by cases o <;> rfl
theorem shape_ev (f0 f1 : Int) (t : List Int) (ns : List (List Int)) (n : Nat) (hn : n ≤ 1048576) : Ev (fun k => spec_l3shape.f k f0 f1 t ns (n : Int)) (bA (shL f0 f1 n)) := by
  have now1 : ∀ l : List UInt8, Ev (fun _ => some (bA l)) (bA l) := fun l => Ev.now _
  have j1 : ∀ b : Bool, b = decide (f1 < 1 ∨ 50 < f1 ∨ (n : Int) ≤ f1 ∨ f1 + 50 < (n : Int)) → Ev (fun k => spec_l3shape.j1 k (n : Int) b f0 f1 t ns (n : Int)) (bA (if f1 < 1 ∨ 50 < f1 ∨ (n : Int) ≤ f1 ∨ f1 + 50 < (n : Int) then [63] else rep [116] f1.toNat ++ rep [101] (n - f1.toNat))) := by
    intro b hb
    by_cases c : f1 < 1 ∨ 50 < f1 ∨ (n : Int) ≤ f1 ∨ f1 + 50 < (n : Int)
    · rw [if_pos c]
      rw [decide_eq_true c] at hb
      subst hb
      refine Ev.step (fun k => ?_) (now1 [63])
      rw [spec_l3shape.j1, if_pos rfl]
    · rw [if_neg c]
      rw [decide_eq_false c] at hb
      subst hb
      have e1 := many_ev [116] (by simp) f1.toNat (by omega)
      have e2 := many_ev [101] (by simp) (n - f1.toNat) (by omega)
      rw [show ((f1.toNat : Nat) : Int) = f1 by omega] at e1
      rw [show ((n - f1.toNat : Nat) : Int) = wrap64 ((n : Int) - f1) by unfold wrap64; omega] at e2
      refine Ev.step (f := fun k => (spec_l3many.f k (bA [116]) f1).bind fun t115 => ((spec_l3many.f k (bA [101]) (wrap64 ((n : Int) - f1))).bind fun t116 => (if t115.size + t116.size ≤ 9223372036854775807 then (some (t115 ++ t116)) else (none)))) (fun k => ?_) ?_
      · rw [spec_l3shape.j1, if_neg (by simp)]
      · refine Ev.bind (f := fun k t115 => ((spec_l3many.f k (bA [101]) (wrap64 ((n : Int) - f1))).bind fun t116 => (if t115.size + t116.size ≤ 9223372036854775807 then (some (t115 ++ t116)) else (none)))) e1 ?_
        refine Ev.bind (f := fun _ t116 => (if (bA (rep [116] f1.toNat)).size + t116.size ≤ 9223372036854775807 then (some (bA (rep [116] f1.toNat) ++ t116)) else (none))) e2 ?_
        refine Ev.congr (fun k => if_pos ?_) ?_
        · rw [bA_size, bA_size, rep_len, rep_len]; simp only [List.length_cons, List.length_nil]; omega
        · rw [bA_append]; exact Ev.now _
  have hmany : Ev (fun k => spec_l3many.f k (bA [101]) (n : Int)) (bA (rep [101] n)) := many_ev [101] (by simp) n hn
  have j2 : ∀ b : Bool, b = decide (f0 = 17 ∨ f0 = 21 ∨ f0 = 22 ∨ f0 = 23) → Ev (fun k => spec_l3shape.j2 k (n : Int) b f0 f1 t ns (n : Int)) (bA (if f0 = 17 ∨ f0 = 21 ∨ f0 = 22 ∨ f0 = 23 then [101, 101]
      else if f0 = 18 then (if n < 1 ∨ 51 < n then [63] else rep [101] n)
      else if f0 = 19 then [98]
      else if f0 = 20 then (if n % 2 = 0 then rep [101] n else [63])
      else if f0 = 24 ∨ f0 = 25 then [101]
      else [])) := by
    intro b hb
    by_cases c : f0 = 17 ∨ f0 = 21 ∨ f0 = 22 ∨ f0 = 23
    · rw [if_pos c]
      rw [decide_eq_true c] at hb
      subst hb
      refine Ev.step (fun k => ?_) (now1 [101, 101])
      rw [spec_l3shape.j2, if_pos rfl]
    rw [if_neg c]
    rw [decide_eq_false c] at hb
    subst hb
    by_cases c18 : f0 = 18
    · rw [if_pos c18]
      by_cases cn : n < 1 ∨ 51 < n
      · rw [if_pos cn]
        refine Ev.step (fun k => ?_) (now1 [63])
        rw [spec_l3shape.j2, if_neg (by simp), if_pos c18]
        by_cases c1 : (n : Int) < 1
        · rw [if_pos c1]
        · rw [if_neg c1, if_pos (by omega)]
      · rw [if_neg cn]
        refine Ev.step (fun k => ?_) hmany
        rw [spec_l3shape.j2, if_neg (by simp), if_pos c18, if_neg (by omega), if_neg (by omega), bindSome]
    rw [if_neg c18]
    by_cases c19 : f0 = 19
    · rw [if_pos c19]
      refine Ev.step (fun k => ?_) (now1 [98])
      rw [spec_l3shape.j2, if_neg (by simp), if_neg c18, if_pos c19]
    rw [if_neg c19]
    by_cases c20 : f0 = 20
    · rw [if_pos c20]
      by_cases cn : n % 2 = 0
      · rw [if_pos cn]
        refine Ev.step (fun k => ?_) hmany
        rw [spec_l3shape.j2, if_neg (by simp), if_neg c18, if_neg c19, if_pos c20, if_pos (by rw [show Int.tmod (n : Int) 2 = ((n % 2 : Nat) : Int) from rfl]; omega), bindSome]
      · rw [if_neg cn]
        refine Ev.step (fun k => ?_) (now1 [63])
        rw [spec_l3shape.j2, if_neg (by simp), if_neg c18, if_neg c19, if_pos c20, if_neg (by rw [show Int.tmod (n : Int) 2 = ((n % 2 : Nat) : Int) from rfl]; omega)]
    rw [if_neg c20]
    by_cases c24 : f0 = 24
    · rw [if_pos (.inl c24)]
      refine Ev.step (fun k => ?_) (now1 [101])
      rw [spec_l3shape.j2, if_neg (by simp), if_neg c18, if_neg c19, if_neg c20, if_pos c24]
    by_cases c25 : f0 = 25
    · rw [if_pos (.inr c25)]
      refine Ev.step (fun k => ?_) (now1 [101])
      rw [spec_l3shape.j2, if_neg (by simp), if_neg c18, if_neg c19, if_neg c20, if_neg c24, if_pos c25]
    rw [if_neg (by omega)]
    refine Ev.step (fun k => ?_) (now1 [])
    rw [spec_l3shape.j2, if_neg (by simp), if_neg c18, if_neg c19, if_neg c20, if_neg c24, if_neg c25]
  have j0 : ∀ b : Bool, f0 ≠ 0 → b = decide (f0 = 1 ∨ f0 = 9) → Ev (fun k => spec_l3shape.j0 k (n : Int) b f0 f1 t ns (n : Int)) (bA (shL f0 f1 n)) := by
    intro b c0 hb
    unfold shL
    rw [if_neg c0]
    by_cases c1 : f0 = 1 ∨ f0 = 9
    · rw [if_pos c1]
      rw [decide_eq_true c1] at hb
      subst hb
      by_cases cn : 50 < n
      · rw [if_pos cn]
        refine Ev.step (fun k => ?_) (now1 [63])
        rw [spec_l3shape.j0, if_pos rfl, if_pos (by omega)]
      · rw [if_neg cn]
        refine Ev.step (fun k => ?_) hmany
        rw [spec_l3shape.j0, if_pos rfl, if_neg (by omega), bindSome]
    rw [if_neg c1]
    rw [decide_eq_false c1] at hb
    subst hb
    by_cases c26 : f0 = 26
    · rw [if_pos c26]
      refine Ev.step (fun k => ?_) (now1 [102])
      rw [spec_l3shape.j0, if_neg (by simp), if_pos c26]
    rw [if_neg c26]
    by_cases c2 : f0 = 2
    · rw [if_pos c2]
      refine Ev.step (fun k => ?_) (j1 _ rfl)
      rw [spec_l3shape.j0, if_neg (by simp), if_neg c26, if_pos c2]
      by_cases a1 : f1 < 1
      · rw [if_pos a1, decide_eq_true (.inl a1)]
      · rw [if_neg a1]
        by_cases a2 : f1 > 50
        · rw [if_pos a2, decide_eq_true (.inr (.inl a2))]
        · rw [if_neg a2]
          by_cases a3 : (n : Int) ≤ f1
          · rw [if_pos a3, decide_eq_true (.inr (.inr (.inl a3)))]
          · rw [if_neg a3, w64 (a := f1 + 50) (by omega) (by omega)]
            congr 1
            exact decide_eq_decide.2 (by omega)
    rw [if_neg c2]
    by_cases c3 : f0 = 3
    · rw [if_pos c3]
      refine Ev.step (fun k => ?_) (now1 [98])
      rw [spec_l3shape.j0, if_neg (by simp), if_neg c26, if_neg c2, if_pos c3]
    rw [if_neg c3]
    by_cases c4 : f0 = 4
    · rw [if_pos c4]
      refine Ev.step (fun k => ?_) (now1 [101, 98])
      rw [spec_l3shape.j0, if_neg (by simp), if_neg c26, if_neg c2, if_neg c3, if_pos c4]
    rw [if_neg c4]
    by_cases c5 : f0 = 5
    · rw [if_pos c5]
      refine Ev.step (fun k => ?_) (now1 [98, 101])
      rw [spec_l3shape.j0, if_neg (by simp), if_neg c26, if_neg c2, if_neg c3, if_neg c4, if_pos c5]
    rw [if_neg c5]
    by_cases c6 : f0 = 6
    · rw [if_pos c6]
      by_cases cn : n < 2
      · rw [if_pos cn]
        refine Ev.step (fun k => ?_) (now1 [63])
        rw [spec_l3shape.j0, if_neg (by simp), if_neg c26, if_neg c2, if_neg c3, if_neg c4, if_neg c5, if_pos c6, if_pos (by omega)]
      · rw [if_neg cn]
        have e1 := many_ev [101, 98] (by simp) (n / 2) (by omega)
        have e2 := many_ev [98] (by simp) (n % 2) (by omega)
        rw [show ((n / 2 : Nat) : Int) = wrap64 (Int.tdiv (n : Int) 2) by rw [show Int.tdiv (n : Int) 2 = ((n / 2 : Nat) : Int) from rfl]; unfold wrap64; omega] at e1
        rw [show ((n % 2 : Nat) : Int) = Int.tmod (n : Int) 2 from rfl] at e2
        refine Ev.step (f := fun k => (spec_l3many.f k (bA [101, 98]) (wrap64 (Int.tdiv (n : Int) 2))).bind fun t117 => ((spec_l3many.f k (bA [98]) (Int.tmod (n : Int) 2)).bind fun t118 => (if t117.size + t118.size ≤ 9223372036854775807 then (some (t117 ++ t118)) else (none)))) (fun k => ?_) ?_
        · rw [spec_l3shape.j0, if_neg (by simp), if_neg c26, if_neg c2, if_neg c3, if_neg c4, if_neg c5, if_pos c6, if_neg (by omega)]
        · refine Ev.bind (f := fun k t117 => ((spec_l3many.f k (bA [98]) (Int.tmod (n : Int) 2)).bind fun t118 => (if t117.size + t118.size ≤ 9223372036854775807 then (some (t117 ++ t118)) else (none)))) e1 ?_
          refine Ev.bind (f := fun _ t118 => (if (bA (rep [101, 98] (n / 2))).size + t118.size ≤ 9223372036854775807 then (some (bA (rep [101, 98] (n / 2)) ++ t118)) else (none))) e2 ?_
          refine Ev.congr (fun k => if_pos ?_) ?_
          · rw [bA_size, bA_size, rep_len, rep_len]; simp only [List.length_cons, List.length_nil]; omega
          · rw [bA_append]; exact Ev.now _
    rw [if_neg c6]
    by_cases c7 : f0 = 7
    · rw [if_pos c7]
      by_cases cn : n = 4
      · rw [if_pos cn]
        refine Ev.step (fun k => ?_) (now1 [101, 101, 101, 98])
        rw [spec_l3shape.j0, if_neg (by simp), if_neg c26, if_neg c2, if_neg c3, if_neg c4, if_neg c5, if_neg c6, if_pos c7, if_pos (by omega)]
      · rw [if_neg cn]
        refine Ev.step (fun k => ?_) (now1 [101, 101, 98])
        rw [spec_l3shape.j0, if_neg (by simp), if_neg c26, if_neg c2, if_neg c3, if_neg c4, if_neg c5, if_neg c6, if_pos c7, if_neg (by omega)]
    rw [if_neg c7]
    by_cases c10 : f0 = 10
    · rw [if_pos c10]
      refine Ev.step (fun k => ?_) (now1 [99])
      rw [spec_l3shape.j0, if_neg (by simp), if_neg c26, if_neg c2, if_neg c3, if_neg c4, if_neg c5, if_neg c6, if_neg c7, if_pos c10]
    rw [if_neg c10]
    refine Ev.step (fun k => ?_) (j2 _ rfl)
    rw [spec_l3shape.j0, if_neg (by simp), if_neg c26, if_neg c2, if_neg c3, if_neg c4, if_neg c5, if_neg c6, if_neg c7, if_neg c10]
    by_cases c17 : f0 = 17
    · rw [if_pos c17, decide_eq_true (.inl c17)]
    rw [if_neg c17]
    by_cases c21 : f0 = 21
    · rw [if_pos c21, decide_eq_true (.inr (.inl c21))]
    rw [if_neg c21]
    by_cases c22 : f0 = 22
    · rw [if_pos c22, decide_eq_true (.inr (.inr (.inl c22)))]
    rw [if_neg c22]
    congr 1
    rw [Bool.eq_iff_iff, decide_eq_true_eq, beq_iff_eq]
    omega
  by_cases c0 : f0 = 0
  · have e : shL f0 f1 n = rep [115] n := by unfold shL; rw [if_pos c0]
    rw [e]
    refine Ev.congr (fun k => ?_) (many_ev [115] (by simp) n hn)
    unfold spec_l3shape.f
    rw [if_pos c0, bindSome]
  · refine Ev.congr (fun k => ?_) (j0 _ c0 rfl)
    unfold spec_l3shape.f
    rw [if_neg c0]
    by_cases c1 : f0 = 1
    · rw [if_pos c1, decide_eq_true (.inl c1)]
    · rw [if_neg c1]
      congr 1
      rw [Bool.eq_iff_iff, decide_eq_true_eq, beq_iff_eq]
      omega
end Go.Proofs.Ytogffkekgfkhkaa.C
