-- Laid by a program of this session (pp.py) over the kit's printer; repaired and widened by hand-written contracts. Lean checks it.
import Derived.Test.YtchfdpmkgjblgaaMx0
import Derived.Test.YtchfdpmkgjblgaaMx6
import Derived.Test.YtchfdpmkgjblgaaMx8
import Derived.Test.YtchfdpmkgjblgaaMx9
namespace Go.Proofs.Ytchfdpmkgjblgaa.M
open Go.RowKit Go.Proofs.YtchfdpmkgjblgaaW.PrintWords Go.Proofs.YtchfdpmkgjblgaaW.PrintLast Go.Proofs.YtchfdpmkgjblgaaW.PrintMore
attribute [local go_sem] max2_int min2_int max_two min_two max_three min_three max_four min_four   -- for this text's walks alone
set_option linter.unusedVariables false
set_option linter.unusedSimpArgs false

/-! ### impl_Lex: function 20 -/
def MaxLenCell (w : World) : Prop := ∃ m, w.cell? ⟨0, 0, none⟩ = some (.int .i64 m)
def kwText : List UInt8 := [32, 97, 110, 100, 32, 98, 114, 101, 97, 107, 32, 100, 111, 32, 101, 108, 115, 101, 32, 101, 108, 115, 101, 105, 102, 32, 101, 110, 100, 32, 102, 97, 108, 115, 101, 32, 102, 111, 114, 32, 102, 117, 110, 99, 116, 105, 111, 110, 32, 105, 102, 32, 108, 111, 99, 97, 108, 32, 110, 105, 108, 32, 110, 111, 116, 32, 111, 114, 32, 114, 101, 112, 101, 97, 116, 32, 114, 101, 116, 117, 114, 110, 32, 116, 104, 101, 110, 32, 116, 114, 117, 101, 32, 117, 110, 116, 105, 108, 32, 119, 104, 105, 108, 101, 32]
def isKw (s : ByteArray) : Bool := Lib.contains kwText (32 :: (s.data.toList ++ [32]))
set_option maxHeartbeats 8000000 in
set_option maxRecDepth 100000 in
theorem impl_isKeyword.calls (s : ByteArray) (w : World) (hs : s.size ≤ 6000) (hm : MaxLenCell w) :
  Calls Try.prog 35 #[.string s] w fun e w' => e = .returned (.bool (isKw s)) ∧ Below w.heap.size w w' := by
 obtain ⟨m, hm⟩ := hm
 have e1 : ¬ (9223372036854775807 < 1 + s.size) := by omega
 have e2 : ¬ (9223372036854775807 < 1 + s.size + 1) := by omega
 go_enter Try.func35, Try.ntmps35
 go_wp2_with (go_at_call 50; refine (Try.strings_Contains _ _ m _ ?_ ?_).mono ?_; (case _ => decide); (case _ => exact hm); rintro e w' ⟨rfl, rfl⟩)
 go_ret
 exact ⟨rfl, Below.refl _ _⟩

theorem MaxLenCell.pos {w : World} (h : MaxLenCell w) : 0 < w.heap.size := by
 obtain ⟨m, hm⟩ := h
 exact Nat.pos_of_ne_zero fun h0 => by simp [World.cell?, h0] at hm
theorem MaxLenCell.below {w w1 : World} {n : Nat} (h : MaxLenCell w) (hb : Below n w w1) (hn : 0 < n) : MaxLenCell w1 := by
 obtain ⟨m, hm⟩ := h
 exact ⟨m, (hb.cell (p := ⟨0, 0, none⟩) hn).trans hm⟩
def sgb (c : Int) : Bool := decide (0 ≤ Lib.indexByte [43, 42, 37, 40, 41, 123, 125, 91, 93, 59, 44] c.toNat.toUInt8)
theorem strOfNums_size (xs : List Int) : (strOfNums xs).size = xs.length := by simp [strOfNums, ByteArray.size]
theorem lex_midlen (l : List Int) (a b : Int) (hm : b ≤ (l.length : Int)) : ((l.take b.toNat).drop a.toNat).length = b.toNat - a.toNat := by
 rw [List.length_drop, List.length_take]; omega

mutual
def impl_Lex.nx : Nat → List Int → List (S38) → Int → Int → Option (List (S38) × Int × Int)
 | 0, _, _, _, _ => none
 | k + 1, x, o, p, cd => if p = (x.length : Int) then (some (o, 0, 0)) else (if 0 ≤ p then (if p < (x.length : Int) then (if (rd x p) = 32 then (impl_Lex.nx k x o (wrap64 (p + 1)) cd) else (if (rd x p) = 9 then (impl_Lex.nx k x o (wrap64 (p + 1)) cd) else (if (rd x p) = 13 then (impl_Lex.nx k x o (wrap64 (p + 1)) cd) else (if (rd x p) = 10 then (impl_Lex.nx k x o (wrap64 (p + 1)) cd) else (if (rd x p) = 45 then (if (wrap64 (p + 1)) < (x.length : Int) then (if 0 ≤ (wrap64 (p + 1)) then (if rd x (wrap64 (p + 1)) = 45 then (impl_Lex.cm k x o p cd) else (impl_Lex.sg k x o p p cd)) else none) else (impl_Lex.sg k x o p p cd)) else (if (rd x p) = 61 then (if (wrap64 (p + 1)) < (x.length : Int) then (if 0 ≤ (wrap64 (p + 1)) then (if rd x (wrap64 (p + 1)) = 61 then (impl_Lex.db k x o p p cd) else (impl_Lex.sg k x o p p cd)) else none) else (impl_Lex.sg k x o p p cd)) else (if (rd x p) = 60 then (if (wrap64 (p + 1)) < (x.length : Int) then (if 0 ≤ (wrap64 (p + 1)) then (if rd x (wrap64 (p + 1)) = 61 then (impl_Lex.db k x o p p cd) else (impl_Lex.sg k x o p p cd)) else none) else (impl_Lex.sg k x o p p cd)) else (if (rd x p) = 62 then (if (wrap64 (p + 1)) < (x.length : Int) then (if 0 ≤ (wrap64 (p + 1)) then (if rd x (wrap64 (p + 1)) = 61 then (impl_Lex.db k x o p p cd) else (impl_Lex.sg k x o p p cd)) else none) else (impl_Lex.sg k x o p p cd)) else (if (rd x p) = 126 then (if (wrap64 (p + 1)) < (x.length : Int) then (if 0 ≤ (wrap64 (p + 1)) then (if rd x (wrap64 (p + 1)) = 61 then (impl_Lex.db k x o p p cd) else (some ([], cd, p))) else none) else (some ([], cd, p))) else (if (rd x p) = 47 then (if (wrap64 (p + 1)) < (x.length : Int) then (if 0 ≤ (wrap64 (p + 1)) then (if rd x (wrap64 (p + 1)) = (rd x p) then (impl_Lex.db k x o p p cd) else (some ([], cd, p))) else none) else (some ([], cd, p))) else (if (rd x p) = 46 then (if (wrap64 (p + 1)) < (x.length : Int) then (if 0 ≤ (wrap64 (p + 1)) then (if rd x (wrap64 (p + 1)) = (rd x p) then (impl_Lex.db k x o p p cd) else (impl_Lex.sg k x o p p cd)) else none) else (impl_Lex.sg k x o p p cd)) else ((impl_isLetter.f (rd x p)).bind fun t => if t = true then (impl_Lex.rn k x o p p 1 cd) else ((impl_isDigit.f (rd x p)).bind fun t => if t = true then (impl_Lex.rn k x o p p 2 cd) else (if (rd x p) = 34 then (if p ≤ (x.length : Int) then ((impl_literal.f k (x.drop p.toNat)).bind fun v => if v.2 = 0 then (some ([], cd, p)) else (impl_Lex.tk k x o (wrap64 (p + v.2)) p 3 cd)) else none) else (if (rd x p) = 39 then (if p ≤ (x.length : Int) then ((impl_literal.f k (x.drop p.toNat)).bind fun v => if v.2 = 0 then (some ([], cd, p)) else (impl_Lex.tk k x o (wrap64 (p + v.2)) p 3 cd)) else none) else (if sgb (rd x p) = true then (impl_Lex.sg k x o p p cd) else (some ([], cd, p)))))))))))))))))) else none) else none)
def impl_Lex.cm : Nat → List Int → List (S38) → Int → Int → Option (List (S38) × Int × Int)
 | 0, _, _, _, _ => none
 | k + 1, x, o, p, cd => if p < (x.length : Int) then (if 0 ≤ p then (if rd x p = 10 then (impl_Lex.nx k x o p cd) else (impl_Lex.cm k x o (wrap64 (p + 1)) cd)) else none) else (impl_Lex.nx k x o p cd)
def impl_Lex.sg : Nat → List Int → List (S38) → Int → Int → Int → Option (List (S38) × Int × Int)
 | 0, _, _, _, _, _ => none
 | k + 1, x, o, p, st, cd => impl_Lex.tk k x o (wrap64 (p + 1)) st 5 cd
def impl_Lex.db : Nat → List Int → List (S38) → Int → Int → Int → Option (List (S38) × Int × Int)
 | 0, _, _, _, _, _ => none
 | k + 1, x, o, p, st, cd => impl_Lex.sg k x o (wrap64 (p + 1)) st cd
def impl_Lex.rn : Nat → List Int → List (S38) → Int → Int → Int → Int → Option (List (S38) × Int × Int)
 | 0, _, _, _, _, _, _ => none
 | k + 1, x, o, p, st, kd, cd => if p < (x.length : Int) then (if 0 ≤ p then ((impl_isLetter.f (rd x p)).bind fun t => if t = true then (impl_Lex.rn k x o (wrap64 (p + 1)) st kd cd) else ((impl_isDigit.f (rd x p)).bind fun t => if t = true then (impl_Lex.rn k x o (wrap64 (p + 1)) st kd cd) else (if kd = 2 then (if 0 ≤ st then (if st ≤ p then (if p ≤ (x.length : Int) then ((impl_ScanInt.f k ((x.take p.toNat).drop st.toNat)).bind fun v => if v.2 = 0 then (impl_Lex.tk k x o p st kd 2) else (some ([], v.2, st))) else none) else none) else none) else (if 0 ≤ st then (if st ≤ p then (if p ≤ (x.length : Int) then (if isKw (strOfNums ((x.take p.toNat).drop st.toNat)) = true then (impl_Lex.tk k x o p st 4 cd) else (impl_Lex.tk k x o p st kd cd)) else none) else none) else none)))) else none) else (if kd = 2 then (if 0 ≤ st then (if st ≤ p then (if p ≤ (x.length : Int) then ((impl_ScanInt.f k ((x.take p.toNat).drop st.toNat)).bind fun v => if v.2 = 0 then (impl_Lex.tk k x o p st kd 2) else (some ([], v.2, st))) else none) else none) else none) else (if 0 ≤ st then (if st ≤ p then (if p ≤ (x.length : Int) then (if isKw (strOfNums ((x.take p.toNat).drop st.toNat)) = true then (impl_Lex.tk k x o p st 4 cd) else (impl_Lex.tk k x o p st kd cd)) else none) else none) else none))
def impl_Lex.tk : Nat → List Int → List (S38) → Int → Int → Int → Int → Option (List (S38) × Int × Int)
 | 0, _, _, _, _, _, _ => none
 | k + 1, x, o, p, st, kd, cd => if o.length < 5864062014805 then (impl_Lex.nx k x (o ++ [(⟨kd, st, wrap64 (p - st)⟩ : S38)]) p cd) else none
end
def impl_Lex.f (k : Nat) (x : List Int) : Option (List (S38) × Int × Int) := if (x.length : Int) > 6000 then some ([], 4, 6000) else impl_Lex.nx k x [] 0 2
set_option maxHeartbeats 8000000 in
theorem impl_Lex.mono_l : ∀ k, (∀ y o p cd, LeO (impl_Lex.nx k y o p cd) (impl_Lex.nx (k + 1) y o p cd)) ∧ (∀ y o p cd, LeO (impl_Lex.cm k y o p cd) (impl_Lex.cm (k + 1) y o p cd)) ∧ (∀ y o p st cd, LeO (impl_Lex.sg k y o p st cd) (impl_Lex.sg (k + 1) y o p st cd)) ∧ (∀ y o p st cd, LeO (impl_Lex.db k y o p st cd) (impl_Lex.db (k + 1) y o p st cd)) ∧ (∀ y o p st kd cd, LeO (impl_Lex.rn k y o p st kd cd) (impl_Lex.rn (k + 1) y o p st kd cd)) ∧ (∀ y o p st kd cd, LeO (impl_Lex.tk k y o p st kd cd) (impl_Lex.tk (k + 1) y o p st kd cd))
 | 0 => ⟨fun _ _ _ _ r h => by simp [impl_Lex.nx] at h, fun _ _ _ _ r h => by simp [impl_Lex.cm] at h, fun _ _ _ _ _ r h => by simp [impl_Lex.sg] at h, fun _ _ _ _ _ r h => by simp [impl_Lex.db] at h, fun _ _ _ _ _ _ r h => by simp [impl_Lex.rn] at h, fun _ _ _ _ _ _ r h => by simp [impl_Lex.tk] at h⟩
 | k + 1 => by
  obtain ⟨ih0, ih1, ih2, ih3, ih5, ih6⟩ := impl_Lex.mono_l k
  refine ⟨?_, ?_, ?_, ?_, ?_, ?_⟩
  ·
   intro y o p cd
   unfold impl_Lex.nx
   repeat' first
   | (with_reducible exact ih0 _ _ _ _)
   | (with_reducible exact ih1 _ _ _ _)
   | (with_reducible exact ih2 _ _ _ _ _)
   | (with_reducible exact ih3 _ _ _ _ _)
   | (with_reducible exact ih5 _ _ _ _ _ _)
   | (with_reducible exact ih6 _ _ _ _ _ _)
   | (with_reducible exact impl_ScanInt.mono _ _)
   | (with_reducible exact impl_literal.mono _ _)
   | (with_reducible exact LeO.refl _)
   | (with_reducible exact LeO.none _)
   | (with_reducible refine LeO.ite ?_ ?_)
   | (with_reducible refine LeO.bind ?_ (fun _ => ?_))
  ·
   intro y o p cd
   unfold impl_Lex.cm
   repeat' first
   | (with_reducible exact ih0 _ _ _ _)
   | (with_reducible exact ih1 _ _ _ _)
   | (with_reducible exact ih2 _ _ _ _ _)
   | (with_reducible exact ih3 _ _ _ _ _)
   | (with_reducible exact ih5 _ _ _ _ _ _)
   | (with_reducible exact ih6 _ _ _ _ _ _)
   | (with_reducible exact impl_ScanInt.mono _ _)
   | (with_reducible exact impl_literal.mono _ _)
   | (with_reducible exact LeO.refl _)
   | (with_reducible exact LeO.none _)
   | (with_reducible refine LeO.ite ?_ ?_)
   | (with_reducible refine LeO.bind ?_ (fun _ => ?_))
  ·
   intro y o p st cd
   unfold impl_Lex.sg
   repeat' first
   | (with_reducible exact ih0 _ _ _ _)
   | (with_reducible exact ih1 _ _ _ _)
   | (with_reducible exact ih2 _ _ _ _ _)
   | (with_reducible exact ih3 _ _ _ _ _)
   | (with_reducible exact ih5 _ _ _ _ _ _)
   | (with_reducible exact ih6 _ _ _ _ _ _)
   | (with_reducible exact impl_ScanInt.mono _ _)
   | (with_reducible exact impl_literal.mono _ _)
   | (with_reducible exact LeO.refl _)
   | (with_reducible exact LeO.none _)
   | (with_reducible refine LeO.ite ?_ ?_)
   | (with_reducible refine LeO.bind ?_ (fun _ => ?_))
  ·
   intro y o p st cd
   unfold impl_Lex.db
   repeat' first
   | (with_reducible exact ih0 _ _ _ _)
   | (with_reducible exact ih1 _ _ _ _)
   | (with_reducible exact ih2 _ _ _ _ _)
   | (with_reducible exact ih3 _ _ _ _ _)
   | (with_reducible exact ih5 _ _ _ _ _ _)
   | (with_reducible exact ih6 _ _ _ _ _ _)
   | (with_reducible exact impl_ScanInt.mono _ _)
   | (with_reducible exact impl_literal.mono _ _)
   | (with_reducible exact LeO.refl _)
   | (with_reducible exact LeO.none _)
   | (with_reducible refine LeO.ite ?_ ?_)
   | (with_reducible refine LeO.bind ?_ (fun _ => ?_))
  ·
   intro y o p st kd cd
   unfold impl_Lex.rn
   repeat' first
   | (with_reducible exact ih0 _ _ _ _)
   | (with_reducible exact ih1 _ _ _ _)
   | (with_reducible exact ih2 _ _ _ _ _)
   | (with_reducible exact ih3 _ _ _ _ _)
   | (with_reducible exact ih5 _ _ _ _ _ _)
   | (with_reducible exact ih6 _ _ _ _ _ _)
   | (with_reducible exact impl_ScanInt.mono _ _)
   | (with_reducible exact impl_literal.mono _ _)
   | (with_reducible exact LeO.refl _)
   | (with_reducible exact LeO.none _)
   | (with_reducible refine LeO.ite ?_ ?_)
   | (with_reducible refine LeO.bind ?_ (fun _ => ?_))
  ·
   intro y o p st kd cd
   unfold impl_Lex.tk
   repeat' first
   | (with_reducible exact ih0 _ _ _ _)
   | (with_reducible exact ih1 _ _ _ _)
   | (with_reducible exact ih2 _ _ _ _ _)
   | (with_reducible exact ih3 _ _ _ _ _)
   | (with_reducible exact ih5 _ _ _ _ _ _)
   | (with_reducible exact ih6 _ _ _ _ _ _)
   | (with_reducible exact impl_ScanInt.mono _ _)
   | (with_reducible exact impl_literal.mono _ _)
   | (with_reducible exact LeO.refl _)
   | (with_reducible exact LeO.none _)
   | (with_reducible refine LeO.ite ?_ ?_)
   | (with_reducible refine LeO.bind ?_ (fun _ => ?_))
theorem impl_Lex.mono : ∀ a0 k, LeO (impl_Lex.f k a0) (impl_Lex.f (k + 1) a0) := by
 intro a0 k
 obtain ⟨ih0, ih1, ih2, ih3, ih5, ih6⟩ := impl_Lex.mono_l k
 unfold impl_Lex.f
 repeat' first
 | (with_reducible exact ih0 _ _ _ _)
 | (with_reducible exact ih1 _ _ _ _)
 | (with_reducible exact ih2 _ _ _ _ _)
 | (with_reducible exact ih3 _ _ _ _ _)
 | (with_reducible exact ih5 _ _ _ _ _ _)
 | (with_reducible exact ih6 _ _ _ _ _ _)
 | (with_reducible exact impl_ScanInt.mono _ _)
 | (with_reducible exact impl_literal.mono _ _)
 | (with_reducible exact LeO.refl _)
 | (with_reducible exact LeO.none _)
 | (with_reducible refine LeO.ite ?_ ?_)
 | (with_reducible refine LeO.bind ?_ (fun _ => ?_))
/-! ### a scope with several labels: what holds at every jump, with a number that every pass lowers -/
def lexJumps (J : Nat → Act → World → Prop) (Q : Exit → Act → World → Prop) : Exit → Act → World → Prop
 | .goto l, a, w => J l a w
 | e, a, w => Q e a w
section
variable {P : Program} {a : Act} {w : World} {Q : Exit → Act → World → Prop}
theorem wp_scope_labels {c : Code} (J : Nat → Nat → Act → World → Prop)
  (pass : ∀ n l a w, J n l a w → ∃ rest, findLabel c l = some (.seq .skip rest) ∧ rest.wp P (lexJumps (fun l' a' w' => ∃ n', n' < n ∧ J n' l' a' w') Q) a w)
  (first : (∀ n l a w rest, findLabel c l = some (.seq .skip rest) → J n l a w → rest.wp P (lexJumps (fun l a w => ∃ n, J n l a w) Q) a w) → c.wp P (lexJumps (fun l a w => ∃ n, J n l a w) Q) a w) : (Code.scope c).wp P Q a w := by
 have weak : ∀ {J1 J2 : Nat → Act → World → Prop}, (∀ l a w, J1 l a w → J2 l a w) → ∀ e a w, lexJumps J1 Q e a w → lexJumps J2 Q e a w := by
  intro J1 J2 hj e a w h
  cases e <;> first | exact hj _ _ _ h | exact h
 have first' := first (fun n l a w rest hf hJ => by
  obtain ⟨rest', hf', hw⟩ := pass n l a w hJ
  obtain rfl : rest' = rest := by rw [hf] at hf'; injection hf' with h1; injection h1 with _ h2; exact h2.symm
  exact wp_mono hw (weak (fun l a w ⟨n', _, h⟩ => ⟨n', h⟩)))
 intro b k cs
 have key : ∀ n l a w, J n l a w → ∀ k', gotoIn l (.inScope c :: k) = some k' → ∃ e a' w', Q e a' w' ∧ Arrives P (lone (b.at a k') cs w) b k cs e a' w' := by
  intro n
  induction n using Nat.strongRecOn with
  | _ n ih =>
   intro l a w hJ k' hk'
   obtain ⟨rest, hf, hw0⟩ := pass n l a w hJ
   have hw := wp_seq (x := .skip) (wp_skip (Q := Exit.then (fun a w => rest.wp P (lexJumps (fun l' a' w' => ∃ n', n' < n ∧ J n' l' a' w') Q) a w) (lexJumps (fun l' a' w' => ∃ n', n' < n ∧ J n' l' a' w') Q)) (show Exit.then _ _ .normal a w from hw0))
   have hg : gotoIn l (.inScope c :: k) = some (.code (.seq .skip rest) :: .inScope c :: k) := by simp [gotoIn, hf]
   obtain rfl := Option.some.inj (hk'.symm.trans hg)
   obtain ⟨e, a₁, w₁, hq, harr⟩ := hw b (.inScope c :: k) cs
   cases e with
   | normal => exact ⟨.normal, a₁, w₁, hq, Steps.trans harr (.one step_inScope)⟩
   | exit id => exact ⟨.exit id, a₁, w₁, hq, fun k' hk => harr k' (by simp [exitTo, hk])⟩
   | goto l' =>
    obtain ⟨n', hlt, hJ'⟩ := hq
    obtain ⟨rest', hf', _⟩ := pass n' l' a₁ w₁ hJ'
    have hg' : gotoIn l' (.inScope c :: k) = some (.code (.seq .skip rest') :: .inScope c :: k) := by simp [gotoIn, hf']
    obtain ⟨e₂, a₂, w₂, hq₂, harr₂⟩ := ih n' hlt l' a₁ w₁ hJ' _ hg'
    exact ⟨e₂, a₂, w₂, hq₂, .of_steps (harr _ hg') harr₂⟩
   | ret => exact ⟨_, a₁, w₁, hq, harr⟩
   | panic ch => exact ⟨_, a₁, w₁, hq, harr⟩
   | outgrown => exact ⟨_, a₁, w₁, hq, harr⟩
 obtain ⟨e, a₁, w₁, hq, harr⟩ := first' b (.inScope c :: k) cs
 cases e with
 | normal => exact ⟨.normal, a₁, w₁, hq, .head step_scope (Steps.trans harr (.one step_inScope))⟩
 | exit id => exact ⟨.exit id, a₁, w₁, hq, fun k' hk => .head step_scope (harr k' (by simp [exitTo, hk]))⟩
 | goto l' =>
  obtain ⟨n', hJ'⟩ := hq
  obtain ⟨rest', hf', _⟩ := pass n' l' a₁ w₁ hJ'
  have hg' : gotoIn l' (.inScope c :: k) = some (.code (.seq .skip rest') :: .inScope c :: k) := by simp [gotoIn, hf']
  obtain ⟨e₂, a₂, w₂, hq₂, harr₂⟩ := key n' l' a₁ w₁ hJ' _ hg'
  exact ⟨e₂, a₂, w₂, hq₂, .of_steps (.head step_scope (harr _ hg')) harr₂⟩
 | ret => exact ⟨_, a₁, w₁, hq, .of_steps (.one step_scope) harr⟩
 | panic ch => exact ⟨_, a₁, w₁, hq, .of_steps (.one step_scope) harr⟩
 | outgrown => exact ⟨_, a₁, w₁, hq, .of_steps (.one step_scope) harr⟩
theorem lexRet {J : Nat → Act → World → Prop} (h : Q .ret a w) : lexJumps J Q .ret a w := h
theorem lexGoto {J : Nat → Nat → Act → World → Prop} {n n' l : Nat} (h : n' < n) (j : J n' l a w) : ∃ n', n' < n ∧ J n' l a w := ⟨n', h, j⟩
end

abbrev lexFr (s0 v2 v3 v4 v5 v6 v7 v8 v9 v10 v11 v12 : Value) (T : Nat → Value) : Act := { tmps := #[s0, undef, v2, v3, v4, v5, v6, v7, v8, v9, v10, v11, v12, T 13, T 14, T 15, T 16, T 17, T 18, T 19, T 20, T 21, T 22, T 23, T 24, T 25, T 26, T 27, T 28, T 29, T 30, T 31, T 32, T 33, T 34, T 35, T 36, T 37, T 38, T 39, T 40, T 41, T 42, T 43, T 44, T 45, T 46, T 47, T 48, T 49, T 50, T 51, T 52, T 53, T 54, T 55, T 56, T 57, T 58, T 59, T 60, T 61, T 62, T 63, T 64, T 65, T 66, T 67, T 68, T 69, T 70, T 71, T 72, T 73, T 74, T 75, T 76, T 77, T 78, T 79, T 80, T 81, T 82, T 83, T 84, T 85, T 86, T 87, T 88, T 89, T 90, T 91, T 92, T 93, T 94, T 95, T 96, T 97, T 98, T 99, T 100, T 101, T 102, T 103, T 104, T 105, T 106, T 107, T 108, T 109, T 110, T 111, T 112, T 113, T 114, T 115, T 116, T 117, T 118, T 119, T 120, T 121, T 122, T 123, T 124, T 125, T 126, T 127, T 128, T 129, T 130, T 131, T 132, T 133, T 134, T 135, T 136, T 137, T 138, T 139, T 140, T 141, T 142, T 143, T 144, T 145, T 146, T 147, T 148, T 149, T 150, T 151, T 152, T 153, T 154, T 155, T 156, T 157, T 158, T 159, T 160, T 161, T 162, T 163, T 164, T 165, T 166, T 167, T 168, T 169, T 170, T 171, T 172, T 173, T 174, T 175, T 176, T 177, T 178, T 179, T 180, T 181, T 182, T 183, T 184, T 185, T 186, T 187, T 188, T 189, T 190, T 191, T 192, T 193, T 194, T 195, T 196, T 197, T 198, T 199, T 200, T 201, T 202], defers := [] }
def lexS (n l : Nat) (x : List Int) (o : List (S38)) (p st kd cd : Int) : Option (List (S38) × Int × Int) :=
 match l with
 | 0 => impl_Lex.nx n x o p cd
 | 1 => impl_Lex.cm n x o p cd
 | 2 => impl_Lex.sg n x o p st cd
 | 3 => impl_Lex.db n x o p st cd
 | 4 => some ([], cd, st)
 | 5 => impl_Lex.rn n x o p st kd cd
 | 6 => impl_Lex.tk n x o p st kd cd
 | _ => none
def lexJ (A0 : Option Addr) (c0 : Nat) (x : List Int) (r : List (S38) × Int × Int) (w0 : World) (n l : Nat) (a : Act) (w : World) : Prop :=
 ∃ (o : List (S38)) (p st kd cd : Int) (v2 v3 v4 v5 v10 v11 v12 : Value) (T : Nat → Value),
  a = lexFr (.slice A0 x.length c0) v2 v3 v4 v5 (.int .i64 p) (.int .i64 st) (.int .i64 kd) (.int .i64 cd) v10 v11 v12 T ∧
  lexS n l x o p st kd cd = some r ∧ Kd.R k38 38 w w0.heap.size (fun _ => True) v5 o ∧ Below w0.heap.size w0 w
set_option maxRecDepth 100000 in
theorem lexJ_mk {A0 : Option Addr} {c0 : Nat} {x : List Int} {r : List (S38) × Int × Int} {w0 : World} {n l : Nat} {w : World} {o : List (S38)} {p st kd cd : Int} {v2 v3 v4 v5 v10 v11 v12 : Value} {x13 x14 x15 x16 x17 x18 x19 x20 x21 x22 x23 x24 x25 x26 x27 x28 x29 x30 x31 x32 x33 x34 x35 x36 x37 x38 x39 x40 x41 x42 x43 x44 x45 x46 x47 x48 x49 x50 x51 x52 x53 x54 x55 x56 x57 x58 x59 x60 x61 x62 x63 x64 x65 x66 x67 x68 x69 x70 x71 x72 x73 x74 x75 x76 x77 x78 x79 x80 x81 x82 x83 x84 x85 x86 x87 x88 x89 x90 x91 x92 x93 x94 x95 x96 x97 x98 x99 x100 x101 x102 x103 x104 x105 x106 x107 x108 x109 x110 x111 x112 x113 x114 x115 x116 x117 x118 x119 x120 x121 x122 x123 x124 x125 x126 x127 x128 x129 x130 x131 x132 x133 x134 x135 x136 x137 x138 x139 x140 x141 x142 x143 x144 x145 x146 x147 x148 x149 x150 x151 x152 x153 x154 x155 x156 x157 x158 x159 x160 x161 x162 x163 x164 x165 x166 x167 x168 x169 x170 x171 x172 x173 x174 x175 x176 x177 x178 x179 x180 x181 x182 x183 x184 x185 x186 x187 x188 x189 x190 x191 x192 x193 x194 x195 x196 x197 x198 x199 x200 x201 x202 : Value}
  (h : lexS n l x o p st kd cd = some r) (ho : Kd.R k38 38 w w0.heap.size (fun _ => True) v5 o) (hb : Below w0.heap.size w0 w) :
  lexJ A0 c0 x r w0 n l { tmps := #[(.slice A0 x.length c0), undef, v2, v3, v4, v5, (.int .i64 p), (.int .i64 st), (.int .i64 kd), (.int .i64 cd), v10, v11, v12, x13, x14, x15, x16, x17, x18, x19, x20, x21, x22, x23, x24, x25, x26, x27, x28, x29, x30, x31, x32, x33, x34, x35, x36, x37, x38, x39, x40, x41, x42, x43, x44, x45, x46, x47, x48, x49, x50, x51, x52, x53, x54, x55, x56, x57, x58, x59, x60, x61, x62, x63, x64, x65, x66, x67, x68, x69, x70, x71, x72, x73, x74, x75, x76, x77, x78, x79, x80, x81, x82, x83, x84, x85, x86, x87, x88, x89, x90, x91, x92, x93, x94, x95, x96, x97, x98, x99, x100, x101, x102, x103, x104, x105, x106, x107, x108, x109, x110, x111, x112, x113, x114, x115, x116, x117, x118, x119, x120, x121, x122, x123, x124, x125, x126, x127, x128, x129, x130, x131, x132, x133, x134, x135, x136, x137, x138, x139, x140, x141, x142, x143, x144, x145, x146, x147, x148, x149, x150, x151, x152, x153, x154, x155, x156, x157, x158, x159, x160, x161, x162, x163, x164, x165, x166, x167, x168, x169, x170, x171, x172, x173, x174, x175, x176, x177, x178, x179, x180, x181, x182, x183, x184, x185, x186, x187, x188, x189, x190, x191, x192, x193, x194, x195, x196, x197, x198, x199, x200, x201, x202], defers := [] } w :=
 ⟨o, p, st, kd, cd, v2, v3, v4, v5, v10, v11, v12, fun i => [x13, x14, x15, x16, x17, x18, x19, x20, x21, x22, x23, x24, x25, x26, x27, x28, x29, x30, x31, x32, x33, x34, x35, x36, x37, x38, x39, x40, x41, x42, x43, x44, x45, x46, x47, x48, x49, x50, x51, x52, x53, x54, x55, x56, x57, x58, x59, x60, x61, x62, x63, x64, x65, x66, x67, x68, x69, x70, x71, x72, x73, x74, x75, x76, x77, x78, x79, x80, x81, x82, x83, x84, x85, x86, x87, x88, x89, x90, x91, x92, x93, x94, x95, x96, x97, x98, x99, x100, x101, x102, x103, x104, x105, x106, x107, x108, x109, x110, x111, x112, x113, x114, x115, x116, x117, x118, x119, x120, x121, x122, x123, x124, x125, x126, x127, x128, x129, x130, x131, x132, x133, x134, x135, x136, x137, x138, x139, x140, x141, x142, x143, x144, x145, x146, x147, x148, x149, x150, x151, x152, x153, x154, x155, x156, x157, x158, x159, x160, x161, x162, x163, x164, x165, x166, x167, x168, x169, x170, x171, x172, x173, x174, x175, x176, x177, x178, x179, x180, x181, x182, x183, x184, x185, x186, x187, x188, x189, x190, x191, x192, x193, x194, x195, x196, x197, x198, x199, x200, x201, x202].getD (i - 13) undef, rfl, h, ho, hb⟩


set_option maxHeartbeats 32000000 in
set_option maxRecDepth 100000 in
theorem impl_Lex.calls (k : Nat) (A0 : Option Addr) (c0 : Nat) (l0 : List Int) (r1 : List (S38)) (r2 : Int) (r3 : Int) (w : World) (hM : MaxLenCell w) (hr0 : Kd.C (Kd.int .u8) w A0 l0.length l0) (hc0 : l0.length ≤ c0) (h : impl_Lex.f k l0 = some (r1, r2, r3)) :
  Calls Try.prog 20 #[.slice A0 l0.length c0] w fun e w' => ∃ v0_ : Value, e = .returned (.tuple #[v0_, .int .i64 r2, .int .i64 r3]) ∧ Kd.R k38 38 w' w.heap.size (fun _ => True) v0_ r1 ∧ Below w.heap.size w w' := by
 have hu38 := Try.underlying38
 have HR0 := Aside0.mk hr0
 have HC0 := Aside0.mk hc0
 have HM := Aside0.mk hM
 have HN : Aside0 (0 < w.heap.size) := Aside0.mk (by
  obtain ⟨m, hm⟩ := hM
  exact Nat.pos_of_ne_zero fun h0 => by simp [World.cell?, h0] at hm)
 clear hr0 hc0 hM
 unfold impl_Lex.f at h
 have H := h
 clear h
 by_cases c2 : (l0.length : Int) > 6000
 ·
  rw [if_pos c2] at H
  have c2b : decide (6000 < (l0.length : Int)) = true := decide_eq_true c2
  have c2c : decide (6000 < l0.length) = true := decide_eq_true (by omega)
  clear c2
  simp only [Option.some.injEq, Prod.mk.injEq] at H
  obtain ⟨rfl, rfl, rfl⟩ := H
  go_enter Try.func20, Try.ntmps20
  go_wp2
  refine wp_scope_labels (fun _ _ _ _ => False) (fun _ _ _ _ h => h.elim) (fun _ => ?_)
  go_wp2
  refine lexRet ?_
  go_ret3
  exact ⟨_, rfl, Kd.R_nil _ _ _ _ _, Below.refl _ _⟩
 ·
  rw [if_neg c2] at H
  have c2b : decide (6000 < (l0.length : Int)) = false := decide_eq_false c2
  have c2c : decide (6000 < l0.length) = false := decide_eq_false (by omega)
  have LE := Aside0.mk (show l0.length ≤ 6000 by omega)
  clear c2
  have H0 := Aside0.mk H
  clear H
  go_enter Try.func20, Try.ntmps20
  go_wp2
  refine wp_scope_labels (lexJ A0 c0 l0 (r1, r2, r3) w) ?pass ?first
  case first =>
   intro fall
   go_wp2
   refine wp_label ?_
   rename_i hK_
   refine hK_ _ _ ?_
   exact fall k 0 _ _ _ rfl (lexJ_mk (l := 0) H0.out (Kd.R_nil _ _ _ _ _) (Below.refl _ _))
  case pass =>
   intro n l a wr hJ
   obtain ⟨o, p, st, kd, cd, v2, v3, v4, v5, v10, v11, v12, T, rfl, H, HO0, HB0⟩ := hJ
   have HO := Aside0.mk HO0
   have HB := Aside0.mk HB0
   clear HO0 HB0 c2b c2c H0
   match l with
   | 0 =>
    refine ⟨_, rfl, ?_⟩
    change impl_Lex.nx n l0 o p cd = some (r1, r2, r3) at H
    cases n with
    | zero => exact absurd H (by simp [impl_Lex.nx])
    | succ k =>
     simp only [impl_Lex.nx] at H
     by_cases c1 : p = (l0.length : Int)
     ·
      rw [if_pos c1] at H
      have c1b : (p == (l0.length : Int)) = true := beq_iff_eq.mpr c1
      have c1n : (p != (l0.length : Int)) = false := bne_eq_false_iff_eq.mpr c1
      clear c1
      simp only [Option.some.injEq, Prod.mk.injEq] at H
      obtain ⟨rfl, rfl, rfl⟩ := H
      go_wp2
      refine lexRet ?_
      go_ret3
      exact ⟨_, rfl, by (with_reducible repeat (first | apply Kd.R_alloc | apply Kd.R_drewN | apply Kd.R_drew)); exact HO.out, by repeat (first | (with_reducible first | exact HB.out | apply below_alloc | apply pw_below_drewN | apply below_drew1) | exact HB.out)⟩
     ·
      rw [if_neg c1] at H
      have c1b : (p == (l0.length : Int)) = false := beq_eq_false_iff_ne.mpr c1
      have c1n : (p != (l0.length : Int)) = true := bne_iff_ne.mpr c1
      clear c1
      by_cases c2 : 0 ≤ p
      ·
       rw [if_pos c2] at H
       have c2b : decide (0 ≤ p) = true := decide_eq_true c2
       have c2e := eq_true c2
       clear c2
       by_cases c3 : p < (l0.length : Int)
       ·
        rw [if_pos c3] at H
        have c3b : decide (p < (l0.length : Int)) = true := decide_eq_true c3
        have c3e := eq_true c3
        clear c3
        have pp4 : 0 ≤ (p : Int) := (of_decide_eq_true (by first | (with_reducible assumption) | assumption))
        have qq4 : p < (l0.length : Int) := (of_decide_eq_true (by first | (with_reducible assumption) | assumption))
        obtain ⟨ad4, ea4, hx4⟩ := Kd.at_int (Kd.C_below HR0.out HB.out) p pp4 qq4
        subst ea4
        replace pp4 := eq_true pp4
        replace qq4 := eq_true qq4
        by_cases c5 : (rd l0 p) = 32
        ·
         rw [if_pos c5] at H
         have c5b : ((rd l0 p) == 32) = true := beq_iff_eq.mpr c5
         have c5n : ((rd l0 p) != 32) = false := bne_eq_false_iff_eq.mpr c5
         clear c5
         go_wp2
         refine wp_goto ?_
         exact lexGoto (J := lexJ _ c0 l0 (r1, r2, r3) w) (n' := k) (Nat.lt_succ_self _) (lexJ_mk (l := 0) H (by (with_reducible repeat (first | apply Kd.R_alloc | apply Kd.R_drewN | apply Kd.R_drew)); exact HO.out) (by repeat (first | (with_reducible first | exact HB.out | apply below_alloc | apply pw_below_drewN | apply below_drew1) | exact HB.out)))
        ·
         rw [if_neg c5] at H
         have c5b : ((rd l0 p) == 32) = false := beq_eq_false_iff_ne.mpr c5
         have c5n : ((rd l0 p) != 32) = true := bne_iff_ne.mpr c5
         clear c5
         by_cases c6 : (rd l0 p) = 9
         ·
          rw [if_pos c6] at H
          have c6b : ((rd l0 p) == 9) = true := beq_iff_eq.mpr c6
          have c6n : ((rd l0 p) != 9) = false := bne_eq_false_iff_eq.mpr c6
          clear c6
          go_wp2
          refine wp_goto ?_
          exact lexGoto (J := lexJ _ c0 l0 (r1, r2, r3) w) (n' := k) (Nat.lt_succ_self _) (lexJ_mk (l := 0) H (by (with_reducible repeat (first | apply Kd.R_alloc | apply Kd.R_drewN | apply Kd.R_drew)); exact HO.out) (by repeat (first | (with_reducible first | exact HB.out | apply below_alloc | apply pw_below_drewN | apply below_drew1) | exact HB.out)))
         ·
          rw [if_neg c6] at H
          have c6b : ((rd l0 p) == 9) = false := beq_eq_false_iff_ne.mpr c6
          have c6n : ((rd l0 p) != 9) = true := bne_iff_ne.mpr c6
          clear c6
          by_cases c7 : (rd l0 p) = 13
          ·
           rw [if_pos c7] at H
           have c7b : ((rd l0 p) == 13) = true := beq_iff_eq.mpr c7
           have c7n : ((rd l0 p) != 13) = false := bne_eq_false_iff_eq.mpr c7
           clear c7
           go_wp2
           refine wp_goto ?_
           exact lexGoto (J := lexJ _ c0 l0 (r1, r2, r3) w) (n' := k) (Nat.lt_succ_self _) (lexJ_mk (l := 0) H (by (with_reducible repeat (first | apply Kd.R_alloc | apply Kd.R_drewN | apply Kd.R_drew)); exact HO.out) (by repeat (first | (with_reducible first | exact HB.out | apply below_alloc | apply pw_below_drewN | apply below_drew1) | exact HB.out)))
          ·
           rw [if_neg c7] at H
           have c7b : ((rd l0 p) == 13) = false := beq_eq_false_iff_ne.mpr c7
           have c7n : ((rd l0 p) != 13) = true := bne_iff_ne.mpr c7
           clear c7
           by_cases c8 : (rd l0 p) = 10
           ·
            rw [if_pos c8] at H
            have c8b : ((rd l0 p) == 10) = true := beq_iff_eq.mpr c8
            have c8n : ((rd l0 p) != 10) = false := bne_eq_false_iff_eq.mpr c8
            clear c8
            go_wp2
            refine wp_goto ?_
            exact lexGoto (J := lexJ _ c0 l0 (r1, r2, r3) w) (n' := k) (Nat.lt_succ_self _) (lexJ_mk (l := 0) H (by (with_reducible repeat (first | apply Kd.R_alloc | apply Kd.R_drewN | apply Kd.R_drew)); exact HO.out) (by repeat (first | (with_reducible first | exact HB.out | apply below_alloc | apply pw_below_drewN | apply below_drew1) | exact HB.out)))
           ·
            rw [if_neg c8] at H
            have c8b : ((rd l0 p) == 10) = false := beq_eq_false_iff_ne.mpr c8
            have c8n : ((rd l0 p) != 10) = true := bne_iff_ne.mpr c8
            clear c8
            by_cases c9 : (rd l0 p) = 45
            ·
             rw [if_pos c9] at H
             have c9b : ((rd l0 p) == 45) = true := beq_iff_eq.mpr c9
             have c9n : ((rd l0 p) != 45) = false := bne_eq_false_iff_eq.mpr c9
             clear c9
             by_cases c10 : (wrap64 (p + 1)) < (l0.length : Int)
             ·
              rw [if_pos c10] at H
              have c10b : decide ((wrap64 (p + 1)) < (l0.length : Int)) = true := decide_eq_true c10
              clear c10
              by_cases c11 : 0 ≤ (wrap64 (p + 1))
              ·
               rw [if_pos c11] at H
               have c11b : decide (0 ≤ (wrap64 (p + 1))) = true := decide_eq_true c11
               have c11e := eq_true c11
               clear c11
               have pp12 : 0 ≤ ((wrap64 (p + 1)) : Int) := (of_decide_eq_true (by first | (with_reducible assumption) | assumption))
               have qq12 : (wrap64 (p + 1)) < (l0.length : Int) := (of_decide_eq_true (by first | (with_reducible assumption) | assumption))
               obtain ⟨ad12, ea12, hx12⟩ := Kd.at_int (Kd.C_below HR0.out HB.out) (wrap64 (p + 1)) pp12 qq12
               obtain rfl := Option.some.inj ea12
               replace pp12 := eq_true pp12
               replace qq12 := eq_true qq12
               by_cases c13 : rd l0 (wrap64 (p + 1)) = 45
               ·
                rw [if_pos c13] at H
                have c13b : (rd l0 (wrap64 (p + 1)) == 45) = true := beq_iff_eq.mpr c13
                have c13n : (rd l0 (wrap64 (p + 1)) != 45) = false := bne_eq_false_iff_eq.mpr c13
                clear c13
                go_wp2
                refine wp_goto ?_
                exact lexGoto (J := lexJ _ c0 l0 (r1, r2, r3) w) (n' := k) (Nat.lt_succ_self _) (lexJ_mk (l := 1) H (by (with_reducible repeat (first | apply Kd.R_alloc | apply Kd.R_drewN | apply Kd.R_drew)); exact HO.out) (by repeat (first | (with_reducible first | exact HB.out | apply below_alloc | apply pw_below_drewN | apply below_drew1) | exact HB.out)))
               ·
                rw [if_neg c13] at H
                have c13b : (rd l0 (wrap64 (p + 1)) == 45) = false := beq_eq_false_iff_ne.mpr c13
                have c13n : (rd l0 (wrap64 (p + 1)) != 45) = true := bne_iff_ne.mpr c13
                clear c13
                go_wp2
                refine wp_goto ?_
                exact lexGoto (J := lexJ _ c0 l0 (r1, r2, r3) w) (n' := k) (Nat.lt_succ_self _) (lexJ_mk (l := 2) H (by (with_reducible repeat (first | apply Kd.R_alloc | apply Kd.R_drewN | apply Kd.R_drew)); exact HO.out) (by repeat (first | (with_reducible first | exact HB.out | apply below_alloc | apply pw_below_drewN | apply below_drew1) | exact HB.out)))
              ·
               rw [if_neg c11] at H
               exact absurd H (by simp)
             ·
              rw [if_neg c10] at H
              have c10b : decide ((wrap64 (p + 1)) < (l0.length : Int)) = false := decide_eq_false c10
              clear c10
              go_wp2
              refine wp_goto ?_
              exact lexGoto (J := lexJ _ c0 l0 (r1, r2, r3) w) (n' := k) (Nat.lt_succ_self _) (lexJ_mk (l := 2) H (by (with_reducible repeat (first | apply Kd.R_alloc | apply Kd.R_drewN | apply Kd.R_drew)); exact HO.out) (by repeat (first | (with_reducible first | exact HB.out | apply below_alloc | apply pw_below_drewN | apply below_drew1) | exact HB.out)))
            ·
             rw [if_neg c9] at H
             have c9b : ((rd l0 p) == 45) = false := beq_eq_false_iff_ne.mpr c9
             have c9n : ((rd l0 p) != 45) = true := bne_iff_ne.mpr c9
             clear c9
             by_cases c14 : (rd l0 p) = 61
             ·
              rw [if_pos c14] at H
              have c14b : ((rd l0 p) == 61) = true := beq_iff_eq.mpr c14
              have c14n : ((rd l0 p) != 61) = false := bne_eq_false_iff_eq.mpr c14
              clear c14
              by_cases c15 : (wrap64 (p + 1)) < (l0.length : Int)
              ·
               rw [if_pos c15] at H
               have c15b : decide ((wrap64 (p + 1)) < (l0.length : Int)) = true := decide_eq_true c15
               clear c15
               by_cases c16 : 0 ≤ (wrap64 (p + 1))
               ·
                rw [if_pos c16] at H
                have c16b : decide (0 ≤ (wrap64 (p + 1))) = true := decide_eq_true c16
                have c16e := eq_true c16
                clear c16
                have pp17 : 0 ≤ ((wrap64 (p + 1)) : Int) := (of_decide_eq_true (by first | (with_reducible assumption) | assumption))
                have qq17 : (wrap64 (p + 1)) < (l0.length : Int) := (of_decide_eq_true (by first | (with_reducible assumption) | assumption))
                obtain ⟨ad17, ea17, hx17⟩ := Kd.at_int (Kd.C_below HR0.out HB.out) (wrap64 (p + 1)) pp17 qq17
                obtain rfl := Option.some.inj ea17
                replace pp17 := eq_true pp17
                replace qq17 := eq_true qq17
                by_cases c18 : rd l0 (wrap64 (p + 1)) = 61
                ·
                 rw [if_pos c18] at H
                 have c18b : (rd l0 (wrap64 (p + 1)) == 61) = true := beq_iff_eq.mpr c18
                 have c18n : (rd l0 (wrap64 (p + 1)) != 61) = false := bne_eq_false_iff_eq.mpr c18
                 clear c18
                 go_wp2
                 refine wp_goto ?_
                 exact lexGoto (J := lexJ _ c0 l0 (r1, r2, r3) w) (n' := k) (Nat.lt_succ_self _) (lexJ_mk (l := 3) H (by (with_reducible repeat (first | apply Kd.R_alloc | apply Kd.R_drewN | apply Kd.R_drew)); exact HO.out) (by repeat (first | (with_reducible first | exact HB.out | apply below_alloc | apply pw_below_drewN | apply below_drew1) | exact HB.out)))
                ·
                 rw [if_neg c18] at H
                 have c18b : (rd l0 (wrap64 (p + 1)) == 61) = false := beq_eq_false_iff_ne.mpr c18
                 have c18n : (rd l0 (wrap64 (p + 1)) != 61) = true := bne_iff_ne.mpr c18
                 clear c18
                 go_wp2
                 refine wp_goto ?_
                 exact lexGoto (J := lexJ _ c0 l0 (r1, r2, r3) w) (n' := k) (Nat.lt_succ_self _) (lexJ_mk (l := 2) H (by (with_reducible repeat (first | apply Kd.R_alloc | apply Kd.R_drewN | apply Kd.R_drew)); exact HO.out) (by repeat (first | (with_reducible first | exact HB.out | apply below_alloc | apply pw_below_drewN | apply below_drew1) | exact HB.out)))
               ·
                rw [if_neg c16] at H
                exact absurd H (by simp)
              ·
               rw [if_neg c15] at H
               have c15b : decide ((wrap64 (p + 1)) < (l0.length : Int)) = false := decide_eq_false c15
               clear c15
               go_wp2
               refine wp_goto ?_
               exact lexGoto (J := lexJ _ c0 l0 (r1, r2, r3) w) (n' := k) (Nat.lt_succ_self _) (lexJ_mk (l := 2) H (by (with_reducible repeat (first | apply Kd.R_alloc | apply Kd.R_drewN | apply Kd.R_drew)); exact HO.out) (by repeat (first | (with_reducible first | exact HB.out | apply below_alloc | apply pw_below_drewN | apply below_drew1) | exact HB.out)))
             ·
              rw [if_neg c14] at H
              have c14b : ((rd l0 p) == 61) = false := beq_eq_false_iff_ne.mpr c14
              have c14n : ((rd l0 p) != 61) = true := bne_iff_ne.mpr c14
              clear c14
              by_cases c19 : (rd l0 p) = 60
              ·
               rw [if_pos c19] at H
               have c19b : ((rd l0 p) == 60) = true := beq_iff_eq.mpr c19
               have c19n : ((rd l0 p) != 60) = false := bne_eq_false_iff_eq.mpr c19
               clear c19
               by_cases c20 : (wrap64 (p + 1)) < (l0.length : Int)
               ·
                rw [if_pos c20] at H
                have c20b : decide ((wrap64 (p + 1)) < (l0.length : Int)) = true := decide_eq_true c20
                clear c20
                by_cases c21 : 0 ≤ (wrap64 (p + 1))
                ·
                 rw [if_pos c21] at H
                 have c21b : decide (0 ≤ (wrap64 (p + 1))) = true := decide_eq_true c21
                 have c21e := eq_true c21
                 clear c21
                 have pp22 : 0 ≤ ((wrap64 (p + 1)) : Int) := (of_decide_eq_true (by first | (with_reducible assumption) | assumption))
                 have qq22 : (wrap64 (p + 1)) < (l0.length : Int) := (of_decide_eq_true (by first | (with_reducible assumption) | assumption))
                 obtain ⟨ad22, ea22, hx22⟩ := Kd.at_int (Kd.C_below HR0.out HB.out) (wrap64 (p + 1)) pp22 qq22
                 obtain rfl := Option.some.inj ea22
                 replace pp22 := eq_true pp22
                 replace qq22 := eq_true qq22
                 by_cases c23 : rd l0 (wrap64 (p + 1)) = 61
                 ·
                  rw [if_pos c23] at H
                  have c23b : (rd l0 (wrap64 (p + 1)) == 61) = true := beq_iff_eq.mpr c23
                  have c23n : (rd l0 (wrap64 (p + 1)) != 61) = false := bne_eq_false_iff_eq.mpr c23
                  clear c23
                  go_wp2
                  refine wp_goto ?_
                  exact lexGoto (J := lexJ _ c0 l0 (r1, r2, r3) w) (n' := k) (Nat.lt_succ_self _) (lexJ_mk (l := 3) H (by (with_reducible repeat (first | apply Kd.R_alloc | apply Kd.R_drewN | apply Kd.R_drew)); exact HO.out) (by repeat (first | (with_reducible first | exact HB.out | apply below_alloc | apply pw_below_drewN | apply below_drew1) | exact HB.out)))
                 ·
                  rw [if_neg c23] at H
                  have c23b : (rd l0 (wrap64 (p + 1)) == 61) = false := beq_eq_false_iff_ne.mpr c23
                  have c23n : (rd l0 (wrap64 (p + 1)) != 61) = true := bne_iff_ne.mpr c23
                  clear c23
                  go_wp2
                  refine wp_goto ?_
                  exact lexGoto (J := lexJ _ c0 l0 (r1, r2, r3) w) (n' := k) (Nat.lt_succ_self _) (lexJ_mk (l := 2) H (by (with_reducible repeat (first | apply Kd.R_alloc | apply Kd.R_drewN | apply Kd.R_drew)); exact HO.out) (by repeat (first | (with_reducible first | exact HB.out | apply below_alloc | apply pw_below_drewN | apply below_drew1) | exact HB.out)))
                ·
                 rw [if_neg c21] at H
                 exact absurd H (by simp)
               ·
                rw [if_neg c20] at H
                have c20b : decide ((wrap64 (p + 1)) < (l0.length : Int)) = false := decide_eq_false c20
                clear c20
                go_wp2
                refine wp_goto ?_
                exact lexGoto (J := lexJ _ c0 l0 (r1, r2, r3) w) (n' := k) (Nat.lt_succ_self _) (lexJ_mk (l := 2) H (by (with_reducible repeat (first | apply Kd.R_alloc | apply Kd.R_drewN | apply Kd.R_drew)); exact HO.out) (by repeat (first | (with_reducible first | exact HB.out | apply below_alloc | apply pw_below_drewN | apply below_drew1) | exact HB.out)))
              ·
               rw [if_neg c19] at H
               have c19b : ((rd l0 p) == 60) = false := beq_eq_false_iff_ne.mpr c19
               have c19n : ((rd l0 p) != 60) = true := bne_iff_ne.mpr c19
               clear c19
               by_cases c24 : (rd l0 p) = 62
               ·
                rw [if_pos c24] at H
                have c24b : ((rd l0 p) == 62) = true := beq_iff_eq.mpr c24
                have c24n : ((rd l0 p) != 62) = false := bne_eq_false_iff_eq.mpr c24
                clear c24
                by_cases c25 : (wrap64 (p + 1)) < (l0.length : Int)
                ·
                 rw [if_pos c25] at H
                 have c25b : decide ((wrap64 (p + 1)) < (l0.length : Int)) = true := decide_eq_true c25
                 clear c25
                 by_cases c26 : 0 ≤ (wrap64 (p + 1))
                 ·
                  rw [if_pos c26] at H
                  have c26b : decide (0 ≤ (wrap64 (p + 1))) = true := decide_eq_true c26
                  have c26e := eq_true c26
                  clear c26
                  have pp27 : 0 ≤ ((wrap64 (p + 1)) : Int) := (of_decide_eq_true (by first | (with_reducible assumption) | assumption))
                  have qq27 : (wrap64 (p + 1)) < (l0.length : Int) := (of_decide_eq_true (by first | (with_reducible assumption) | assumption))
                  obtain ⟨ad27, ea27, hx27⟩ := Kd.at_int (Kd.C_below HR0.out HB.out) (wrap64 (p + 1)) pp27 qq27
                  obtain rfl := Option.some.inj ea27
                  replace pp27 := eq_true pp27
                  replace qq27 := eq_true qq27
                  by_cases c28 : rd l0 (wrap64 (p + 1)) = 61
                  ·
                   rw [if_pos c28] at H
                   have c28b : (rd l0 (wrap64 (p + 1)) == 61) = true := beq_iff_eq.mpr c28
                   have c28n : (rd l0 (wrap64 (p + 1)) != 61) = false := bne_eq_false_iff_eq.mpr c28
                   clear c28
                   go_wp2
                   refine wp_goto ?_
                   exact lexGoto (J := lexJ _ c0 l0 (r1, r2, r3) w) (n' := k) (Nat.lt_succ_self _) (lexJ_mk (l := 3) H (by (with_reducible repeat (first | apply Kd.R_alloc | apply Kd.R_drewN | apply Kd.R_drew)); exact HO.out) (by repeat (first | (with_reducible first | exact HB.out | apply below_alloc | apply pw_below_drewN | apply below_drew1) | exact HB.out)))
                  ·
                   rw [if_neg c28] at H
                   have c28b : (rd l0 (wrap64 (p + 1)) == 61) = false := beq_eq_false_iff_ne.mpr c28
                   have c28n : (rd l0 (wrap64 (p + 1)) != 61) = true := bne_iff_ne.mpr c28
                   clear c28
                   go_wp2
                   refine wp_goto ?_
                   exact lexGoto (J := lexJ _ c0 l0 (r1, r2, r3) w) (n' := k) (Nat.lt_succ_self _) (lexJ_mk (l := 2) H (by (with_reducible repeat (first | apply Kd.R_alloc | apply Kd.R_drewN | apply Kd.R_drew)); exact HO.out) (by repeat (first | (with_reducible first | exact HB.out | apply below_alloc | apply pw_below_drewN | apply below_drew1) | exact HB.out)))
                 ·
                  rw [if_neg c26] at H
                  exact absurd H (by simp)
                ·
                 rw [if_neg c25] at H
                 have c25b : decide ((wrap64 (p + 1)) < (l0.length : Int)) = false := decide_eq_false c25
                 clear c25
                 go_wp2
                 refine wp_goto ?_
                 exact lexGoto (J := lexJ _ c0 l0 (r1, r2, r3) w) (n' := k) (Nat.lt_succ_self _) (lexJ_mk (l := 2) H (by (with_reducible repeat (first | apply Kd.R_alloc | apply Kd.R_drewN | apply Kd.R_drew)); exact HO.out) (by repeat (first | (with_reducible first | exact HB.out | apply below_alloc | apply pw_below_drewN | apply below_drew1) | exact HB.out)))
               ·
                rw [if_neg c24] at H
                have c24b : ((rd l0 p) == 62) = false := beq_eq_false_iff_ne.mpr c24
                have c24n : ((rd l0 p) != 62) = true := bne_iff_ne.mpr c24
                clear c24
                by_cases c29 : (rd l0 p) = 126
                ·
                 rw [if_pos c29] at H
                 have c29b : ((rd l0 p) == 126) = true := beq_iff_eq.mpr c29
                 have c29n : ((rd l0 p) != 126) = false := bne_eq_false_iff_eq.mpr c29
                 clear c29
                 by_cases c30 : (wrap64 (p + 1)) < (l0.length : Int)
                 ·
                  rw [if_pos c30] at H
                  have c30b : decide ((wrap64 (p + 1)) < (l0.length : Int)) = true := decide_eq_true c30
                  clear c30
                  by_cases c31 : 0 ≤ (wrap64 (p + 1))
                  ·
                   rw [if_pos c31] at H
                   have c31b : decide (0 ≤ (wrap64 (p + 1))) = true := decide_eq_true c31
                   have c31e := eq_true c31
                   clear c31
                   have pp32 : 0 ≤ ((wrap64 (p + 1)) : Int) := (of_decide_eq_true (by first | (with_reducible assumption) | assumption))
                   have qq32 : (wrap64 (p + 1)) < (l0.length : Int) := (of_decide_eq_true (by first | (with_reducible assumption) | assumption))
                   obtain ⟨ad32, ea32, hx32⟩ := Kd.at_int (Kd.C_below HR0.out HB.out) (wrap64 (p + 1)) pp32 qq32
                   obtain rfl := Option.some.inj ea32
                   replace pp32 := eq_true pp32
                   replace qq32 := eq_true qq32
                   by_cases c33 : rd l0 (wrap64 (p + 1)) = 61
                   ·
                    rw [if_pos c33] at H
                    have c33b : (rd l0 (wrap64 (p + 1)) == 61) = true := beq_iff_eq.mpr c33
                    have c33n : (rd l0 (wrap64 (p + 1)) != 61) = false := bne_eq_false_iff_eq.mpr c33
                    clear c33
                    go_wp2
                    refine wp_goto ?_
                    exact lexGoto (J := lexJ _ c0 l0 (r1, r2, r3) w) (n' := k) (Nat.lt_succ_self _) (lexJ_mk (l := 3) H (by (with_reducible repeat (first | apply Kd.R_alloc | apply Kd.R_drewN | apply Kd.R_drew)); exact HO.out) (by repeat (first | (with_reducible first | exact HB.out | apply below_alloc | apply pw_below_drewN | apply below_drew1) | exact HB.out)))
                   ·
                    rw [if_neg c33] at H
                    have c33b : (rd l0 (wrap64 (p + 1)) == 61) = false := beq_eq_false_iff_ne.mpr c33
                    have c33n : (rd l0 (wrap64 (p + 1)) != 61) = true := bne_iff_ne.mpr c33
                    clear c33
                    go_wp2
                    refine wp_goto ?_
                    exact lexGoto (J := lexJ _ c0 l0 (r1, r2, r3) w) (n' := k) (Nat.lt_succ_self _) (lexJ_mk (l := 4) H (by (with_reducible repeat (first | apply Kd.R_alloc | apply Kd.R_drewN | apply Kd.R_drew)); exact HO.out) (by repeat (first | (with_reducible first | exact HB.out | apply below_alloc | apply pw_below_drewN | apply below_drew1) | exact HB.out)))
                  ·
                   rw [if_neg c31] at H
                   exact absurd H (by simp)
                 ·
                  rw [if_neg c30] at H
                  have c30b : decide ((wrap64 (p + 1)) < (l0.length : Int)) = false := decide_eq_false c30
                  clear c30
                  go_wp2
                  refine wp_goto ?_
                  exact lexGoto (J := lexJ _ c0 l0 (r1, r2, r3) w) (n' := k) (Nat.lt_succ_self _) (lexJ_mk (l := 4) H (by (with_reducible repeat (first | apply Kd.R_alloc | apply Kd.R_drewN | apply Kd.R_drew)); exact HO.out) (by repeat (first | (with_reducible first | exact HB.out | apply below_alloc | apply pw_below_drewN | apply below_drew1) | exact HB.out)))
                ·
                 rw [if_neg c29] at H
                 have c29b : ((rd l0 p) == 126) = false := beq_eq_false_iff_ne.mpr c29
                 have c29n : ((rd l0 p) != 126) = true := bne_iff_ne.mpr c29
                 clear c29
                 by_cases c34 : (rd l0 p) = 47
                 ·
                  rw [if_pos c34] at H
                  have c34b : ((rd l0 p) == 47) = true := beq_iff_eq.mpr c34
                  have c34n : ((rd l0 p) != 47) = false := bne_eq_false_iff_eq.mpr c34
                  clear c34
                  by_cases c35 : (wrap64 (p + 1)) < (l0.length : Int)
                  ·
                   rw [if_pos c35] at H
                   have c35b : decide ((wrap64 (p + 1)) < (l0.length : Int)) = true := decide_eq_true c35
                   clear c35
                   by_cases c36 : 0 ≤ (wrap64 (p + 1))
                   ·
                    rw [if_pos c36] at H
                    have c36b : decide (0 ≤ (wrap64 (p + 1))) = true := decide_eq_true c36
                    have c36e := eq_true c36
                    clear c36
                    have pp37 : 0 ≤ ((wrap64 (p + 1)) : Int) := (of_decide_eq_true (by first | (with_reducible assumption) | assumption))
                    have qq37 : (wrap64 (p + 1)) < (l0.length : Int) := (of_decide_eq_true (by first | (with_reducible assumption) | assumption))
                    obtain ⟨ad37, ea37, hx37⟩ := Kd.at_int (Kd.C_below HR0.out HB.out) (wrap64 (p + 1)) pp37 qq37
                    obtain rfl := Option.some.inj ea37
                    replace pp37 := eq_true pp37
                    replace qq37 := eq_true qq37
                    by_cases c38 : rd l0 (wrap64 (p + 1)) = (rd l0 p)
                    ·
                     rw [if_pos c38] at H
                     have c38b : (rd l0 (wrap64 (p + 1)) == (rd l0 p)) = true := beq_iff_eq.mpr c38
                     have c38n : (rd l0 (wrap64 (p + 1)) != (rd l0 p)) = false := bne_eq_false_iff_eq.mpr c38
                     clear c38
                     go_wp2
                     refine wp_goto ?_
                     exact lexGoto (J := lexJ _ c0 l0 (r1, r2, r3) w) (n' := k) (Nat.lt_succ_self _) (lexJ_mk (l := 3) H (by (with_reducible repeat (first | apply Kd.R_alloc | apply Kd.R_drewN | apply Kd.R_drew)); exact HO.out) (by repeat (first | (with_reducible first | exact HB.out | apply below_alloc | apply pw_below_drewN | apply below_drew1) | exact HB.out)))
                    ·
                     rw [if_neg c38] at H
                     have c38b : (rd l0 (wrap64 (p + 1)) == (rd l0 p)) = false := beq_eq_false_iff_ne.mpr c38
                     have c38n : (rd l0 (wrap64 (p + 1)) != (rd l0 p)) = true := bne_iff_ne.mpr c38
                     clear c38
                     go_wp2
                     refine wp_goto ?_
                     exact lexGoto (J := lexJ _ c0 l0 (r1, r2, r3) w) (n' := k) (Nat.lt_succ_self _) (lexJ_mk (l := 4) H (by (with_reducible repeat (first | apply Kd.R_alloc | apply Kd.R_drewN | apply Kd.R_drew)); exact HO.out) (by repeat (first | (with_reducible first | exact HB.out | apply below_alloc | apply pw_below_drewN | apply below_drew1) | exact HB.out)))
                   ·
                    rw [if_neg c36] at H
                    exact absurd H (by simp)
                  ·
                   rw [if_neg c35] at H
                   have c35b : decide ((wrap64 (p + 1)) < (l0.length : Int)) = false := decide_eq_false c35
                   clear c35
                   go_wp2
                   refine wp_goto ?_
                   exact lexGoto (J := lexJ _ c0 l0 (r1, r2, r3) w) (n' := k) (Nat.lt_succ_self _) (lexJ_mk (l := 4) H (by (with_reducible repeat (first | apply Kd.R_alloc | apply Kd.R_drewN | apply Kd.R_drew)); exact HO.out) (by repeat (first | (with_reducible first | exact HB.out | apply below_alloc | apply pw_below_drewN | apply below_drew1) | exact HB.out)))
                 ·
                  rw [if_neg c34] at H
                  have c34b : ((rd l0 p) == 47) = false := beq_eq_false_iff_ne.mpr c34
                  have c34n : ((rd l0 p) != 47) = true := bne_iff_ne.mpr c34
                  clear c34
                  by_cases c39 : (rd l0 p) = 46
                  ·
                   rw [if_pos c39] at H
                   have c39b : ((rd l0 p) == 46) = true := beq_iff_eq.mpr c39
                   have c39n : ((rd l0 p) != 46) = false := bne_eq_false_iff_eq.mpr c39
                   clear c39
                   by_cases c40 : (wrap64 (p + 1)) < (l0.length : Int)
                   ·
                    rw [if_pos c40] at H
                    have c40b : decide ((wrap64 (p + 1)) < (l0.length : Int)) = true := decide_eq_true c40
                    clear c40
                    by_cases c41 : 0 ≤ (wrap64 (p + 1))
                    ·
                     rw [if_pos c41] at H
                     have c41b : decide (0 ≤ (wrap64 (p + 1))) = true := decide_eq_true c41
                     have c41e := eq_true c41
                     clear c41
                     have pp42 : 0 ≤ ((wrap64 (p + 1)) : Int) := (of_decide_eq_true (by first | (with_reducible assumption) | assumption))
                     have qq42 : (wrap64 (p + 1)) < (l0.length : Int) := (of_decide_eq_true (by first | (with_reducible assumption) | assumption))
                     obtain ⟨ad42, ea42, hx42⟩ := Kd.at_int (Kd.C_below HR0.out HB.out) (wrap64 (p + 1)) pp42 qq42
                     obtain rfl := Option.some.inj ea42
                     replace pp42 := eq_true pp42
                     replace qq42 := eq_true qq42
                     by_cases c43 : rd l0 (wrap64 (p + 1)) = (rd l0 p)
                     ·
                      rw [if_pos c43] at H
                      have c43b : (rd l0 (wrap64 (p + 1)) == (rd l0 p)) = true := beq_iff_eq.mpr c43
                      have c43n : (rd l0 (wrap64 (p + 1)) != (rd l0 p)) = false := bne_eq_false_iff_eq.mpr c43
                      clear c43
                      go_wp2
                      refine wp_goto ?_
                      exact lexGoto (J := lexJ _ c0 l0 (r1, r2, r3) w) (n' := k) (Nat.lt_succ_self _) (lexJ_mk (l := 3) H (by (with_reducible repeat (first | apply Kd.R_alloc | apply Kd.R_drewN | apply Kd.R_drew)); exact HO.out) (by repeat (first | (with_reducible first | exact HB.out | apply below_alloc | apply pw_below_drewN | apply below_drew1) | exact HB.out)))
                     ·
                      rw [if_neg c43] at H
                      have c43b : (rd l0 (wrap64 (p + 1)) == (rd l0 p)) = false := beq_eq_false_iff_ne.mpr c43
                      have c43n : (rd l0 (wrap64 (p + 1)) != (rd l0 p)) = true := bne_iff_ne.mpr c43
                      clear c43
                      go_wp2
                      refine wp_goto ?_
                      exact lexGoto (J := lexJ _ c0 l0 (r1, r2, r3) w) (n' := k) (Nat.lt_succ_self _) (lexJ_mk (l := 2) H (by (with_reducible repeat (first | apply Kd.R_alloc | apply Kd.R_drewN | apply Kd.R_drew)); exact HO.out) (by repeat (first | (with_reducible first | exact HB.out | apply below_alloc | apply pw_below_drewN | apply below_drew1) | exact HB.out)))
                    ·
                     rw [if_neg c41] at H
                     exact absurd H (by simp)
                   ·
                    rw [if_neg c40] at H
                    have c40b : decide ((wrap64 (p + 1)) < (l0.length : Int)) = false := decide_eq_false c40
                    clear c40
                    go_wp2
                    refine wp_goto ?_
                    exact lexGoto (J := lexJ _ c0 l0 (r1, r2, r3) w) (n' := k) (Nat.lt_succ_self _) (lexJ_mk (l := 2) H (by (with_reducible repeat (first | apply Kd.R_alloc | apply Kd.R_drewN | apply Kd.R_drew)); exact HO.out) (by repeat (first | (with_reducible first | exact HB.out | apply below_alloc | apply pw_below_drewN | apply below_drew1) | exact HB.out)))
                  ·
                   rw [if_neg c39] at H
                   have c39b : ((rd l0 p) == 46) = false := beq_eq_false_iff_ne.mpr c39
                   have c39n : ((rd l0 p) != 46) = true := bne_iff_ne.mpr c39
                   clear c39
                   replace H := Option.bind_eq_some_iff.mp H
                   obtain ⟨t44, A440, H⟩ := H
                   have A44 := Aside0.mk A440
                   clear A440
                   try dsimp only at H
                   cases t44
                   ·
                    rw [if_neg (show ¬ (false = true) by decide)] at H
                    replace H := Option.bind_eq_some_iff.mp H
                    obtain ⟨t45, A450, H⟩ := H
                    have A45 := Aside0.mk A450
                    clear A450
                    try dsimp only at H
                    cases t45
                    ·
                     rw [if_neg (show ¬ (false = true) by decide)] at H
                     by_cases c46 : (rd l0 p) = 34
                     ·
                      rw [if_pos c46] at H
                      have c46b : ((rd l0 p) == 34) = true := beq_iff_eq.mpr c46
                      have c46n : ((rd l0 p) != 34) = false := bne_eq_false_iff_eq.mpr c46
                      clear c46
                      by_cases c47 : p ≤ (l0.length : Int)
                      ·
                       rw [if_pos c47] at H
                       have c47b : decide (p ≤ (l0.length : Int)) = true := decide_eq_true c47
                       have c47e := eq_true c47
                       clear c47
                       replace H := Option.bind_eq_some_iff.mp H
                       obtain ⟨⟨ts48, tn48⟩, A480, H⟩ := H
                       have A48 := Aside0.mk A480
                       clear A480
                       try dsimp only at H
                       obtain ⟨i048, hi048, _, hsz48, _⟩ := info_parts info5
                       obtain ⟨AA48, hcut48, hA48, hC48⟩ := print_drop_of (P := Try.prog) (Value.int .u8) 0 23 5 .i64 Try.underlying23 hi048 hsz48 (some ad4) c0 l0 p (of_decide_eq_true (by first | (with_reducible assumption) | assumption)) (of_decide_eq_true (by first | (with_reducible assumption) | assumption)) HC0.out
                       have HR48 := Aside0.mk (Kd.C_of_reads (h1 := fun _ => rfl) (hA48 _ (Kd.reads_of_C (Kd.C_below HR0.out HB.out))))
                       have HC48 := Aside0.mk hC48
                       clear hA48 hC48 hi048 hsz48
                       by_cases c49 : tn48 = 0
                       ·
                        rw [if_pos c49] at H
                        have c49b : (tn48 == 0) = true := beq_iff_eq.mpr c49
                        have c49n : (tn48 != 0) = false := bne_eq_false_iff_eq.mpr c49
                        clear c49
                        go_wp2_with (first | (go_at_call 32; (with_reducible refine (impl_isLetter.calls (rd l0 p) false _ A44.out).mono ?_); rintro e w' ⟨rfl, ⟨nd, rfl⟩⟩) | (go_at_call 33; (with_reducible refine (impl_isDigit.calls (rd l0 p) false _ A45.out).mono ?_); rintro e w' ⟨rfl, ⟨nd, rfl⟩⟩) | (go_at_call 30; (try rw [← List.length_drop]); (with_reducible refine (impl_literal.calls k _ _ (l0.drop (p : Int).toNat) ts48 tn48 _ ?side1 ?side2 A48.out).mono ?_); (case side1 => repeat (first | exact HR48.out | (with_reducible refine Kd.C_alloc ?_ _) | (with_reducible refine Kd.C_drewN ?_ _) | (with_reducible refine Kd.C_drew ?_))); (case side2 => exact HC48.out); rintro e w148 ⟨v0_48, rfl, hr, hb⟩; have n0_ := Aside0.mk (Kd.R_below (by (with_reducible repeat (first | apply Kd.R_alloc | apply Kd.R_drewN | apply Kd.R_drew)); exact HO.out) hb); have n1_ := Aside0.mk (below_step (by repeat (first | (with_reducible first | exact HB.out | apply below_alloc | apply pw_below_drewN | apply below_drew1) | exact HB.out)) hb); clear HO HB; have HO := n0_; have HB := n1_; clear n0_ n1_; clear hr hb))
                        refine wp_goto ?_
                        exact lexGoto (J := lexJ _ c0 l0 (r1, r2, r3) w) (n' := k) (Nat.lt_succ_self _) (lexJ_mk (l := 4) H (by (with_reducible repeat (first | apply Kd.R_alloc | apply Kd.R_drewN | apply Kd.R_drew)); exact HO.out) (by repeat (first | (with_reducible first | exact HB.out | apply below_alloc | apply pw_below_drewN | apply below_drew1) | exact HB.out)))
                       ·
                        rw [if_neg c49] at H
                        have c49b : (tn48 == 0) = false := beq_eq_false_iff_ne.mpr c49
                        have c49n : (tn48 != 0) = true := bne_iff_ne.mpr c49
                        clear c49
                        go_wp2_with (first | (go_at_call 32; (with_reducible refine (impl_isLetter.calls (rd l0 p) false _ A44.out).mono ?_); rintro e w' ⟨rfl, ⟨nd, rfl⟩⟩) | (go_at_call 33; (with_reducible refine (impl_isDigit.calls (rd l0 p) false _ A45.out).mono ?_); rintro e w' ⟨rfl, ⟨nd, rfl⟩⟩) | (go_at_call 30; (try rw [← List.length_drop]); (with_reducible refine (impl_literal.calls k _ _ (l0.drop (p : Int).toNat) ts48 tn48 _ ?side1 ?side2 A48.out).mono ?_); (case side1 => repeat (first | exact HR48.out | (with_reducible refine Kd.C_alloc ?_ _) | (with_reducible refine Kd.C_drewN ?_ _) | (with_reducible refine Kd.C_drew ?_))); (case side2 => exact HC48.out); rintro e w148 ⟨v0_48, rfl, hr, hb⟩; have n0_ := Aside0.mk (Kd.R_below (by (with_reducible repeat (first | apply Kd.R_alloc | apply Kd.R_drewN | apply Kd.R_drew)); exact HO.out) hb); have n1_ := Aside0.mk (below_step (by repeat (first | (with_reducible first | exact HB.out | apply below_alloc | apply pw_below_drewN | apply below_drew1) | exact HB.out)) hb); clear HO HB; have HO := n0_; have HB := n1_; clear n0_ n1_; clear hr hb))
                        refine wp_goto ?_
                        exact lexGoto (J := lexJ _ c0 l0 (r1, r2, r3) w) (n' := k) (Nat.lt_succ_self _) (lexJ_mk (l := 6) H (by (with_reducible repeat (first | apply Kd.R_alloc | apply Kd.R_drewN | apply Kd.R_drew)); exact HO.out) (by repeat (first | (with_reducible first | exact HB.out | apply below_alloc | apply pw_below_drewN | apply below_drew1) | exact HB.out)))
                      ·
                       rw [if_neg c47] at H
                       exact absurd H (by simp)
                     ·
                      rw [if_neg c46] at H
                      have c46b : ((rd l0 p) == 34) = false := beq_eq_false_iff_ne.mpr c46
                      have c46n : ((rd l0 p) != 34) = true := bne_iff_ne.mpr c46
                      clear c46
                      by_cases c50 : (rd l0 p) = 39
                      ·
                       rw [if_pos c50] at H
                       have c50b : ((rd l0 p) == 39) = true := beq_iff_eq.mpr c50
                       have c50n : ((rd l0 p) != 39) = false := bne_eq_false_iff_eq.mpr c50
                       clear c50
                       by_cases c51 : p ≤ (l0.length : Int)
                       ·
                        rw [if_pos c51] at H
                        have c51b : decide (p ≤ (l0.length : Int)) = true := decide_eq_true c51
                        have c51e := eq_true c51
                        clear c51
                        replace H := Option.bind_eq_some_iff.mp H
                        obtain ⟨⟨ts52, tn52⟩, A520, H⟩ := H
                        have A52 := Aside0.mk A520
                        clear A520
                        try dsimp only at H
                        obtain ⟨i052, hi052, _, hsz52, _⟩ := info_parts info5
                        obtain ⟨AA52, hcut52, hA52, hC52⟩ := print_drop_of (P := Try.prog) (Value.int .u8) 0 23 5 .i64 Try.underlying23 hi052 hsz52 (some ad4) c0 l0 p (of_decide_eq_true (by first | (with_reducible assumption) | assumption)) (of_decide_eq_true (by first | (with_reducible assumption) | assumption)) HC0.out
                        have HR52 := Aside0.mk (Kd.C_of_reads (h1 := fun _ => rfl) (hA52 _ (Kd.reads_of_C (Kd.C_below HR0.out HB.out))))
                        have HC52 := Aside0.mk hC52
                        clear hA52 hC52 hi052 hsz52
                        by_cases c53 : tn52 = 0
                        ·
                         rw [if_pos c53] at H
                         have c53b : (tn52 == 0) = true := beq_iff_eq.mpr c53
                         have c53n : (tn52 != 0) = false := bne_eq_false_iff_eq.mpr c53
                         clear c53
                         go_wp2_with (first | (go_at_call 32; (with_reducible refine (impl_isLetter.calls (rd l0 p) false _ A44.out).mono ?_); rintro e w' ⟨rfl, ⟨nd, rfl⟩⟩) | (go_at_call 33; (with_reducible refine (impl_isDigit.calls (rd l0 p) false _ A45.out).mono ?_); rintro e w' ⟨rfl, ⟨nd, rfl⟩⟩) | (go_at_call 30; (try rw [← List.length_drop]); (with_reducible refine (impl_literal.calls k _ _ (l0.drop (p : Int).toNat) ts52 tn52 _ ?side1 ?side2 A52.out).mono ?_); (case side1 => repeat (first | exact HR52.out | (with_reducible refine Kd.C_alloc ?_ _) | (with_reducible refine Kd.C_drewN ?_ _) | (with_reducible refine Kd.C_drew ?_))); (case side2 => exact HC52.out); rintro e w152 ⟨v0_52, rfl, hr, hb⟩; have n0_ := Aside0.mk (Kd.R_below (by (with_reducible repeat (first | apply Kd.R_alloc | apply Kd.R_drewN | apply Kd.R_drew)); exact HO.out) hb); have n1_ := Aside0.mk (below_step (by repeat (first | (with_reducible first | exact HB.out | apply below_alloc | apply pw_below_drewN | apply below_drew1) | exact HB.out)) hb); clear HO HB; have HO := n0_; have HB := n1_; clear n0_ n1_; clear hr hb))
                         refine wp_goto ?_
                         exact lexGoto (J := lexJ _ c0 l0 (r1, r2, r3) w) (n' := k) (Nat.lt_succ_self _) (lexJ_mk (l := 4) H (by (with_reducible repeat (first | apply Kd.R_alloc | apply Kd.R_drewN | apply Kd.R_drew)); exact HO.out) (by repeat (first | (with_reducible first | exact HB.out | apply below_alloc | apply pw_below_drewN | apply below_drew1) | exact HB.out)))
                        ·
                         rw [if_neg c53] at H
                         have c53b : (tn52 == 0) = false := beq_eq_false_iff_ne.mpr c53
                         have c53n : (tn52 != 0) = true := bne_iff_ne.mpr c53
                         clear c53
                         go_wp2_with (first | (go_at_call 32; (with_reducible refine (impl_isLetter.calls (rd l0 p) false _ A44.out).mono ?_); rintro e w' ⟨rfl, ⟨nd, rfl⟩⟩) | (go_at_call 33; (with_reducible refine (impl_isDigit.calls (rd l0 p) false _ A45.out).mono ?_); rintro e w' ⟨rfl, ⟨nd, rfl⟩⟩) | (go_at_call 30; (try rw [← List.length_drop]); (with_reducible refine (impl_literal.calls k _ _ (l0.drop (p : Int).toNat) ts52 tn52 _ ?side1 ?side2 A52.out).mono ?_); (case side1 => repeat (first | exact HR52.out | (with_reducible refine Kd.C_alloc ?_ _) | (with_reducible refine Kd.C_drewN ?_ _) | (with_reducible refine Kd.C_drew ?_))); (case side2 => exact HC52.out); rintro e w152 ⟨v0_52, rfl, hr, hb⟩; have n0_ := Aside0.mk (Kd.R_below (by (with_reducible repeat (first | apply Kd.R_alloc | apply Kd.R_drewN | apply Kd.R_drew)); exact HO.out) hb); have n1_ := Aside0.mk (below_step (by repeat (first | (with_reducible first | exact HB.out | apply below_alloc | apply pw_below_drewN | apply below_drew1) | exact HB.out)) hb); clear HO HB; have HO := n0_; have HB := n1_; clear n0_ n1_; clear hr hb))
                         refine wp_goto ?_
                         exact lexGoto (J := lexJ _ c0 l0 (r1, r2, r3) w) (n' := k) (Nat.lt_succ_self _) (lexJ_mk (l := 6) H (by (with_reducible repeat (first | apply Kd.R_alloc | apply Kd.R_drewN | apply Kd.R_drew)); exact HO.out) (by repeat (first | (with_reducible first | exact HB.out | apply below_alloc | apply pw_below_drewN | apply below_drew1) | exact HB.out)))
                       ·
                        rw [if_neg c51] at H
                        exact absurd H (by simp)
                      ·
                       rw [if_neg c50] at H
                       have c50b : ((rd l0 p) == 39) = false := beq_eq_false_iff_ne.mpr c50
                       have c50n : ((rd l0 p) != 39) = true := bne_iff_ne.mpr c50
                       clear c50
                       by_cases c54 : sgb (rd l0 p) = true
                       ·
                        rw [if_pos c54] at H
                        have c54b := c54
                        unfold sgb at c54b
                        clear c54
                        go_wp2_with (first | (go_at_call 32; (with_reducible refine (impl_isLetter.calls (rd l0 p) false _ A44.out).mono ?_); rintro e w' ⟨rfl, ⟨nd, rfl⟩⟩) | (go_at_call 33; (with_reducible refine (impl_isDigit.calls (rd l0 p) false _ A45.out).mono ?_); rintro e w' ⟨rfl, ⟨nd, rfl⟩⟩) | (go_at_call 34; (refine (Try.strings_IndexByte _ (rd l0 p) _).mono ?_); rintro e w' ⟨rfl, rfl⟩))
                        refine wp_goto ?_
                        exact lexGoto (J := lexJ _ c0 l0 (r1, r2, r3) w) (n' := k) (Nat.lt_succ_self _) (lexJ_mk (l := 2) H (by (with_reducible repeat (first | apply Kd.R_alloc | apply Kd.R_drewN | apply Kd.R_drew)); exact HO.out) (by repeat (first | (with_reducible first | exact HB.out | apply below_alloc | apply pw_below_drewN | apply below_drew1) | exact HB.out)))
                       ·
                        rw [if_neg c54] at H
                        have c54b := Bool.eq_false_iff.mpr c54
                        unfold sgb at c54b
                        clear c54
                        go_wp2_with (first | (go_at_call 32; (with_reducible refine (impl_isLetter.calls (rd l0 p) false _ A44.out).mono ?_); rintro e w' ⟨rfl, ⟨nd, rfl⟩⟩) | (go_at_call 33; (with_reducible refine (impl_isDigit.calls (rd l0 p) false _ A45.out).mono ?_); rintro e w' ⟨rfl, ⟨nd, rfl⟩⟩) | (go_at_call 34; (refine (Try.strings_IndexByte _ (rd l0 p) _).mono ?_); rintro e w' ⟨rfl, rfl⟩))
                        refine wp_goto ?_
                        exact lexGoto (J := lexJ _ c0 l0 (r1, r2, r3) w) (n' := k) (Nat.lt_succ_self _) (lexJ_mk (l := 4) H (by (with_reducible repeat (first | apply Kd.R_alloc | apply Kd.R_drewN | apply Kd.R_drew)); exact HO.out) (by repeat (first | (with_reducible first | exact HB.out | apply below_alloc | apply pw_below_drewN | apply below_drew1) | exact HB.out)))
                    ·
                     rw [if_pos rfl] at H
                     go_wp2_with (first | (go_at_call 32; (with_reducible refine (impl_isLetter.calls (rd l0 p) false _ A44.out).mono ?_); rintro e w' ⟨rfl, ⟨nd, rfl⟩⟩) | (go_at_call 33; (with_reducible refine (impl_isDigit.calls (rd l0 p) true _ A45.out).mono ?_); rintro e w' ⟨rfl, ⟨nd, rfl⟩⟩))
                     refine wp_goto ?_
                     exact lexGoto (J := lexJ _ c0 l0 (r1, r2, r3) w) (n' := k) (Nat.lt_succ_self _) (lexJ_mk (l := 5) H (by (with_reducible repeat (first | apply Kd.R_alloc | apply Kd.R_drewN | apply Kd.R_drew)); exact HO.out) (by repeat (first | (with_reducible first | exact HB.out | apply below_alloc | apply pw_below_drewN | apply below_drew1) | exact HB.out)))
                   ·
                    rw [if_pos rfl] at H
                    go_wp2_with (first | (go_at_call 32; (with_reducible refine (impl_isLetter.calls (rd l0 p) true _ A44.out).mono ?_); rintro e w' ⟨rfl, ⟨nd, rfl⟩⟩))
                    refine wp_goto ?_
                    exact lexGoto (J := lexJ _ c0 l0 (r1, r2, r3) w) (n' := k) (Nat.lt_succ_self _) (lexJ_mk (l := 5) H (by (with_reducible repeat (first | apply Kd.R_alloc | apply Kd.R_drewN | apply Kd.R_drew)); exact HO.out) (by repeat (first | (with_reducible first | exact HB.out | apply below_alloc | apply pw_below_drewN | apply below_drew1) | exact HB.out)))
       ·
        rw [if_neg c3] at H
        exact absurd H (by simp)
      ·
       rw [if_neg c2] at H
       exact absurd H (by simp)
   | 1 =>
    refine ⟨_, rfl, ?_⟩
    change impl_Lex.cm n l0 o p cd = some (r1, r2, r3) at H
    cases n with
    | zero => exact absurd H (by simp [impl_Lex.cm])
    | succ k =>
     simp only [impl_Lex.cm] at H
     by_cases c55 : p < (l0.length : Int)
     ·
      rw [if_pos c55] at H
      have c55b : decide (p < (l0.length : Int)) = true := decide_eq_true c55
      clear c55
      by_cases c56 : 0 ≤ p
      ·
       rw [if_pos c56] at H
       have c56b : decide (0 ≤ p) = true := decide_eq_true c56
       have c56e := eq_true c56
       clear c56
       have pp57 : 0 ≤ (p : Int) := (of_decide_eq_true (by first | (with_reducible assumption) | assumption))
       have qq57 : p < (l0.length : Int) := (of_decide_eq_true (by first | (with_reducible assumption) | assumption))
       obtain ⟨ad57, ea57, hx57⟩ := Kd.at_int (Kd.C_below HR0.out HB.out) p pp57 qq57
       subst ea57
       replace pp57 := eq_true pp57
       replace qq57 := eq_true qq57
       by_cases c58 : rd l0 p = 10
       ·
        rw [if_pos c58] at H
        have c58b : (rd l0 p == 10) = true := beq_iff_eq.mpr c58
        have c58n : (rd l0 p != 10) = false := bne_eq_false_iff_eq.mpr c58
        clear c58
        go_wp2
        refine wp_goto ?_
        exact lexGoto (J := lexJ _ c0 l0 (r1, r2, r3) w) (n' := k) (Nat.lt_succ_self _) (lexJ_mk (l := 0) H (by (with_reducible repeat (first | apply Kd.R_alloc | apply Kd.R_drewN | apply Kd.R_drew)); exact HO.out) (by repeat (first | (with_reducible first | exact HB.out | apply below_alloc | apply pw_below_drewN | apply below_drew1) | exact HB.out)))
       ·
        rw [if_neg c58] at H
        have c58b : (rd l0 p == 10) = false := beq_eq_false_iff_ne.mpr c58
        have c58n : (rd l0 p != 10) = true := bne_iff_ne.mpr c58
        clear c58
        go_wp2
        refine wp_goto ?_
        exact lexGoto (J := lexJ _ c0 l0 (r1, r2, r3) w) (n' := k) (Nat.lt_succ_self _) (lexJ_mk (l := 1) H (by (with_reducible repeat (first | apply Kd.R_alloc | apply Kd.R_drewN | apply Kd.R_drew)); exact HO.out) (by repeat (first | (with_reducible first | exact HB.out | apply below_alloc | apply pw_below_drewN | apply below_drew1) | exact HB.out)))
      ·
       rw [if_neg c56] at H
       exact absurd H (by simp)
     ·
      rw [if_neg c55] at H
      have c55b : decide (p < (l0.length : Int)) = false := decide_eq_false c55
      clear c55
      go_wp2
      refine wp_goto ?_
      exact lexGoto (J := lexJ _ c0 l0 (r1, r2, r3) w) (n' := k) (Nat.lt_succ_self _) (lexJ_mk (l := 0) H (by (with_reducible repeat (first | apply Kd.R_alloc | apply Kd.R_drewN | apply Kd.R_drew)); exact HO.out) (by repeat (first | (with_reducible first | exact HB.out | apply below_alloc | apply pw_below_drewN | apply below_drew1) | exact HB.out)))
   | 2 =>
    refine ⟨_, rfl, ?_⟩
    change impl_Lex.sg n l0 o p st cd = some (r1, r2, r3) at H
    cases n with
    | zero => exact absurd H (by simp [impl_Lex.sg])
    | succ k =>
     simp only [impl_Lex.sg] at H
     cases k with
     | zero => exact absurd H (by simp [impl_Lex.tk])
     | succ k =>
      simp only [impl_Lex.tk] at H
      by_cases c1 : o.length < 5864062014805
      ·
       rw [if_pos c1] at H
       have LM := Aside0.mk c1
       clear c1
       go_wp2
       refine wp_label ?_
       rename_i hK_
       refine hK_ _ _ ?_
       clear hK_
       go_wp2_with (first | ((with_reducible refine gate_builtin (b := .append) (xs := #[.tmp 192, .tmp 199]) rfl ?_); (try (refine gate_guard (by rfl) ?_; dsimp only)); at_builtin; refine Kd.R_append k38 (w0 := w) w.heap.size rfl (.tmp 192) (.tmp 199) 32 38 (.agg #[(.int .i64 0), (.int .i64 0), (.int .i64 0)]) 24 rfl Try.underlying32 info38 rfl (by decide) (by omega) v5 o (⟨5, st, wrap64 ((wrap64 (p + 1)) - st)⟩ : S38) [.int .i64 5, .int .i64 st, .int .i64 (wrap64 ((wrap64 (p + 1)) - st))] (fun _ => True) (fun _ => False) rfl rfl ?aP (fun _ hk => hk.elim) ?aF ?aO ?aB ?aS ?aL ?_; (case aP => exact k38_mkM _ _ _ (⟨5, st, wrap64 ((wrap64 (p + 1)) - st)⟩ : S38)); (case aB => exact (by repeat (first | (with_reducible first | exact HB.out | apply below_alloc | apply pw_below_drewN | apply below_drew1) | exact HB.out))); (case aF => exact (fun _ _ => trivial)); (case aO => exact (by (with_reducible repeat (first | apply Kd.R_alloc | apply Kd.R_drewN | apply Kd.R_drew)); exact HO.out)); (case aS => exact (below_size (by repeat (first | (with_reducible first | exact HB.out | apply below_alloc | apply pw_below_drewN | apply below_drew1) | exact HB.out)))); (case aL => have := LM.out; omega); intro v186 w23 ho hb hg hat; have n0_ := Aside0.mk hb; have n1_ := Aside0.mk ho; clear HB HO; have HB := n0_; have HO := n1_; clear n0_ n1_; clear ho hb hg hat))
       refine wp_goto ?_
       exact lexGoto (J := lexJ _ c0 l0 (r1, r2, r3) w) (n' := k) (show k < k + 2 from Nat.lt_add_of_pos_right (by decide)) (lexJ_mk (l := 0) H (by (with_reducible repeat (first | apply Kd.R_alloc | apply Kd.R_drewN | apply Kd.R_drew)); exact HO.out) (by repeat (first | (with_reducible first | exact HB.out | apply below_alloc | apply pw_below_drewN | apply below_drew1) | exact HB.out)))
      ·
       rw [if_neg c1] at H
       exact absurd H (by simp)
   | 3 =>
    refine ⟨_, rfl, ?_⟩
    change impl_Lex.db n l0 o p st cd = some (r1, r2, r3) at H
    cases n with
    | zero => exact absurd H (by simp [impl_Lex.db])
    | succ k =>
     simp only [impl_Lex.db] at H
     cases k with
     | zero => exact absurd H (by simp [impl_Lex.sg])
     | succ k =>
      simp only [impl_Lex.sg] at H
      cases k with
      | zero => exact absurd H (by simp [impl_Lex.tk])
      | succ k =>
       simp only [impl_Lex.tk] at H
       by_cases c1 : o.length < 5864062014805
       ·
        rw [if_pos c1] at H
        have LM := Aside0.mk c1
        clear c1
        go_wp2
        refine wp_label ?_
        rename_i hK_
        refine hK_ _ _ ?_
        clear hK_
        go_wp2
        refine wp_label ?_
        rename_i hK_
        refine hK_ _ _ ?_
        clear hK_
        go_wp2_with (first | ((with_reducible refine gate_builtin (b := .append) (xs := #[.tmp 192, .tmp 199]) rfl ?_); (try (refine gate_guard (by rfl) ?_; dsimp only)); at_builtin; refine Kd.R_append k38 (w0 := w) w.heap.size rfl (.tmp 192) (.tmp 199) 32 38 (.agg #[(.int .i64 0), (.int .i64 0), (.int .i64 0)]) 24 rfl Try.underlying32 info38 rfl (by decide) (by omega) v5 o (⟨5, st, wrap64 ((wrap64 (wrap64 (p + 1) + 1)) - st)⟩ : S38) [.int .i64 5, .int .i64 st, .int .i64 (wrap64 ((wrap64 (wrap64 (p + 1) + 1)) - st))] (fun _ => True) (fun _ => False) rfl rfl ?aP (fun _ hk => hk.elim) ?aF ?aO ?aB ?aS ?aL ?_; (case aP => exact k38_mkM _ _ _ (⟨5, st, wrap64 ((wrap64 (wrap64 (p + 1) + 1)) - st)⟩ : S38)); (case aB => exact (by repeat (first | (with_reducible first | exact HB.out | apply below_alloc | apply pw_below_drewN | apply below_drew1) | exact HB.out))); (case aF => exact (fun _ _ => trivial)); (case aO => exact (by (with_reducible repeat (first | apply Kd.R_alloc | apply Kd.R_drewN | apply Kd.R_drew)); exact HO.out)); (case aS => exact (below_size (by repeat (first | (with_reducible first | exact HB.out | apply below_alloc | apply pw_below_drewN | apply below_drew1) | exact HB.out)))); (case aL => have := LM.out; omega); intro v186 w23 ho hb hg hat; have n0_ := Aside0.mk hb; have n1_ := Aside0.mk ho; clear HB HO; have HB := n0_; have HO := n1_; clear n0_ n1_; clear ho hb hg hat))
        refine wp_goto ?_
        exact lexGoto (J := lexJ _ c0 l0 (r1, r2, r3) w) (n' := k) (show k < k + 3 from Nat.lt_add_of_pos_right (by decide)) (lexJ_mk (l := 0) H (by (with_reducible repeat (first | apply Kd.R_alloc | apply Kd.R_drewN | apply Kd.R_drew)); exact HO.out) (by repeat (first | (with_reducible first | exact HB.out | apply below_alloc | apply pw_below_drewN | apply below_drew1) | exact HB.out)))
       ·
        rw [if_neg c1] at H
        exact absurd H (by simp)
   | 4 =>
    refine ⟨_, rfl, ?_⟩
    change some (([] : List (S38)), cd, st) = some (r1, r2, r3) at H
    simp only [Option.some.injEq, Prod.mk.injEq] at H
    obtain ⟨rfl, rfl, rfl⟩ := H
    go_wp2
    refine lexRet ?_
    go_ret3
    exact ⟨_, rfl, Kd.R_nil _ _ _ _ _, HB.out⟩
   | 5 =>
    refine ⟨_, rfl, ?_⟩
    change impl_Lex.rn n l0 o p st kd cd = some (r1, r2, r3) at H
    cases n with
    | zero => exact absurd H (by simp [impl_Lex.rn])
    | succ k =>
     simp only [impl_Lex.rn] at H
     by_cases c59 : p < (l0.length : Int)
     ·
      rw [if_pos c59] at H
      have c59b : decide (p < (l0.length : Int)) = true := decide_eq_true c59
      clear c59
      by_cases c60 : 0 ≤ p
      ·
       rw [if_pos c60] at H
       have c60b : decide (0 ≤ p) = true := decide_eq_true c60
       have c60e := eq_true c60
       clear c60
       have pp61 : 0 ≤ (p : Int) := (of_decide_eq_true (by first | (with_reducible assumption) | assumption))
       have qq61 : p < (l0.length : Int) := (of_decide_eq_true (by first | (with_reducible assumption) | assumption))
       obtain ⟨ad61, ea61, hx61⟩ := Kd.at_int (Kd.C_below HR0.out HB.out) p pp61 qq61
       subst ea61
       replace pp61 := eq_true pp61
       replace qq61 := eq_true qq61
       replace H := Option.bind_eq_some_iff.mp H
       obtain ⟨t62, A620, H⟩ := H
       have A62 := Aside0.mk A620
       clear A620
       try dsimp only at H
       cases t62
       ·
        rw [if_neg (show ¬ (false = true) by decide)] at H
        replace H := Option.bind_eq_some_iff.mp H
        obtain ⟨t63, A630, H⟩ := H
        have A63 := Aside0.mk A630
        clear A630
        try dsimp only at H
        cases t63
        ·
         rw [if_neg (show ¬ (false = true) by decide)] at H
         by_cases c64 : kd = 2
         ·
          rw [if_pos c64] at H
          have c64b : (kd == 2) = true := beq_iff_eq.mpr c64
          have c64n : (kd != 2) = false := bne_eq_false_iff_eq.mpr c64
          clear c64
          by_cases c65 : 0 ≤ st
          ·
           rw [if_pos c65] at H
           have c65b : decide (0 ≤ st) = true := decide_eq_true c65
           have c65e := eq_true c65
           clear c65
           by_cases c66 : st ≤ p
           ·
            rw [if_pos c66] at H
            have c66b : decide (st ≤ p) = true := decide_eq_true c66
            have c66e := eq_true c66
            clear c66
            by_cases c67 : p ≤ (l0.length : Int)
            ·
             rw [if_pos c67] at H
             have c67b : decide (p ≤ (l0.length : Int)) = true := decide_eq_true c67
             have c67e := eq_true c67
             clear c67
             replace H := Option.bind_eq_some_iff.mp H
             obtain ⟨⟨ts68, tn68⟩, A680, H⟩ := H
             have A68 := Aside0.mk A680
             clear A680
             try dsimp only at H
             obtain ⟨i068, hi068, _, hsz68, _⟩ := info_parts info5
             obtain ⟨AA68, hcut68, hA68, hC68⟩ := print_mid_of (P := Try.prog) (Value.int .u8) 0 23 5 .i64 .i64 Try.underlying23 hi068 hsz68 (some ad61) c0 l0 st p (of_decide_eq_true (by first | (with_reducible assumption) | assumption)) (of_decide_eq_true (by first | (with_reducible assumption) | assumption)) (of_decide_eq_true (by first | (with_reducible assumption) | assumption)) HC0.out
             have HR68 := Aside0.mk (Kd.C_of_reads (h1 := fun _ => rfl) (hA68 _ (Kd.reads_of_C (Kd.C_below HR0.out HB.out))))
             have HC68 := Aside0.mk hC68
             clear hA68 hC68 hi068 hsz68
             have hcv68 := fun nd_ => Kd.C_string (P := Try.prog) (A := AA68) (c := (c0 - (st : Int).toNat)) Try.underlying23 Try.underlying5 Try.underlying9 (Kd.C_drewN HR68.out nd_)
             rw [lex_midlen _ _ _ (of_decide_eq_true (by first | (with_reducible assumption) | assumption))] at hcv68
             have hcvp68 := Kd.C_string (P := Try.prog) (A := AA68) (c := (c0 - (st : Int).toNat)) Try.underlying23 Try.underlying5 Try.underlying9 HR68.out
             rw [lex_midlen _ _ _ (of_decide_eq_true (by first | (with_reducible assumption) | assumption))] at hcvp68
             have HX_ := Aside0.mk (Below.refl wr.heap.size wr)
             by_cases c69 : tn68 = 0
             ·
              rw [if_pos c69] at H
              have c69b : (tn68 == 0) = true := beq_iff_eq.mpr c69
              have c69n : (tn68 != 0) = false := bne_eq_false_iff_eq.mpr c69
              clear c69
              go_wp2_with (first | (go_at_call 32; (with_reducible refine (impl_isLetter.calls (rd l0 p) false _ A62.out).mono ?_); rintro e w' ⟨rfl, ⟨nd, rfl⟩⟩) | (go_at_call 33; (with_reducible refine (impl_isDigit.calls (rd l0 p) false _ A63.out).mono ?_); rintro e w' ⟨rfl, ⟨nd, rfl⟩⟩) | (go_at_call 16; (try rw [← lex_midlen l0 st p (of_decide_eq_true (by first | (with_reducible assumption) | assumption))]); (with_reducible refine (impl_ScanInt.calls k (fun k_ => k_ < wr.heap.size) _ _ ((l0.take (p : Int).toNat).drop (st : Int).toNat) ts68 tn68 _ ?side1 A68.out).mono ?_); (case side1 => exact Kd.V_mk HC68.out (Kd.F_below (Kd.C_F (Kd.heap_int .u8) HR68.out) (by repeat (first | (with_reducible first | exact HX_.out | apply below_alloc | apply pw_below_drewN | apply below_drew1) | exact HX_.out)))); rintro e w168 ⟨rfl, hb⟩; have n0_ := Aside0.mk (Kd.R_below (by (with_reducible repeat (first | apply Kd.R_alloc | apply Kd.R_drewN | apply Kd.R_drew)); exact HO.out) hb); have n1_ := Aside0.mk (below_step (by repeat (first | (with_reducible first | exact HB.out | apply below_alloc | apply pw_below_drewN | apply below_drew1) | exact HB.out)) hb); clear HO HB; have HO := n0_; have HB := n1_; clear n0_ n1_; clear hb) | (go_at_call 35; (with_reducible refine (impl_isKeyword.calls (strOfNums ((l0.take (p : Int).toNat).drop (st : Int).toNat)) _ ?sidek ?sidem).mono ?_); (case sidek => exact KS.out); (case sidem => exact MaxLenCell.below HM.out (by repeat (first | (with_reducible first | exact HB.out | apply below_alloc | apply pw_below_drewN | apply below_drew1) | exact HB.out)) HN.out); rintro e w' ⟨rfl, hb⟩; have n0_ := Aside0.mk (Kd.R_below (by (with_reducible repeat (first | apply Kd.R_alloc | apply Kd.R_drewN | apply Kd.R_drew)); exact HO.out) hb); have n1_ := Aside0.mk (below_step (by repeat (first | (with_reducible first | exact HB.out | apply below_alloc | apply pw_below_drewN | apply below_drew1) | exact HB.out)) hb); clear HO HB; have HO := n0_; have HB := n1_; clear n0_ n1_; clear hb))
              refine wp_goto ?_
              exact lexGoto (J := lexJ _ c0 l0 (r1, r2, r3) w) (n' := k) (Nat.lt_succ_self _) (lexJ_mk (l := 6) H (by (with_reducible repeat (first | apply Kd.R_alloc | apply Kd.R_drewN | apply Kd.R_drew)); exact HO.out) (by repeat (first | (with_reducible first | exact HB.out | apply below_alloc | apply pw_below_drewN | apply below_drew1) | exact HB.out)))
             ·
              rw [if_neg c69] at H
              have c69b : (tn68 == 0) = false := beq_eq_false_iff_ne.mpr c69
              have c69n : (tn68 != 0) = true := bne_iff_ne.mpr c69
              clear c69
              go_wp2_with (first | (go_at_call 32; (with_reducible refine (impl_isLetter.calls (rd l0 p) false _ A62.out).mono ?_); rintro e w' ⟨rfl, ⟨nd, rfl⟩⟩) | (go_at_call 33; (with_reducible refine (impl_isDigit.calls (rd l0 p) false _ A63.out).mono ?_); rintro e w' ⟨rfl, ⟨nd, rfl⟩⟩) | (go_at_call 16; (try rw [← lex_midlen l0 st p (of_decide_eq_true (by first | (with_reducible assumption) | assumption))]); (with_reducible refine (impl_ScanInt.calls k (fun k_ => k_ < wr.heap.size) _ _ ((l0.take (p : Int).toNat).drop (st : Int).toNat) ts68 tn68 _ ?side1 A68.out).mono ?_); (case side1 => exact Kd.V_mk HC68.out (Kd.F_below (Kd.C_F (Kd.heap_int .u8) HR68.out) (by repeat (first | (with_reducible first | exact HX_.out | apply below_alloc | apply pw_below_drewN | apply below_drew1) | exact HX_.out)))); rintro e w168 ⟨rfl, hb⟩; have n0_ := Aside0.mk (Kd.R_below (by (with_reducible repeat (first | apply Kd.R_alloc | apply Kd.R_drewN | apply Kd.R_drew)); exact HO.out) hb); have n1_ := Aside0.mk (below_step (by repeat (first | (with_reducible first | exact HB.out | apply below_alloc | apply pw_below_drewN | apply below_drew1) | exact HB.out)) hb); clear HO HB; have HO := n0_; have HB := n1_; clear n0_ n1_; clear hb) | (go_at_call 35; (with_reducible refine (impl_isKeyword.calls (strOfNums ((l0.take (p : Int).toNat).drop (st : Int).toNat)) _ ?sidek ?sidem).mono ?_); (case sidek => exact KS.out); (case sidem => exact MaxLenCell.below HM.out (by repeat (first | (with_reducible first | exact HB.out | apply below_alloc | apply pw_below_drewN | apply below_drew1) | exact HB.out)) HN.out); rintro e w' ⟨rfl, hb⟩; have n0_ := Aside0.mk (Kd.R_below (by (with_reducible repeat (first | apply Kd.R_alloc | apply Kd.R_drewN | apply Kd.R_drew)); exact HO.out) hb); have n1_ := Aside0.mk (below_step (by repeat (first | (with_reducible first | exact HB.out | apply below_alloc | apply pw_below_drewN | apply below_drew1) | exact HB.out)) hb); clear HO HB; have HO := n0_; have HB := n1_; clear n0_ n1_; clear hb))
              refine wp_goto ?_
              exact lexGoto (J := lexJ _ c0 l0 (r1, r2, r3) w) (n' := k) (Nat.lt_succ_self _) (lexJ_mk (l := 4) H (by (with_reducible repeat (first | apply Kd.R_alloc | apply Kd.R_drewN | apply Kd.R_drew)); exact HO.out) (by repeat (first | (with_reducible first | exact HB.out | apply below_alloc | apply pw_below_drewN | apply below_drew1) | exact HB.out)))
            ·
             rw [if_neg c67] at H
             exact absurd H (by simp)
           ·
            rw [if_neg c66] at H
            exact absurd H (by simp)
          ·
           rw [if_neg c65] at H
           exact absurd H (by simp)
         ·
          rw [if_neg c64] at H
          have c64b : (kd == 2) = false := beq_eq_false_iff_ne.mpr c64
          have c64n : (kd != 2) = true := bne_iff_ne.mpr c64
          clear c64
          by_cases c70 : 0 ≤ st
          ·
           rw [if_pos c70] at H
           have c70b : decide (0 ≤ st) = true := decide_eq_true c70
           have c70e := eq_true c70
           clear c70
           by_cases c71 : st ≤ p
           ·
            rw [if_pos c71] at H
            have c71b : decide (st ≤ p) = true := decide_eq_true c71
            have c71e := eq_true c71
            clear c71
            by_cases c72 : p ≤ (l0.length : Int)
            ·
             rw [if_pos c72] at H
             have c72b : decide (p ≤ (l0.length : Int)) = true := decide_eq_true c72
             have c72e := eq_true c72
             clear c72
             obtain ⟨i073, hi073, _, hsz73, _⟩ := info_parts info5
             obtain ⟨AA73, hcut73, hA73, hC73⟩ := print_mid_of (P := Try.prog) (Value.int .u8) 0 23 5 .i64 .i64 Try.underlying23 hi073 hsz73 (some ad61) c0 l0 st p (of_decide_eq_true (by first | (with_reducible assumption) | assumption)) (of_decide_eq_true (by first | (with_reducible assumption) | assumption)) (of_decide_eq_true (by first | (with_reducible assumption) | assumption)) HC0.out
             have HR73 := Aside0.mk (Kd.C_of_reads (h1 := fun _ => rfl) (hA73 _ (Kd.reads_of_C (Kd.C_below HR0.out HB.out))))
             have HC73 := Aside0.mk hC73
             clear hA73 hC73 hi073 hsz73
             have hcv73 := fun nd_ => Kd.C_string (P := Try.prog) (A := AA73) (c := (c0 - (st : Int).toNat)) Try.underlying23 Try.underlying5 Try.underlying9 (Kd.C_drewN HR73.out nd_)
             rw [lex_midlen _ _ _ (of_decide_eq_true (by first | (with_reducible assumption) | assumption))] at hcv73
             have hcvp73 := Kd.C_string (P := Try.prog) (A := AA73) (c := (c0 - (st : Int).toNat)) Try.underlying23 Try.underlying5 Try.underlying9 HR73.out
             rw [lex_midlen _ _ _ (of_decide_eq_true (by first | (with_reducible assumption) | assumption))] at hcvp73
             have HX_ := Aside0.mk (Below.refl wr.heap.size wr)
             have KS := Aside0.mk (show (strOfNums ((l0.take (p : Int).toNat).drop (st : Int).toNat)).size ≤ 6000 from by rw [strOfNums_size, List.length_drop, List.length_take]; have := LE.out; omega)
             by_cases c73 : isKw (strOfNums ((l0.take p.toNat).drop st.toNat)) = true
             ·
              rw [if_pos c73] at H
              have c73b := c73
              have c73k := c73b
              clear c73
              go_wp2_with (first | (go_at_call 32; (with_reducible refine (impl_isLetter.calls (rd l0 p) false _ A62.out).mono ?_); rintro e w' ⟨rfl, ⟨nd, rfl⟩⟩) | (go_at_call 33; (with_reducible refine (impl_isDigit.calls (rd l0 p) false _ A63.out).mono ?_); rintro e w' ⟨rfl, ⟨nd, rfl⟩⟩) | (go_at_call 35; (with_reducible refine (impl_isKeyword.calls (strOfNums ((l0.take (p : Int).toNat).drop (st : Int).toNat)) _ ?sidek ?sidem).mono ?_); (case sidek => exact KS.out); (case sidem => exact MaxLenCell.below HM.out (by repeat (first | (with_reducible first | exact HB.out | apply below_alloc | apply pw_below_drewN | apply below_drew1) | exact HB.out)) HN.out); rintro e w' ⟨rfl, hb⟩; have n0_ := Aside0.mk (Kd.R_below (by (with_reducible repeat (first | apply Kd.R_alloc | apply Kd.R_drewN | apply Kd.R_drew)); exact HO.out) hb); have n1_ := Aside0.mk (below_step (by repeat (first | (with_reducible first | exact HB.out | apply below_alloc | apply pw_below_drewN | apply below_drew1) | exact HB.out)) hb); clear HO HB; have HO := n0_; have HB := n1_; clear n0_ n1_; clear hb))
              refine wp_goto ?_
              exact lexGoto (J := lexJ _ c0 l0 (r1, r2, r3) w) (n' := k) (Nat.lt_succ_self _) (lexJ_mk (l := 6) H (by (with_reducible repeat (first | apply Kd.R_alloc | apply Kd.R_drewN | apply Kd.R_drew)); exact HO.out) (by repeat (first | (with_reducible first | exact HB.out | apply below_alloc | apply pw_below_drewN | apply below_drew1) | exact HB.out)))
             ·
              rw [if_neg c73] at H
              have c73b := Bool.eq_false_iff.mpr c73
              have c73k := c73b
              clear c73
              go_wp2_with (first | (go_at_call 32; (with_reducible refine (impl_isLetter.calls (rd l0 p) false _ A62.out).mono ?_); rintro e w' ⟨rfl, ⟨nd, rfl⟩⟩) | (go_at_call 33; (with_reducible refine (impl_isDigit.calls (rd l0 p) false _ A63.out).mono ?_); rintro e w' ⟨rfl, ⟨nd, rfl⟩⟩) | (go_at_call 35; (with_reducible refine (impl_isKeyword.calls (strOfNums ((l0.take (p : Int).toNat).drop (st : Int).toNat)) _ ?sidek ?sidem).mono ?_); (case sidek => exact KS.out); (case sidem => exact MaxLenCell.below HM.out (by repeat (first | (with_reducible first | exact HB.out | apply below_alloc | apply pw_below_drewN | apply below_drew1) | exact HB.out)) HN.out); rintro e w' ⟨rfl, hb⟩; have n0_ := Aside0.mk (Kd.R_below (by (with_reducible repeat (first | apply Kd.R_alloc | apply Kd.R_drewN | apply Kd.R_drew)); exact HO.out) hb); have n1_ := Aside0.mk (below_step (by repeat (first | (with_reducible first | exact HB.out | apply below_alloc | apply pw_below_drewN | apply below_drew1) | exact HB.out)) hb); clear HO HB; have HO := n0_; have HB := n1_; clear n0_ n1_; clear hb))
              refine wp_goto ?_
              exact lexGoto (J := lexJ _ c0 l0 (r1, r2, r3) w) (n' := k) (Nat.lt_succ_self _) (lexJ_mk (l := 6) H (by (with_reducible repeat (first | apply Kd.R_alloc | apply Kd.R_drewN | apply Kd.R_drew)); exact HO.out) (by repeat (first | (with_reducible first | exact HB.out | apply below_alloc | apply pw_below_drewN | apply below_drew1) | exact HB.out)))
            ·
             rw [if_neg c72] at H
             exact absurd H (by simp)
           ·
            rw [if_neg c71] at H
            exact absurd H (by simp)
          ·
           rw [if_neg c70] at H
           exact absurd H (by simp)
        ·
         rw [if_pos rfl] at H
         go_wp2_with (first | (go_at_call 32; (with_reducible refine (impl_isLetter.calls (rd l0 p) false _ A62.out).mono ?_); rintro e w' ⟨rfl, ⟨nd, rfl⟩⟩) | (go_at_call 33; (with_reducible refine (impl_isDigit.calls (rd l0 p) true _ A63.out).mono ?_); rintro e w' ⟨rfl, ⟨nd, rfl⟩⟩) | (go_at_call 35; (with_reducible refine (impl_isKeyword.calls (strOfNums ((l0.take (p : Int).toNat).drop (st : Int).toNat)) _ ?sidek ?sidem).mono ?_); (case sidek => exact KS.out); (case sidem => exact MaxLenCell.below HM.out (by repeat (first | (with_reducible first | exact HB.out | apply below_alloc | apply pw_below_drewN | apply below_drew1) | exact HB.out)) HN.out); rintro e w' ⟨rfl, hb⟩; have n0_ := Aside0.mk (Kd.R_below (by (with_reducible repeat (first | apply Kd.R_alloc | apply Kd.R_drewN | apply Kd.R_drew)); exact HO.out) hb); have n1_ := Aside0.mk (below_step (by repeat (first | (with_reducible first | exact HB.out | apply below_alloc | apply pw_below_drewN | apply below_drew1) | exact HB.out)) hb); clear HO HB; have HO := n0_; have HB := n1_; clear n0_ n1_; clear hb))
         refine wp_goto ?_
         exact lexGoto (J := lexJ _ c0 l0 (r1, r2, r3) w) (n' := k) (Nat.lt_succ_self _) (lexJ_mk (l := 5) H (by (with_reducible repeat (first | apply Kd.R_alloc | apply Kd.R_drewN | apply Kd.R_drew)); exact HO.out) (by repeat (first | (with_reducible first | exact HB.out | apply below_alloc | apply pw_below_drewN | apply below_drew1) | exact HB.out)))
       ·
        rw [if_pos rfl] at H
        go_wp2_with (first | (go_at_call 32; (with_reducible refine (impl_isLetter.calls (rd l0 p) true _ A62.out).mono ?_); rintro e w' ⟨rfl, ⟨nd, rfl⟩⟩) | (go_at_call 35; (with_reducible refine (impl_isKeyword.calls (strOfNums ((l0.take (p : Int).toNat).drop (st : Int).toNat)) _ ?sidek ?sidem).mono ?_); (case sidek => exact KS.out); (case sidem => exact MaxLenCell.below HM.out (by repeat (first | (with_reducible first | exact HB.out | apply below_alloc | apply pw_below_drewN | apply below_drew1) | exact HB.out)) HN.out); rintro e w' ⟨rfl, hb⟩; have n0_ := Aside0.mk (Kd.R_below (by (with_reducible repeat (first | apply Kd.R_alloc | apply Kd.R_drewN | apply Kd.R_drew)); exact HO.out) hb); have n1_ := Aside0.mk (below_step (by repeat (first | (with_reducible first | exact HB.out | apply below_alloc | apply pw_below_drewN | apply below_drew1) | exact HB.out)) hb); clear HO HB; have HO := n0_; have HB := n1_; clear n0_ n1_; clear hb))
        refine wp_goto ?_
        exact lexGoto (J := lexJ _ c0 l0 (r1, r2, r3) w) (n' := k) (Nat.lt_succ_self _) (lexJ_mk (l := 5) H (by (with_reducible repeat (first | apply Kd.R_alloc | apply Kd.R_drewN | apply Kd.R_drew)); exact HO.out) (by repeat (first | (with_reducible first | exact HB.out | apply below_alloc | apply pw_below_drewN | apply below_drew1) | exact HB.out)))
      ·
       rw [if_neg c60] at H
       exact absurd H (by simp)
     ·
      rw [if_neg c59] at H
      have c59b : decide (p < (l0.length : Int)) = false := decide_eq_false c59
      clear c59
      by_cases c74 : kd = 2
      ·
       rw [if_pos c74] at H
       have c74b : (kd == 2) = true := beq_iff_eq.mpr c74
       have c74n : (kd != 2) = false := bne_eq_false_iff_eq.mpr c74
       clear c74
       by_cases c75 : 0 ≤ st
       ·
        rw [if_pos c75] at H
        have c75b : decide (0 ≤ st) = true := decide_eq_true c75
        have c75e := eq_true c75
        clear c75
        by_cases c76 : st ≤ p
        ·
         rw [if_pos c76] at H
         have c76b : decide (st ≤ p) = true := decide_eq_true c76
         have c76e := eq_true c76
         clear c76
         by_cases c77 : p ≤ (l0.length : Int)
         ·
          rw [if_pos c77] at H
          have c77b : decide (p ≤ (l0.length : Int)) = true := decide_eq_true c77
          have c77e := eq_true c77
          clear c77
          replace H := Option.bind_eq_some_iff.mp H
          obtain ⟨⟨ts78, tn78⟩, A780, H⟩ := H
          have A78 := Aside0.mk A780
          clear A780
          try dsimp only at H
          obtain ⟨i078, hi078, _, hsz78, _⟩ := info_parts info5
          obtain ⟨AA78, hcut78, hA78, hC78⟩ := print_mid_of (P := Try.prog) (Value.int .u8) 0 23 5 .i64 .i64 Try.underlying23 hi078 hsz78 A0 c0 l0 st p (of_decide_eq_true (by first | (with_reducible assumption) | assumption)) (of_decide_eq_true (by first | (with_reducible assumption) | assumption)) (of_decide_eq_true (by first | (with_reducible assumption) | assumption)) HC0.out
          have HR78 := Aside0.mk (Kd.C_of_reads (h1 := fun _ => rfl) (hA78 _ (Kd.reads_of_C (Kd.C_below HR0.out HB.out))))
          have HC78 := Aside0.mk hC78
          clear hA78 hC78 hi078 hsz78
          have hcv78 := fun nd_ => Kd.C_string (P := Try.prog) (A := AA78) (c := (c0 - (st : Int).toNat)) Try.underlying23 Try.underlying5 Try.underlying9 (Kd.C_drewN HR78.out nd_)
          rw [lex_midlen _ _ _ (of_decide_eq_true (by first | (with_reducible assumption) | assumption))] at hcv78
          have hcvp78 := Kd.C_string (P := Try.prog) (A := AA78) (c := (c0 - (st : Int).toNat)) Try.underlying23 Try.underlying5 Try.underlying9 HR78.out
          rw [lex_midlen _ _ _ (of_decide_eq_true (by first | (with_reducible assumption) | assumption))] at hcvp78
          have HX_ := Aside0.mk (Below.refl wr.heap.size wr)
          by_cases c79 : tn78 = 0
          ·
           rw [if_pos c79] at H
           have c79b : (tn78 == 0) = true := beq_iff_eq.mpr c79
           have c79n : (tn78 != 0) = false := bne_eq_false_iff_eq.mpr c79
           clear c79
           go_wp2_with (first | (go_at_call 16; (try rw [← lex_midlen l0 st p (of_decide_eq_true (by first | (with_reducible assumption) | assumption))]); (with_reducible refine (impl_ScanInt.calls k (fun k_ => k_ < wr.heap.size) _ _ ((l0.take (p : Int).toNat).drop (st : Int).toNat) ts78 tn78 _ ?side1 A78.out).mono ?_); (case side1 => exact Kd.V_mk HC78.out (Kd.F_below (Kd.C_F (Kd.heap_int .u8) HR78.out) (by repeat (first | (with_reducible first | exact HX_.out | apply below_alloc | apply pw_below_drewN | apply below_drew1) | exact HX_.out)))); rintro e w178 ⟨rfl, hb⟩; have n0_ := Aside0.mk (Kd.R_below (by (with_reducible repeat (first | apply Kd.R_alloc | apply Kd.R_drewN | apply Kd.R_drew)); exact HO.out) hb); have n1_ := Aside0.mk (below_step (by repeat (first | (with_reducible first | exact HB.out | apply below_alloc | apply pw_below_drewN | apply below_drew1) | exact HB.out)) hb); clear HO HB; have HO := n0_; have HB := n1_; clear n0_ n1_; clear hb) | (go_at_call 35; (with_reducible refine (impl_isKeyword.calls (strOfNums ((l0.take (p : Int).toNat).drop (st : Int).toNat)) _ ?sidek ?sidem).mono ?_); (case sidek => exact KS.out); (case sidem => exact MaxLenCell.below HM.out (by repeat (first | (with_reducible first | exact HB.out | apply below_alloc | apply pw_below_drewN | apply below_drew1) | exact HB.out)) HN.out); rintro e w' ⟨rfl, hb⟩; have n0_ := Aside0.mk (Kd.R_below (by (with_reducible repeat (first | apply Kd.R_alloc | apply Kd.R_drewN | apply Kd.R_drew)); exact HO.out) hb); have n1_ := Aside0.mk (below_step (by repeat (first | (with_reducible first | exact HB.out | apply below_alloc | apply pw_below_drewN | apply below_drew1) | exact HB.out)) hb); clear HO HB; have HO := n0_; have HB := n1_; clear n0_ n1_; clear hb))
           refine wp_goto ?_
           exact lexGoto (J := lexJ _ c0 l0 (r1, r2, r3) w) (n' := k) (Nat.lt_succ_self _) (lexJ_mk (l := 6) H (by (with_reducible repeat (first | apply Kd.R_alloc | apply Kd.R_drewN | apply Kd.R_drew)); exact HO.out) (by repeat (first | (with_reducible first | exact HB.out | apply below_alloc | apply pw_below_drewN | apply below_drew1) | exact HB.out)))
          ·
           rw [if_neg c79] at H
           have c79b : (tn78 == 0) = false := beq_eq_false_iff_ne.mpr c79
           have c79n : (tn78 != 0) = true := bne_iff_ne.mpr c79
           clear c79
           go_wp2_with (first | (go_at_call 16; (try rw [← lex_midlen l0 st p (of_decide_eq_true (by first | (with_reducible assumption) | assumption))]); (with_reducible refine (impl_ScanInt.calls k (fun k_ => k_ < wr.heap.size) _ _ ((l0.take (p : Int).toNat).drop (st : Int).toNat) ts78 tn78 _ ?side1 A78.out).mono ?_); (case side1 => exact Kd.V_mk HC78.out (Kd.F_below (Kd.C_F (Kd.heap_int .u8) HR78.out) (by repeat (first | (with_reducible first | exact HX_.out | apply below_alloc | apply pw_below_drewN | apply below_drew1) | exact HX_.out)))); rintro e w178 ⟨rfl, hb⟩; have n0_ := Aside0.mk (Kd.R_below (by (with_reducible repeat (first | apply Kd.R_alloc | apply Kd.R_drewN | apply Kd.R_drew)); exact HO.out) hb); have n1_ := Aside0.mk (below_step (by repeat (first | (with_reducible first | exact HB.out | apply below_alloc | apply pw_below_drewN | apply below_drew1) | exact HB.out)) hb); clear HO HB; have HO := n0_; have HB := n1_; clear n0_ n1_; clear hb) | (go_at_call 35; (with_reducible refine (impl_isKeyword.calls (strOfNums ((l0.take (p : Int).toNat).drop (st : Int).toNat)) _ ?sidek ?sidem).mono ?_); (case sidek => exact KS.out); (case sidem => exact MaxLenCell.below HM.out (by repeat (first | (with_reducible first | exact HB.out | apply below_alloc | apply pw_below_drewN | apply below_drew1) | exact HB.out)) HN.out); rintro e w' ⟨rfl, hb⟩; have n0_ := Aside0.mk (Kd.R_below (by (with_reducible repeat (first | apply Kd.R_alloc | apply Kd.R_drewN | apply Kd.R_drew)); exact HO.out) hb); have n1_ := Aside0.mk (below_step (by repeat (first | (with_reducible first | exact HB.out | apply below_alloc | apply pw_below_drewN | apply below_drew1) | exact HB.out)) hb); clear HO HB; have HO := n0_; have HB := n1_; clear n0_ n1_; clear hb))
           refine wp_goto ?_
           exact lexGoto (J := lexJ _ c0 l0 (r1, r2, r3) w) (n' := k) (Nat.lt_succ_self _) (lexJ_mk (l := 4) H (by (with_reducible repeat (first | apply Kd.R_alloc | apply Kd.R_drewN | apply Kd.R_drew)); exact HO.out) (by repeat (first | (with_reducible first | exact HB.out | apply below_alloc | apply pw_below_drewN | apply below_drew1) | exact HB.out)))
         ·
          rw [if_neg c77] at H
          exact absurd H (by simp)
        ·
         rw [if_neg c76] at H
         exact absurd H (by simp)
       ·
        rw [if_neg c75] at H
        exact absurd H (by simp)
      ·
       rw [if_neg c74] at H
       have c74b : (kd == 2) = false := beq_eq_false_iff_ne.mpr c74
       have c74n : (kd != 2) = true := bne_iff_ne.mpr c74
       clear c74
       by_cases c80 : 0 ≤ st
       ·
        rw [if_pos c80] at H
        have c80b : decide (0 ≤ st) = true := decide_eq_true c80
        have c80e := eq_true c80
        clear c80
        by_cases c81 : st ≤ p
        ·
         rw [if_pos c81] at H
         have c81b : decide (st ≤ p) = true := decide_eq_true c81
         have c81e := eq_true c81
         clear c81
         by_cases c82 : p ≤ (l0.length : Int)
         ·
          rw [if_pos c82] at H
          have c82b : decide (p ≤ (l0.length : Int)) = true := decide_eq_true c82
          have c82e := eq_true c82
          clear c82
          obtain ⟨i083, hi083, _, hsz83, _⟩ := info_parts info5
          obtain ⟨AA83, hcut83, hA83, hC83⟩ := print_mid_of (P := Try.prog) (Value.int .u8) 0 23 5 .i64 .i64 Try.underlying23 hi083 hsz83 A0 c0 l0 st p (of_decide_eq_true (by first | (with_reducible assumption) | assumption)) (of_decide_eq_true (by first | (with_reducible assumption) | assumption)) (of_decide_eq_true (by first | (with_reducible assumption) | assumption)) HC0.out
          have HR83 := Aside0.mk (Kd.C_of_reads (h1 := fun _ => rfl) (hA83 _ (Kd.reads_of_C (Kd.C_below HR0.out HB.out))))
          have HC83 := Aside0.mk hC83
          clear hA83 hC83 hi083 hsz83
          have hcv83 := fun nd_ => Kd.C_string (P := Try.prog) (A := AA83) (c := (c0 - (st : Int).toNat)) Try.underlying23 Try.underlying5 Try.underlying9 (Kd.C_drewN HR83.out nd_)
          rw [lex_midlen _ _ _ (of_decide_eq_true (by first | (with_reducible assumption) | assumption))] at hcv83
          have hcvp83 := Kd.C_string (P := Try.prog) (A := AA83) (c := (c0 - (st : Int).toNat)) Try.underlying23 Try.underlying5 Try.underlying9 HR83.out
          rw [lex_midlen _ _ _ (of_decide_eq_true (by first | (with_reducible assumption) | assumption))] at hcvp83
          have HX_ := Aside0.mk (Below.refl wr.heap.size wr)
          have KS := Aside0.mk (show (strOfNums ((l0.take (p : Int).toNat).drop (st : Int).toNat)).size ≤ 6000 from by rw [strOfNums_size, List.length_drop, List.length_take]; have := LE.out; omega)
          by_cases c83 : isKw (strOfNums ((l0.take p.toNat).drop st.toNat)) = true
          ·
           rw [if_pos c83] at H
           have c83b := c83
           have c83k := c83b
           clear c83
           go_wp2_with (first | (go_at_call 35; (with_reducible refine (impl_isKeyword.calls (strOfNums ((l0.take (p : Int).toNat).drop (st : Int).toNat)) _ ?sidek ?sidem).mono ?_); (case sidek => exact KS.out); (case sidem => exact MaxLenCell.below HM.out (by repeat (first | (with_reducible first | exact HB.out | apply below_alloc | apply pw_below_drewN | apply below_drew1) | exact HB.out)) HN.out); rintro e w' ⟨rfl, hb⟩; have n0_ := Aside0.mk (Kd.R_below (by (with_reducible repeat (first | apply Kd.R_alloc | apply Kd.R_drewN | apply Kd.R_drew)); exact HO.out) hb); have n1_ := Aside0.mk (below_step (by repeat (first | (with_reducible first | exact HB.out | apply below_alloc | apply pw_below_drewN | apply below_drew1) | exact HB.out)) hb); clear HO HB; have HO := n0_; have HB := n1_; clear n0_ n1_; clear hb))
           refine wp_goto ?_
           exact lexGoto (J := lexJ _ c0 l0 (r1, r2, r3) w) (n' := k) (Nat.lt_succ_self _) (lexJ_mk (l := 6) H (by (with_reducible repeat (first | apply Kd.R_alloc | apply Kd.R_drewN | apply Kd.R_drew)); exact HO.out) (by repeat (first | (with_reducible first | exact HB.out | apply below_alloc | apply pw_below_drewN | apply below_drew1) | exact HB.out)))
          ·
           rw [if_neg c83] at H
           have c83b := Bool.eq_false_iff.mpr c83
           have c83k := c83b
           clear c83
           go_wp2_with (first | (go_at_call 35; (with_reducible refine (impl_isKeyword.calls (strOfNums ((l0.take (p : Int).toNat).drop (st : Int).toNat)) _ ?sidek ?sidem).mono ?_); (case sidek => exact KS.out); (case sidem => exact MaxLenCell.below HM.out (by repeat (first | (with_reducible first | exact HB.out | apply below_alloc | apply pw_below_drewN | apply below_drew1) | exact HB.out)) HN.out); rintro e w' ⟨rfl, hb⟩; have n0_ := Aside0.mk (Kd.R_below (by (with_reducible repeat (first | apply Kd.R_alloc | apply Kd.R_drewN | apply Kd.R_drew)); exact HO.out) hb); have n1_ := Aside0.mk (below_step (by repeat (first | (with_reducible first | exact HB.out | apply below_alloc | apply pw_below_drewN | apply below_drew1) | exact HB.out)) hb); clear HO HB; have HO := n0_; have HB := n1_; clear n0_ n1_; clear hb))
           refine wp_goto ?_
           exact lexGoto (J := lexJ _ c0 l0 (r1, r2, r3) w) (n' := k) (Nat.lt_succ_self _) (lexJ_mk (l := 6) H (by (with_reducible repeat (first | apply Kd.R_alloc | apply Kd.R_drewN | apply Kd.R_drew)); exact HO.out) (by repeat (first | (with_reducible first | exact HB.out | apply below_alloc | apply pw_below_drewN | apply below_drew1) | exact HB.out)))
         ·
          rw [if_neg c82] at H
          exact absurd H (by simp)
        ·
         rw [if_neg c81] at H
         exact absurd H (by simp)
       ·
        rw [if_neg c80] at H
        exact absurd H (by simp)
   | 6 =>
    refine ⟨_, rfl, ?_⟩
    change impl_Lex.tk n l0 o p st kd cd = some (r1, r2, r3) at H
    cases n with
    | zero => exact absurd H (by simp [impl_Lex.tk])
    | succ k =>
     simp only [impl_Lex.tk] at H
     by_cases c84 : o.length < 5864062014805
     ·
      rw [if_pos c84] at H
      have c84b : decide (o.length < 5864062014805) = true := decide_eq_true c84
      have c84e := eq_true c84
      have LM := Aside0.mk c84
      clear c84
      go_wp2_with (first | ((with_reducible refine gate_builtin (b := .append) (xs := #[.tmp 192, .tmp 199]) rfl ?_); (try (refine gate_guard (by rfl) ?_; dsimp only)); at_builtin; refine Kd.R_append k38 (w0 := w) w.heap.size rfl (.tmp 192) (.tmp 199) 32 38 (.agg #[(.int .i64 0), (.int .i64 0), (.int .i64 0)]) 24 rfl Try.underlying32 info38 rfl (by decide) (by omega) v5 o (⟨kd, st, wrap64 (p - st)⟩ : S38) [.int .i64 kd, .int .i64 st, .int .i64 (wrap64 (p - st))] (fun _ => True) (fun _ => False) rfl rfl ?aP (fun _ hk => hk.elim) ?aF ?aO ?aB ?aS ?aL ?_; (case aP => exact k38_mkM _ _ _ (⟨kd, st, wrap64 (p - st)⟩ : S38)); (case aB => exact (by repeat (first | (with_reducible first | exact HB.out | apply below_alloc | apply pw_below_drewN | apply below_drew1) | exact HB.out))); (case aF => exact (fun _ _ => trivial)); (case aO => exact (by (with_reducible repeat (first | apply Kd.R_alloc | apply Kd.R_drewN | apply Kd.R_drew)); exact HO.out)); (case aS => exact (below_size (by repeat (first | (with_reducible first | exact HB.out | apply below_alloc | apply pw_below_drewN | apply below_drew1) | exact HB.out)))); (case aL => have := LM.out; omega); intro v186 w23 ho hb hg hat; have n0_ := Aside0.mk hb; have n1_ := Aside0.mk ho; clear HB HO; have HB := n0_; have HO := n1_; clear n0_ n1_; clear ho hb hg hat))
      refine wp_goto ?_
      exact lexGoto (J := lexJ _ c0 l0 (r1, r2, r3) w) (n' := k) (Nat.lt_succ_self _) (lexJ_mk (l := 0) H (by (with_reducible repeat (first | apply Kd.R_alloc | apply Kd.R_drewN | apply Kd.R_drew)); exact HO.out) (by repeat (first | (with_reducible first | exact HB.out | apply below_alloc | apply pw_below_drewN | apply below_drew1) | exact HB.out)))
     ·
      rw [if_neg c84] at H
      exact absurd H (by simp)
   | _ + 7 => exact absurd H (by simp [lexS])


end Go.Proofs.Ytchfdpmkgjblgaa.M
